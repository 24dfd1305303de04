/- Contracts: shape.Box; Path and Hull of the reference. -/
import Derived.Test.YtpjdepnbeendcaaBoxB
set_option linter.unusedVariables false
set_option linter.unusedSimpArgs false
namespace Go.Proofs.Ytpjdepnbeendcaa
open Go.RowKit
/-- Coordinates lie within the legs that are walked. -/
theorem ptAt_sum (b : Bar) (h : S.bar b = true) : ∀ k, k ≤ (S.legsOf b.code).length → Within (S.ptAt b k) (S.sum ((S.legLens b).take k)) := by
  intro k
  induction k with
  | zero => intro _; simp [Within, S.ptAt, S.sum]
  | succ k ih =>
    intro hk
    have ih := ih (by omega)
    obtain ⟨P, n, _, g2, g3, g4, _, ga, ga1, ga2, ga3, gp⟩ := move_at b h (k := k) (by omega)
    rw [gp, sum_take_snoc g2]
    have ax : -S.abs P.x ≤ P.x ∧ P.x ≤ S.abs P.x := by unfold S.abs; split <;> omega
    have ay : -S.abs P.y ≤ P.y ∧ P.y ≤ S.abs P.y := by unfold S.abs; split <;> omega
    have az : -S.abs P.z ≤ P.z ∧ P.z ≤ S.abs P.z := by unfold S.abs; split <;> omega
    unfold Within at ih ⊢
    simp only []
    omega
theorem ptAt_in (b : Bar) (h : S.bar b = true) (k : Nat) (hk : k ≤ (S.legsOf b.code).length) : Within (S.ptAt b k) 524288 := by
  have h1 := ptAt_sum b h k hk
  have h2 := sum_take_le (lens_pos h) k
  have h3 := (legs_sum h).1
  unfold Within at h1 ⊢
  omega
def S.ptBox (p : Pt) : Bx := ⟨p, p⟩
def S.ptBoxes (b : Bar) : List Bx := (S.path b).map S.ptBox
def S.box (b : Bar) : Bx := S.hull (S.ptBox ⟨0, 0, 0⟩) (S.ptBoxes b)
theorem ptBoxes_len (b : Bar) : (S.ptBoxes b).length = (S.legsOf b.code).length + 1 := by simp [S.ptBoxes, path_length]
theorem ptBoxes_get (b : Bar) {k : Nat} (hk : k ≤ (S.legsOf b.code).length) : (S.ptBoxes b)[k]? = some (S.ptBox (S.ptAt b k)) := by simp [S.ptBoxes, path_get b hk]
theorem ptBoxes_ok (b : Bar) (h : S.bar b = true) : anyb (S.ptBoxes b) S.boxNot = false := by
  unfold anyb
  rw [List.any_eq_false]
  intro x hx
  obtain ⟨k, hk, rfl⟩ := List.mem_iff_getElem.1 hx
  have hk' : k ≤ (S.legsOf b.code).length := by have := ptBoxes_len b; omega
  have e := ptBoxes_get b hk'
  rw [List.getElem?_eq_getElem hk] at e
  injection e with e
  rw [e]
  have hw := ptAt_in b h k hk'
  unfold Within at hw
  have : S.boxOk (S.ptBox (S.ptAt b k)) = true := by
    have f : ∀ x : Int, -524288 ≤ x ∧ x ≤ 524288 → S.okAx x x = true := fun x hx => by
      simp only [S.okAx, Bool.and_eq_true, decide_eq_true_eq]
      omega
    simp only [S.boxOk, S.ptBox, f _ ⟨hw.1, hw.2.1⟩, f _ ⟨hw.2.2.1, hw.2.2.2.1⟩, f _ ⟨hw.2.2.2.2.1, hw.2.2.2.2.2⟩, Bool.and_self]
  simp [S.boxNot, this]
theorem sbox_no (b : Bar) (A : Option Addr) (n c : Nat) (B : Nat) (w : World) (hB : B ≤ w.heap.size) (hA : BarAt w B A n b) (h : S.bar b = false) :
    Calls Try.prog 52 #[barV b A n c] w fun e w' => e = .returned (.tuple #[boxV ⟨⟨0, 0, 0⟩, ⟨0, 0, 0⟩⟩, .int .i64 1]) ∧ Below w.heap.size w w' := by
  have HA := Lib.hid hA
  clear hA
  unfold barV
  go_enter Try.func52, Try.ntmps52
  go_wp2_with (go_at_call 20; (with_reducible refine (path_no b A n c B _ (by simp; omega) (BarAt.at_ HA.out hB (by repeat (first | exact Below.refl _ _ | assumption | refine ba_alloc ?_ _ | refine ba_drew ?_ | refine ba_drewN ?_ _ | refine ba_via (by assumption) ?_ | (refine ba_set ?_ ?_ _; rotate_left; (first | omega | (simp; omega) | simp))))) h).mono ?_); rintro e w1 ⟨Aw1, cw1, rfl, how1, hbw1⟩; obtain ⟨hcw1, hfw1⟩ := bcell hbw1; have hzw1_0 : w.heap.size < w1.heap.size := lt_via hbw1 (by first | omega | (simp; done) | (simp; omega)); have hzw1_1 : w.heap.size + 1 < w1.heap.size := lt_via hbw1 (by first | omega | (simp; done) | (simp; omega)))
  have hbel3 : Below w.heap.size w w1 := (by repeat (first | exact Below.refl _ _ | assumption | refine ba_alloc ?_ _ | refine ba_drew ?_ | refine ba_drewN ?_ _ | refine ba_via (by assumption) ?_ | (refine ba_set ?_ ?_ _; rotate_left; (first | omega | (simp; omega) | simp))))
  exact bodyPost_ret (v := .tuple #[boxV ⟨⟨0, 0, 0⟩, ⟨0, 0, 0⟩⟩, .int .i64 1]) (by simp [results, Try.results52, go_sem, *]) rfl ⟨rfl, ((((((hbel3.setCell (Nat.le_succ _) _).setCell (Nat.le_succ _) _).setCell (Nat.le_succ _) _).setCell (Nat.le_succ _) _).setCell (Nat.le_succ _) _).setCell (Nat.le_succ _) _)⟩
set_option maxRecDepth 100000 in
set_option maxHeartbeats 2000000 in
theorem sbox_yes (b : Bar) (A : Option Addr) (n c : Nat) (B : Nat) (w : World) (hB : B ≤ w.heap.size) (hA : BarAt w B A n b) (h : S.bar b = true) :
    Calls Try.prog 52 #[barV b A n c] w fun e w' => e = .returned (.tuple #[boxV (S.box b), .int .i64 0]) ∧ Below w.heap.size w w' := by
  have HA := Lib.hid hA
  have hl6 := legs_len b.code
  have HBL := Lib.hid (ptBoxes_len b)
  have HPG := Lib.hid (fun k hk => path_get b (k := k) hk)
  have HBG := Lib.hid (fun k hk => ptBoxes_get b (k := k) hk)
  have HOK := Lib.hid (ptBoxes_ok b h)
  have HBX := Lib.hid (show S.hull (S.ptBox ⟨0, 0, 0⟩) (S.ptBoxes b) = S.box b from rfl)
  have H0 := Lib.hid (show (S.ptBoxes b)[0]? = some (S.ptBox ⟨0, 0, 0⟩) from ptBoxes_get b (Nat.zero_le _))
  clear hA
  generalize hL : (S.legsOf b.code).length = L at *
  have HL := Lib.hid hL
  clear hL
  unfold barV
  go_enter Try.func52, Try.ntmps52
  go_wp2_with ((go_at_call 20; (with_reducible refine (path_yesL b A n c B _ L HL.out (by simp; omega) (BarAt.at_ HA.out hB (by repeat (first | exact Below.refl _ _ | assumption | refine ba_alloc ?_ _ | refine ba_drew ?_ | refine ba_drewN ?_ _ | refine ba_via (by assumption) ?_ | (refine ba_set ?_ ?_ _; rotate_left; (first | omega | (simp; omega) | simp))))) h).mono ?_); rintro e w1 ⟨Aw1, cw1, rfl, how1, hbw1⟩; obtain ⟨hcw1, hfw1⟩ := bcell hbw1; have hzw1_0 : w.heap.size < w1.heap.size := lt_via hbw1 (by first | omega | (simp; done) | (simp; omega)); have hzw1_1 : w.heap.size + 1 < w1.heap.size := lt_via hbw1 (by first | omega | (simp; done) | (simp; omega)))
               obtain ⟨hs1, _, _⟩ := own_cells how1
               obtain ⟨b1, o1, rfl, hb1, _⟩ := hs1.at_ (by rw [flat_len ptC 3 ptC_len, path_length]; omega))
  have hbw : Below w.heap.size w w1 := (by repeat (first | exact Below.refl _ _ | assumption | refine ba_alloc ?_ _ | refine ba_drew ?_ | refine ba_drewN ?_ _ | refine ba_via (by assumption) ?_ | (refine ba_set ?_ ?_ _; rotate_left; (first | omega | (simp; omega) | simp))))
  have hR0 : Blk w1 (w.heap.size + 1) 62 #[.int .i64 0, .int .i64 0, .int .i64 0, .int .i64 0, .int .i64 0, .int .i64 0] := Blk.via (by simpa using Blk.new (w.alloc (.cells #[.string b.mark, .int .i64 b.size, .int .i64 b.count, .int .i64 b.code, .slice A n c] 24)) 62 #[.int .i64 0, .int .i64 0, .int .i64 0, .int .i64 0, .int .i64 0, .int .i64 0]) hbw1
  clear how1 hcw1 hfw1
  go_loopw [6, 20] (fun v i wr => ∃ (k : Nat) (A3 : Option Addr) (c3 : Nat), k ≤ L + 1 ∧ i = .int .i64 k ∧ v = .slice A3 k c3 ∧ Row w1 wr none w.heap.size 62 6 (.slice A3 k c3) k (((S.ptBoxes b).take k).flatMap boxC) ∧ Exc [] w1 wr) (fun _ i _ => (L + 1) - (intOf i).toNat)
  case atStart => exact ⟨0, none, 0, Nat.zero_le _, rfl, rfl, Row.none_ _ _ _ _, Exc.refl _ _⟩
  case round =>
    obtain ⟨k, A3, c3, hk, rfl, rfl, hR, hX⟩ := hrel
    have hbx : Below w1.heap.size w1 wr := hX.below (Nat.le_refl _) (by simp)
    have hsz := hbx.size
    by_cases hlt : k < L + 1
    · obtain ⟨c0, c1, c2⟩ := (hs1.below hbx).pts (HPG.out k (by omega))
      have hbr : b1 < wr.heap.size := by omega
      have hki : (k : Int) < ((L + 1 : Nat) : Int) := by omega
      have HT := Lib.hid (show ((S.ptBoxes b).take (k + 1)).flatMap boxC = ((S.ptBoxes b).take k).flatMap boxC ++ boxC (S.ptBox (S.ptAt b k)) by
        obtain ⟨hk', e⟩ := List.getElem?_eq_some_iff.1 (HBG.out k (by omega))
        rw [List.take_succ_eq_append_getElem hk', e]; simp)
      generalize S.ptAt b k = p at *
      go_wp2_with (at_builtin; refine wpList_push rfl (.tmp 24) (.tmp 28) _ rfl elemBx ((hR.alloc _).alloc _) ((hX.alloc _).alloc _) (by simp) hbw.size rfl (wr.heap.size + 1) 1 1 [.int .i64 p.x, .int .i64 p.y, .int .i64 p.z, .int .i64 p.x, .int .i64 p.y, .int .i64 p.z] rfl rfl ?_ (by simp [Value.oneCell']) (by unfold maxLen; omega) (by omega) ?_; (· intro j u hu; have := (Cells.newRow (wr.alloc (.cells #[.int .i64 p.x, .int .i64 p.y, .int .i64 p.z] 34)) #[.int .i64 p.x, .int .i64 p.y, .int .i64 p.z, .int .i64 p.x, .int .i64 p.y, .int .i64 p.z] 62 (0, 0)).get (k := j) (v := u) hu; simpa using this); intro v' w' hR' hX' hO')
      obtain ⟨A5, c5, rfl, _, _, _⟩ := own_form hR'.own
      go_roundw
      case rel => exact ⟨k + 1, A5, c5, by omega, by go_num, rfl, by rw [HT.out]; exact hR', hX'⟩
      case measure => simp [intOf]; omega
    · have he : k = L + 1 := by omega
      subst he
      have ht : (S.ptBoxes b).take (L + 1) = S.ptBoxes b := List.take_of_length_le (by have := HBL.out; omega)
      rw [ht] at hR
      obtain ⟨hsb, _, _⟩ := own_cells hR.own
      have hRr : Blk wr (w.heap.size + 1) 62 #[.int .i64 0, .int .i64 0, .int .i64 0, .int .i64 0, .int .i64 0, .int .i64 0] := hR0.via hbx
      have hbel := ba_via hbx hbw
      clear hR hX
      go_wp2_with (go_at_call 75; (with_reducible refine (bhull_yes A3 (L + 1) c3 (S.ptBoxes b) (S.ptBox ⟨0, 0, 0⟩) wr.heap.size _ HBL.out (by omega) (Nat.le_refl _) hsb H0.out HOK.out).mono ?_); rintro e w3 ⟨rfl, hbw3⟩
                   have hRs := hRr.via hbw3
                   have z0 := hRs.cell 0
                   have z1 := hRs.cell 1
                   have z2 := hRs.cell 2
                   have z3 := hRs.cell 3
                   have z4 := hRs.cell 4
                   have z5 := hRs.cell 5
                   have y0 := hRs.frozen 0
                   have y1 := hRs.frozen 1
                   have y2 := hRs.frozen 2
                   have y3 := hRs.frozen 3
                   have y4 := hRs.frozen 4
                   have y5 := hRs.frozen 5
                   simp only [List.getElem?_toArray, List.getElem?_cons_zero, List.getElem?_cons_succ] at z0 z1 z2 z3 z4 z5
                   have hrl := hRs.lt
                   have hbel3 := ba_via hbw3 hbel
                   generalize hH : S.hull (S.ptBox ⟨0, 0, 0⟩) (S.ptBoxes b) = Hk at *
                   have HH := Lib.hid hH
                   clear hH hRs)
      exact bodyPost_ret (v := .tuple #[boxV Hk, .int .i64 0]) (by simp [results, Try.results52, go_sem, *]) rfl ⟨by rw [← HBX.out], ((((((hbel3.setCell (Nat.le_succ _) _).setCell (Nat.le_succ _) _).setCell (Nat.le_succ _) _).setCell (Nat.le_succ _) _).setCell (Nat.le_succ _) _).setCell (Nat.le_succ _) _)⟩
set_option maxRecDepth 100000 in
set_option maxHeartbeats 2000000 in
theorem rpath_yes (b : Bar) (A : Option Addr) (n c : Nat) (B : Nat) (w : World) (hB : B ≤ w.heap.size) (hA : BarAt w B A n b) (h : S.bar b = true) (L : Nat) (hL : (S.legsOf b.code).length = L) :
    Calls Try.prog 54 #[barV b A n c] w fun e w' => ∃ A' c', e = .returned (.slice A' (L + 1) c') ∧ w'.ownsRow w.heap.size 34 3 (.slice A' (L + 1) c') (L + 1) ((S.path b).flatMap ptC) ∧ Below w.heap.size w w' := by
  have HA := Lib.hid hA
  have hl6 := legs_len b.code
  have HM := Lib.hid (show ∀ k, k < (S.legsOf b.code).length → _ from fun k hk => move_at b h hk)
  have HPI := Lib.hid (fun k hk => ptAt_in b h k hk)
  have HML := Lib.hid (moves_len b)
  have HSN := Lib.hid (fun m => pathTo_snoc b m)
  have HPA := Lib.hid (show S.path b = S.pathTo b ((S.legsOf b.code).length + 1) from rfl)
  have HL := Lib.hid hL
  rw [hL] at hl6
  clear hA hL
  unfold barV
  go_enter Try.func54, Try.ntmps54
  go_wp2_with (go_at_call 76; (with_reducible refine (rmoves_any b A n c B _ (by simp; omega) (BarAt.at_ HA.out hB (by repeat (first | exact Below.refl _ _ | assumption | refine ba_alloc ?_ _ | refine ba_drew ?_ | refine ba_drewN ?_ _ | refine ba_via (by assumption) ?_ | (refine ba_set ?_ ?_ _; rotate_left; (first | omega | (simp; omega) | simp))))) h).mono ?_); rintro e w2 ⟨A2, rfl, hs, hb2, hz2'⟩; obtain ⟨hcw2, hfw2⟩ := bcell hb2; have hz2 : w.heap.size < w2.heap.size := lt_via hb2 (by simp); have hlen : (S.moves b).length = L := HML.out.trans HL.out; simp only [hlen])
  have hbw2 : Below w.heap.size w w2 := (by repeat (first | exact Below.refl _ _ | assumption | refine ba_alloc ?_ _ | refine ba_drew ?_ | refine ba_drewN ?_ _ | refine ba_via (by assumption) ?_ | (refine ba_set ?_ ?_ _; rotate_left; (first | omega | (simp; omega) | simp))))
  have hbw : Below w.heap.size w ((w2.alloc (.cells #[.int .i64 0, .int .i64 0, .int .i64 0] 34)).alloc (.cells #[.int .i64 0, .int .i64 0, .int .i64 0] 34)) := (by repeat (first | exact Below.refl _ _ | assumption | refine ba_alloc ?_ _ | refine ba_drew ?_ | refine ba_drewN ?_ _ | refine ba_via (by assumption) ?_ | (refine ba_set ?_ ?_ _; rotate_left; (first | omega | (simp; omega) | simp))))
  have hK0 : Blk ((w2.alloc (.cells #[.int .i64 0, .int .i64 0, .int .i64 0] 34)).alloc (.cells #[.int .i64 0, .int .i64 0, .int .i64 0] 34)) w2.heap.size 34 #[.int .i64 0, .int .i64 0, .int .i64 0] := (Blk.new _ _ _).alloc _
  have hsM := (hs.alloc (Nat.le_refl _) (.cells #[.int .i64 0, .int .i64 0, .int .i64 0] 34)).alloc (by simp) (.cells #[.int .i64 0, .int .i64 0, .int .i64 0] 34)
  have hrow : Row ((w2.alloc (.cells #[.int .i64 0, .int .i64 0, .int .i64 0] 34)).alloc (.cells #[.int .i64 0, .int .i64 0, .int .i64 0] 34)) ((w2.alloc (.cells #[.int .i64 0, .int .i64 0, .int .i64 0] 34)).alloc (.cells #[.int .i64 0, .int .i64 0, .int .i64 0] 34)) (some (w2.heap.size + 1)) w.heap.size 34 3 (.slice (some ⟨w2.heap.size + 1, 0, none⟩) 1 1) 1 ((S.pathTo b 1).flatMap ptC) := by
    refine ⟨?_, fun k hk => .inl (by simpa [Value.ownBlock] using hk.symm)⟩
    have h1 := World.ownsRow_lit (base := w.heap.size) (e := 34) (size := 3) (w2.alloc (.cells #[.int .i64 0, .int .i64 0, .int .i64 0] 34)) #[.int .i64 0, .int .i64 0, .int .i64 0] 1 (by simp; omega) (by unfold maxLen; omega) rfl
    simpa [S.pathTo, S.ptAt, List.range_succ] using h1
  have hzW : ((w2.alloc (.cells #[.int .i64 0, .int .i64 0, .int .i64 0] 34)).alloc (.cells #[.int .i64 0, .int .i64 0, .int .i64 0] 34)).heap.size = w2.heap.size + 2 := by simp
  clear hcw2 hfw2 hb2
  generalize (w2.alloc (.cells #[.int .i64 0, .int .i64 0, .int .i64 0] 34)).alloc (.cells #[.int .i64 0, .int .i64 0, .int .i64 0] 34) = W0 at *
  go_loopw [5, 6] (fun v i wr => ∃ (k : Nat) (A3 : Option Addr) (c3 : Nat), k ≤ L ∧ i = .int .i64 k ∧ v = .slice A3 (k + 1) c3 ∧ Row W0 wr (some (w2.heap.size + 1)) w.heap.size 34 3 (.slice A3 (k + 1) c3) (k + 1) ((S.pathTo b (k + 1)).flatMap ptC) ∧ Exc [w2.heap.size, w2.heap.size + 1] W0 wr ∧ Blk wr w2.heap.size 34 #[.int .i64 (S.ptAt b k).x, .int .i64 (S.ptAt b k).y, .int .i64 (S.ptAt b k).z]) (fun _ i _ => L - (intOf i).toNat)
  case atStart => exact ⟨0, _, 1, Nat.zero_le _, rfl, rfl, hrow, Exc.refl _ _, hK0⟩
  case round =>
    obtain ⟨k, A3, c3, hk, rfl, rfl, hR, hX, hK⟩ := hrel
    clear hrow hK0
    have hsz := hX.size
    by_cases hlt : k < L
    · have hs' := hsM.below (hX.below (B := w2.heap.size) (by omega) (by intro j hj; simp at hj; omega))
      obtain ⟨b4, o4, rfl, hbl, _⟩ := hs'.at_ (by rw [flat_len ptC 3 ptC_len]; omega)
      obtain ⟨P, q, g1, g2, g3, g4, gw, _, _, _, _, gp⟩ := HM.out k (by have := HL.out; omega)
      obtain ⟨c1, c2, c3'⟩ := hs'.pts g1
      have hin := HPI.out k (by have := HL.out; omega)
      unfold Within at gw hin
      have k0 := hK.cell 0
      have k1 := hK.cell 1
      have k2 := hK.cell 2
      have kf0 := hK.frozen 0
      have kf1 := hK.frozen 1
      have kf2 := hK.frozen 2
      simp only [List.getElem?_toArray, List.getElem?_cons_zero, List.getElem?_cons_succ] at k0 k1 k2
      have hown : ∀ j, Value.ownBlock (.slice A3 (k + 1) c3) = some j → j ≠ w2.heap.size := fun j hj' => by
        rcases hR.place j hj' with h1 | h1
        · injection h1 with h1; omega
        · omega
      have HOWN := Lib.hid hown
      have HST := Lib.hid gp
      have HS1 := Lib.hid (HSN.out (k + 1))
      have hkl : (k : Int) < (L : Int) := by omega
      have hb4r : b4 < wr.heap.size := by omega
      have hg2 : w2.heap.size < wr.heap.size := hK.lt
      clear gp hown g1 g2
      generalize S.ptAt b k = p at *
      have e1 : IntKind.i64.wrap (p.x + P.x) = p.x + P.x := IntWalk.i64_in _ (by omega)
      have e2 : IntKind.i64.wrap (p.y + P.y) = p.y + P.y := IntWalk.i64_in _ (by omega)
      have e3 : IntKind.i64.wrap (p.z + P.z) = p.z + P.z := IntWalk.i64_in _ (by omega)
      go_wp2
      refine wp_region_grow_tail 25 (by kernel_rfl) (by kernel_rfl) ?_
      simp only [List.take_succ_cons, List.take_zero, List.drop_succ_cons, List.drop_zero]
      repeat (go_big_quiet_step (fail))
      all_goals (refine wpQuiet_nil ?_; intro wg hbwg; obtain ⟨hcwg, hfwg⟩ := bcell hbwg)
      have hK2 : Blk ((((wg.setCell ⟨w2.heap.size, 0, none⟩ (.int .i64 (p.x + P.x))).setCell ⟨w2.heap.size, 1, none⟩ (.int .i64 (p.y + P.y))).setCell ⟨w2.heap.size, 2, none⟩ (.int .i64 (p.z + P.z))).alloc (.cells #[.int .i64 (p.x + P.x), .int .i64 (p.y + P.y), .int .i64 (p.z + P.z)] 34)) w2.heap.size 34 #[.int .i64 (p.x + P.x), .int .i64 (p.y + P.y), .int .i64 (p.z + P.z)] := by
        have h6 := (((((hK.via hbwg).set 0 (.int .i64 (p.x + P.x))).set 1 (.int .i64 (p.y + P.y))).set 2 (.int .i64 (p.z + P.z))).alloc (.cells #[.int .i64 (p.x + P.x), .int .i64 (p.y + P.y), .int .i64 (p.z + P.z)] 34))
        simp only [List.setIfInBounds_toArray, List.set_cons_zero, List.set_cons_succ] at h6
        exact h6
      have hg3 : w2.heap.size < wg.heap.size := lt_via hbwg hg2
      go_wp2_with (at_builtin; refine wpList_push rfl (.tmp 43) (.tmp 45) _ rfl elemPt (((((hR.via hbwg).set (p := ⟨w2.heap.size, 0, none⟩) HOWN.out _).set (p := ⟨w2.heap.size, 1, none⟩) HOWN.out _).set (p := ⟨w2.heap.size, 2, none⟩) HOWN.out _).alloc _) (((((Exc.via hbwg hX).set (p := ⟨w2.heap.size, 0, none⟩) (.inl (by simp)) _).set (p := ⟨w2.heap.size, 1, none⟩) (.inl (by simp)) _).set (p := ⟨w2.heap.size, 2, none⟩) (.inl (by simp)) _).alloc _) (by simp) hbw.size rfl wg.heap.size 1 1 [.int .i64 (p.x + P.x), .int .i64 (p.y + P.y), .int .i64 (p.z + P.z)] rfl rfl ?_ (by simp [Value.oneCell']) (by unfold maxLen; omega) (by omega) ?_; (· intro j u hu; have := (Cells.newRow (((wg.setCell ⟨w2.heap.size, 0, none⟩ (.int .i64 (p.x + P.x))).setCell ⟨w2.heap.size, 1, none⟩ (.int .i64 (p.y + P.y))).setCell ⟨w2.heap.size, 2, none⟩ (.int .i64 (p.z + P.z))) #[.int .i64 (p.x + P.x), .int .i64 (p.y + P.y), .int .i64 (p.z + P.z)] 34 (0, 0)).get (k := j) (v := u) hu; simpa using this); intro v' w' hR' hX' hO')
      obtain ⟨A5, c5, rfl, _, _, _⟩ := own_form hR'.own
      go_roundw
      case rel => exact ⟨k + 1, A5, c5, by omega, by go_num, rfl, by rw [HS1.out, HST.out, List.flatMap_append]; exact hR', hX', by rw [HST.out]; exact (hO' _ hK2.lt (fun h => HOWN.out _ h rfl)).trans hK2⟩
      case measure => simp [intOf]; omega
    · have he : k = L := by omega
      have HE := Lib.hid he
      clear he
      go_wp2
      go_ret
      refine ⟨A3, c3, by rw [HE.out]; rfl, ?_, ?_⟩
      · have := hR.own
        rw [HPA.out, HL.out]
        rwa [HE.out] at this
      · exact hbw.trans (hX.below (by have := hbw2.size; omega) (by intro j hj; simp at hj; have := hbw2.size; omega))
end Go.Proofs.Ytpjdepnbeendcaa
