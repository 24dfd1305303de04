/- Contracts of the reference for layer 9: With, Hull. -/
import Derived.Test.YtiebbklljckbdaaRBoxA
import Derived.Test.YtiebbklljckbdaaBoxB
import Derived.Test.YtiebbklljckbdaaTail
set_option linter.unusedVariables false
set_option linter.unusedSimpArgs false
namespace Go.Proofs.Ytiebbklljckbdaa
open Go.RowKit
namespace S
def setc (p : Pt) (k : Nat) (n : Int) : Pt := if k = 0 then ⟨n, p.y, p.z⟩ else if k = 1 then ⟨p.x, n, p.z⟩ else ⟨p.x, p.y, n⟩
def mn (a b : Int) : Int := if b < a then b else a
def mx (a b : Int) : Int := if a < b then b else a
def join1 (a b : Bx) (k : Nat) : Bx := ⟨setc a.lo k (mn (co a.lo k) (co b.lo k)), setc a.hi k (mx (co a.hi k) (co b.hi k))⟩
def joinK (a b : Bx) : Nat → Bx
  | 0 => a
  | k + 1 => join1 (joinK a b k) b k
end S
theorem joinK_3 (a b : Bx) : S.joinK a b 3 = S.join a b := by
  simp [S.joinK, S.join1, S.setc, S.co, S.join, S.mn, S.mx]
theorem with_any (p : Pt) (k : Nat) (n : Int) (hk : k < 3) (w : World) :
    Calls Try.prog 104 #[ptVal p, .int .i64 k, .int .i64 n] w fun e w' => e = .returned (ptVal (S.setc p k n)) ∧ Below w.heap.size w w' := by
  have : k = 0 ∨ k = 1 ∨ k = 2 := by omega
  unfold ptVal
  rcases this with rfl | rfl | rfl
  · go_enter Try.func104, Try.ntmps104
    go_wp2
    exact bodyPost_ret (v := ptVal ⟨n, p.y, p.z⟩) (by simp [results, Try.results104, go_sem, *]) rfl ⟨rfl, (by repeat (first | exact Below.refl _ _ | assumption | refine ba_alloc ?_ _ | refine ba_drew ?_ | refine ba_drewN ?_ _ | refine ba_via (by assumption) ?_ | (refine ba_set ?_ ?_ _; rotate_left; (first | omega | (simp; omega) | simp))))⟩
  · go_enter Try.func104, Try.ntmps104
    go_wp2
    exact bodyPost_ret (v := ptVal ⟨p.x, n, p.z⟩) (by simp [results, Try.results104, go_sem, *]) rfl ⟨rfl, (by repeat (first | exact Below.refl _ _ | assumption | refine ba_alloc ?_ _ | refine ba_drew ?_ | refine ba_drewN ?_ _ | refine ba_via (by assumption) ?_ | (refine ba_set ?_ ?_ _; rotate_left; (first | omega | (simp; omega) | simp))))⟩
  · go_enter Try.func104, Try.ntmps104
    go_wp2
    exact bodyPost_ret (v := ptVal ⟨p.x, p.y, n⟩) (by simp [results, Try.results104, go_sem, *]) rfl ⟨rfl, (by repeat (first | exact Below.refl _ _ | assumption | refine ba_alloc ?_ _ | refine ba_drew ?_ | refine ba_drewN ?_ _ | refine ba_via (by assumption) ?_ | (refine ba_set ?_ ?_ _; rotate_left; (first | omega | (simp; omega) | simp))))⟩
set_option maxRecDepth 100000 in
set_option maxHeartbeats 4000000 in
theorem rbhull_yes (A : Option Addr) (n c : Nat) (xs : List Bx) (x0 : Bx) (B : Nat) (w : World) (hn : xs.length = n) (hm : n ≤ 1000000) (hB : B ≤ w.heap.size) (hs : Cells w B A (xs.flatMap boxC)) (h0 : xs[0]? = some x0) :
    Calls Try.prog 85 #[.slice A n c] w fun e w' => e = .returned (boxV (S.hull x0 xs)) ∧ Below w.heap.size w w' := by
  have hn0 : 0 < n := by have := (List.getElem?_eq_some_iff.1 h0).1; omega
  have hni : (0 : Int) < (n : Int) := by omega
  have HN := Lib.hid hn
  have HS := Lib.hid hs
  have H0 := Lib.hid h0
  obtain ⟨b, o, rfl, hb, _⟩ := hs.at_ (by rw [flat_len boxC 6 boxC_len]; omega)
  obtain ⟨c0, c1, c2, c3, c4, c5⟩ := hs.boxes h0
  simp only [Nat.zero_mul, Nat.add_zero] at c0 c1 c2 c3 c4 c5
  have hbw : b < w.heap.size := by omega
  clear hn hs h0
  go_enter Try.func85, Try.ntmps85
  go_wp2
  have hW : Below w.heap.size w ((w.alloc (.cells #[.int .i64 0, .int .i64 0, .int .i64 0, .int .i64 0, .int .i64 0, .int .i64 0] 52)).alloc (.cells #[.int .i64 x0.lo.x, .int .i64 x0.lo.y, .int .i64 x0.lo.z, .int .i64 x0.hi.x, .int .i64 x0.hi.y, .int .i64 x0.hi.z] 52)) := (by repeat (first | exact Below.refl _ _ | assumption | refine ba_alloc ?_ _ | refine ba_drew ?_ | refine ba_drewN ?_ _ | refine ba_via (by assumption) ?_ | (refine ba_set ?_ ?_ _; rotate_left; (first | omega | (simp; omega) | simp))))
  have hK0 : Blk ((w.alloc (.cells #[.int .i64 0, .int .i64 0, .int .i64 0, .int .i64 0, .int .i64 0, .int .i64 0] 52)).alloc (.cells #[.int .i64 x0.lo.x, .int .i64 x0.lo.y, .int .i64 x0.lo.z, .int .i64 x0.hi.x, .int .i64 x0.hi.y, .int .i64 x0.hi.z] 52)) (w.heap.size + 1) 52 #[.int .i64 x0.lo.x, .int .i64 x0.lo.y, .int .i64 x0.lo.z, .int .i64 x0.hi.x, .int .i64 x0.hi.y, .int .i64 x0.hi.z] := by simpa using Blk.new (w.alloc (.cells #[.int .i64 0, .int .i64 0, .int .i64 0, .int .i64 0, .int .i64 0, .int .i64 0] 52)) 52 #[.int .i64 x0.lo.x, .int .i64 x0.lo.y, .int .i64 x0.lo.z, .int .i64 x0.hi.x, .int .i64 x0.hi.y, .int .i64 x0.hi.z]
  have hR0 : Blk ((w.alloc (.cells #[.int .i64 0, .int .i64 0, .int .i64 0, .int .i64 0, .int .i64 0, .int .i64 0] 52)).alloc (.cells #[.int .i64 x0.lo.x, .int .i64 x0.lo.y, .int .i64 x0.lo.z, .int .i64 x0.hi.x, .int .i64 x0.hi.y, .int .i64 x0.hi.z] 52)) w.heap.size 52 #[.int .i64 0, .int .i64 0, .int .i64 0, .int .i64 0, .int .i64 0, .int .i64 0] := (Blk.new w _ _).alloc _
  have hzW : ((w.alloc (.cells #[.int .i64 0, .int .i64 0, .int .i64 0, .int .i64 0, .int .i64 0, .int .i64 0] 52)).alloc (.cells #[.int .i64 x0.lo.x, .int .i64 x0.lo.y, .int .i64 x0.lo.z, .int .i64 x0.hi.x, .int .i64 x0.hi.y, .int .i64 x0.hi.z] 52)).heap.size = w.heap.size + 1 + 1 := by simp
  have hC1 := HS.out.below (hW.mono hB)
  have HR0 := Lib.hid hR0
  clear c0 c1 c2 c3 c4 c5 hR0
  generalize (w.alloc (.cells #[.int .i64 0, .int .i64 0, .int .i64 0, .int .i64 0, .int .i64 0, .int .i64 0] 52)).alloc (.cells #[.int .i64 x0.lo.x, .int .i64 x0.lo.y, .int .i64 x0.lo.z, .int .i64 x0.hi.x, .int .i64 x0.hi.y, .int .i64 x0.hi.z] 52) = W1 at *
  go_loopw [4] (fun i wr => ∃ k : Nat, 1 ≤ k ∧ k ≤ n ∧ i = .int .i64 k ∧ Blk wr (w.heap.size + 1) 52 #[.int .i64 (S.hull x0 (xs.take k)).lo.x, .int .i64 (S.hull x0 (xs.take k)).lo.y, .int .i64 (S.hull x0 (xs.take k)).lo.z, .int .i64 (S.hull x0 (xs.take k)).hi.x, .int .i64 (S.hull x0 (xs.take k)).hi.y, .int .i64 (S.hull x0 (xs.take k)).hi.z] ∧ Exc [w.heap.size + 1] W1 wr) (fun i _ => n - (intOf i).toNat)
  case atStart =>
    refine ⟨1, Nat.le_refl _, by omega, rfl, ?_, Exc.refl _ _⟩
    have e1 : S.hull x0 (xs.take 1) = x0 := by
      have hx : xs.take 1 = [x0] := by
        have h0 := H0.out
        cases xs with
        | nil => simp at h0
        | cons y l => simp at h0; simp [h0]
      rw [hx]; simp [S.hull, S.join]
    rw [e1]; exact hK0
  case round =>
    obtain ⟨k, hk1, hk, rfl, hK, hX⟩ := hrel
    by_cases hlt : k < n
    · have hkx : k < xs.length := by have := HN.out; omega
      have HT := Lib.hid (show S.hull x0 (xs.take (k + 1)) = S.joinK (S.hull x0 (xs.take k)) xs[k] 3 by rw [List.take_succ_eq_append_getElem hkx, hull_snoc, joinK_3])
      have HG := Lib.hid (List.getElem?_eq_getElem hkx)
      generalize S.hull x0 (xs.take k) = Hk at *
      generalize xs[k] = X at *
      have hki : (k : Int) < (n : Int) := by omega
      have hXo := hX
      go_wp2
      go_loopw [5] (fun i wr => ∃ m : Nat, m ≤ 3 ∧ i = .int .i64 m ∧ Blk wr (w.heap.size + 1) 52 #[.int .i64 (S.joinK Hk X m).lo.x, .int .i64 (S.joinK Hk X m).lo.y, .int .i64 (S.joinK Hk X m).lo.z, .int .i64 (S.joinK Hk X m).hi.x, .int .i64 (S.joinK Hk X m).hi.y, .int .i64 (S.joinK Hk X m).hi.z] ∧ Exc [w.heap.size + 1] W1 wr) (fun i _ => 3 - (intOf i).toNat)
      case atStart => exact ⟨0, by omega, rfl, hK, hXo⟩
      case round =>
        obtain ⟨m, hm3, rfl, hM, hY⟩ := hrel
        have HM := Lib.hid hM
        have hsz := hY.size
        by_cases hlm : m < 3
        · have hmi : (m : Int) < 3 := by omega
          have HJ := Lib.hid (show S.joinK Hk X (m + 1) = S.join1 (S.joinK Hk X m) X m from rfl)
          obtain ⟨c0, c1, c2, c3, c4, c5⟩ := (hC1.below (hY.below (by have := hW.size; omega) (by intro x hx; simp at hx; omega))).boxes HG.out
          have hbr : b < wr.heap.size := by omega
          generalize S.joinK Hk X m = O at *
          have hgr := hM.lt
          have k0 := hM.cell 0
          have k1 := hM.cell 1
          have k2 := hM.cell 2
          have k3 := hM.cell 3
          have k4 := hM.cell 4
          have k5 := hM.cell 5
          have fk0 := hM.frozen 0
          have fk1 := hM.frozen 1
          have fk2 := hM.frozen 2
          have fk3 := hM.frozen 3
          have fk4 := hM.frozen 4
          have fk5 := hM.frozen 5
          simp only [List.getElem?_toArray, List.getElem?_cons_zero, List.getElem?_cons_succ] at k0 k1 k2 k3 k4 k5
          have HCL := Lib.hid (fun w => coord_any O.lo m hlm w)
          have HCH := Lib.hid (fun w => coord_any O.hi m hlm w)
          have HXL := Lib.hid (fun w => coord_any X.lo m hlm w)
          have HXH := Lib.hid (fun w => coord_any X.hi m hlm w)
          have HWL := Lib.hid (fun n w => with_any O.lo m n hlm w)
          have HWH := Lib.hid (fun n w => with_any O.hi m n hlm w)
          unfold ptVal at HCL HCH HXL HXH HWL HWH
          go_wp2
          obtain ⟨P, hP⟩ : ∃ P, P = S.setc O.lo m (S.mn (S.co O.lo m) (S.co X.lo m)) := ⟨_, rfl⟩
          obtain ⟨Q, hQ⟩ : ∃ P, P = S.setc O.hi m (S.mx (S.co O.hi m) (S.co X.hi m)) := ⟨_, rfl⟩
          have HJ2 := Lib.hid (show S.join1 O X m = ⟨P, Q⟩ by rw [hP, hQ]; rfl)
          refine wp_region_grow_tail 17 (by kernel_rfl) (by kernel_rfl) ?_
          simp only [List.take_succ_cons, List.take_zero, List.drop_succ_cons, List.drop_zero]
          repeat (go_big_quiet_step ((first | (go_at_call 52; with_reducible exact grow_of (HCL.out _)) | (go_at_call 52; with_reducible exact grow_of (HXL.out _)) | (go_at_call 104; with_reducible exact grow_of (HWL.out _ _)))))
          all_goals (refine wpQuiet_nil ?_; intro wg hbwg; obtain ⟨hcwg, hfwg⟩ := bcell hbwg)
          go_wp2
          all_goals (
            first
              | (have e : S.setc O.lo m (S.co X.lo m) = P := (by rw [hP, S.mn, if_pos (by omega)])
                 rw [e])
              | (have e : S.setc O.lo m (S.co O.lo m) = P := (by rw [hP, S.mn, if_neg (by omega)])
                 rw [e])
            have hM1 : Blk (((wg.setCell ⟨w.heap.size + 1, 0, none⟩ (.int .i64 P.x)).setCell ⟨w.heap.size + 1, 1, none⟩ (.int .i64 P.y)).setCell ⟨w.heap.size + 1, 2, none⟩ (.int .i64 P.z)) (w.heap.size + 1) 52 #[.int .i64 P.x, .int .i64 P.y, .int .i64 P.z, .int .i64 O.hi.x, .int .i64 O.hi.y, .int .i64 O.hi.z] := by
              have h6 := (((HM.out.via hbwg).set 0 (.int .i64 P.x)).set 1 (.int .i64 P.y)).set 2 (.int .i64 P.z)
              simp only [List.setIfInBounds_toArray, List.set_cons_zero, List.set_cons_succ] at h6
              exact h6
            have hY1 : Exc [w.heap.size + 1] W1 (((wg.setCell ⟨w.heap.size + 1, 0, none⟩ (.int .i64 P.x)).setCell ⟨w.heap.size + 1, 1, none⟩ (.int .i64 P.y)).setCell ⟨w.heap.size + 1, 2, none⟩ (.int .i64 P.z)) := (((Exc.via hbwg hY).set (.inl (by simp)) _).set (.inl (by simp)) _).set (.inl (by simp)) _
            clear hcwg hfwg
            clear c0 c1 c2 c3 c4 c5 k0 k1 k2 k3 k4 k5 fk0 fk1 fk2 fk3 fk4 fk5 hgr hM hbr
            clear hbwg
            generalize (((wg.setCell ⟨w.heap.size + 1, 0, none⟩ (.int .i64 P.x)).setCell ⟨w.heap.size + 1, 1, none⟩ (.int .i64 P.y)).setCell ⟨w.heap.size + 1, 2, none⟩ (.int .i64 P.z)) = W2 at *
            obtain ⟨c0, c1, c2, c3, c4, c5⟩ := (hC1.below (hY1.below (by have := hW.size; omega) (by intro x hx; simp at hx; omega))).boxes HG.out
            have hsz1 := hY1.size
            have hbr : b < W2.heap.size := by omega
            have hgr := hM1.lt
            have k0 := hM1.cell 0
            have k1 := hM1.cell 1
            have k2 := hM1.cell 2
            have k3 := hM1.cell 3
            have k4 := hM1.cell 4
            have k5 := hM1.cell 5
            have fk0 := hM1.frozen 0
            have fk1 := hM1.frozen 1
            have fk2 := hM1.frozen 2
            have fk3 := hM1.frozen 3
            have fk4 := hM1.frozen 4
            have fk5 := hM1.frozen 5
            simp only [List.getElem?_toArray, List.getElem?_cons_zero, List.getElem?_cons_succ] at k0 k1 k2 k3 k4 k5
            have HM1 := Lib.hid hM1
            refine wp_region_grow_tail 17 (by kernel_rfl) (by kernel_rfl) ?_
            simp only [List.take_succ_cons, List.take_zero, List.drop_succ_cons, List.drop_zero]
            repeat (go_big_quiet_step ((first | (go_at_call 52; with_reducible exact grow_of (HCH.out _)) | (go_at_call 52; with_reducible exact grow_of (HXH.out _)) | (go_at_call 104; with_reducible exact grow_of (HWH.out _ _)))))
            all_goals (refine wpQuiet_nil ?_; intro wh hbwh; obtain ⟨hcwh, hfwh⟩ := bcell hbwh)
            go_wp2)
          all_goals (
            first
              | (have e : S.setc O.hi m (if S.co O.hi m < S.co X.hi m then S.co X.hi m else S.co O.hi m) = Q := hQ.symm
                 rw [e])
              | (have e : S.setc O.hi m (S.co X.hi m) = Q := (by rw [hQ, S.mx, if_pos (by omega)])
                 rw [e])
              | (have e : S.setc O.hi m (S.co O.hi m) = Q := (by rw [hQ, S.mx, if_neg (by omega)])
                 rw [e])
            have hM2 : Blk (((wh.setCell ⟨w.heap.size + 1, 3, none⟩ (.int .i64 Q.x)).setCell ⟨w.heap.size + 1, 4, none⟩ (.int .i64 Q.y)).setCell ⟨w.heap.size + 1, 5, none⟩ (.int .i64 Q.z)) (w.heap.size + 1) 52 #[.int .i64 P.x, .int .i64 P.y, .int .i64 P.z, .int .i64 Q.x, .int .i64 Q.y, .int .i64 Q.z] := by
              have h6 := (((HM1.out.via hbwh).set 3 (.int .i64 Q.x)).set 4 (.int .i64 Q.y)).set 5 (.int .i64 Q.z)
              simp only [List.setIfInBounds_toArray, List.set_cons_zero, List.set_cons_succ] at h6
              exact h6
            have hY2 : Exc [w.heap.size + 1] W1 (((wh.setCell ⟨w.heap.size + 1, 3, none⟩ (.int .i64 Q.x)).setCell ⟨w.heap.size + 1, 4, none⟩ (.int .i64 Q.y)).setCell ⟨w.heap.size + 1, 5, none⟩ (.int .i64 Q.z)) := (((Exc.via hbwh hY1).set (.inl (by simp)) _).set (.inl (by simp)) _).set (.inl (by simp)) _
            clear hcwh hfwh
            go_roundw
            case rel =>
              refine ⟨m + 1, by omega, by go_num, ?_, hY2⟩
              rw [HJ.out, HJ2.out]
              exact hM2
            case measure => simp [intOf]; omega)
        · have he : m = 3 := by omega
          subst he
          go_wp2
          go_roundw
          case rel =>
            refine ⟨k + 1, by omega, by omega, by go_num, ?_, hY⟩
            rw [HT.out]
            exact HM.out
          case measure => simp [intOf]; omega
    · have he : k = n := by omega
      subst he
      have ht : xs.take k = xs := List.take_of_length_le (by have := HN.out; omega)
      rw [ht] at hK
      have hsz := hX.size
      have hgr := hK.lt
      generalize hH : S.hull x0 xs = Hk at *
      have HH := Lib.hid hH
      clear hH
      have hRr := (hX.block w.heap.size (by omega) (by simp)).trans HR0.out
      have hRr : Blk wr w.heap.size 52 #[.int .i64 0, .int .i64 0, .int .i64 0, .int .i64 0, .int .i64 0, .int .i64 0] := hRr
      have k0 := hK.cell 0
      have f0 := hK.frozen 0
      have z0 := hRr.cell 0
      have y0 := hRr.frozen 0
      have k1 := hK.cell 1
      have f1 := hK.frozen 1
      have z1 := hRr.cell 1
      have y1 := hRr.frozen 1
      have k2 := hK.cell 2
      have f2 := hK.frozen 2
      have z2 := hRr.cell 2
      have y2 := hRr.frozen 2
      have k3 := hK.cell 3
      have f3 := hK.frozen 3
      have z3 := hRr.cell 3
      have y3 := hRr.frozen 3
      have k4 := hK.cell 4
      have f4 := hK.frozen 4
      have z4 := hRr.cell 4
      have y4 := hRr.frozen 4
      have k5 := hK.cell 5
      have f5 := hK.frozen 5
      have z5 := hRr.cell 5
      have y5 := hRr.frozen 5
      simp only [List.getElem?_toArray, List.getElem?_cons_zero, List.getElem?_cons_succ] at z0 z1 z2 z3 z4 z5 k0 k1 k2 k3 k4 k5
      have hrl := hRr.lt
      have hbel : Below w.heap.size w wr := hW.trans (hX.below (by omega) (by intro x hx; simp at hx; omega))
      clear hRr
      go_wp2
      exact bodyPost_ret (v := boxV Hk) (by simp [results, Try.results85, go_sem, *]) rfl ⟨by rw [HH.out], ((((((hbel.setCell (Nat.le_refl _) _).setCell (Nat.le_refl _) _).setCell (Nat.le_refl _) _).setCell (Nat.le_refl _) _).setCell (Nat.le_refl _) _).setCell (Nat.le_refl _) _)⟩
end Go.Proofs.Ytiebbklljckbdaa
