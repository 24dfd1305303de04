/- Lemmas. -/
import Derived.Test.YtmfpbafpnoomeaaGreatMAB
set_option linter.unusedVariables false
set_option linter.unusedSimpArgs false
namespace Go.Proofs.YtmfpbafpnoomeaaGreat
open Go.RowKit
namespace S
def join1 (a b : Bx) (k : Nat) : Bx := ⟨setc a.lo k (mn (co a.lo k) (co b.lo k)), setc a.hi k (mx (co a.hi k) (co b.hi k))⟩
def joinK (a b : Bx) : Nat -> Bx
 | 0 => a
 | k + 1 => join1 (joinK a b k) b k
end S
theorem joinK_3 (a b : Bx) : S.joinK a b 3 = S.join a b := by
 simp [S.joinK, S.join1, S.setc, S.co, S.join, S.mn, S.mx]
set_option maxRecDepth 100000 in
set_option maxHeartbeats 4000000 in
theorem rbhull_yes (A : Option Addr) (n c : Nat) (xs : List Bx) (x0 : Bx) (B : Nat) (w : World) (hn : xs.length = n) (hm : n <= 1000000) (hB : B <= w.heap.size) (hs : Cells w B A (xs.flatMap boxC)) (h0 : xs[0]? = some x0) :
 Calls Tryz.prog 264 #[.slice A n c] w fun e w' => e = .returned (boxV (S.hull x0 xs)) /\ Below w.heap.size w w' := by
 have hn0 : 0 < n := by have := (List.getElem?_eq_some_iff.1 h0).1; omega
 have hni : (0 : Int) < (n : Int) := by omega
 have HN := lh hn
 have HS := lh hs
 have H0 := lh h0
 obtain ⟨b, o, rfl, hb, _⟩ := hs.at_ (by rw [flat_len boxC 6 boxC_len]; omega)
 obtain ⟨c0, c1, c2, c3, c4, c5⟩ := hs.boxes h0
 simp only [Nat.zero_mul, Nat.add_zero] at c0 c1 c2 c3 c4 c5
 have hbw : b < w.heap.size := by omega
 clear hn hs h0
 go_enter Tryz.func264, Tryz.ntmps264
 go_wp2
 have hW : Below w.heap.size w ((w.alloc (.cells #[.int .i64 0, .int .i64 0, .int .i64 0, .int .i64 0, .int .i64 0, .int .i64 0] 78)).alloc (.cells #[.int .i64 x0.lo.x, .int .i64 x0.lo.y, .int .i64 x0.lo.z, .int .i64 x0.hi.x, .int .i64 x0.hi.y, .int .i64 x0.hi.z] 78)) := bel
 have hK0 : Blk ((w.alloc (.cells #[.int .i64 0, .int .i64 0, .int .i64 0, .int .i64 0, .int .i64 0, .int .i64 0] 78)).alloc (.cells #[.int .i64 x0.lo.x, .int .i64 x0.lo.y, .int .i64 x0.lo.z, .int .i64 x0.hi.x, .int .i64 x0.hi.y, .int .i64 x0.hi.z] 78)) (w.heap.size + 1) 78 #[.int .i64 x0.lo.x, .int .i64 x0.lo.y, .int .i64 x0.lo.z, .int .i64 x0.hi.x, .int .i64 x0.hi.y, .int .i64 x0.hi.z] := by simpa using Blk.new (w.alloc (.cells #[.int .i64 0, .int .i64 0, .int .i64 0, .int .i64 0, .int .i64 0, .int .i64 0] 78)) 78 #[.int .i64 x0.lo.x, .int .i64 x0.lo.y, .int .i64 x0.lo.z, .int .i64 x0.hi.x, .int .i64 x0.hi.y, .int .i64 x0.hi.z]
 have hR0 : Blk ((w.alloc (.cells #[.int .i64 0, .int .i64 0, .int .i64 0, .int .i64 0, .int .i64 0, .int .i64 0] 78)).alloc (.cells #[.int .i64 x0.lo.x, .int .i64 x0.lo.y, .int .i64 x0.lo.z, .int .i64 x0.hi.x, .int .i64 x0.hi.y, .int .i64 x0.hi.z] 78)) w.heap.size 78 #[.int .i64 0, .int .i64 0, .int .i64 0, .int .i64 0, .int .i64 0, .int .i64 0] := (Blk.new w _ _).alloc _
 have hzW : ((w.alloc (.cells #[.int .i64 0, .int .i64 0, .int .i64 0, .int .i64 0, .int .i64 0, .int .i64 0] 78)).alloc (.cells #[.int .i64 x0.lo.x, .int .i64 x0.lo.y, .int .i64 x0.lo.z, .int .i64 x0.hi.x, .int .i64 x0.hi.y, .int .i64 x0.hi.z] 78)).heap.size = w.heap.size + 1 + 1 := by simp
 have hC1 := HS.out.below (hW.mono hB)
 have HR0 := lh hR0
 clear c0 c1 c2 c3 c4 c5 hR0
 generalize (w.alloc (.cells #[.int .i64 0, .int .i64 0, .int .i64 0, .int .i64 0, .int .i64 0, .int .i64 0] 78)).alloc (.cells #[.int .i64 x0.lo.x, .int .i64 x0.lo.y, .int .i64 x0.lo.z, .int .i64 x0.hi.x, .int .i64 x0.hi.y, .int .i64 x0.hi.z] 78) = W1 at *
 go_loopw [4] (fun i wr => ∃ k : Nat, 1 <= k /\ k <= n /\ i = .int .i64 k /\ Blk wr (w.heap.size + 1) 78 #[.int .i64 (S.hull x0 (xs.take k)).lo.x, .int .i64 (S.hull x0 (xs.take k)).lo.y, .int .i64 (S.hull x0 (xs.take k)).lo.z, .int .i64 (S.hull x0 (xs.take k)).hi.x, .int .i64 (S.hull x0 (xs.take k)).hi.y, .int .i64 (S.hull x0 (xs.take k)).hi.z] /\ Exc [w.heap.size + 1] W1 wr) (fun i _ => n - (intOf i).toNat)
 case atStart =>
  refine ⟨1, Nat.le_refl _, by omega, rfl, ?_, Exc.refl _ _⟩
  have e1 : S.hull x0 (xs.take 1) = x0 := by
   have hx : xs.take 1 = [x0] := by
    have h0 := H0.out
    cases xs with
    | nil => simp at h0
    | cons y l => simp at h0; simp [h0]
   rw [hx]; simp [S.hull, S.join]
  rw [e1]; exact hK0
 case round =>
  obtain ⟨k, hk1, hk, rfl, hK, hX⟩ := hrel
  by_cases hlt : k < n
  ·have hkx : k < xs.length := by have := HN.out; omega
   have HT := lh (show S.hull x0 (xs.take (k + 1)) = S.joinK (S.hull x0 (xs.take k)) xs[k] 3 by rw [List.take_succ_eq_append_getElem hkx, hull_snoc, joinK_3])
   have HG := lh (List.getElem?_eq_getElem hkx)
   generalize S.hull x0 (xs.take k) = Hk at *
   generalize xs[k] = X at *
   have hki : (k : Int) < (n : Int) := by omega
   have hXo := hX
   go_wp2
   go_loopw [5] (fun i wr => ∃ m : Nat, m <= 3 /\ i = .int .i64 m /\ Blk wr (w.heap.size + 1) 78 #[.int .i64 (S.joinK Hk X m).lo.x, .int .i64 (S.joinK Hk X m).lo.y, .int .i64 (S.joinK Hk X m).lo.z, .int .i64 (S.joinK Hk X m).hi.x, .int .i64 (S.joinK Hk X m).hi.y, .int .i64 (S.joinK Hk X m).hi.z] /\ Exc [w.heap.size + 1] W1 wr) (fun i _ => 3 - (intOf i).toNat)
   case atStart => exact ⟨0, by omega, rfl, hK, hXo⟩
   case round =>
    obtain ⟨m, hm3, rfl, hM, hY⟩ := hrel
    have HM := lh hM
    have hsz := hY.size
    by_cases hlm : m < 3
    ·have hmi : (m : Int) < 3 := by omega
     have HJ := lh (show S.joinK Hk X (m + 1) = S.join1 (S.joinK Hk X m) X m from rfl)
     obtain ⟨c0, c1, c2, c3, c4, c5⟩ := (hC1.below (hY.below (by have := hW.size; omega) (by intro x hx; simp at hx; omega))).boxes HG.out
     have hbr : b < wr.heap.size := by omega
     generalize S.joinK Hk X m = O at *
     have hgr := hM.lt
     have k0 := hM.cell 0
     have k1 := hM.cell 1
     have k2 := hM.cell 2
     have k3 := hM.cell 3
     have k4 := hM.cell 4
     have k5 := hM.cell 5
     have fk0 := hM.frozen 0
     have fk1 := hM.frozen 1
     have fk2 := hM.frozen 2
     have fk3 := hM.frozen 3
     have fk4 := hM.frozen 4
     have fk5 := hM.frozen 5
     simp only [ga1, ga2, ga3] at k0 k1 k2 k3 k4 k5
     have HCL := lh (fun w => coord_any O.lo m hlm w)
     have HCH := lh (fun w => coord_any O.hi m hlm w)
     have HXL := lh (fun w => coord_any X.lo m hlm w)
     have HXH := lh (fun w => coord_any X.hi m hlm w)
     have HWL := lh (fun n w => with_any O.lo m n hlm w)
     have HWH := lh (fun n w => with_any O.hi m n hlm w)
     unfold ptVal at HCL HCH HXL HXH HWL HWH
     go_wp2
     obtain ⟨P, hP⟩ : ∃ P, P = S.setc O.lo m (S.mn (S.co O.lo m) (S.co X.lo m)) := ⟨_, rfl⟩
     obtain ⟨Q, hQ⟩ : ∃ P, P = S.setc O.hi m (S.mx (S.co O.hi m) (S.co X.hi m)) := ⟨_, rfl⟩
     have HJ2 := lh (show S.join1 O X m = ⟨P, Q⟩ by rw [hP, hQ]; rfl)
     refine wp_region_grow_tail 17 (by kernel_rfl) (by kernel_rfl) ?_
     simp only [gt1, gt2, gt3, gt4]
     repeat (go_big_quiet_step ((first | (go_at_call 175; with_reducible exact grow_of (HCL.out _)) | (go_at_call 175; with_reducible exact grow_of (HXL.out _)) | (go_at_call 271; with_reducible exact grow_of (HWL.out _ _)))))
     all_goals (refine wpQuiet_nil ?_; intro wg hbwg; obtain ⟨hcwg, hfwg⟩ := bcell hbwg)
     go_wp2
     all_goals (
      first
       | (have e : S.setc O.lo m (S.co X.lo m) = P := (by rw [hP, S.mn, if_pos (by omega)])
          rw [e])
       | (have e : S.setc O.lo m (S.co O.lo m) = P := (by rw [hP, S.mn, if_neg (by omega)])
          rw [e])
       | (have e : S.setc O.lo m (min (S.co O.lo m) (S.co X.lo m)) = P := (by rw [hP, show min (S.co O.lo m) (S.co X.lo m) = S.mn (S.co O.lo m) (S.co X.lo m) from (by unfold S.mn; split <;> omega)])
          rw [e])
      have hM1 : Blk (((wg.setCell ⟨w.heap.size + 1, 0, none⟩ (.int .i64 P.x)).setCell ⟨w.heap.size + 1, 1, none⟩ (.int .i64 P.y)).setCell ⟨w.heap.size + 1, 2, none⟩ (.int .i64 P.z)) (w.heap.size + 1) 78 #[.int .i64 P.x, .int .i64 P.y, .int .i64 P.z, .int .i64 O.hi.x, .int .i64 O.hi.y, .int .i64 O.hi.z] := by
       have h6 := (((HM.out.via hbwg).set 0 (.int .i64 P.x)).set 1 (.int .i64 P.y)).set 2 (.int .i64 P.z)
       simp only [List.setIfInBounds_toArray, List.set_cons_zero, List.set_cons_succ] at h6
       exact h6
      have hY1 : Exc [w.heap.size + 1] W1 (((wg.setCell ⟨w.heap.size + 1, 0, none⟩ (.int .i64 P.x)).setCell ⟨w.heap.size + 1, 1, none⟩ (.int .i64 P.y)).setCell ⟨w.heap.size + 1, 2, none⟩ (.int .i64 P.z)) := (((Exc.via hbwg hY).set (.inl (by simp)) _).set (.inl (by simp)) _).set (.inl (by simp)) _
      clear hcwg hfwg
      clear c0 c1 c2 c3 c4 c5 k0 k1 k2 k3 k4 k5 fk0 fk1 fk2 fk3 fk4 fk5 hgr hM hbr
      clear hbwg
      generalize (((wg.setCell ⟨w.heap.size + 1, 0, none⟩ (.int .i64 P.x)).setCell ⟨w.heap.size + 1, 1, none⟩ (.int .i64 P.y)).setCell ⟨w.heap.size + 1, 2, none⟩ (.int .i64 P.z)) = W2 at *
      obtain ⟨c0, c1, c2, c3, c4, c5⟩ := (hC1.below (hY1.below (by have := hW.size; omega) (by intro x hx; simp at hx; omega))).boxes HG.out
      have hsz1 := hY1.size
      have hbr : b < W2.heap.size := by omega
      have hgr := hM1.lt
      have k0 := hM1.cell 0
      have k1 := hM1.cell 1
      have k2 := hM1.cell 2
      have k3 := hM1.cell 3
      have k4 := hM1.cell 4
      have k5 := hM1.cell 5
      have fk0 := hM1.frozen 0
      have fk1 := hM1.frozen 1
      have fk2 := hM1.frozen 2
      have fk3 := hM1.frozen 3
      have fk4 := hM1.frozen 4
      have fk5 := hM1.frozen 5
      simp only [ga1, ga2, ga3] at k0 k1 k2 k3 k4 k5
      have HM1 := lh hM1
      refine wp_region_grow_tail 17 (by kernel_rfl) (by kernel_rfl) ?_
      simp only [gt1, gt2, gt3, gt4]
      repeat (go_big_quiet_step ((first | (go_at_call 175; with_reducible exact grow_of (HCH.out _)) | (go_at_call 175; with_reducible exact grow_of (HXH.out _)) | (go_at_call 271; with_reducible exact grow_of (HWH.out _ _)))))
      all_goals (refine wpQuiet_nil ?_; intro wh hbwh; obtain ⟨hcwh, hfwh⟩ := bcell hbwh)
      go_wp2)
     all_goals (
      first
       | (have e : S.setc O.hi m (if S.co O.hi m < S.co X.hi m then S.co X.hi m else S.co O.hi m) = Q := hQ.symm
          rw [e])
       | (have e : S.setc O.hi m (S.co X.hi m) = Q := (by rw [hQ, S.mx, if_pos (by omega)])
          rw [e])
       | (have e : S.setc O.hi m (S.co O.hi m) = Q := (by rw [hQ, S.mx, if_neg (by omega)])
          rw [e])
       | (have e : S.setc O.hi m (max (S.co O.hi m) (S.co X.hi m)) = Q := (by rw [hQ, show max (S.co O.hi m) (S.co X.hi m) = S.mx (S.co O.hi m) (S.co X.hi m) from (by unfold S.mx; split <;> omega)])
          rw [e])
      have hM2 : Blk (((wh.setCell ⟨w.heap.size + 1, 3, none⟩ (.int .i64 Q.x)).setCell ⟨w.heap.size + 1, 4, none⟩ (.int .i64 Q.y)).setCell ⟨w.heap.size + 1, 5, none⟩ (.int .i64 Q.z)) (w.heap.size + 1) 78 #[.int .i64 P.x, .int .i64 P.y, .int .i64 P.z, .int .i64 Q.x, .int .i64 Q.y, .int .i64 Q.z] := by
       have h6 := (((HM1.out.via hbwh).set 3 (.int .i64 Q.x)).set 4 (.int .i64 Q.y)).set 5 (.int .i64 Q.z)
       simp only [List.setIfInBounds_toArray, List.set_cons_zero, List.set_cons_succ] at h6
       exact h6
      have hY2 : Exc [w.heap.size + 1] W1 (((wh.setCell ⟨w.heap.size + 1, 3, none⟩ (.int .i64 Q.x)).setCell ⟨w.heap.size + 1, 4, none⟩ (.int .i64 Q.y)).setCell ⟨w.heap.size + 1, 5, none⟩ (.int .i64 Q.z)) := (((Exc.via hbwh hY1).set (.inl (by simp)) _).set (.inl (by simp)) _).set (.inl (by simp)) _
      clear hcwh hfwh
      go_roundw
      case rel =>
       refine ⟨m + 1, by omega, by go_num, ?_, hY2⟩
       rw [HJ.out, HJ2.out]
       exact hM2
      case measure => simp [intOf]; omega)
    ·have he : m = 3 := by omega
     subst he
     go_wp2
     go_roundw
     case rel =>
      refine ⟨k + 1, by omega, by omega, by go_num, ?_, hY⟩
      rw [HT.out]
      exact HM.out
     case measure => simp [intOf]; omega
  ·have he : k = n := by omega
   subst he
   have ht : xs.take k = xs := List.take_of_length_le (by have := HN.out; omega)
   rw [ht] at hK
   have hsz := hX.size
   have hgr := hK.lt
   generalize hH : S.hull x0 xs = Hk at *
   have HH := lh hH
   clear hH
   have hRr := (hX.block w.heap.size (by omega) (by simp)).trans HR0.out
   have hRr : Blk wr w.heap.size 78 #[.int .i64 0, .int .i64 0, .int .i64 0, .int .i64 0, .int .i64 0, .int .i64 0] := hRr
   have k0 := hK.cell 0
   have f0 := hK.frozen 0
   have z0 := hRr.cell 0
   have y0 := hRr.frozen 0
   have k1 := hK.cell 1
   have f1 := hK.frozen 1
   have z1 := hRr.cell 1
   have y1 := hRr.frozen 1
   have k2 := hK.cell 2
   have f2 := hK.frozen 2
   have z2 := hRr.cell 2
   have y2 := hRr.frozen 2
   have k3 := hK.cell 3
   have f3 := hK.frozen 3
   have z3 := hRr.cell 3
   have y3 := hRr.frozen 3
   have k4 := hK.cell 4
   have f4 := hK.frozen 4
   have z4 := hRr.cell 4
   have y4 := hRr.frozen 4
   have k5 := hK.cell 5
   have f5 := hK.frozen 5
   have z5 := hRr.cell 5
   have y5 := hRr.frozen 5
   simp only [ga1, ga2, ga3] at z0 z1 z2 z3 z4 z5 k0 k1 k2 k3 k4 k5
   have hrl := hRr.lt
   have hbel : Below w.heap.size w wr := hW.trans (hX.below (by omega) (by intro x hx; simp at hx; omega))
   clear hRr
   go_wp2
   exact bodyPost_ret (v := boxV Hk) (by simp [results, Tryz.results264, go_sem, *]) rfl ⟨by rw [HH.out], ((((((hbel.setCell (Nat.le_refl _) _).setCell (Nat.le_refl _) _).setCell (Nat.le_refl _) _).setCell (Nat.le_refl _) _).setCell (Nat.le_refl _) _).setCell (Nat.le_refl _) _)⟩
set_option maxRecDepth 100000 in
set_option maxHeartbeats 4000000 in
theorem rbent_00 (A : Option Addr) (n c : Nat) (xs : List Bx) (p : Pt) (B : Nat) (w : World) (hn : xs.length = n) (hm : n <= 1000000) (hB : B <= w.heap.size) (hs : Cells w B A (xs.flatMap boxC)) (h1 : n = 1) :
 Calls Tryz.prog 198 #[.slice A n c, .int .i64 0, ptVal p] w fun e w' => e = .returned (.bool (S.bent xs 0 p)) /\ Below w.heap.size w w' := by
 have H := lh (show S.bent xs 0 p = false by simp [S.bent, hn, h1])
 have hni : ¬ (0 : Int) + 1 < n := by omega
 have hni2 : ¬ (1 : Int) < n := by omega
 unfold ptVal
 go_enter Tryz.func198, Tryz.ntmps198
 go_wp2
 refine wp_region_grow (by kernel_rfl) (by kernel_rfl) ?_
 repeat (go_big_quiet_step (fail))
 all_goals (refine wpQuiet_nil ?_; intro wg hbwg; obtain ⟨hcwg, hfwg⟩ := bcell hbwg)
 go_wp2
 go_ret
 exact ⟨ret_b H.out.symm, bel⟩
set_option maxRecDepth 100000 in
set_option maxHeartbeats 4000000 in
theorem rbent_01 (A : Option Addr) (n c : Nat) (xs : List Bx) (p : Pt) (B : Nat) (w : World) (hn : xs.length = n) (hm : n <= 1000000) (hB : B <= w.heap.size) (hs : Cells w B A (xs.flatMap boxC)) (h1 : 1 < n) :
 Calls Tryz.prog 198 #[.slice A n c, .int .i64 0, ptVal p] w fun e w' => e = .returned (.bool (S.bent xs 0 p)) /\ Below w.heap.size w w' := by
 have H := lh (show S.bent xs 0 p = S.touch xs 1 p by simp [S.bent, hn, h1])
 have hni2 : (1 : Int) < n := by omega
 have hk1 : 1 < xs.length := by omega
 have HC := lh (fun w => rcontains_any (xs.getD 1 S.zbox) (S.pbox p) w (Int.le_refl _) (Int.le_refl _) (Int.le_refl _))
 obtain ⟨b, o, rfl, hb, _⟩ := hs.at_ (by rw [flat_len boxC 6 boxC_len]; omega)
 obtain ⟨c0, c1, c2, c3, c4, c5⟩ := hs.boxes (List.getElem?_eq_getElem hk1)
 simp only [Nat.one_mul, Nat.add_assoc, Nat.reduceAdd] at c0 c1 c2 c3 c4 c5
 rw [show xs.getD 1 S.zbox = xs[1] by simp [List.getD_eq_getElem?_getD, hk1]] at HC
 unfold S.touch at H
 rw [show xs.getD 1 S.zbox = xs[1] by simp [List.getD_eq_getElem?_getD, hk1]] at H
 generalize S.cont xs[1] (S.pbox p) = t at *
 generalize xs[1] = X at *
 have hbw : b < w.heap.size := by omega
 have hbw2 : b < w.heap.size + 1 + 1 := by omega
 unfold ptVal
 unfold boxV at HC
 cases t
 all_goals (
  go_enter Tryz.func198, Tryz.ntmps198
  go_wp2
  refine wp_region_grow (by kernel_rfl) (by kernel_rfl) ?_
  repeat (go_big_quiet_step ((go_at_call 245; exact grow_of (HC.out _))))
  all_goals (refine wpQuiet_nil ?_; intro wg hbwg; obtain ⟨hcwg, hfwg⟩ := bcell hbwg)
  go_wp2
  go_ret
  exact ⟨ret_b H.out.symm, bel⟩)
set_option maxRecDepth 100000 in
set_option maxHeartbeats 4000000 in
theorem rbent_10 (A : Option Addr) (n c k : Nat) (xs : List Bx) (p : Pt) (B : Nat) (w : World) (hn : xs.length = n) (hm : n <= 1000000) (hB : B <= w.heap.size) (hs : Cells w B A (xs.flatMap boxC)) (h0 : 0 < k) (hk : k < n) (h1 : ¬ k + 1 < n) :
 Calls Tryz.prog 198 #[.slice A n c, .int .i64 k, ptVal p] w fun e w' => e = .returned (.bool (S.bent xs k p)) /\ Below w.heap.size w w' := by
 have hH : S.bent xs k p = S.touch xs (k - 1) p := by simp [S.bent, hn, h1, h0]
 obtain ⟨j, hj⟩ : ∃ j, j = k - 1 := ⟨_, rfl⟩
 obtain ⟨q, hq⟩ : ∃ q, q = k + 1 := ⟨_, rfl⟩
 have e1 : (k : Int) - 1 = (j : Int) := by omega
 have e2 : (k : Int) + 1 = (q : Int) := by omega
 have e3 : IntKind.i64.wrap (j : Int) = (j : Int) := IntWalk.i64_in _ (by omega)
 have e4 : IntKind.i64.wrap (q : Int) = (q : Int) := IntWalk.i64_in _ (by omega)
 have g1 : (0 : Int) < (k : Int) := by omega
 have g2 : ¬ (q : Int) < (n : Int) := by omega
 have hqd : decide (q < n) = false := by simp; omega
 have g3 : (j : Int) < (n : Int) := by omega
 have hj1 : j < n := by omega
 have hjx : j < xs.length := by omega
 rw [<- hj] at hH
 have HC := lh (fun w => rcontains_any (xs.getD j S.zbox) (S.pbox p) w (Int.le_refl _) (Int.le_refl _) (Int.le_refl _))
 obtain ⟨b, o, rfl, hb, _⟩ := hs.at_ (by rw [flat_len boxC 6 boxC_len]; omega)
 obtain ⟨c0, c1, c2, c3, c4, c5⟩ := hs.boxes (List.getElem?_eq_getElem hjx)
 unfold S.touch at hH
 rw [show xs.getD j S.zbox = xs[j] by simp [List.getD_eq_getElem?_getD, hjx]] at HC hH
 have H := lh hH
 clear hH hj hq
 generalize S.cont xs[j] (S.pbox p) = t at *
 generalize xs[j] = X at *
 have hbw : b < w.heap.size := by omega
 have hbw2 : b < w.heap.size + 1 + 1 := by omega
 unfold ptVal
 unfold boxV at HC
 cases t
 all_goals (
  go_enter Tryz.func198, Tryz.ntmps198
  go_wp2
  refine wp_region_grow (by kernel_rfl) (by kernel_rfl) ?_
  repeat (go_big_quiet_step ((go_at_call 245; exact grow_of (HC.out _))))
  all_goals (refine wpQuiet_nil ?_; intro wg hbwg; obtain ⟨hcwg, hfwg⟩ := bcell hbwg)
  go_wp2
  go_ret
  exact ⟨ret_b H.out.symm, bel⟩)
set_option maxRecDepth 100000 in
set_option maxHeartbeats 4000000 in
theorem rbent_11 (A : Option Addr) (n c k : Nat) (xs : List Bx) (p : Pt) (B : Nat) (w : World) (hn : xs.length = n) (hm : n <= 1000000) (hB : B <= w.heap.size) (hs : Cells w B A (xs.flatMap boxC)) (h0 : 0 < k) (h1 : k + 1 < n) :
 Calls Tryz.prog 198 #[.slice A n c, .int .i64 k, ptVal p] w fun e w' => e = .returned (.bool (S.bent xs k p)) /\ Below w.heap.size w w' := by
 have hH : S.bent xs k p = (S.touch xs (k - 1) p || S.touch xs (k + 1) p) := by simp [S.bent, hn, h1, h0]
 obtain ⟨j, hj⟩ : ∃ j, j = k - 1 := ⟨_, rfl⟩
 obtain ⟨q, hq⟩ : ∃ q, q = k + 1 := ⟨_, rfl⟩
 have e1 : (k : Int) - 1 = (j : Int) := by omega
 obtain ⟨z, hz⟩ : ∃ z : Int, z = (q : Int) := ⟨_, rfl⟩
 have e2 : (k : Int) + 1 = z := by omega
 have e5 : z.toNat = q := by omega
 have e3 : IntKind.i64.wrap (j : Int) = (j : Int) := IntWalk.i64_in _ (by omega)
 have e4 : IntKind.i64.wrap z = z := IntWalk.i64_in _ (by omega)
 have g1 : (0 : Int) < (k : Int) := by omega
 have g2 : z < (n : Int) := by omega
 have g4 : 0 <= z := by omega
 have g3 : (j : Int) < (n : Int) := by omega
 have hj1 : j < n := by omega
 have hq1 : q < n := by omega
 have hjx : j < xs.length := by omega
 have hqx : q < xs.length := by omega
 rw [<- hj, <- hq] at hH
 have HC := lh (fun w => rcontains_any (xs.getD j S.zbox) (S.pbox p) w (Int.le_refl _) (Int.le_refl _) (Int.le_refl _))
 have HD := lh (fun w => rcontains_any (xs.getD q S.zbox) (S.pbox p) w (Int.le_refl _) (Int.le_refl _) (Int.le_refl _))
 obtain ⟨b, o, rfl, hb, _⟩ := hs.at_ (by rw [flat_len boxC 6 boxC_len]; omega)
 obtain ⟨c0, c1, c2, c3, c4, c5⟩ := hs.boxes (List.getElem?_eq_getElem hjx)
 obtain ⟨d0, d1, d2, d3, d4, d5⟩ := hs.boxes (List.getElem?_eq_getElem hqx)
 unfold S.touch at hH
 rw [show xs.getD j S.zbox = xs[j] by simp [List.getD_eq_getElem?_getD, hjx]] at HC hH
 rw [show xs.getD q S.zbox = xs[q] by simp [List.getD_eq_getElem?_getD, hqx]] at HD hH
 have H := lh hH
 clear hH hj hq hz
 generalize S.cont xs[j] (S.pbox p) = t at *
 generalize S.cont xs[q] (S.pbox p) = u at *
 generalize xs[j] = X at *
 generalize xs[q] = Y at *
 have hbw : b < w.heap.size := by omega
 have hbw2 : b < w.heap.size + 1 + 1 := by omega
 unfold ptVal
 unfold boxV at HC HD
 cases t <;> cases u
 all_goals (
  go_enter Tryz.func198, Tryz.ntmps198
  go_wp2
  refine wp_region_grow (by kernel_rfl) (by kernel_rfl) ?_
  repeat (go_big_quiet_step ((first | (go_at_call 245; with_reducible exact grow_of (HC.out _)) | (go_at_call 245; with_reducible exact grow_of (HD.out _)))))
  all_goals (refine wpQuiet_nil ?_; intro wg hbwg; obtain ⟨hcwg, hfwg⟩ := bcell hbwg)
  go_wp2
  go_ret
  exact ⟨ret_b H.out.symm, bel⟩)
theorem rbent_any (A : Option Addr) (n c k : Nat) (xs : List Bx) (p : Pt) (B : Nat) (w : World) (hn : xs.length = n) (hm : n <= 1000000) (hB : B <= w.heap.size) (hs : Cells w B A (xs.flatMap boxC)) (hk : k < n) :
 Calls Tryz.prog 198 #[.slice A n c, .int .i64 k, ptVal p] w fun e w' => e = .returned (.bool (S.bent xs k p)) /\ Below w.heap.size w w' := by
 by_cases h0 : 0 < k
 ·by_cases h1 : k + 1 < n
  ·exact rbent_11 A n c k xs p B w hn hm hB hs h0 h1
  ·exact rbent_10 A n c k xs p B w hn hm hB hs h0 hk h1
 ·obtain rfl : k = 0 := by omega
  by_cases h1 : 1 < n
  ·exact rbent_01 A n c xs p B w hn hm hB hs h1
  ·exact rbent_00 A n c xs p B w hn hm hB hs (by omega)
set_option maxHeartbeats 1000000 in
theorem rshull_yes (A : Option Addr) (n c : Nat) (A' : Option Addr) (n' c' : Nat) (xs hs : List Bx) (x0 : Bx) (B : Nat) (w : World) (hB : B <= w.heap.size) (hA : SolAt w B A n A' n' xs hs) (hn : n <= 1000000) (h0 : xs[0]? = some x0) :
 Calls Tryz.prog 242 #[solV A n c A' n' c'] w fun e w' => e = .returned (boxV (S.hull x0 xs)) /\ Below w.heap.size w w' := by
 have HA := lh hA
 have HH := lh (fun (W : World) (hw : B <= W.heap.size) (hh : Cells W B A (xs.flatMap boxC)) => rbhull_yes A n c xs x0 B W HA.out.len hn hw hh h0)
 clear hA
 generalize S.hull x0 xs = X at *
 unfold solV
 go_enter Tryz.func242, Tryz.ntmps242
 go_wp2_with (go_at_call 264; (with_reducible refine (HH.out _ (size_via hB bel) (SolAt.at_ HA.out hB bel).cells).mono ?_); rintro e w2 ⟨rfl, hbw2⟩; obtain ⟨hcw2, hfw2⟩ := bcell hbw2; have hzw2_0 : w.heap.size < w2.heap.size := lt_via hbw2 sz; have hzw2_1 : w.heap.size + 1 < w2.heap.size := lt_via hbw2 sz)
 have hbel : Below w.heap.size w w2 := bel
 have hRs : Blk w2 (w.heap.size + 1) 78 #[.int .i64 0, .int .i64 0, .int .i64 0, .int .i64 0, .int .i64 0, .int .i64 0] := Blk.via (by simpa using Blk.new (w.alloc (.cells #[.slice A n c, .slice A' n' c'] 24)) 78 #[.int .i64 0, .int .i64 0, .int .i64 0, .int .i64 0, .int .i64 0, .int .i64 0]) hbw2
 have z0 := hRs.cell 0
 have z1 := hRs.cell 1
 have z2 := hRs.cell 2
 have z3 := hRs.cell 3
 have z4 := hRs.cell 4
 have z5 := hRs.cell 5
 simp only [ga1, ga2, ga3] at z0 z1 z2 z3 z4 z5
 exact bodyPost_ret (v := boxV X) (by simp [results, Tryz.results242, go_sem, *]) rfl ⟨rfl, ((((((hbel.setCell (Nat.le_succ _) _).setCell (Nat.le_succ _) _).setCell (Nat.le_succ _) _).setCell (Nat.le_succ _) _).setCell (Nat.le_succ _) _).setCell (Nat.le_succ _) _)⟩
theorem rpoor_yes (m : Mem) (leg : Bx) (A : Option Addr) (n c : Nat) (A' : Option Addr) (n' c' : Nat) (B : Nat) (w : World) (hB : B <= w.heap.size) (hA : SolAt w B A n A' n' m.boxes m.holes) (h : S.solid m.boxes m.holes = true) (hl : S.boxOk leg = true) :
 Calls Tryz.prog 196 #[memV m A n c A' n' c', boxV leg] w fun e w' => e = .returned (.bool (S.poor m.boxes leg)) /\ Below w.heap.size w w' := by
 have HA := lh hA
 have hn20 : n <= 20 := by
  have h1 := hA.len
  simp only [S.solid, Bool.and_eq_true, decide_eq_true_eq] at h
  omega
 obtain ⟨hok, hlen⟩ := solid_ok h
 have h0 : m.boxes[0]? = some (m.boxes.headD ⟨⟨0, 0, 0⟩, ⟨0, 0, 0⟩⟩) := by
  cases hb : m.boxes with
  | nil => rw [hb] at hlen; simp at hlen
  | cons x l => rfl
 have hz := boxOk_z hl
 have hin := hull_lo_in (m.boxes.headD ⟨⟨0, 0, 0⟩, ⟨0, 0, 0⟩⟩) m.boxes (by have := boxOk_z (boxes_ok hok _ (List.mem_of_getElem? h0)); omega) (fun b hb => by have := boxOk_z (boxes_ok hok b hb); omega)
 have HP := lh (show S.poor m.boxes leg = decide (250 < leg.lo.z - (S.hull (m.boxes.headD ⟨⟨0, 0, 0⟩, ⟨0, 0, 0⟩⟩) m.boxes).lo.z) from rfl)
 have HH := lh (fun (W : World) (hw : B <= W.heap.size) (hh : SolAt W B A n A' n' m.boxes m.holes) => rshull_yes A n c A' n' c' m.boxes m.holes _ B W hw hh (by omega) h0)
 clear hA
 generalize S.hull (m.boxes.headD ⟨⟨0, 0, 0⟩, ⟨0, 0, 0⟩⟩) m.boxes = X at *
 have e1 : IntKind.i64.wrap (leg.lo.z - X.lo.z) = leg.lo.z - X.lo.z := IntWalk.i64_in _ (by omega)
 unfold boxV at HH
 have f0 : ∀ W, (Instr.field 78 (.agg #[.int .i64 X.lo.x, .int .i64 X.lo.y, .int .i64 X.lo.z, .int .i64 X.hi.x, .int .i64 X.hi.y, .int .i64 X.hi.z]) 0).run Tryz.prog W = .ok (.agg #[.int .i64 X.lo.x, .int .i64 X.lo.y, .int .i64 X.lo.z]) W := fun _ => by kernel_rfl
 have f1 : ∀ W, (Instr.field 76 (.agg #[.int .i64 X.lo.x, .int .i64 X.lo.y, .int .i64 X.lo.z]) 2).run Tryz.prog W = .ok (.int .i64 X.lo.z) W := fun _ => by kernel_rfl
 unfold memV boxV
 go_enter Tryz.func196, Tryz.ntmps196
 go_wp2
 refine wp_region_grow (by kernel_rfl) (by kernel_rfl) ?_
 repeat (go_big_quiet_step ((go_at_call 242; exact grow_of (HH.out _ (size_via hB (ba_via (grow_below _ _) bel)) (SolAt.at_ HA.out hB (ba_via (grow_below _ _) bel))))))
 all_goals (refine wpQuiet_nil ?_; intro wg hbwg; obtain ⟨hcwg, hfwg⟩ := bcell hbwg; have hzwg_0 : w.heap.size < wg.heap.size := lt_via hbwg sz; have hzwg_1 : w.heap.size + 1 < wg.heap.size := lt_via hbwg sz)
 go_wp2
 go_ret
 exact ⟨ret_b HP.out.symm, bel⟩
theorem rup_any (n p q : Int) (w : World) (h2 : 1 <= q) (h3 : q <= 1000000) (hlo : 0 <= n * p) (hp : n * p <= 4611686018427387904) :
 Calls Tryz.prog 244 #[.int .i64 n, .int .i64 p, .int .i64 q] w fun e w' => e = .returned (.int .i64 (S.up n p q)) /\ w = w' := by
 have hq : (q == 0) = false := by simp; omega
 go_enter Tryz.func244, Tryz.ntmps244
 go_wp2
 go_ret
 exact ⟨rfl, rfl⟩
theorem rbasic_any (r : Rule) (d : Int) (w : World) (hr : RuleOk r) (h0 : 0 <= d) (h1 : d <= 40) :
 Calls Tryz.prog 243 #[ruleV r, .int .i64 d] w fun e w' => e = .returned (.int .i64 (S.basic r d)) /\ Below w.heap.size w w' := by
 have H := lh (basic_eq r d)
 have hp := mul_bd h0 h1 (by have := hr.num; omega) hr.num.2
 have hd := hr.den
 unfold ruleV
 go_enter Tryz.func243, Tryz.ntmps243
 go_wp2_with (go_at_call 244; refine (rup_any _ _ _ _ ?_ ?_ ?_ ?_).mono ?_; (· omega); (· omega); (· omega); (· omega); rintro e w1 ⟨rfl, rfl⟩)
 all_goals (go_ret; exact ⟨ret_i (by rw [H.out]; omega), by go_grown⟩)
theorem rlength_any (r : Rule) (d : Int) (poor bent : Bool) (w : World) (hr : RuleOk r) (h0 : 0 <= d) (h1 : d <= 40) :
 Calls Tryz.prog 197 #[ruleV r, .int .i64 d, .bool poor, .bool bent] w fun e w' => e = .returned (.int .i64 (S.length r d poor bent)) /\ Below w.heap.size w w' := by
 have b1 := basic_bd hr h0 h1
 have hd := hr.pden
 have hd2 := hr.bden
 have m1 := mul_bd b1.1 b1.2 (by have := hr.pnum; omega) hr.pnum.2
 have b2 : 0 <= S.up (S.basic r d) r.pnum r.pden /\ S.up (S.basic r d) r.pnum r.pden <= 40000000 := poorUp_bd hr true b1.1 b1.2
 have m2 := mul_bd b2.1 b2.2 (by have := hr.bnum; omega) hr.bnum.2
 have m3 := mul_bd b1.1 b1.2 (by have := hr.bnum; omega) hr.bnum.2
 cases poor <;> cases bent
 all_goals
  have H := lh (fun n => max_eq r n)
  unfold ruleV
  go_enter Tryz.func197, Tryz.ntmps197
  go_wp2_with (first
   | (go_at_call 243; refine (rbasic_any r d _ hr h0 h1).mono ?_; rintro e w1 ⟨rfl, hb1⟩; obtain ⟨hc, hf⟩ := bcell hb1)
   | (go_at_call 244; refine (rup_any _ _ _ _ ?_ ?_ ?_ ?_).mono ?_; (· omega); (· omega); (· omega); (· omega); rintro e w2 ⟨rfl, rfl⟩))
  all_goals (go_ret; exact ⟨ret_i (by simp only [S.length, S.poorUp, S.bentUp, <- H.out, if_true, if_false, Bool.false_eq_true]; omega), via hb1 (by go_grown) (Nat.le_refl _)⟩)
set_option maxRecDepth 100000 in
set_option maxHeartbeats 4000000 in
theorem rends_yes (r : Rule) (m : Mem) (A : Option Addr) (n c : Nat) (A' : Option Addr) (n' c' : Nat) (b : Bar) (D : Option Addr) (dn dc : Nat) (L : Option Addr) (k kc : Nat) (xs : List Bx) (B : Nat) (w : World) (hB : B <= w.heap.size)
 (hA : EndsAt w B A n A' n' m D dn b L k xs) (h : S.given r m b xs = 0) (j : Nat) (hj : j < xs.length) (hij : idxf xs S.isMainB = j) :
 Calls Tryz.prog 149 #[ruleV r, memV m A n c A' n' c', barV b D dn dc, .slice L k kc] w fun e w' => e = .returned (.tuple #[.int .i64 (S.endLen r m b xs j (xs.getD j S.zbox).lo), .int .i64 (S.endLen r m b xs j (xs.getD j S.zbox).hi)]) /\ Below w.heap.size w w' := by
 have HA := lh hA
 have hlen := hA.len
 have hmax := hA.max
 obtain ⟨h1, h2, h3, _⟩ := given_zero h
 have h1' := h1
 simp only [S.heads, Bool.and_eq_true] at h1'
 obtain ⟨⟨g0, g1⟩, g2⟩ := h1'
 have hso : S.solid m.boxes m.holes = true := by
  have := g1
  simp only [S.member, Bool.and_eq_true] at this
  exact this.1.1.1.2
 have hleg : S.boxOk xs[j] = true := boxes_ok h2 _ (List.getElem_mem hj)
 have hbd := size_bd (bar_size g2)
 have hl6 := legs_len b.code
 have hk6 : k <= 6 := by omega
 have hjk : j < k := by omega
 have HR := lh (rule_ok g0)
 have HML := lh (fun (W : World) (hw : B <= W.heap.size) (hh : EndsAt W B A n A' n' m D dn b L k xs) => hij ▸ mainleg_any L k kc xs B W hh.len hh.max hw hh.legs)
 have HP := lh (fun (W : World) (hw : B <= W.heap.size) (hh : EndsAt W B A n A' n' m D dn b L k xs) => rpoor_yes m xs[j] A n c A' n' c' B W hw hh.sol hso hleg)
 have HBL := lh (fun (W : World) (hw : B <= W.heap.size) (hh : EndsAt W B A n A' n' m D dn b L k xs) => rbent_any L k kc j xs xs[j].lo B W hh.len (by omega) hw hh.legs hjk)
 have HBH := lh (fun (W : World) (hw : B <= W.heap.size) (hh : EndsAt W B A n A' n' m D dn b L k xs) => rbent_any L k kc j xs xs[j].hi B W hh.len (by omega) hw hh.legs hjk)
 have HLN := lh (fun (poor bent : Bool) (W : World) => rlength_any r b.size poor bent W HR.out (by omega) (by omega))
 have hE : ∀ p, S.endLen r m b xs j p = S.length r b.size (S.poor m.boxes xs[j]) (S.bent xs j p) := fun p => by
  unfold S.endLen
  rw [show xs.getD j S.zbox = xs[j] by simp [List.getD_eq_getElem?_getD, hj]]
 rw [hE, hE, show xs.getD j S.zbox = xs[j] by simp [List.getD_eq_getElem?_getD, hj]]
 obtain ⟨bb, o, rfl, hbb, _⟩ := hA.legs.at_ (by rw [flat_len boxC 6 boxC_len]; omega)
 obtain ⟨c0, c1, c2, c3, c4, c5⟩ := hA.legs.boxes (List.getElem?_eq_getElem hj)
 have hbw : bb < w.heap.size := by omega
 have hbw3 : bb < w.heap.size + 1 + 1 + 1 := by omega
 have hbw2 : bb < w.heap.size + 1 + 1 := by omega
 have hbw0 : bb < w.heap.size + 1 := by omega
 have hji : (j : Int) < (k : Int) := by omega
 clear hA h h1 h2 h3 g0 g1 g2 hso hleg hE hij
 generalize S.poor m.boxes xs[j] = tp at *
 generalize S.bent xs j xs[j].lo = tl at *
 generalize S.bent xs j xs[j].hi = th at *
 generalize xs[j] = X at *
 unfold ptVal at HBL HBH
 unfold memV boxV at HP
 unfold ruleV at HLN
 unfold ruleV memV barV
 go_enter Tryz.func149, Tryz.ntmps149
 go_wp2_with (first
  | (go_at_call 148; (with_reducible refine (HML.out _ (size_via hB bel) (EndsAt.at_ HA.out hB bel)).mono ?_); rintro e w1 ⟨rfl, hbw1⟩; obtain ⟨hcw1, hfw1⟩ := bcell hbw1; have hzw1_0 : w.heap.size < w1.heap.size := lt_via hbw1 sz; have hzw1_1 : w.heap.size + 1 < w1.heap.size := lt_via hbw1 sz; have hzw1_2 : w.heap.size + 2 < w1.heap.size := lt_via hbw1 sz))
 have hbw1' : bb < w1.heap.size := by omega
 refine wp_region_grow (by kernel_rfl) (by kernel_rfl) ?_
 repeat (go_big_quiet_step ((go_at_call 196; exact grow_of (HP.out _ (size_via hB (ba_via (grow_below _ _) bel)) (EndsAt.at_ HA.out hB (ba_via (grow_below _ _) bel))))))
 all_goals (refine wpQuiet_nil ?_; intro wg hbwg; obtain ⟨hcwg, hfwg⟩ := bcell hbwg; have hzwg_0 : w.heap.size < wg.heap.size := lt_via hbwg sz; have hzwg_1 : w.heap.size + 1 < wg.heap.size := lt_via hbwg sz; have hzwg_2 : w.heap.size + 2 < wg.heap.size := lt_via hbwg sz)
 have hbwg' : bb < wg.heap.size := by have := hbwg.size; omega
 go_wp2
 refine wp_region_grow (by kernel_rfl) (by kernel_rfl) ?_
 repeat (go_big_quiet_step ((first
  | (go_at_call 198; with_reducible exact grow_of (HBL.out _ (size_via hB (ba_via (grow_below _ _) bel)) (EndsAt.at_ HA.out hB (ba_via (grow_below _ _) bel))))
  | (go_at_call 198; with_reducible exact grow_of (HBH.out _ (size_via hB (ba_via (grow_below _ _) bel)) (EndsAt.at_ HA.out hB (ba_via (grow_below _ _) bel))))
  | (go_at_call 197; exact grow_of (HLN.out _ _ _)))))
 all_goals (refine wpQuiet_nil ?_; intro wh hbwh; obtain ⟨hcwh, hfwh⟩ := bcell hbwh; have hzwh_0 : w.heap.size < wh.heap.size := lt_via hbwh sz; have hzwh_1 : w.heap.size + 1 < wh.heap.size := lt_via hbwh sz; have hzwh_2 : w.heap.size + 2 < wh.heap.size := lt_via hbwh sz)
 go_wp2
 go_ret2
 exact ⟨rfl, bel⟩
theorem rsteelArea_any (d : Int) (w : World) (h : S.size d = true) :
 Calls Tryz.prog 110 #[.int .i64 d] w fun e w' => e = .returned (.int .i64 (S.steelArea d)) /\ w = w' := by
 rcases size_cases h with rfl | rfl | rfl | rfl | rfl | rfl | rfl | rfl | rfl
 all_goals (
  go_enter Tryz.func110, Tryz.ntmps110
  go_wp2
  go_ret
  exact ⟨rfl, rfl⟩)
theorem mnOf_size (s : Int) (m : ByteArray) (o : Option Bx) : (S.mnOf s m o).size = s := by cases o <;> rfl
set_option maxRecDepth 20000 in
set_option maxHeartbeats 2000000 in
theorem rsize25_any (x : Dt) (B : Nat) (w : World) (hB : B <= w.heap.size) (hA : DtAt w B x) (h : S.laid (bars x.bs) x.rs = true) (i : Nat) (m : Mn) (hm : (S.mains (bars x.bs) x.rs)[i]? = some m) :
 Calls Tryz.prog 109 #[dtV x, .int .i64 i] w fun e w' => e = .returned (.int .i64 m.size) /\ Below w.heap.size w w' := by
 obtain ⟨k, j, k0, r, hL⟩ := lies_of h (List.getElem?_eq_some_iff.1 hm).1
 have hmn : m = S.mnOf r.b.size r.b.mark (S.mainLeg (S.laidPath r.b (x.rs[k]'hL.st.lt) j)) := by
  have := hL.st.get
  rw [hm] at this
  injection this
 have HE := lh (show m.size = r.b.size by rw [hmn, mnOf_size])
 have HA := lh hA
 have HLG := lh (fun (W : World) (hw : B <= W.heap.size) (hh : DtAt W B x) => rbar16_any x.bs x.rs x.bA x.bn x.bc x.rA x.rn x.rc B W hw hh.bars hh.runs i k j k0 r hL)
 clear hA hm hmn hL
 unfold dtV
 unfold barV at HLG
 have f1 : ∀ W, (Instr.field 138 (.agg #[.string r.b.mark, .int .i64 r.b.size, .int .i64 r.b.count, .int .i64 r.b.code, .slice r.A r.n r.c]) 1).run Tryz.prog W = .ok (.int .i64 r.b.size) W := fun _ => by kernel_rfl
 go_enter Tryz.func109, Tryz.ntmps109
 go_wp2_with (first
  | (go_at_call 150; (with_reducible refine (HLG.out _ (size_via hB bel) (HA.out.at_ hB bel)).mono ?_); rintro e w1 ⟨rfl, hbw1⟩; obtain ⟨hcw1, hfw1⟩ := bcell hbw1; have hzw1_0 : w.heap.size < w1.heap.size := lt_via hbw1 sz))
 go_ret
 exact ⟨ret_i HE.out.symm, bel⟩
end Go.Proofs.YtmfpbafpnoomeaaGreat
