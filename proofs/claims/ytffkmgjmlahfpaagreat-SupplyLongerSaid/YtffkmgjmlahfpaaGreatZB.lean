/- Contracts of the reference for layer 9: With, Hull. Contracts: anchor.poor, anchor.Poor. Contracts: the reference's names. Contracts of the reference for layer 17: thick, Valid, Member. Contracts: the hull of a solid and poor bond in the reference. Contracts of the reference for layer 24: Up, Basic, Length. Contract of the reference for layer 12: Dims. Contracts of the reference for layer 12: Valid (printed by tools/gen_rvalid.py). Legs of a bar: where they lie, their lengths. -/
import Derived.Test.YtffkmgjmlahfpaaGreatRBoxA
import Derived.Test.YtffkmgjmlahfpaaGreatBoxB
import Derived.Test.YtffkmgjmlahfpaaGreatTail
import Derived.Test.YtffkmgjmlahfpaaGreatSolidB
import Derived.Test.YtffkmgjmlahfpaaGreatNames
import Derived.Test.YtffkmgjmlahfpaaGreatAnchL
import Derived.Test.YtffkmgjmlahfpaaGreatShapeB
import Derived.Test.YtffkmgjmlahfpaaGreatRow
import Derived.Test.YtffkmgjmlahfpaaGreatSpecWalks
import Derived.Test.YtffkmgjmlahfpaaGreatFrameA
set_option linter.unusedVariables false
set_option linter.unusedSimpArgs false
namespace Go.Proofs.YtffkmgjmlahfpaaGreat
open Go.RowKit
namespace S
def setc (p : Pt) (k : Nat) (n : Int) : Pt := if k = 0 then ⟨n, p.y, p.z⟩ else if k = 1 then ⟨p.x, n, p.z⟩ else ⟨p.x, p.y, n⟩
def mn (a b : Int) : Int := if b < a then b else a
def mx (a b : Int) : Int := if a < b then b else a
def join1 (a b : Bx) (k : Nat) : Bx := ⟨setc a.lo k (mn (co a.lo k) (co b.lo k)), setc a.hi k (mx (co a.hi k) (co b.hi k))⟩
def joinK (a b : Bx) : Nat → Bx
  | 0 => a
  | k + 1 => join1 (joinK a b k) b k
end S
theorem joinK_3 (a b : Bx) : S.joinK a b 3 = S.join a b := by
  simp [S.joinK, S.join1, S.setc, S.co, S.join, S.mn, S.mx]
theorem with_any (p : Pt) (k : Nat) (n : Int) (hk : k < 3) (w : World) :
    Calls Tryz.prog 251 #[ptVal p, .int .i64 k, .int .i64 n] w fun e w' => e = .returned (ptVal (S.setc p k n)) ∧ Below w.heap.size w w' := by
  have : k = 0 ∨ k = 1 ∨ k = 2 := by omega
  unfold ptVal
  rcases this with rfl | rfl | rfl
  · go_enter Tryz.func251, Tryz.ntmps251
    go_wp2
    exact bodyPost_ret (v := ptVal ⟨n, p.y, p.z⟩) (by simp [results, Tryz.results251, go_sem, *]) rfl ⟨rfl, (by repeat (first | exact Below.refl _ _ | assumption | refine ba_alloc ?_ _ | refine ba_drew ?_ | refine ba_drewN ?_ _ | refine ba_via (by assumption) ?_ | (refine ba_set ?_ ?_ _; rotate_left; (first | omega | (simp; omega) | simp))))⟩
  · go_enter Tryz.func251, Tryz.ntmps251
    go_wp2
    exact bodyPost_ret (v := ptVal ⟨p.x, n, p.z⟩) (by simp [results, Tryz.results251, go_sem, *]) rfl ⟨rfl, (by repeat (first | exact Below.refl _ _ | assumption | refine ba_alloc ?_ _ | refine ba_drew ?_ | refine ba_drewN ?_ _ | refine ba_via (by assumption) ?_ | (refine ba_set ?_ ?_ _; rotate_left; (first | omega | (simp; omega) | simp))))⟩
  · go_enter Tryz.func251, Tryz.ntmps251
    go_wp2
    exact bodyPost_ret (v := ptVal ⟨p.x, p.y, n⟩) (by simp [results, Tryz.results251, go_sem, *]) rfl ⟨rfl, (by repeat (first | exact Below.refl _ _ | assumption | refine ba_alloc ?_ _ | refine ba_drew ?_ | refine ba_drewN ?_ _ | refine ba_via (by assumption) ?_ | (refine ba_set ?_ ?_ _; rotate_left; (first | omega | (simp; omega) | simp))))⟩
set_option maxRecDepth 100000 in
set_option maxHeartbeats 4000000 in
theorem rbhull_yes (A : Option Addr) (n c : Nat) (xs : List Bx) (x0 : Bx) (B : Nat) (w : World) (hn : xs.length = n) (hm : n ≤ 1000000) (hB : B ≤ w.heap.size) (hs : Cells w B A (xs.flatMap boxC)) (h0 : xs[0]? = some x0) :
    Calls Tryz.prog 192 #[.slice A n c] w fun e w' => e = .returned (boxV (S.hull x0 xs)) ∧ Below w.heap.size w w' := by
  have hn0 : 0 < n := by have := (List.getElem?_eq_some_iff.1 h0).1; omega
  have hni : (0 : Int) < (n : Int) := by omega
  have HN := Lib.hid hn
  have HS := Lib.hid hs
  have H0 := Lib.hid h0
  obtain ⟨b, o, rfl, hb, _⟩ := hs.at_ (by rw [flat_len boxC 6 boxC_len]; omega)
  obtain ⟨c0, c1, c2, c3, c4, c5⟩ := hs.boxes h0
  simp only [Nat.zero_mul, Nat.add_zero] at c0 c1 c2 c3 c4 c5
  have hbw : b < w.heap.size := by omega
  clear hn hs h0
  go_enter Tryz.func192, Tryz.ntmps192
  go_wp2
  have hW : Below w.heap.size w ((w.alloc (.cells #[.int .i64 0, .int .i64 0, .int .i64 0, .int .i64 0, .int .i64 0, .int .i64 0] 89)).alloc (.cells #[.int .i64 x0.lo.x, .int .i64 x0.lo.y, .int .i64 x0.lo.z, .int .i64 x0.hi.x, .int .i64 x0.hi.y, .int .i64 x0.hi.z] 89)) := (by repeat (first | exact Below.refl _ _ | assumption | refine ba_alloc ?_ _ | refine ba_drew ?_ | refine ba_drewN ?_ _ | refine ba_via (by assumption) ?_ | (refine ba_set ?_ ?_ _; rotate_left; (first | omega | (simp; omega) | simp))))
  have hK0 : Blk ((w.alloc (.cells #[.int .i64 0, .int .i64 0, .int .i64 0, .int .i64 0, .int .i64 0, .int .i64 0] 89)).alloc (.cells #[.int .i64 x0.lo.x, .int .i64 x0.lo.y, .int .i64 x0.lo.z, .int .i64 x0.hi.x, .int .i64 x0.hi.y, .int .i64 x0.hi.z] 89)) (w.heap.size + 1) 89 #[.int .i64 x0.lo.x, .int .i64 x0.lo.y, .int .i64 x0.lo.z, .int .i64 x0.hi.x, .int .i64 x0.hi.y, .int .i64 x0.hi.z] := by simpa using Blk.new (w.alloc (.cells #[.int .i64 0, .int .i64 0, .int .i64 0, .int .i64 0, .int .i64 0, .int .i64 0] 89)) 89 #[.int .i64 x0.lo.x, .int .i64 x0.lo.y, .int .i64 x0.lo.z, .int .i64 x0.hi.x, .int .i64 x0.hi.y, .int .i64 x0.hi.z]
  have hR0 : Blk ((w.alloc (.cells #[.int .i64 0, .int .i64 0, .int .i64 0, .int .i64 0, .int .i64 0, .int .i64 0] 89)).alloc (.cells #[.int .i64 x0.lo.x, .int .i64 x0.lo.y, .int .i64 x0.lo.z, .int .i64 x0.hi.x, .int .i64 x0.hi.y, .int .i64 x0.hi.z] 89)) w.heap.size 89 #[.int .i64 0, .int .i64 0, .int .i64 0, .int .i64 0, .int .i64 0, .int .i64 0] := (Blk.new w _ _).alloc _
  have hzW : ((w.alloc (.cells #[.int .i64 0, .int .i64 0, .int .i64 0, .int .i64 0, .int .i64 0, .int .i64 0] 89)).alloc (.cells #[.int .i64 x0.lo.x, .int .i64 x0.lo.y, .int .i64 x0.lo.z, .int .i64 x0.hi.x, .int .i64 x0.hi.y, .int .i64 x0.hi.z] 89)).heap.size = w.heap.size + 1 + 1 := by simp
  have hC1 := HS.out.below (hW.mono hB)
  have HR0 := Lib.hid hR0
  clear c0 c1 c2 c3 c4 c5 hR0
  generalize (w.alloc (.cells #[.int .i64 0, .int .i64 0, .int .i64 0, .int .i64 0, .int .i64 0, .int .i64 0] 89)).alloc (.cells #[.int .i64 x0.lo.x, .int .i64 x0.lo.y, .int .i64 x0.lo.z, .int .i64 x0.hi.x, .int .i64 x0.hi.y, .int .i64 x0.hi.z] 89) = W1 at *
  go_loopw [4] (fun i wr => ∃ k : Nat, 1 ≤ k ∧ k ≤ n ∧ i = .int .i64 k ∧ Blk wr (w.heap.size + 1) 89 #[.int .i64 (S.hull x0 (xs.take k)).lo.x, .int .i64 (S.hull x0 (xs.take k)).lo.y, .int .i64 (S.hull x0 (xs.take k)).lo.z, .int .i64 (S.hull x0 (xs.take k)).hi.x, .int .i64 (S.hull x0 (xs.take k)).hi.y, .int .i64 (S.hull x0 (xs.take k)).hi.z] ∧ Exc [w.heap.size + 1] W1 wr) (fun i _ => n - (intOf i).toNat)
  case atStart =>
    refine ⟨1, Nat.le_refl _, by omega, rfl, ?_, Exc.refl _ _⟩
    have e1 : S.hull x0 (xs.take 1) = x0 := by
      have hx : xs.take 1 = [x0] := by
        have h0 := H0.out
        cases xs with
        | nil => simp at h0
        | cons y l => simp at h0; simp [h0]
      rw [hx]; simp [S.hull, S.join]
    rw [e1]; exact hK0
  case round =>
    obtain ⟨k, hk1, hk, rfl, hK, hX⟩ := hrel
    by_cases hlt : k < n
    · have hkx : k < xs.length := by have := HN.out; omega
      have HT := Lib.hid (show S.hull x0 (xs.take (k + 1)) = S.joinK (S.hull x0 (xs.take k)) xs[k] 3 by rw [List.take_succ_eq_append_getElem hkx, hull_snoc, joinK_3])
      have HG := Lib.hid (List.getElem?_eq_getElem hkx)
      generalize S.hull x0 (xs.take k) = Hk at *
      generalize xs[k] = X at *
      have hki : (k : Int) < (n : Int) := by omega
      have hXo := hX
      go_wp2
      go_loopw [5] (fun i wr => ∃ m : Nat, m ≤ 3 ∧ i = .int .i64 m ∧ Blk wr (w.heap.size + 1) 89 #[.int .i64 (S.joinK Hk X m).lo.x, .int .i64 (S.joinK Hk X m).lo.y, .int .i64 (S.joinK Hk X m).lo.z, .int .i64 (S.joinK Hk X m).hi.x, .int .i64 (S.joinK Hk X m).hi.y, .int .i64 (S.joinK Hk X m).hi.z] ∧ Exc [w.heap.size + 1] W1 wr) (fun i _ => 3 - (intOf i).toNat)
      case atStart => exact ⟨0, by omega, rfl, hK, hXo⟩
      case round =>
        obtain ⟨m, hm3, rfl, hM, hY⟩ := hrel
        have HM := Lib.hid hM
        have hsz := hY.size
        by_cases hlm : m < 3
        · have hmi : (m : Int) < 3 := by omega
          have HJ := Lib.hid (show S.joinK Hk X (m + 1) = S.join1 (S.joinK Hk X m) X m from rfl)
          obtain ⟨c0, c1, c2, c3, c4, c5⟩ := (hC1.below (hY.below (by have := hW.size; omega) (by intro x hx; simp at hx; omega))).boxes HG.out
          have hbr : b < wr.heap.size := by omega
          generalize S.joinK Hk X m = O at *
          have hgr := hM.lt
          have k0 := hM.cell 0
          have k1 := hM.cell 1
          have k2 := hM.cell 2
          have k3 := hM.cell 3
          have k4 := hM.cell 4
          have k5 := hM.cell 5
          have fk0 := hM.frozen 0
          have fk1 := hM.frozen 1
          have fk2 := hM.frozen 2
          have fk3 := hM.frozen 3
          have fk4 := hM.frozen 4
          have fk5 := hM.frozen 5
          simp only [List.getElem?_toArray, List.getElem?_cons_zero, List.getElem?_cons_succ] at k0 k1 k2 k3 k4 k5
          have HCL := Lib.hid (fun w => coord_any O.lo m hlm w)
          have HCH := Lib.hid (fun w => coord_any O.hi m hlm w)
          have HXL := Lib.hid (fun w => coord_any X.lo m hlm w)
          have HXH := Lib.hid (fun w => coord_any X.hi m hlm w)
          have HWL := Lib.hid (fun n w => with_any O.lo m n hlm w)
          have HWH := Lib.hid (fun n w => with_any O.hi m n hlm w)
          unfold ptVal at HCL HCH HXL HXH HWL HWH
          go_wp2
          obtain ⟨P, hP⟩ : ∃ P, P = S.setc O.lo m (S.mn (S.co O.lo m) (S.co X.lo m)) := ⟨_, rfl⟩
          obtain ⟨Q, hQ⟩ : ∃ P, P = S.setc O.hi m (S.mx (S.co O.hi m) (S.co X.hi m)) := ⟨_, rfl⟩
          have HJ2 := Lib.hid (show S.join1 O X m = ⟨P, Q⟩ by rw [hP, hQ]; rfl)
          refine wp_region_grow_tail 17 (by kernel_rfl) (by kernel_rfl) ?_
          simp only [List.take_succ_cons, List.take_zero, List.drop_succ_cons, List.drop_zero]
          repeat (go_big_quiet_step ((first | (go_at_call 180; with_reducible exact grow_of (HCL.out _)) | (go_at_call 180; with_reducible exact grow_of (HXL.out _)) | (go_at_call 251; with_reducible exact grow_of (HWL.out _ _)))))
          all_goals (refine wpQuiet_nil ?_; intro wg hbwg; obtain ⟨hcwg, hfwg⟩ := bcell hbwg)
          go_wp2
          all_goals (
            first
              | (have e : S.setc O.lo m (S.co X.lo m) = P := (by rw [hP, S.mn, if_pos (by omega)])
                 rw [e])
              | (have e : S.setc O.lo m (S.co O.lo m) = P := (by rw [hP, S.mn, if_neg (by omega)])
                 rw [e])
            have hM1 : Blk (((wg.setCell ⟨w.heap.size + 1, 0, none⟩ (.int .i64 P.x)).setCell ⟨w.heap.size + 1, 1, none⟩ (.int .i64 P.y)).setCell ⟨w.heap.size + 1, 2, none⟩ (.int .i64 P.z)) (w.heap.size + 1) 89 #[.int .i64 P.x, .int .i64 P.y, .int .i64 P.z, .int .i64 O.hi.x, .int .i64 O.hi.y, .int .i64 O.hi.z] := by
              have h6 := (((HM.out.via hbwg).set 0 (.int .i64 P.x)).set 1 (.int .i64 P.y)).set 2 (.int .i64 P.z)
              simp only [List.setIfInBounds_toArray, List.set_cons_zero, List.set_cons_succ] at h6
              exact h6
            have hY1 : Exc [w.heap.size + 1] W1 (((wg.setCell ⟨w.heap.size + 1, 0, none⟩ (.int .i64 P.x)).setCell ⟨w.heap.size + 1, 1, none⟩ (.int .i64 P.y)).setCell ⟨w.heap.size + 1, 2, none⟩ (.int .i64 P.z)) := (((Exc.via hbwg hY).set (.inl (by simp)) _).set (.inl (by simp)) _).set (.inl (by simp)) _
            clear hcwg hfwg
            clear c0 c1 c2 c3 c4 c5 k0 k1 k2 k3 k4 k5 fk0 fk1 fk2 fk3 fk4 fk5 hgr hM hbr
            clear hbwg
            generalize (((wg.setCell ⟨w.heap.size + 1, 0, none⟩ (.int .i64 P.x)).setCell ⟨w.heap.size + 1, 1, none⟩ (.int .i64 P.y)).setCell ⟨w.heap.size + 1, 2, none⟩ (.int .i64 P.z)) = W2 at *
            obtain ⟨c0, c1, c2, c3, c4, c5⟩ := (hC1.below (hY1.below (by have := hW.size; omega) (by intro x hx; simp at hx; omega))).boxes HG.out
            have hsz1 := hY1.size
            have hbr : b < W2.heap.size := by omega
            have hgr := hM1.lt
            have k0 := hM1.cell 0
            have k1 := hM1.cell 1
            have k2 := hM1.cell 2
            have k3 := hM1.cell 3
            have k4 := hM1.cell 4
            have k5 := hM1.cell 5
            have fk0 := hM1.frozen 0
            have fk1 := hM1.frozen 1
            have fk2 := hM1.frozen 2
            have fk3 := hM1.frozen 3
            have fk4 := hM1.frozen 4
            have fk5 := hM1.frozen 5
            simp only [List.getElem?_toArray, List.getElem?_cons_zero, List.getElem?_cons_succ] at k0 k1 k2 k3 k4 k5
            have HM1 := Lib.hid hM1
            refine wp_region_grow_tail 17 (by kernel_rfl) (by kernel_rfl) ?_
            simp only [List.take_succ_cons, List.take_zero, List.drop_succ_cons, List.drop_zero]
            repeat (go_big_quiet_step ((first | (go_at_call 180; with_reducible exact grow_of (HCH.out _)) | (go_at_call 180; with_reducible exact grow_of (HXH.out _)) | (go_at_call 251; with_reducible exact grow_of (HWH.out _ _)))))
            all_goals (refine wpQuiet_nil ?_; intro wh hbwh; obtain ⟨hcwh, hfwh⟩ := bcell hbwh)
            go_wp2)
          all_goals (
            first
              | (have e : S.setc O.hi m (if S.co O.hi m < S.co X.hi m then S.co X.hi m else S.co O.hi m) = Q := hQ.symm
                 rw [e])
              | (have e : S.setc O.hi m (S.co X.hi m) = Q := (by rw [hQ, S.mx, if_pos (by omega)])
                 rw [e])
              | (have e : S.setc O.hi m (S.co O.hi m) = Q := (by rw [hQ, S.mx, if_neg (by omega)])
                 rw [e])
            have hM2 : Blk (((wh.setCell ⟨w.heap.size + 1, 3, none⟩ (.int .i64 Q.x)).setCell ⟨w.heap.size + 1, 4, none⟩ (.int .i64 Q.y)).setCell ⟨w.heap.size + 1, 5, none⟩ (.int .i64 Q.z)) (w.heap.size + 1) 89 #[.int .i64 P.x, .int .i64 P.y, .int .i64 P.z, .int .i64 Q.x, .int .i64 Q.y, .int .i64 Q.z] := by
              have h6 := (((HM1.out.via hbwh).set 3 (.int .i64 Q.x)).set 4 (.int .i64 Q.y)).set 5 (.int .i64 Q.z)
              simp only [List.setIfInBounds_toArray, List.set_cons_zero, List.set_cons_succ] at h6
              exact h6
            have hY2 : Exc [w.heap.size + 1] W1 (((wh.setCell ⟨w.heap.size + 1, 3, none⟩ (.int .i64 Q.x)).setCell ⟨w.heap.size + 1, 4, none⟩ (.int .i64 Q.y)).setCell ⟨w.heap.size + 1, 5, none⟩ (.int .i64 Q.z)) := (((Exc.via hbwh hY1).set (.inl (by simp)) _).set (.inl (by simp)) _).set (.inl (by simp)) _
            clear hcwh hfwh
            go_roundw
            case rel =>
              refine ⟨m + 1, by omega, by go_num, ?_, hY2⟩
              rw [HJ.out, HJ2.out]
              exact hM2
            case measure => simp [intOf]; omega)
        · have he : m = 3 := by omega
          subst he
          go_wp2
          go_roundw
          case rel =>
            refine ⟨k + 1, by omega, by omega, by go_num, ?_, hY⟩
            rw [HT.out]
            exact HM.out
          case measure => simp [intOf]; omega
    · have he : k = n := by omega
      subst he
      have ht : xs.take k = xs := List.take_of_length_le (by have := HN.out; omega)
      rw [ht] at hK
      have hsz := hX.size
      have hgr := hK.lt
      generalize hH : S.hull x0 xs = Hk at *
      have HH := Lib.hid hH
      clear hH
      have hRr := (hX.block w.heap.size (by omega) (by simp)).trans HR0.out
      have hRr : Blk wr w.heap.size 89 #[.int .i64 0, .int .i64 0, .int .i64 0, .int .i64 0, .int .i64 0, .int .i64 0] := hRr
      have k0 := hK.cell 0
      have f0 := hK.frozen 0
      have z0 := hRr.cell 0
      have y0 := hRr.frozen 0
      have k1 := hK.cell 1
      have f1 := hK.frozen 1
      have z1 := hRr.cell 1
      have y1 := hRr.frozen 1
      have k2 := hK.cell 2
      have f2 := hK.frozen 2
      have z2 := hRr.cell 2
      have y2 := hRr.frozen 2
      have k3 := hK.cell 3
      have f3 := hK.frozen 3
      have z3 := hRr.cell 3
      have y3 := hRr.frozen 3
      have k4 := hK.cell 4
      have f4 := hK.frozen 4
      have z4 := hRr.cell 4
      have y4 := hRr.frozen 4
      have k5 := hK.cell 5
      have f5 := hK.frozen 5
      have z5 := hRr.cell 5
      have y5 := hRr.frozen 5
      simp only [List.getElem?_toArray, List.getElem?_cons_zero, List.getElem?_cons_succ] at z0 z1 z2 z3 z4 z5 k0 k1 k2 k3 k4 k5
      have hrl := hRr.lt
      have hbel : Below w.heap.size w wr := hW.trans (hX.below (by omega) (by intro x hx; simp at hx; omega))
      clear hRr
      go_wp2
      exact bodyPost_ret (v := boxV Hk) (by simp [results, Tryz.results192, go_sem, *]) rfl ⟨by rw [HH.out], ((((((hbel.setCell (Nat.le_refl _) _).setCell (Nat.le_refl _) _).setCell (Nat.le_refl _) _).setCell (Nat.le_refl _) _).setCell (Nat.le_refl _) _).setCell (Nat.le_refl _) _)⟩
end Go.Proofs.YtffkmgjmlahfpaaGreat
set_option linter.unusedVariables false
set_option linter.unusedSimpArgs false
namespace Go.Proofs.YtffkmgjmlahfpaaGreat
open Go.RowKit
/-- The lowest coordinate of boxes. -/
def S.low (x0 : Bx) (xs : List Bx) : Int := (S.hull x0 xs).lo.z
def S.poor (xs : List Bx) (leg : Bx) : Bool := decide (250 < leg.lo.z - (S.hull (xs.headD ⟨⟨0, 0, 0⟩, ⟨0, 0, 0⟩⟩) xs).lo.z)
theorem hull_lo_in (a : Bx) (l : List Bx) (h0 : -1048576 ≤ a.lo.z ∧ a.lo.z ≤ 1048576) (h : ∀ b, b ∈ l → -1048576 ≤ b.lo.z ∧ b.lo.z ≤ 1048576) : -1048576 ≤ (S.hull a l).lo.z ∧ (S.hull a l).lo.z ≤ 1048576 := by
  induction l generalizing a with
  | nil => exact h0
  | cons x l ih =>
    have e : S.hull a (x :: l) = S.hull (S.join a x) l := rfl
    rw [e]
    refine ih _ ?_ (fun b hb => h b (List.mem_cons_of_mem _ hb))
    have hx := h x List.mem_cons_self
    simp only [S.join]
    split <;> omega
theorem boxOk_z {b : Bx} (h : S.boxOk b = true) : -1048576 ≤ b.lo.z ∧ b.lo.z ≤ b.hi.z ∧ b.hi.z ≤ 1048576 := by
  simp only [S.boxOk, S.okAx, Bool.and_eq_true, decide_eq_true_eq] at h
  omega
theorem boxes_ok {xs : List Bx} (h : anyb xs S.boxNot = false) : ∀ b, b ∈ xs → S.boxOk b = true := by
  intro b hb
  unfold anyb at h
  rw [List.any_eq_false] at h
  have := h b hb
  simpa [S.boxNot] using this
theorem poor_yes (m : Mem) (leg : Bx) (A : Option Addr) (n c : Nat) (A' : Option Addr) (n' c' : Nat) (B : Nat) (w : World) (hB : B ≤ w.heap.size) (hA : SolAt w B A n A' n' m.boxes m.holes) (h : S.solid m.boxes m.holes = true) (hl : S.boxOk leg = true) :
    Calls Tryz.prog 125 #[memV m A n c A' n' c', boxV leg] w fun e w' => e = .returned (.bool (S.poor m.boxes leg)) ∧ Below w.heap.size w w' := by
  have HA := Lib.hid hA
  obtain ⟨hok, hlen⟩ := solid_ok h
  have h0 : m.boxes[0]? = some (m.boxes.headD ⟨⟨0, 0, 0⟩, ⟨0, 0, 0⟩⟩) := by
    cases hb : m.boxes with
    | nil => rw [hb] at hlen; simp at hlen
    | cons x l => rfl
  have hz := boxOk_z hl
  have hin := hull_lo_in (m.boxes.headD ⟨⟨0, 0, 0⟩, ⟨0, 0, 0⟩⟩) m.boxes (by have := boxOk_z (boxes_ok hok _ (List.mem_of_getElem? h0)); omega) (fun b hb => by have := boxOk_z (boxes_ok hok b hb); omega)
  have HP := Lib.hid (show S.poor m.boxes leg = decide (250 < leg.lo.z - (S.hull (m.boxes.headD ⟨⟨0, 0, 0⟩, ⟨0, 0, 0⟩⟩) m.boxes).lo.z) from rfl)
  have HH := Lib.hid (fun (W : World) (hw : B ≤ W.heap.size) (hh : SolAt W B A n A' n' m.boxes m.holes) => shull_yes A n c A' n' c' m.boxes m.holes _ B W hw hh h h0 hok)
  clear hA
  generalize S.hull (m.boxes.headD ⟨⟨0, 0, 0⟩, ⟨0, 0, 0⟩⟩) m.boxes = X at *
  have e1 : IntKind.i64.wrap (leg.lo.z - X.lo.z) = leg.lo.z - X.lo.z := IntWalk.i64_in _ (by omega)
  unfold memV boxV
  go_enter Tryz.func125, Tryz.ntmps125
  go_wp2_with (go_at_call 191; (with_reducible refine (HH.out _ (size_via hB (by repeat (first | exact Below.refl _ _ | assumption | refine ba_alloc ?_ _ | refine ba_drew ?_ | refine ba_drewN ?_ _ | refine ba_via (by assumption) ?_ | (refine ba_set ?_ ?_ _; rotate_left; (first | omega | (simp; omega) | simp))))) (SolAt.at_ HA.out hB (by repeat (first | exact Below.refl _ _ | assumption | refine ba_alloc ?_ _ | refine ba_drew ?_ | refine ba_drewN ?_ _ | refine ba_via (by assumption) ?_ | (refine ba_set ?_ ?_ _; rotate_left; (first | omega | (simp; omega) | simp)))))).mono ?_); rintro e w1 ⟨rfl, hbw1⟩; obtain ⟨hcw1, hfw1⟩ := bcell hbw1; have hzw1_0 : w.heap.size < w1.heap.size := lt_via hbw1 (by first | omega | (simp; done) | (simp; omega)); have hzw1_1 : w.heap.size + 1 < w1.heap.size := lt_via hbw1 (by first | omega | (simp; done) | (simp; omega)))
  go_ret
  exact ⟨ret_b HP.out.symm, (by repeat (first | exact Below.refl _ _ | assumption | refine ba_alloc ?_ _ | refine ba_drew ?_ | refine ba_drewN ?_ _ | refine ba_via (by assumption) ?_ | (refine ba_set ?_ ?_ _; rotate_left; (first | omega | (simp; omega) | simp))))⟩
def S.poorOk (m : Mem) (leg : Bx) : Bool := S.member m && S.boxOk leg
theorem Poor_no (m : Mem) (leg : Bx) (A : Option Addr) (n c : Nat) (A' : Option Addr) (n' c' : Nat) (B : Nat) (w : World) (hB : B ≤ w.heap.size) (hA : SolAt w B A n A' n' m.boxes m.holes) (hk : m.name.size ≤ 9223372036854775807) (h : S.poorOk m leg = false) :
    Calls Tryz.prog 66 #[memV m A n c A' n' c', boxV leg] w fun e w' => e = .returned (.tuple #[.bool false, .int .i64 1]) ∧ Below w.heap.size w w' := by
  have HA := Lib.hid hA
  have HM := Lib.hid (fun (W : World) (hw : B ≤ W.heap.size) (hh : SolAt W B A n A' n' m.boxes m.holes) => smember_any m A n c A' n' c' B W hw hh hk)
  have HV := Lib.hid (fun w => bvalid_any leg w)
  unfold S.poorOk at h
  clear hA
  generalize S.member m = t1 at *
  generalize S.boxOk leg = t2 at *
  unfold memV boxV
  cases t1 <;> cases t2
  case true.true => cases h
  all_goals (
    go_enter Tryz.func66, Tryz.ntmps66
    go_wp2_with (first
      | (go_at_call 119; (with_reducible refine (HM.out _ (size_via hB (by repeat (first | exact Below.refl _ _ | assumption | refine ba_alloc ?_ _ | refine ba_drew ?_ | refine ba_drewN ?_ _ | refine ba_via (by assumption) ?_ | (refine ba_set ?_ ?_ _; rotate_left; (first | omega | (simp; omega) | simp))))) (SolAt.at_ HA.out hB (by repeat (first | exact Below.refl _ _ | assumption | refine ba_alloc ?_ _ | refine ba_drew ?_ | refine ba_drewN ?_ _ | refine ba_via (by assumption) ?_ | (refine ba_set ?_ ?_ _; rotate_left; (first | omega | (simp; omega) | simp)))))).mono ?_); rintro e w1 ⟨rfl, hbw1⟩; obtain ⟨hcw1, hfw1⟩ := bcell hbw1; have hzw1_0 : w.heap.size < w1.heap.size := lt_via hbw1 (by first | omega | (simp; done) | (simp; omega)); have hzw1_1 : w.heap.size + 1 < w1.heap.size := lt_via hbw1 (by first | omega | (simp; done) | (simp; omega)))
      | (go_at_call 107; (with_reducible refine (HV.out _).mono ?_); rintro e w2 ⟨rfl, hbw2⟩; obtain ⟨hcw2, hfw2⟩ := bcell hbw2; have hzw2_0 : w.heap.size < w2.heap.size := lt_via hbw2 (by first | omega | (simp; done) | (simp; omega)); have hzw2_1 : w.heap.size + 1 < w2.heap.size := lt_via hbw2 (by first | omega | (simp; done) | (simp; omega))))
    go_ret2
    exact ⟨rfl, (by repeat (first | exact Below.refl _ _ | assumption | refine ba_alloc ?_ _ | refine ba_drew ?_ | refine ba_drewN ?_ _ | refine ba_via (by assumption) ?_ | (refine ba_set ?_ ?_ _; rotate_left; (first | omega | (simp; omega) | simp))))⟩)
theorem Poor_yes (m : Mem) (leg : Bx) (A : Option Addr) (n c : Nat) (A' : Option Addr) (n' c' : Nat) (B : Nat) (w : World) (hB : B ≤ w.heap.size) (hA : SolAt w B A n A' n' m.boxes m.holes) (hk : m.name.size ≤ 9223372036854775807) (h : S.poorOk m leg = true) :
    Calls Tryz.prog 66 #[memV m A n c A' n' c', boxV leg] w fun e w' => e = .returned (.tuple #[.bool (S.poor m.boxes leg), .int .i64 0]) ∧ Below w.heap.size w w' := by
  have HA := Lib.hid hA
  simp only [S.poorOk, Bool.and_eq_true] at h
  have hso : S.solid m.boxes m.holes = true := by
    have := h.1
    simp only [S.member, Bool.and_eq_true] at this
    exact this.1.1.1.2
  have HM := Lib.hid (fun (W : World) (hw : B ≤ W.heap.size) (hh : SolAt W B A n A' n' m.boxes m.holes) => h.1 ▸ smember_any m A n c A' n' c' B W hw hh hk)
  have HV := Lib.hid (fun w => h.2 ▸ bvalid_any leg w)
  have HP := Lib.hid (fun (W : World) (hw : B ≤ W.heap.size) (hh : SolAt W B A n A' n' m.boxes m.holes) => poor_yes m leg A n c A' n' c' B W hw hh hso h.2)
  clear hA h
  generalize S.poor m.boxes leg = t at *
  unfold memV boxV
  go_enter Tryz.func66, Tryz.ntmps66
  go_wp2_with (first
    | (go_at_call 119; (with_reducible refine (HM.out _ (size_via hB (by repeat (first | exact Below.refl _ _ | assumption | refine ba_alloc ?_ _ | refine ba_drew ?_ | refine ba_drewN ?_ _ | refine ba_via (by assumption) ?_ | (refine ba_set ?_ ?_ _; rotate_left; (first | omega | (simp; omega) | simp))))) (SolAt.at_ HA.out hB (by repeat (first | exact Below.refl _ _ | assumption | refine ba_alloc ?_ _ | refine ba_drew ?_ | refine ba_drewN ?_ _ | refine ba_via (by assumption) ?_ | (refine ba_set ?_ ?_ _; rotate_left; (first | omega | (simp; omega) | simp)))))).mono ?_); rintro e w1 ⟨rfl, hbw1⟩; obtain ⟨hcw1, hfw1⟩ := bcell hbw1; have hzw1_0 : w.heap.size < w1.heap.size := lt_via hbw1 (by first | omega | (simp; done) | (simp; omega)); have hzw1_1 : w.heap.size + 1 < w1.heap.size := lt_via hbw1 (by first | omega | (simp; done) | (simp; omega)))
    | (go_at_call 107; (with_reducible refine (HV.out _).mono ?_); rintro e w2 ⟨rfl, hbw2⟩; obtain ⟨hcw2, hfw2⟩ := bcell hbw2; have hzw2_0 : w.heap.size < w2.heap.size := lt_via hbw2 (by first | omega | (simp; done) | (simp; omega)); have hzw2_1 : w.heap.size + 1 < w2.heap.size := lt_via hbw2 (by first | omega | (simp; done) | (simp; omega)))
    | (go_at_call 125; (with_reducible refine (HP.out _ (size_via hB (by repeat (first | exact Below.refl _ _ | assumption | refine ba_alloc ?_ _ | refine ba_drew ?_ | refine ba_drewN ?_ _ | refine ba_via (by assumption) ?_ | (refine ba_set ?_ ?_ _; rotate_left; (first | omega | (simp; omega) | simp))))) (SolAt.at_ HA.out hB (by repeat (first | exact Below.refl _ _ | assumption | refine ba_alloc ?_ _ | refine ba_drew ?_ | refine ba_drewN ?_ _ | refine ba_via (by assumption) ?_ | (refine ba_set ?_ ?_ _; rotate_left; (first | omega | (simp; omega) | simp)))))).mono ?_); rintro e w3 ⟨rfl, hbw3⟩; obtain ⟨hcw3, hfw3⟩ := bcell hbw3; have hzw3_0 : w.heap.size < w3.heap.size := lt_via hbw3 (by first | omega | (simp; done) | (simp; omega)); have hzw3_1 : w.heap.size + 1 < w3.heap.size := lt_via hbw3 (by first | omega | (simp; done) | (simp; omega))))
  go_ret2
  exact ⟨rfl, (by repeat (first | exact Below.refl _ _ | assumption | refine ba_alloc ?_ _ | refine ba_drew ?_ | refine ba_drewN ?_ _ | refine ba_via (by assumption) ?_ | (refine ba_set ?_ ?_ _; rotate_left; (first | omega | (simp; omega) | simp))))⟩
end Go.Proofs.YtffkmgjmlahfpaaGreat
set_option linter.unusedVariables false
set_option linter.unusedSimpArgs false
namespace Go.Proofs.YtffkmgjmlahfpaaGreat
open Go.RowKit
theorem rletter_any (c : Int) (w : World) (h0 : 0 ≤ c) (h1 : c ≤ 255) : Calls Tryz.prog 171 #[.int .u8 c] w fun e w' => e = .returned (.bool (S.letter c)) ∧ w = w' := by
  have H := Lib.hid (show S.letter c = (decide (97 ≤ c) && decide (c ≤ 122) || decide (65 ≤ c) && decide (c ≤ 90)) from rfl)
  go_enter Tryz.func171, Tryz.ntmps171
  go_wp2
  all_goals (go_ret; exact ⟨ret_b (by rw [H.out, Bool.eq_iff_iff]; simp; omega), rfl⟩)
theorem rdigit_any (c : Int) (w : World) (h0 : 0 ≤ c) (h1 : c ≤ 255) : Calls Tryz.prog 229 #[.int .u8 c] w fun e w' => e = .returned (.bool (S.digit c)) ∧ w = w' := by
  have H := Lib.hid (show S.digit c = (decide (48 ≤ c) && decide (c ≤ 57)) from rfl)
  go_enter Tryz.func229, Tryz.ntmps229
  go_wp2
  all_goals (go_ret; exact ⟨ret_b (by rw [H.out, Bool.eq_iff_iff]; simp; omega), rfl⟩)
set_option maxHeartbeats 1000000 in
theorem rword_any (s : ByteArray) (w : World) (hs : s.size ≤ 9223372036854775807) : Calls Tryz.prog 172 #[.string s, .int .i64 0] w fun e w' => e = .returned (.int .i64 (S.wordl s.data.toList : Nat)) ∧ w = w' := by
  go_enter Tryz.func172, Tryz.ntmps172
  go_wp2
  go_loop [1] (fun i => ∃ k : Nat, k ≤ s.size ∧ i = .int .i64 k ∧ Hid (∀ j c, j < k → s.data.toList[j]? = some c → S.wordc c.toNat = true)) (fun i => s.size - (intOf i).toNat)
  case atStart => exact ⟨0, Nat.zero_le _, rfl, Lib.hid fun j c hj => absurd hj (by omega)⟩
  case round =>
    obtain ⟨k, hk, rfl, HNO⟩ := hrel
    by_cases hlt : k < s.size
    · have hb := byte_bd s[k]
      have hget : s.data.toList[k]? = some s[k] := by simp [hlt]; rfl
      have HG := Lib.hid hget
      clear hget
      cases hl : S.letter s[k].toNat <;> cases hd : S.digit s[k].toNat <;> cases hu : ((s[k].toNat : Int) == 95)
      all_goals
        go_wp2_with (first
          | (go_at_call 171; (with_reducible refine (rletter_any _ _ hb.1 hb.2).mono ?_); rintro e w' ⟨rfl, rfl⟩)
          | (go_at_call 229; (with_reducible refine (rdigit_any _ _ hb.1 hb.2).mono ?_); rintro e w' ⟨rfl, rfl⟩))
        first
          | (go_ret
             exact ⟨ret_i (by rw [wordl_stop (k := k) HNO.out (by simp; omega) (.inr ⟨_, HG.out, by simp [S.wordc, hl, hd, hu]⟩)]), rfl⟩)
          | (go_round
             case rel => exact ⟨k + 1, by omega, by go_num, Lib.hid (wordl_more HNO.out HG.out (by simp [S.wordc, hl, hd, hu]))⟩
             case measure => simp [intOf]; omega)
    · go_wp2
      go_ret
      exact ⟨ret_i (by rw [wordl_stop (k := k) HNO.out (by simp; omega) (.inl (by simp; omega))]), rfl⟩
set_option maxHeartbeats 1000000 in
theorem risname_any (s : ByteArray) (w : World) (hs : s.size ≤ 9223372036854775807) : Calls Tryz.prog 112 #[.string s] w fun e w' => e = .returned (.bool (S.isName s)) ∧ w = w' := by
  have H := Lib.hid (show S.isName s = (!(s.size == 0) && decide (s.size ≤ 20) && S.letter ((s.data.toList.headD 0).toNat) && S.wordl s.data.toList == s.size) from rfl)
  have hwl := wordl_le s.data.toList
  rw [show s.data.toList.length = s.size from rfl] at hwl
  by_cases h0 : s.size = 0
  · have he : s.toList = [] := by rw [Go.ByteArray.toList_eq]; exact List.eq_nil_of_length_eq_zero h0
    have he2 : s.toList.isEmpty = true := by rw [he]; rfl
    have hz : ((s.size : Int) == 0) = true := beq_iff_eq.2 (by omega)
    have H0 := Lib.hid h0
    clear h0
    go_enter Tryz.func112, Tryz.ntmps112
    go_wp2
    go_ret
    exact ⟨ret_b (by rw [H.out, H0.out]; simp), rfl⟩
  · have hlt : 0 < s.size := by omega
    have he2 : s.toList.isEmpty = false := by
      rw [Go.ByteArray.toList_eq]
      cases hl : s.data.toList with
      | nil => exact absurd (congrArg List.length hl) h0
      | cons x l => rfl
    have hz : ((s.size : Int) == 0) = false := beq_eq_false_iff_ne.2 (by omega)
    have hb := byte_bd s[0]
    have hh : s.data.toList.headD 0 = s[0] := by
      have hg : s.data.toList[0]? = some s[0] := by simp [hlt]; rfl
      cases hl : s.data.toList with
      | nil => rw [hl] at hg; simp at hg
      | cons x l => rw [hl] at hg; simp at hg; simpa using hg
    have HH := Lib.hid hh
    have H0 := Lib.hid h0
    clear h0 hh
    by_cases h20 : s.size ≤ 20
    · have h20' : decide ((s.size : Int) ≤ 20) = true := by simp; omega
      have h20'' : decide ((20 : Int) < s.size) = false := by simp; omega
      cases hl : S.letter s[0].toNat
      · go_enter Tryz.func112, Tryz.ntmps112
        go_wp2_with (go_at_call 171; (with_reducible refine (rletter_any _ _ hb.1 hb.2).mono ?_); rintro e w' ⟨rfl, rfl⟩)
        go_ret
        exact ⟨ret_b (by rw [H.out, HH.out, hl]; simp), rfl⟩
      · cases hw : (S.wordl s.data.toList == s.size)
        · have hw2 : (((S.wordl s.data.toList : Nat) : Int) == (s.size : Int)) = false := by simp at hw ⊢; omega
          go_enter Tryz.func112, Tryz.ntmps112
          go_wp2_with (first
            | (go_at_call 171; (with_reducible refine (rletter_any _ _ hb.1 hb.2).mono ?_); rintro e w' ⟨rfl, rfl⟩)
            | (go_at_call 172; (with_reducible refine (rword_any s _ hs).mono ?_); rintro e w' ⟨rfl, rfl⟩))
          go_ret
          exact ⟨ret_b (by rw [H.out, HH.out, hl, hw]; simp), rfl⟩
        · have hw2 : (((S.wordl s.data.toList : Nat) : Int) == (s.size : Int)) = true := by simp at hw ⊢; omega
          go_enter Tryz.func112, Tryz.ntmps112
          go_wp2_with (first
            | (go_at_call 171; (with_reducible refine (rletter_any _ _ hb.1 hb.2).mono ?_); rintro e w' ⟨rfl, rfl⟩)
            | (go_at_call 172; (with_reducible refine (rword_any s _ hs).mono ?_); rintro e w' ⟨rfl, rfl⟩))
          go_ret
          exact ⟨ret_b (by rw [H.out, HH.out, hl, hw]; simp [H0.out, h20]), rfl⟩
    · have h20' : decide ((s.size : Int) ≤ 20) = false := by simp; omega
      have h20'' : decide ((20 : Int) < s.size) = true := by simp; omega
      go_enter Tryz.func112, Tryz.ntmps112
      go_wp2
      go_ret
      exact ⟨ret_b (by rw [H.out]; simp [h20]), rfl⟩
end Go.Proofs.YtffkmgjmlahfpaaGreat
set_option linter.unusedVariables false
set_option linter.unusedSimpArgs false
namespace Go.Proofs.YtffkmgjmlahfpaaGreat
open Go.RowKit
theorem anyb_of {α : Type} {xs : List α} {p : α → Bool} {k : Nat} (hk : k < xs.length) (h : p xs[k] = true) : anyb xs p = true := by
  unfold anyb
  rw [List.any_eq_true]
  exact ⟨_, List.getElem_mem hk, h⟩
theorem anyb_not {α : Type} {xs : List α} {p : α → Bool} (h : ∀ j (hj : j < xs.length), p xs[j] = false) : anyb xs p = false := by
  unfold anyb
  rw [List.any_eq_false]
  intro x hx
  obtain ⟨j, hj, rfl⟩ := List.mem_iff_getElem.1 hx
  simp [h j hj]
set_option maxHeartbeats 1000000 in
theorem rthick_any (b : Bx) (w : World) :
    Calls Tryz.prog 173 #[boxV b] w fun e w' => e = .returned (.bool (S.thick b)) ∧ Below w.heap.size w w' := by
  have HV := Lib.hid (fun w => rbvalid_any b w)
  have H := Lib.hid (show S.thick b = (S.boxOk b && decide (b.lo.x < b.hi.x) && decide (b.lo.y < b.hi.y) && decide (b.lo.z < b.hi.z)) from rfl)
  generalize S.boxOk b = t at *
  unfold boxV
  cases t
  all_goals (
    go_enter Tryz.func173, Tryz.ntmps173
    go_wp2_with (go_at_call 117; (with_reducible refine (HV.out _).mono ?_); rintro e w1 ⟨rfl, hbw1⟩; obtain ⟨hcw1, hfw1⟩ := bcell hbw1; have hzw1_0 : w.heap.size < w1.heap.size := lt_via hbw1 (by first | omega | (simp; done) | (simp; omega)))
    all_goals (go_ret; exact ⟨ret_b (by rw [H.out, Bool.eq_iff_iff]; all_goals (first | (simp; done) | (simp; omega))), (by repeat (first | exact Below.refl _ _ | assumption | refine ba_alloc ?_ _ | refine ba_drew ?_ | refine ba_drewN ?_ _ | refine ba_via (by assumption) ?_ | (refine ba_set ?_ ?_ _; rotate_left; (first | omega | (simp; omega) | simp))))⟩))
set_option maxRecDepth 100000 in
set_option maxHeartbeats 4000000 in
theorem rsvalid_any (A : Option Addr) (n c : Nat) (A' : Option Addr) (n' c' : Nat) (xs hs : List Bx) (B : Nat) (w : World) (hB : B ≤ w.heap.size) (hA : SolAt w B A n A' n' xs hs) :
    Calls Tryz.prog 113 #[solV A n c A' n' c'] w fun e w' => e = .returned (.bool (S.solid xs hs)) ∧ Below w.heap.size w w' := by
  have HA := Lib.hid hA
  have hm := hA.max
  have hm' := hA.max'
  have H := Lib.hid (show S.solid xs hs = (decide (1 ≤ n) && decide (n ≤ 20) && decide (n' ≤ 20) && !anyb xs S.thin && !anyb hs S.thin) by unfold S.solid; rw [hA.len, hA.len'])
  clear hA
  unfold solV
  by_cases hbad : n < 1 ∨ 20 < n ∨ 20 < n'
  · have HF : Hid (S.solid xs hs = false) := Lib.hid (by
      rw [H.out]
      rcases hbad with h | h | h
      · have : decide (1 ≤ n) = false := by simp; omega
        simp [this]
      · have : decide (n ≤ 20) = false := by simp; omega
        simp [this]
      · have : decide (n' ≤ 20) = false := by simp; omega
        simp [this])
    by_cases h1 : (n : Int) < 1
    · go_enter Tryz.func113, Tryz.ntmps113
      go_wp2
      go_ret
      exact ⟨ret_b HF.out.symm, (by repeat (first | exact Below.refl _ _ | assumption | refine ba_alloc ?_ _ | refine ba_drew ?_ | refine ba_drewN ?_ _ | refine ba_via (by assumption) ?_ | (refine ba_set ?_ ?_ _; rotate_left; (first | omega | (simp; omega) | simp))))⟩
    · by_cases h2 : (20 : Int) < n
      · go_enter Tryz.func113, Tryz.ntmps113
        go_wp2
        go_ret
        exact ⟨ret_b HF.out.symm, (by repeat (first | exact Below.refl _ _ | assumption | refine ba_alloc ?_ _ | refine ba_drew ?_ | refine ba_drewN ?_ _ | refine ba_via (by assumption) ?_ | (refine ba_set ?_ ?_ _; rotate_left; (first | omega | (simp; omega) | simp))))⟩
      · have h3 : (20 : Int) < n' := by omega
        go_enter Tryz.func113, Tryz.ntmps113
        go_wp2
        go_ret
        exact ⟨ret_b HF.out.symm, (by repeat (first | exact Below.refl _ _ | assumption | refine ba_alloc ?_ _ | refine ba_drew ?_ | refine ba_drewN ?_ _ | refine ba_via (by assumption) ?_ | (refine ba_set ?_ ?_ _; rotate_left; (first | omega | (simp; omega) | simp))))⟩
  · have g1 : ¬ (n : Int) < 1 := by omega
    have g2 : ¬ (20 : Int) < n := by omega
    have g3 : ¬ (20 : Int) < n' := by omega
    clear hbad
    go_enter Tryz.func113, Tryz.ntmps113
    go_wp2
    have hB0 : Blk (w.alloc (.cells #[.slice A n c, .slice A' n' c'] 24)) w.heap.size 24 #[.slice A n c, .slice A' n' c'] := Blk.new _ _ _
    have hW0 : Below w.heap.size w (w.alloc (.cells #[.slice A n c, .slice A' n' c'] 24)) := (by repeat (first | exact Below.refl _ _ | assumption | refine ba_alloc ?_ _ | refine ba_drew ?_ | refine ba_drewN ?_ _ | refine ba_via (by assumption) ?_ | (refine ba_set ?_ ?_ _; rotate_left; (first | omega | (simp; omega) | simp))))
    have HB0 := Lib.hid hB0
    clear hB0
    generalize w.alloc (.cells #[.slice A n c, .slice A' n' c'] 24) = W0 at *
    go_loopw [3] (fun i wr => ∃ k : Nat, k ≤ n ∧ i = .int .i64 k ∧ Hid (∀ j (h : j < xs.length), j < k → S.thin xs[j] = false) ∧ Below W0.heap.size W0 wr) (fun i _ => n - (intOf i).toNat)
    case atStart => exact ⟨0, Nat.zero_le _, rfl, Lib.hid fun j _ hj => absurd hj (by omega), Below.refl _ _⟩
    case round =>
      obtain ⟨k, hk, rfl, HNO, hbr⟩ := hrel
      have hBk := HB0.out.via hbr
      have x0 := hBk.cell 0
      have x1 := hBk.cell 1
      simp only [List.getElem?_toArray, List.getElem?_cons_zero, List.getElem?_cons_succ] at x0 x1
      have hBl := hBk.lt
      clear hBk
      by_cases hlt : k < n
      · have hki : (k : Int) < (n : Int) := by omega
        have hkx : k < xs.length := by have := HA.out.len; omega
        have hs' := (HA.out.below ((ba_via hbr hW0).mono hB)).cells
        obtain ⟨b, o, rfl, _, _⟩ := hs'.at_ (by rw [flat_len boxC 6 boxC_len]; omega)
        obtain ⟨c0, c1, c2, c3, c4, c5⟩ := hs'.boxes (List.getElem?_eq_getElem hkx)
        have HT := Lib.hid (rthick_any xs[k])
        have HTH := Lib.hid (show S.thin xs[k] = !S.thick xs[k] from rfl)
        generalize hq : S.thick xs[k] = q at *
        cases q
        · go_wp2_with (go_at_call 173; (with_reducible refine (HT.out _).mono ?_); rintro e w1 ⟨rfl, hbw1⟩; obtain ⟨hcw1, hfw1⟩ := bcell hbw1)
          go_ret
          exact ⟨ret_b (by rw [H.out, anyb_of hkx HTH.out]; simp), ba_via hbw1 (ba_via hbr hW0)⟩
        · go_wp2_with (go_at_call 173; (with_reducible refine (HT.out _).mono ?_); rintro e w1 ⟨rfl, hbw1⟩; obtain ⟨hcw1, hfw1⟩ := bcell hbw1)
          go_roundw
          case rel =>
            refine ⟨k + 1, by omega, by go_num, Lib.hid fun j hj hjk => ?_, ba_via hbw1 hbr⟩
            by_cases hjk' : j = k
            · subst hjk'; exact HTH.out
            · exact HNO.out j hj (by omega)
          case measure => simp [intOf]; omega
      · have HX := Lib.hid (anyb_not (p := S.thin) (xs := xs) fun j hj => HNO.out j hj (by have := HA.out.len; omega))
        have hbx := hbr
        go_wp2
        go_loopw [4] (fun i wr => ∃ k : Nat, k ≤ n' ∧ i = .int .i64 k ∧ Hid (∀ j (h : j < hs.length), j < k → S.thin hs[j] = false) ∧ Below W0.heap.size W0 wr) (fun i _ => n' - (intOf i).toNat)
        case atStart => exact ⟨0, Nat.zero_le _, rfl, Lib.hid fun j _ hj => absurd hj (by omega), hbx⟩
        case round =>
          obtain ⟨k', hk', rfl, HNO', hbr'⟩ := hrel
          have hBk := HB0.out.via hbr'
          have y0 := hBk.cell 0
          have y1 := hBk.cell 1
          simp only [List.getElem?_toArray, List.getElem?_cons_zero, List.getElem?_cons_succ] at y0 y1
          have hBl' := hBk.lt
          clear hBk
          by_cases hlt' : k' < n'
          · have hki : (k' : Int) < (n' : Int) := by omega
            have hkx : k' < hs.length := by have := HA.out.len'; omega
            have hs' := (HA.out.below ((ba_via hbr' hW0).mono hB)).cells'
            obtain ⟨b, o, rfl, _, _⟩ := hs'.at_ (by rw [flat_len boxC 6 boxC_len]; omega)
            obtain ⟨c0, c1, c2, c3, c4, c5⟩ := hs'.boxes (List.getElem?_eq_getElem hkx)
            have HT := Lib.hid (rthick_any hs[k'])
            have HTH := Lib.hid (show S.thin hs[k'] = !S.thick hs[k'] from rfl)
            generalize hq : S.thick hs[k'] = q at *
            cases q
            · go_wp2_with (go_at_call 173; (with_reducible refine (HT.out _).mono ?_); rintro e w1 ⟨rfl, hbw1⟩; obtain ⟨hcw1, hfw1⟩ := bcell hbw1)
              go_ret
              exact ⟨ret_b (by rw [H.out, HX.out, anyb_of hkx HTH.out]; simp), ba_via hbw1 (ba_via hbr' hW0)⟩
            · go_wp2_with (go_at_call 173; (with_reducible refine (HT.out _).mono ?_); rintro e w1 ⟨rfl, hbw1⟩; obtain ⟨hcw1, hfw1⟩ := bcell hbw1)
              go_roundw
              case rel =>
                refine ⟨k' + 1, by omega, by go_num, Lib.hid fun j hj hjk => ?_, ba_via hbw1 hbr'⟩
                by_cases hjk' : j = k'
                · subst hjk'; exact HTH.out
                · exact HNO'.out j hj (by omega)
              case measure => simp [intOf]; omega
          · go_wp2
            go_ret
            exact ⟨ret_b (by
              rw [H.out, HX.out, anyb_not (p := S.thin) (xs := hs) fun j hj => HNO'.out j hj (by have := HA.out.len'; omega)]
              simp; omega), ba_via hbr' hW0⟩
set_option maxHeartbeats 2000000 in
theorem rmember_any (m : Mem) (A : Option Addr) (n c : Nat) (A' : Option Addr) (n' c' : Nat) (B : Nat) (w : World) (hB : B ≤ w.heap.size) (hA : SolAt w B A n A' n' m.boxes m.holes) (hk : m.name.size ≤ 9223372036854775807) :
    Calls Tryz.prog 60 #[memV m A n c A' n' c'] w fun e w' => e = .returned (.bool (S.member m)) ∧ Below w.heap.size w w' := by
  have HA := Lib.hid hA
  have H := Lib.hid (show S.member m = (S.isName m.name && S.solid m.boxes m.holes && (decide (0 ≤ m.cover) && decide (m.cover ≤ 200)) && (decide (1 ≤ m.aggr) && decide (m.aggr ≤ 100)) && (decide (1 ≤ m.poker) && decide (m.poker ≤ 200))) from rfl)
  have HN := Lib.hid (fun w => risname_any m.name w hk)
  have HS := Lib.hid (fun (W : World) (hw : B ≤ W.heap.size) (h : SolAt W B A n A' n' m.boxes m.holes) => rsvalid_any A n c A' n' c' m.boxes m.holes B W hw h)
  clear hA
  generalize S.isName m.name = t0 at *
  generalize S.solid m.boxes m.holes = t1 at *
  unfold memV
  cases t0 <;> cases t1
  all_goals (
    go_enter Tryz.func60, Tryz.ntmps60
    go_wp2_with (first
      | (go_at_call 112; (with_reducible refine (HN.out _).mono ?_); rintro e w' ⟨rfl, rfl⟩)
      | (go_at_call 113; (with_reducible refine (HS.out _ (size_via hB (by repeat (first | exact Below.refl _ _ | assumption | refine ba_alloc ?_ _ | refine ba_drew ?_ | refine ba_drewN ?_ _ | refine ba_via (by assumption) ?_ | (refine ba_set ?_ ?_ _; rotate_left; (first | omega | (simp; omega) | simp))))) (SolAt.at_ HA.out hB (by repeat (first | exact Below.refl _ _ | assumption | refine ba_alloc ?_ _ | refine ba_drew ?_ | refine ba_drewN ?_ _ | refine ba_via (by assumption) ?_ | (refine ba_set ?_ ?_ _; rotate_left; (first | omega | (simp; omega) | simp)))))).mono ?_); rintro e w1 ⟨rfl, hbw1⟩; obtain ⟨hcw1, hfw1⟩ := bcell hbw1; have hzw1_0 : w.heap.size < w1.heap.size := lt_via hbw1 (by first | omega | (simp; done) | (simp; omega))))
    all_goals (go_ret; exact ⟨ret_b (by rw [H.out, Bool.eq_iff_iff]; all_goals (first | (simp; done) | (simp; omega))), (by repeat (first | exact Below.refl _ _ | assumption | refine ba_alloc ?_ _ | refine ba_drew ?_ | refine ba_drewN ?_ _ | refine ba_via (by assumption) ?_ | (refine ba_set ?_ ?_ _; rotate_left; (first | omega | (simp; omega) | simp))))⟩))
end Go.Proofs.YtffkmgjmlahfpaaGreat
set_option linter.unusedVariables false
set_option linter.unusedSimpArgs false
namespace Go.Proofs.YtffkmgjmlahfpaaGreat
open Go.RowKit
set_option maxHeartbeats 1000000 in
theorem rshull_yes (A : Option Addr) (n c : Nat) (A' : Option Addr) (n' c' : Nat) (xs hs : List Bx) (x0 : Bx) (B : Nat) (w : World) (hB : B ≤ w.heap.size) (hA : SolAt w B A n A' n' xs hs) (hn : n ≤ 1000000) (h0 : xs[0]? = some x0) :
    Calls Tryz.prog 130 #[solV A n c A' n' c'] w fun e w' => e = .returned (boxV (S.hull x0 xs)) ∧ Below w.heap.size w w' := by
  have HA := Lib.hid hA
  have HH := Lib.hid (fun (W : World) (hw : B ≤ W.heap.size) (hh : Cells W B A (xs.flatMap boxC)) => rbhull_yes A n c xs x0 B W HA.out.len hn hw hh h0)
  clear hA
  generalize S.hull x0 xs = X at *
  unfold solV
  go_enter Tryz.func130, Tryz.ntmps130
  go_wp2_with (go_at_call 192; (with_reducible refine (HH.out _ (size_via hB (by repeat (first | exact Below.refl _ _ | assumption | refine ba_alloc ?_ _ | refine ba_drew ?_ | refine ba_drewN ?_ _ | refine ba_via (by assumption) ?_ | (refine ba_set ?_ ?_ _; rotate_left; (first | omega | (simp; omega) | simp))))) (SolAt.at_ HA.out hB (by repeat (first | exact Below.refl _ _ | assumption | refine ba_alloc ?_ _ | refine ba_drew ?_ | refine ba_drewN ?_ _ | refine ba_via (by assumption) ?_ | (refine ba_set ?_ ?_ _; rotate_left; (first | omega | (simp; omega) | simp))))).cells).mono ?_); rintro e w2 ⟨rfl, hbw2⟩; obtain ⟨hcw2, hfw2⟩ := bcell hbw2; have hzw2_0 : w.heap.size < w2.heap.size := lt_via hbw2 (by first | omega | (simp; done) | (simp; omega)); have hzw2_1 : w.heap.size + 1 < w2.heap.size := lt_via hbw2 (by first | omega | (simp; done) | (simp; omega)))
  have hbel : Below w.heap.size w w2 := (by repeat (first | exact Below.refl _ _ | assumption | refine ba_alloc ?_ _ | refine ba_drew ?_ | refine ba_drewN ?_ _ | refine ba_via (by assumption) ?_ | (refine ba_set ?_ ?_ _; rotate_left; (first | omega | (simp; omega) | simp))))
  have hRs : Blk w2 (w.heap.size + 1) 89 #[.int .i64 0, .int .i64 0, .int .i64 0, .int .i64 0, .int .i64 0, .int .i64 0] := Blk.via (by simpa using Blk.new (w.alloc (.cells #[.slice A n c, .slice A' n' c'] 24)) 89 #[.int .i64 0, .int .i64 0, .int .i64 0, .int .i64 0, .int .i64 0, .int .i64 0]) hbw2
  have z0 := hRs.cell 0
  have z1 := hRs.cell 1
  have z2 := hRs.cell 2
  have z3 := hRs.cell 3
  have z4 := hRs.cell 4
  have z5 := hRs.cell 5
  simp only [List.getElem?_toArray, List.getElem?_cons_zero, List.getElem?_cons_succ] at z0 z1 z2 z3 z4 z5
  exact bodyPost_ret (v := boxV X) (by simp [results, Tryz.results130, go_sem, *]) rfl ⟨rfl, ((((((hbel.setCell (Nat.le_succ _) _).setCell (Nat.le_succ _) _).setCell (Nat.le_succ _) _).setCell (Nat.le_succ _) _).setCell (Nat.le_succ _) _).setCell (Nat.le_succ _) _)⟩
theorem rpoor_yes (m : Mem) (leg : Bx) (A : Option Addr) (n c : Nat) (A' : Option Addr) (n' c' : Nat) (B : Nat) (w : World) (hB : B ≤ w.heap.size) (hA : SolAt w B A n A' n' m.boxes m.holes) (h : S.solid m.boxes m.holes = true) (hl : S.boxOk leg = true) :
    Calls Tryz.prog 73 #[memV m A n c A' n' c', boxV leg] w fun e w' => e = .returned (.bool (S.poor m.boxes leg)) ∧ Below w.heap.size w w' := by
  have HA := Lib.hid hA
  have hn20 : n ≤ 20 := by
    have h1 := hA.len
    simp only [S.solid, Bool.and_eq_true, decide_eq_true_eq] at h
    omega
  obtain ⟨hok, hlen⟩ := solid_ok h
  have h0 : m.boxes[0]? = some (m.boxes.headD ⟨⟨0, 0, 0⟩, ⟨0, 0, 0⟩⟩) := by
    cases hb : m.boxes with
    | nil => rw [hb] at hlen; simp at hlen
    | cons x l => rfl
  have hz := boxOk_z hl
  have hin := hull_lo_in (m.boxes.headD ⟨⟨0, 0, 0⟩, ⟨0, 0, 0⟩⟩) m.boxes (by have := boxOk_z (boxes_ok hok _ (List.mem_of_getElem? h0)); omega) (fun b hb => by have := boxOk_z (boxes_ok hok b hb); omega)
  have HP := Lib.hid (show S.poor m.boxes leg = decide (250 < leg.lo.z - (S.hull (m.boxes.headD ⟨⟨0, 0, 0⟩, ⟨0, 0, 0⟩⟩) m.boxes).lo.z) from rfl)
  have HH := Lib.hid (fun (W : World) (hw : B ≤ W.heap.size) (hh : SolAt W B A n A' n' m.boxes m.holes) => rshull_yes A n c A' n' c' m.boxes m.holes _ B W hw hh (by omega) h0)
  clear hA
  generalize S.hull (m.boxes.headD ⟨⟨0, 0, 0⟩, ⟨0, 0, 0⟩⟩) m.boxes = X at *
  have e1 : IntKind.i64.wrap (leg.lo.z - X.lo.z) = leg.lo.z - X.lo.z := IntWalk.i64_in _ (by omega)
  unfold boxV at HH
  have f0 : ∀ W, (Instr.field 89 (.agg #[.int .i64 X.lo.x, .int .i64 X.lo.y, .int .i64 X.lo.z, .int .i64 X.hi.x, .int .i64 X.hi.y, .int .i64 X.hi.z]) 0).run Tryz.prog W = .ok (.agg #[.int .i64 X.lo.x, .int .i64 X.lo.y, .int .i64 X.lo.z]) W := fun _ => by kernel_rfl
  have f1 : ∀ W, (Instr.field 87 (.agg #[.int .i64 X.lo.x, .int .i64 X.lo.y, .int .i64 X.lo.z]) 2).run Tryz.prog W = .ok (.int .i64 X.lo.z) W := fun _ => by kernel_rfl
  unfold memV boxV
  go_enter Tryz.func73, Tryz.ntmps73
  go_wp2
  refine wp_region_grow (by kernel_rfl) (by kernel_rfl) ?_
  repeat (go_big_quiet_step ((go_at_call 130; exact grow_of (HH.out _ (size_via hB (ba_via (grow_below _ _) (by repeat (first | exact Below.refl _ _ | assumption | refine ba_alloc ?_ _ | refine ba_drew ?_ | refine ba_drewN ?_ _ | refine ba_via (by assumption) ?_ | (refine ba_set ?_ ?_ _; rotate_left; (first | omega | (simp; omega) | simp)))))) (SolAt.at_ HA.out hB (ba_via (grow_below _ _) (by repeat (first | exact Below.refl _ _ | assumption | refine ba_alloc ?_ _ | refine ba_drew ?_ | refine ba_drewN ?_ _ | refine ba_via (by assumption) ?_ | (refine ba_set ?_ ?_ _; rotate_left; (first | omega | (simp; omega) | simp))))))))))
  all_goals (refine wpQuiet_nil ?_; intro wg hbwg; obtain ⟨hcwg, hfwg⟩ := bcell hbwg; have hzwg_0 : w.heap.size < wg.heap.size := lt_via hbwg (by first | omega | (simp; done) | (simp; omega)); have hzwg_1 : w.heap.size + 1 < wg.heap.size := lt_via hbwg (by first | omega | (simp; done) | (simp; omega)))
  go_wp2
  go_ret
  exact ⟨ret_b HP.out.symm, (by repeat (first | exact Below.refl _ _ | assumption | refine ba_alloc ?_ _ | refine ba_drew ?_ | refine ba_drewN ?_ _ | refine ba_via (by assumption) ?_ | (refine ba_set ?_ ?_ _; rotate_left; (first | omega | (simp; omega) | simp))))⟩
end Go.Proofs.YtffkmgjmlahfpaaGreat
set_option linter.unusedVariables false
set_option linter.unusedSimpArgs false
namespace Go.Proofs.YtffkmgjmlahfpaaGreat
open Go.RowKit
theorem rup_any (n p q : Int) (w : World) (h2 : 1 ≤ q) (h3 : q ≤ 1000000) (hlo : 0 ≤ n * p) (hp : n * p ≤ 4611686018427387904) :
    Calls Tryz.prog 131 #[.int .i64 n, .int .i64 p, .int .i64 q] w fun e w' => e = .returned (.int .i64 (S.up n p q)) ∧ w = w' := by
  have hq : (q == 0) = false := by simp; omega
  go_enter Tryz.func131, Tryz.ntmps131
  go_wp2
  go_ret
  exact ⟨rfl, rfl⟩
theorem rbasic_any (r : Rule) (d : Int) (w : World) (hr : RuleOk r) (h0 : 0 ≤ d) (h1 : d ≤ 40) :
    Calls Tryz.prog 193 #[ruleV r, .int .i64 d] w fun e w' => e = .returned (.int .i64 (S.basic r d)) ∧ Below w.heap.size w w' := by
  have H := Lib.hid (basic_eq r d)
  have hp := mul_bd h0 h1 (by have := hr.num; omega) hr.num.2
  have hd := hr.den
  unfold ruleV
  go_enter Tryz.func193, Tryz.ntmps193
  go_wp2_with (go_at_call 131; refine (rup_any _ _ _ _ ?_ ?_ ?_ ?_).mono ?_; (· omega); (· omega); (· omega); (· omega); rintro e w1 ⟨rfl, rfl⟩)
  all_goals (go_ret; exact ⟨ret_i (by rw [H.out]; omega), by go_grown⟩)
theorem rlength_any (r : Rule) (d : Int) (poor bent : Bool) (w : World) (hr : RuleOk r) (h0 : 0 ≤ d) (h1 : d ≤ 40) :
    Calls Tryz.prog 132 #[ruleV r, .int .i64 d, .bool poor, .bool bent] w fun e w' => e = .returned (.int .i64 (S.length r d poor bent)) ∧ Below w.heap.size w w' := by
  have b1 := basic_bd hr h0 h1
  have hd := hr.pden
  have hd2 := hr.bden
  have m1 := mul_bd b1.1 b1.2 (by have := hr.pnum; omega) hr.pnum.2
  have b2 : 0 ≤ S.up (S.basic r d) r.pnum r.pden ∧ S.up (S.basic r d) r.pnum r.pden ≤ 40000000 := poorUp_bd hr true b1.1 b1.2
  have m2 := mul_bd b2.1 b2.2 (by have := hr.bnum; omega) hr.bnum.2
  have m3 := mul_bd b1.1 b1.2 (by have := hr.bnum; omega) hr.bnum.2
  cases poor <;> cases bent
  all_goals
    have H := Lib.hid (fun n => max_eq r n)
    unfold ruleV
    go_enter Tryz.func132, Tryz.ntmps132
    go_wp2_with (first
      | (go_at_call 193; refine (rbasic_any r d _ hr h0 h1).mono ?_; rintro e w1 ⟨rfl, hb1⟩; obtain ⟨hc, hf⟩ := bcell hb1)
      | (go_at_call 131; refine (rup_any _ _ _ _ ?_ ?_ ?_ ?_).mono ?_; (· omega); (· omega); (· omega); (· omega); rintro e w2 ⟨rfl, rfl⟩))
    all_goals (go_ret; exact ⟨ret_i (by simp only [S.length, S.poorUp, S.bentUp, ← H.out, if_true, if_false, Bool.false_eq_true]; omega), via hb1 (by go_grown) (Nat.le_refl _)⟩)
end Go.Proofs.YtffkmgjmlahfpaaGreat
set_option linter.unusedVariables false
set_option linter.unusedSimpArgs false
namespace Go.Proofs.YtffkmgjmlahfpaaGreat
open Go.RowKit
theorem rdims_any (code : Int) (w : World) :
    Calls Tryz.prog 231 #[.int .i64 code] w fun e w' => e = .returned (.int .i64 (S.dimsOf code)) ∧ Below w.heap.size w w' := by
  have H := Lib.hid (show ∀ n : Int, (n = if code = 0 then 1 else if code = 11 then 2 else if code = 21 then 3 else if code = 26 then 3 else if code = 31 then 3 else if code = 41 then 5 else if code = 51 then 3 else if code = 98 then 3 else 0) → n = S.dimsOf code from fun n h => h)
  go_enter Tryz.func231, Tryz.ntmps231
  go_wp2
  all_goals (go_ret; exact ⟨ret_i (H.out _ (by simp only [beq_iff_eq, beq_eq_false_iff_ne, ne_eq] at *; repeat' (split <;> try omega))), (by repeat (first | exact Below.refl _ _ | assumption | refine ba_alloc ?_ _ | refine ba_drew ?_ | refine ba_drewN ?_ _ | refine ba_via (by assumption) ?_ | (refine ba_set ?_ ?_ _; rotate_left; (first | omega | (simp; omega) | simp))))⟩)
end Go.Proofs.YtffkmgjmlahfpaaGreat
set_option linter.unusedVariables false
set_option linter.unusedSimpArgs false
namespace Go.Proofs.YtffkmgjmlahfpaaGreat
open Go.RowKit
set_option maxHeartbeats 1000000 in
theorem rvalid_no0 (b : Bar) (A : Option Addr) (n c : Nat) (w : World) (hn : b.dims.length = n) (hm : n ≤ 9223372036854775807) (hmk : b.mark.size ≤ 9223372036854775807)  (f : S.isName b.mark = false) :
    Calls Tryz.prog 174 #[barV b A n c] w fun e w' => e = .returned (.bool (S.bar b)) ∧ Below w.heap.size w w' := by
  have H := Lib.hid (show S.bar b = false by simp [S.bar, S.barHead, f])
  clear hn
  unfold barV
  go_enter Tryz.func174, Tryz.ntmps174
  go_wp2
  refine wp_region_grow (by kernel_rfl) (by kernel_rfl) ?_
  repeat (go_big_quiet_step ((first | (go_at_call 112; exact grow_of_eq (risname_any b.mark _ hmk)) | (go_at_call 230; exact grow_of (rsize_any b.size _)) | (go_at_call 231; exact grow_of (rdims_any b.code _)))))
  all_goals (refine wpQuiet_nil ?_; intro w1 hbw1; obtain ⟨hcw1, hfw1⟩ := bcell hbw1; have hzw1_0 : w.heap.size < w1.heap.size := lt_via hbw1 (by first | omega | (simp; done) | (simp; omega)))
  go_wp2
  go_ret
  exact ⟨ret_b H.out.symm, (by repeat (first | exact Below.refl _ _ | assumption | refine ba_alloc ?_ _ | refine ba_drew ?_ | refine ba_drewN ?_ _ | refine ba_via (by assumption) ?_ | (refine ba_set ?_ ?_ _; rotate_left; (first | omega | (simp; omega) | simp))))⟩
set_option maxHeartbeats 1000000 in
theorem rvalid_no1 (b : Bar) (A : Option Addr) (n c : Nat) (w : World) (hn : b.dims.length = n) (hm : n ≤ 9223372036854775807) (hmk : b.mark.size ≤ 9223372036854775807) (g0 : S.isName b.mark = true) (f : S.size b.size = false) :
    Calls Tryz.prog 174 #[barV b A n c] w fun e w' => e = .returned (.bool (S.bar b)) ∧ Below w.heap.size w w' := by
  have H := Lib.hid (show S.bar b = false by simp [S.bar, S.barHead, f])
  clear hn
  unfold barV
  go_enter Tryz.func174, Tryz.ntmps174
  go_wp2
  refine wp_region_grow (by kernel_rfl) (by kernel_rfl) ?_
  repeat (go_big_quiet_step ((first | (go_at_call 112; exact grow_of_eq (risname_any b.mark _ hmk)) | (go_at_call 230; exact grow_of (rsize_any b.size _)) | (go_at_call 231; exact grow_of (rdims_any b.code _)))))
  all_goals (refine wpQuiet_nil ?_; intro w1 hbw1; obtain ⟨hcw1, hfw1⟩ := bcell hbw1; have hzw1_0 : w.heap.size < w1.heap.size := lt_via hbw1 (by first | omega | (simp; done) | (simp; omega)))
  go_wp2
  go_ret
  exact ⟨ret_b H.out.symm, (by repeat (first | exact Below.refl _ _ | assumption | refine ba_alloc ?_ _ | refine ba_drew ?_ | refine ba_drewN ?_ _ | refine ba_via (by assumption) ?_ | (refine ba_set ?_ ?_ _; rotate_left; (first | omega | (simp; omega) | simp))))⟩
set_option maxHeartbeats 1000000 in
theorem rvalid_no2 (b : Bar) (A : Option Addr) (n c : Nat) (w : World) (hn : b.dims.length = n) (hm : n ≤ 9223372036854775807) (hmk : b.mark.size ≤ 9223372036854775807) (g0 : S.isName b.mark = true) (g1 : S.size b.size = true) (f : b.count < 1) :
    Calls Tryz.prog 174 #[barV b A n c] w fun e w' => e = .returned (.bool (S.bar b)) ∧ Below w.heap.size w w' := by
  have H := Lib.hid (show S.bar b = false by (have hd : decide (1 ≤ b.count) = false := by simp; omega); simp [S.bar, S.barHead, hd])
  have q2 : decide (b.count < 1) = true := by simp; omega
  clear hn
  unfold barV
  go_enter Tryz.func174, Tryz.ntmps174
  go_wp2
  refine wp_region_grow (by kernel_rfl) (by kernel_rfl) ?_
  repeat (go_big_quiet_step ((first | (go_at_call 112; exact grow_of_eq (risname_any b.mark _ hmk)) | (go_at_call 230; exact grow_of (rsize_any b.size _)) | (go_at_call 231; exact grow_of (rdims_any b.code _)))))
  all_goals (refine wpQuiet_nil ?_; intro w1 hbw1; obtain ⟨hcw1, hfw1⟩ := bcell hbw1; have hzw1_0 : w.heap.size < w1.heap.size := lt_via hbw1 (by first | omega | (simp; done) | (simp; omega)))
  go_wp2
  go_ret
  exact ⟨ret_b H.out.symm, (by repeat (first | exact Below.refl _ _ | assumption | refine ba_alloc ?_ _ | refine ba_drew ?_ | refine ba_drewN ?_ _ | refine ba_via (by assumption) ?_ | (refine ba_set ?_ ?_ _; rotate_left; (first | omega | (simp; omega) | simp))))⟩
set_option maxHeartbeats 1000000 in
theorem rvalid_no3 (b : Bar) (A : Option Addr) (n c : Nat) (w : World) (hn : b.dims.length = n) (hm : n ≤ 9223372036854775807) (hmk : b.mark.size ≤ 9223372036854775807) (g0 : S.isName b.mark = true) (g1 : S.size b.size = true) (g2 : 1 ≤ b.count) (f : 1000 < b.count) :
    Calls Tryz.prog 174 #[barV b A n c] w fun e w' => e = .returned (.bool (S.bar b)) ∧ Below w.heap.size w w' := by
  have H := Lib.hid (show S.bar b = false by (have hd : decide (b.count ≤ 1000) = false := by simp; omega); simp [S.bar, S.barHead, hd])
  have q2 : decide (b.count < 1) = false := by simp; omega
  have q3 : decide (1000 < b.count) = true := by simp; omega
  clear hn
  unfold barV
  go_enter Tryz.func174, Tryz.ntmps174
  go_wp2
  refine wp_region_grow (by kernel_rfl) (by kernel_rfl) ?_
  repeat (go_big_quiet_step ((first | (go_at_call 112; exact grow_of_eq (risname_any b.mark _ hmk)) | (go_at_call 230; exact grow_of (rsize_any b.size _)) | (go_at_call 231; exact grow_of (rdims_any b.code _)))))
  all_goals (refine wpQuiet_nil ?_; intro w1 hbw1; obtain ⟨hcw1, hfw1⟩ := bcell hbw1; have hzw1_0 : w.heap.size < w1.heap.size := lt_via hbw1 (by first | omega | (simp; done) | (simp; omega)))
  go_wp2
  go_ret
  exact ⟨ret_b H.out.symm, (by repeat (first | exact Below.refl _ _ | assumption | refine ba_alloc ?_ _ | refine ba_drew ?_ | refine ba_drewN ?_ _ | refine ba_via (by assumption) ?_ | (refine ba_set ?_ ?_ _; rotate_left; (first | omega | (simp; omega) | simp))))⟩
set_option maxHeartbeats 1000000 in
theorem rvalid_no4 (b : Bar) (A : Option Addr) (n c : Nat) (w : World) (hn : b.dims.length = n) (hm : n ≤ 9223372036854775807) (hmk : b.mark.size ≤ 9223372036854775807) (g0 : S.isName b.mark = true) (g1 : S.size b.size = true) (g2 : 1 ≤ b.count) (g3 : b.count ≤ 1000) (f : (S.dimsOf b.code == 0) = true) :
    Calls Tryz.prog 174 #[barV b A n c] w fun e w' => e = .returned (.bool (S.bar b)) ∧ Below w.heap.size w w' := by
  have H := Lib.hid (show S.bar b = false by simp [S.bar, S.barHead, f])
  have q2 : decide (b.count < 1) = false := by simp; omega
  have q3 : decide (1000 < b.count) = false := by simp; omega
  clear hn
  unfold barV
  go_enter Tryz.func174, Tryz.ntmps174
  go_wp2
  refine wp_region_grow (by kernel_rfl) (by kernel_rfl) ?_
  repeat (go_big_quiet_step ((first | (go_at_call 112; exact grow_of_eq (risname_any b.mark _ hmk)) | (go_at_call 230; exact grow_of (rsize_any b.size _)) | (go_at_call 231; exact grow_of (rdims_any b.code _)))))
  all_goals (refine wpQuiet_nil ?_; intro w1 hbw1; obtain ⟨hcw1, hfw1⟩ := bcell hbw1; have hzw1_0 : w.heap.size < w1.heap.size := lt_via hbw1 (by first | omega | (simp; done) | (simp; omega)))
  go_wp2
  go_ret
  exact ⟨ret_b H.out.symm, (by repeat (first | exact Below.refl _ _ | assumption | refine ba_alloc ?_ _ | refine ba_drew ?_ | refine ba_drewN ?_ _ | refine ba_via (by assumption) ?_ | (refine ba_set ?_ ?_ _; rotate_left; (first | omega | (simp; omega) | simp))))⟩
set_option maxHeartbeats 1000000 in
theorem rvalid_no5 (b : Bar) (A : Option Addr) (n c : Nat) (w : World) (hn : b.dims.length = n) (hm : n ≤ 9223372036854775807) (hmk : b.mark.size ≤ 9223372036854775807) (g0 : S.isName b.mark = true) (g1 : S.size b.size = true) (g2 : 1 ≤ b.count) (g3 : b.count ≤ 1000) (g4 : (S.dimsOf b.code == 0) = false) (f : ((n : Int) == S.dimsOf b.code) = false) :
    Calls Tryz.prog 174 #[barV b A n c] w fun e w' => e = .returned (.bool (S.bar b)) ∧ Below w.heap.size w w' := by
  have f' : ((n : Int) != S.dimsOf b.code) = true := by simp [bne, f]
  have H := Lib.hid (show S.bar b = false by unfold S.bar S.barHead; rw [hn, f]; simp)
  have q2 : decide (b.count < 1) = false := by simp; omega
  have q3 : decide (1000 < b.count) = false := by simp; omega
  clear hn
  unfold barV
  go_enter Tryz.func174, Tryz.ntmps174
  go_wp2
  refine wp_region_grow (by kernel_rfl) (by kernel_rfl) ?_
  repeat (go_big_quiet_step ((first | (go_at_call 112; exact grow_of_eq (risname_any b.mark _ hmk)) | (go_at_call 230; exact grow_of (rsize_any b.size _)) | (go_at_call 231; exact grow_of (rdims_any b.code _)))))
  all_goals (refine wpQuiet_nil ?_; intro w1 hbw1; obtain ⟨hcw1, hfw1⟩ := bcell hbw1; have hzw1_0 : w.heap.size < w1.heap.size := lt_via hbw1 (by first | omega | (simp; done) | (simp; omega)))
  go_wp2
  go_ret
  exact ⟨ret_b H.out.symm, (by repeat (first | exact Below.refl _ _ | assumption | refine ba_alloc ?_ _ | refine ba_drew ?_ | refine ba_drewN ?_ _ | refine ba_via (by assumption) ?_ | (refine ba_set ?_ ?_ _; rotate_left; (first | omega | (simp; omega) | simp))))⟩
set_option maxHeartbeats 2000000 in
theorem rvalid_in (b : Bar) (A : Option Addr) (n c : Nat) (B : Nat) (w : World) (hB : B ≤ w.heap.size) (hA : BarAt w B A n b) (hh : S.barHead b = true) :
    Calls Tryz.prog 174 #[barV b A n c] w fun e w' => e = .returned (.bool (S.bar b)) ∧ Below w.heap.size w w' := by
  have hmk := hA.mark
  have hm := hA.max
  have hs := hA.cells
  have HN := Lib.hid hA.len
  have HK := Lib.hid (show S.bar b = S.dimsOk b.dims by simp [S.bar, hh])
  have hh' := hh
  unfold S.barHead at hh'
  rw [hA.len] at hh'
  simp only [Bool.and_eq_true, decide_eq_true_eq, Bool.not_eq_true'] at hh'
  obtain ⟨⟨⟨⟨⟨h0, h1⟩, h2⟩, h3⟩, h4⟩, h5⟩ := hh'
  have h5' : ((n : Int) != S.dimsOf b.code) = false := by simp [bne, h5]
  have q2 : decide (b.count < 1) = false := by simp; omega
  have q3 : decide (1000 < b.count) = false := by simp; omega
  have hn5 : n ≤ 5 := by have := (dimsOf_bd b.code).2; simp at h5; omega
  clear hh hA
  unfold barV
  go_enter Tryz.func174, Tryz.ntmps174
  go_wp2
  refine wp_region_grow (by kernel_rfl) (by kernel_rfl) ?_
  repeat (go_big_quiet_step ((first | (go_at_call 112; exact grow_of_eq (risname_any b.mark _ hmk)) | (go_at_call 230; exact grow_of (rsize_any b.size _)) | (go_at_call 231; exact grow_of (rdims_any b.code _)))))
  all_goals (refine wpQuiet_nil ?_; intro w1 hbw1; obtain ⟨hcw1, hfw1⟩ := bcell hbw1; have hzw1_0 : w.heap.size < w1.heap.size := lt_via hbw1 (by first | omega | (simp; done) | (simp; omega)))
  go_wp2
  have hbw : Below w.heap.size w w1 := (by repeat (first | exact Below.refl _ _ | assumption | refine ba_alloc ?_ _ | refine ba_drew ?_ | refine ba_drewN ?_ _ | refine ba_via (by assumption) ?_ | (refine ba_set ?_ ?_ _; rotate_left; (first | omega | (simp; omega) | simp))))
  have hs2 := hs.below (hbw.mono hB)
  go_loop [3, 4] (fun r i => ∃ k : Nat, k ≤ n ∧ i = .int .i64 k ∧ r = .int .i64 (S.sum (b.dims.take k)) ∧ 0 ≤ S.sum (b.dims.take k) ∧ S.sum (b.dims.take k) ≤ 1048576 * (k : Int) ∧ Hid (∀ j (hj : j < b.dims.length), j < k → 1 ≤ b.dims[j])) (fun _ i => n - (intOf i).toNat)
  case atStart => exact ⟨0, Nat.zero_le _, rfl, rfl, by simp [S.sum], by simp [S.sum], Lib.hid fun j hj hk => absurd hk (by omega)⟩
  case round =>
    obtain ⟨k, hk, rfl, rfl, hs0, hs1, HNO⟩ := hrel
    by_cases hlt : k < n
    · have hkx : k < b.dims.length := by have := HN.out; omega
      obtain ⟨bb, o, rfl, _, hc⟩ := hs2.at_ (by simp; omega)
      have hck := hc k _ (i64s_get hkx)
      clear hc
      by_cases hbad : b.dims[k] < 1 ∨ 1048576 < b.dims[k]
      · have HB := Lib.hid (dims_no hkx (by omega))
        rcases hbad with h1 | h1
        all_goals
          go_wp2
          go_ret
          exact ⟨ret_b (by rw [HK.out, HB.out]), hbw⟩
      · obtain ⟨hb1', hb2'⟩ : 1 ≤ b.dims[k] ∧ b.dims[k] ≤ 1048576 := by omega
        have ht := sum_snoc (b.dims.take k) b.dims[k]
        rw [← List.take_succ_eq_append_getElem hkx] at ht
        have HT := Lib.hid ht
        clear ht hbad
        go_wp2
        go_round
        case rel =>
          refine ⟨_, _, _, ?_, rfl, rfl, rfl⟩
          refine ⟨k + 1, by omega, by go_num, vint (by rw [HT.out]), by rw [HT.out]; omega, by rw [HT.out]; omega, Lib.hid fun j hj hjk => ?_⟩
          by_cases hjk' : j = k
          · subst hjk'; omega
          · exact HNO.out j hj (by omega)
        case measure => simp [intOf]; omega
    · have he : b.dims.take k = b.dims := List.take_of_length_le (by have := HN.out; omega)
      have hall : ∀ x, x ∈ b.dims → 1 ≤ x := fun x hx => by
        obtain ⟨j, hj, rfl⟩ := List.mem_iff_getElem.1 hx
        exact HNO.out j hj (by have := HN.out; omega)
      have HE := Lib.hid (show S.dimsOk b.dims = decide (S.sum b.dims ≤ 262144) by rw [Bool.eq_iff_iff, dimsOk_iff]; simp; exact fun _ => hall)
      rw [he] at hs1
      go_wp2
      go_ret
      exact ⟨ret_b (by rw [HK.out, HE.out]), hbw⟩
theorem rvalid12_any (b : Bar) (A : Option Addr) (n c : Nat) (B : Nat) (w : World) (hB : B ≤ w.heap.size) (hA : BarAt w B A n b) :
    Calls Tryz.prog 174 #[barV b A n c] w fun e w' => e = .returned (.bool (S.bar b)) ∧ Below w.heap.size w w' := by
  cases g0 : S.isName b.mark
  · exact rvalid_no0 b A n c w hA.len hA.max hA.mark g0
  · cases g1 : S.size b.size
    · exact rvalid_no1 b A n c w hA.len hA.max hA.mark g0 g1
    · by_cases g2 : 1 ≤ b.count
      · by_cases g3 : b.count ≤ 1000
        · cases g4 : (S.dimsOf b.code == 0)
          · cases g5 : ((n : Int) == S.dimsOf b.code)
            · exact rvalid_no5 b A n c w hA.len hA.max hA.mark g0 g1 g2 g3 g4 g5
            · refine rvalid_in b A n c B w hB hA ?_
              unfold S.barHead
              rw [hA.len, g4, g0, g1, g5]
              simp [g2, g3]
          · exact rvalid_no4 b A n c w hA.len hA.max hA.mark g0 g1 g2 g3 g4
        · exact rvalid_no3 b A n c w hA.len hA.max hA.mark g0 g1 g2 (by omega)
      · exact rvalid_no2 b A n c w hA.len hA.max hA.mark g0 g1 (by omega)
end Go.Proofs.YtffkmgjmlahfpaaGreat
set_option linter.unusedVariables false
set_option linter.unusedSimpArgs false
namespace Go.Proofs.YtffkmgjmlahfpaaGreat
open Go.RowKit
theorem BarAt.at_ {w w' : World} {B : Nat} {A : Option Addr} {n : Nat} {b : Bar} (h : BarAt w B A n b) (hB : B ≤ w.heap.size) (hb : Below w.heap.size w w') : BarAt w' B A n b := h.below (hb.mono hB)
theorem lens_get (b : Bar) (h : S.bar b = true) {k : Nat} (hk : k < (S.legsOf b.code).length) : ∃ n, (i64s (S.legLens b))[k]? = some (.int .i64 n) ∧ (S.legLens b)[k]? = some n ∧ 1 ≤ n ∧ n ≤ 262144 ∧ S.ptAt b (k + 1) = S.step (S.ptAt b k) (S.legsOf b.code)[k].2 n := by
  have hd : S.dimsOk b.dims = true := by simp only [S.bar, Bool.and_eq_true] at h; exact h.2
  have hl := bar_head h
  have h1 := legs_dim b.code hk
  have h2 : (S.legsOf b.code)[k].1 < b.dims.length := by omega
  have h3 := dim_bd hd h2
  have e : (S.legLens b)[k]? = some b.dims[(S.legsOf b.code)[k].1] := by
    simp [S.legLens, List.getElem?_eq_getElem hk, List.getD_eq_getElem?_getD, List.getElem?_eq_getElem h2]
  exact ⟨_, by simp [e], e, h3.1, h3.2, ptAt_succ b hk h2⟩
theorem Cells.pts {w : World} {B bb o : Nat} {l : List Pt} (h : Cells w B (some ⟨bb, o, none⟩) (l.flatMap ptC)) {k : Nat} {p : Pt} (hk : l[k]? = some p) :
    w.cell? ⟨bb, o + k * 3, none⟩ = some (.int .i64 p.x) ∧ w.cell? ⟨bb, o + k * 3 + 1, none⟩ = some (.int .i64 p.y) ∧ w.cell? ⟨bb, o + k * 3 + 2, none⟩ = some (.int .i64 p.z) := by
  obtain ⟨hk', rfl⟩ := List.getElem?_eq_some_iff.1 hk
  exact ⟨h.row0 ptC_len hk' rfl, h.rowj ptC_len hk' 1 rfl, h.rowj ptC_len hk' 2 rfl⟩
end Go.Proofs.YtffkmgjmlahfpaaGreat
