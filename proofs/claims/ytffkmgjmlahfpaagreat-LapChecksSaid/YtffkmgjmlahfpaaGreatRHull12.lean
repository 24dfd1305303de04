/- Contract: Hull of the reference for layer 12. -/
import Derived.Test.YtffkmgjmlahfpaaGreatBoxB
import Derived.Test.YtffkmgjmlahfpaaGreatLens
import Derived.BigRegion
set_option linter.unusedVariables false
set_option linter.unusedSimpArgs false
namespace Go.Proofs.YtffkmgjmlahfpaaGreat
open Go.RowKit
def S.ptBox (p : Pt) : Bx := ⟨p, p⟩
theorem join_self (p : Pt) : S.join (S.ptBox p) (S.ptBox p) = S.ptBox p := by simp [S.join, S.ptBox]
theorem hull_one (p : Pt) : S.hull (S.ptBox p) [S.ptBox p] = S.ptBox p := join_self p
set_option maxRecDepth 100000 in
set_option maxHeartbeats 2000000 in
theorem rhull_any (A : Option Addr) (n c : Nat) (ps : List Pt) (p0 : Pt) (B : Nat) (w : World) (hn : ps.length = n) (hm : n ≤ 1000000) (hB : B ≤ w.heap.size) (hs : Cells w B A (ps.flatMap ptC)) (h0 : ps[0]? = some p0) :
    Calls Tryz.prog 157 #[.slice A n c] w fun e w' => e = .returned (boxV (S.hull (S.ptBox p0) (ps.map S.ptBox))) ∧ Below w.heap.size w w' := by
  have hn0 : 0 < n := by have := (List.getElem?_eq_some_iff.1 h0).1; omega
  have hni : (0 : Int) < (n : Int) := by omega
  have HN := Lib.hid hn
  have HS := Lib.hid hs
  have hh1 : (ps.map S.ptBox).take 1 = [S.ptBox p0] := by
    obtain ⟨x, l, rfl⟩ : ∃ x l, ps = x :: l := by cases ps with
      | nil => simp at h0
      | cons x l => exact ⟨x, l, rfl⟩
    simp at h0
    subst h0
    simp
  have HH1 := Lib.hid hh1
  obtain ⟨b, o, rfl, hb, _⟩ := hs.at_ (by rw [flat_len ptC 3 ptC_len]; omega)
  obtain ⟨c0, c1, c2⟩ := hs.pts h0
  simp only [Nat.zero_mul, Nat.add_zero] at c0 c1 c2
  have hbw : b < w.heap.size := by omega
  clear hn hs h0 hh1
  go_enter Tryz.func157, Tryz.ntmps157
  go_wp2
  go_region
  go_wp2
  have hW : Below w.heap.size w ((w.alloc (.cells #[.int .i64 0, .int .i64 0, .int .i64 0, .int .i64 0, .int .i64 0, .int .i64 0] 89)).alloc (.cells #[.int .i64 p0.x, .int .i64 p0.y, .int .i64 p0.z, .int .i64 p0.x, .int .i64 p0.y, .int .i64 p0.z] 89)).drew := (by repeat (first | exact Below.refl _ _ | assumption | refine ba_alloc ?_ _ | refine ba_drew ?_ | refine ba_drewN ?_ _ | refine ba_via (by assumption) ?_ | (refine ba_set ?_ ?_ _; rotate_left; (first | omega | (simp; omega) | simp))))
  have hK0 : Blk ((w.alloc (.cells #[.int .i64 0, .int .i64 0, .int .i64 0, .int .i64 0, .int .i64 0, .int .i64 0] 89)).alloc (.cells #[.int .i64 p0.x, .int .i64 p0.y, .int .i64 p0.z, .int .i64 p0.x, .int .i64 p0.y, .int .i64 p0.z] 89)).drew (w.heap.size + 1) 89 #[.int .i64 p0.x, .int .i64 p0.y, .int .i64 p0.z, .int .i64 p0.x, .int .i64 p0.y, .int .i64 p0.z] := by
    have h6 : Blk ((w.alloc (.cells #[.int .i64 0, .int .i64 0, .int .i64 0, .int .i64 0, .int .i64 0, .int .i64 0] 89)).alloc (.cells #[.int .i64 p0.x, .int .i64 p0.y, .int .i64 p0.z, .int .i64 p0.x, .int .i64 p0.y, .int .i64 p0.z] 89)) (w.heap.size + 1) 89 #[.int .i64 p0.x, .int .i64 p0.y, .int .i64 p0.z, .int .i64 p0.x, .int .i64 p0.y, .int .i64 p0.z] := by simpa using Blk.new (w.alloc (.cells #[.int .i64 0, .int .i64 0, .int .i64 0, .int .i64 0, .int .i64 0, .int .i64 0] 89)) 89 #[.int .i64 p0.x, .int .i64 p0.y, .int .i64 p0.z, .int .i64 p0.x, .int .i64 p0.y, .int .i64 p0.z]
    exact h6
  have hR0 : Blk ((w.alloc (.cells #[.int .i64 0, .int .i64 0, .int .i64 0, .int .i64 0, .int .i64 0, .int .i64 0] 89)).alloc (.cells #[.int .i64 p0.x, .int .i64 p0.y, .int .i64 p0.z, .int .i64 p0.x, .int .i64 p0.y, .int .i64 p0.z] 89)).drew w.heap.size 89 #[.int .i64 0, .int .i64 0, .int .i64 0, .int .i64 0, .int .i64 0, .int .i64 0] := (Blk.new w _ _).alloc _
  have hC1 := HS.out.below (hW.mono hB)
  have hzW : ((w.alloc (.cells #[.int .i64 0, .int .i64 0, .int .i64 0, .int .i64 0, .int .i64 0, .int .i64 0] 89)).alloc (.cells #[.int .i64 p0.x, .int .i64 p0.y, .int .i64 p0.z, .int .i64 p0.x, .int .i64 p0.y, .int .i64 p0.z] 89)).drew.heap.size = w.heap.size + 2 := by simp
  have HR0 := Lib.hid hR0
  clear c0 c1 c2 hR0
  generalize ((w.alloc (.cells #[.int .i64 0, .int .i64 0, .int .i64 0, .int .i64 0, .int .i64 0, .int .i64 0] 89)).alloc (.cells #[.int .i64 p0.x, .int .i64 p0.y, .int .i64 p0.z, .int .i64 p0.x, .int .i64 p0.y, .int .i64 p0.z] 89)).drew = W1 at *
  go_loopw [4] (fun i wr => ∃ k : Nat, 1 ≤ k ∧ k ≤ n ∧ i = .int .i64 k ∧ Blk wr (w.heap.size + 1) 89 #[.int .i64 (S.hull (S.ptBox p0) ((ps.map S.ptBox).take k)).lo.x, .int .i64 (S.hull (S.ptBox p0) ((ps.map S.ptBox).take k)).lo.y, .int .i64 (S.hull (S.ptBox p0) ((ps.map S.ptBox).take k)).lo.z, .int .i64 (S.hull (S.ptBox p0) ((ps.map S.ptBox).take k)).hi.x, .int .i64 (S.hull (S.ptBox p0) ((ps.map S.ptBox).take k)).hi.y, .int .i64 (S.hull (S.ptBox p0) ((ps.map S.ptBox).take k)).hi.z] ∧ Exc [w.heap.size + 1] W1 wr) (fun i _ => n - (intOf i).toNat)
  case atStart => exact ⟨1, Nat.le_refl _, by omega, rfl, by rw [HH1.out, hull_one]; exact hK0, Exc.refl _ _⟩
  case round =>
    obtain ⟨k, hk1, hk, rfl, hK, hX⟩ := hrel
    have hsz := hX.size
    have hgr := hK.lt
    have k0 := hK.cell 0
    have k1 := hK.cell 1
    have k2 := hK.cell 2
    have k3 := hK.cell 3
    have k4 := hK.cell 4
    have k5 := hK.cell 5
    have f0 := hK.frozen 0
    have f1 := hK.frozen 1
    have f2 := hK.frozen 2
    have f3 := hK.frozen 3
    have f4 := hK.frozen 4
    have f5 := hK.frozen 5
    simp only [List.getElem?_toArray, List.getElem?_cons_zero, List.getElem?_cons_succ] at k0 k1 k2 k3 k4 k5
    by_cases hlt : k < n
    · have hkx : k < ps.length := by have := HN.out; omega
      obtain ⟨c0, c1, c2⟩ := (hC1.below (hX.below (by have := hW.size; omega) (by intro x hx; simp at hx; omega))).pts (List.getElem?_eq_getElem hkx)
      have HT := Lib.hid (show S.hull (S.ptBox p0) ((ps.map S.ptBox).take (k + 1)) = S.join (S.hull (S.ptBox p0) ((ps.map S.ptBox).take k)) (S.ptBox ps[k]) by rw [List.take_succ_eq_append_getElem (by simpa using hkx), hull_snoc, List.getElem_map])
      have hbr : b < wr.heap.size := by omega
      generalize (S.hull (S.ptBox p0) ((ps.map S.ptBox).take k)) = Hk at *
      generalize ps[k] = Y at *
      have hki : (k : Int) < (n : Int) := by omega
      go_wp2
      go_roundw
      case rel =>
        refine ⟨k + 1, by omega, by omega, by go_num, ?_, ?_⟩
        · rw [HT.out]
          have h6 := ((((((hK.set 0 (.int .i64 (S.join Hk (S.ptBox Y)).lo.x)).set 1 (.int .i64 (S.join Hk (S.ptBox Y)).lo.y)).set 2 (.int .i64 (S.join Hk (S.ptBox Y)).lo.z)).set 3 (.int .i64 (S.join Hk (S.ptBox Y)).hi.x)).set 4 (.int .i64 (S.join Hk (S.ptBox Y)).hi.y)).set 5 (.int .i64 (S.join Hk (S.ptBox Y)).hi.z)).alloc (.cells #[.int .i64 Y.x, .int .i64 Y.y, .int .i64 Y.z] 87)
          simp only [List.setIfInBounds_toArray, List.set_cons_zero, List.set_cons_succ] at h6
          exact h6
        · exact ((((((hX.set (.inl (by simp)) _).set (.inl (by simp)) _).set (.inl (by simp)) _).set (.inl (by simp)) _).set (.inl (by simp)) _).set (.inl (by simp)) _).alloc _
      case measure => simp [intOf]; omega
    · have he : k = n := by omega
      subst he
      have ht : (ps.map S.ptBox).take k = ps.map S.ptBox := List.take_of_length_le (by have := HN.out; simp; omega)
      rw [ht] at k0 k1 k2 k3 k4 k5
      have hRr : Blk wr w.heap.size 89 #[.int .i64 0, .int .i64 0, .int .i64 0, .int .i64 0, .int .i64 0, .int .i64 0] := (hX.block w.heap.size (by omega) (by simp)).trans HR0.out
      have z0 := hRr.cell 0
      have z1 := hRr.cell 1
      have z2 := hRr.cell 2
      have z3 := hRr.cell 3
      have z4 := hRr.cell 4
      have z5 := hRr.cell 5
      have y0 := hRr.frozen 0
      have y1 := hRr.frozen 1
      have y2 := hRr.frozen 2
      have y3 := hRr.frozen 3
      have y4 := hRr.frozen 4
      have y5 := hRr.frozen 5
      simp only [List.getElem?_toArray, List.getElem?_cons_zero, List.getElem?_cons_succ] at z0 z1 z2 z3 z4 z5
      have hrl := hRr.lt
      have hbel : Below w.heap.size w wr := hW.trans (hX.below (by omega) (by intro x hx; simp at hx; omega))
      clear hRr
      generalize hH : S.hull (S.ptBox p0) (ps.map S.ptBox) = Hk at *
      have HH := Lib.hid hH
      clear hH
      go_wp2
      exact bodyPost_ret (v := boxV Hk) (by simp [results, Tryz.results157, go_sem, *]) rfl ⟨by rw [HH.out], ((((((hbel.setCell (Nat.le_refl _) _).setCell (Nat.le_refl _) _).setCell (Nat.le_refl _) _).setCell (Nat.le_refl _) _).setCell (Nat.le_refl _) _).setCell (Nat.le_refl _) _)⟩
end Go.Proofs.YtffkmgjmlahfpaaGreat
