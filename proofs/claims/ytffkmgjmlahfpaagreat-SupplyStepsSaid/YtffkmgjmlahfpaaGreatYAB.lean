/- Lemmas. -/
import Derived.Test.YtffkmgjmlahfpaaGreatRows
import Derived.WalkKit
import Derived.ProofKit
import Derived.Lib.Hide
import Derived.BigQuiet
import Derived.Handy
import Derived.Maps.AppendAt
import Derived.BigRegion
import Derived.StillTail
import Derived.Deep.CutRange
import Derived.Deep.RegionHeld3
import Derived.Maps.OwnOps
import Derived.Maps.OwnSet
import Derived.Deep.MidRow
import Derived.Test.YtffkmgjmlahfpaaGreatYK
import Derived.Test.YtffkmgjmlahfpaaGreatYD
import Derived.Test.YtffkmgjmlahfpaaGreatYA
import Derived.Test.YtffkmgjmlahfpaaGreatYC
import Derived.Test.YtffkmgjmlahfpaaGreatYP
import Derived.Test.YtffkmgjmlahfpaaGreatYU
import Derived.Test.YtffkmgjmlahfpaaGreatYY
import Derived.Test.YtffkmgjmlahfpaaGreatYT
import Derived.Test.YtffkmgjmlahfpaaGreatYZ
import Derived.Test.YtffkmgjmlahfpaaGreatYQ
import Derived.Test.YtffkmgjmlahfpaaGreatYM
import Derived.Test.YtffkmgjmlahfpaaGreatYL
import Derived.Test.YtffkmgjmlahfpaaGreatYI
import Derived.Test.YtffkmgjmlahfpaaGreatYG
import Derived.Test.YtffkmgjmlahfpaaGreatYF
import Derived.Test.YtffkmgjmlahfpaaGreatYB
import Derived.Test.YtffkmgjmlahfpaaGreatYH
import Derived.Test.YtffkmgjmlahfpaaGreatYE
import Derived.Test.YtffkmgjmlahfpaaGreatYJ
import Derived.Test.YtffkmgjmlahfpaaGreatYN
import Derived.Test.YtffkmgjmlahfpaaGreatYO
import Derived.Test.YtffkmgjmlahfpaaGreatYX
import Derived.Test.YtffkmgjmlahfpaaGreatYW
import Derived.Test.YtffkmgjmlahfpaaGreatYV
import Derived.Test.YtffkmgjmlahfpaaGreatYAA
set_option linter.unusedVariables false
set_option linter.unusedSimpArgs false
namespace Go.Proofs.YtffkmgjmlahfpaaGreat
open Go.RowKit
theorem hull_one (p : Pt) : S.hull (S.ptBox p) [S.ptBox p] = S.ptBox p := join_self p
set_option maxRecDepth 100000 in
set_option maxHeartbeats 2000000 in
theorem rhull_any (A : Option Addr) (n c : Nat) (ps : List Pt) (p0 : Pt) (B : Nat) (w : World) (hn : ps.length = n) (hm : n ≤ 1000000) (hB : B ≤ w.heap.size) (hs : Cells w B A (ps.flatMap ptC)) (h0 : ps[0]? = some p0) :
    Calls Tryz.prog 157 #[.slice A n c] w fun e w' => e = .returned (boxV (S.hull (S.ptBox p0) (ps.map S.ptBox))) ∧ Below w.heap.size w w' := by
  have hn0 : 0 < n := by have := (List.getElem?_eq_some_iff.1 h0).1; omega
  have hni : (0 : Int) < (n : Int) := by omega
  have HN := Lib.hid hn
  have HS := Lib.hid hs
  have hh1 : (ps.map S.ptBox).take 1 = [S.ptBox p0] := by
    obtain ⟨x, l, rfl⟩ : ∃ x l, ps = x :: l := by cases ps with
      | nil => simp at h0
      | cons x l => exact ⟨x, l, rfl⟩
    simp at h0
    subst h0
    simp
  have HH1 := Lib.hid hh1
  obtain ⟨b, o, rfl, hb, _⟩ := hs.at_ (by rw [flat_len ptC 3 ptC_len]; omega)
  obtain ⟨c0, c1, c2⟩ := hs.pts h0
  simp only [Nat.zero_mul, Nat.add_zero] at c0 c1 c2
  have hbw : b < w.heap.size := by omega
  clear hn hs h0 hh1
  go_enter Tryz.func157, Tryz.ntmps157
  go_wp2
  go_region
  go_wp2
  have hW : Below w.heap.size w ((w.alloc (.cells #[.int .i64 0, .int .i64 0, .int .i64 0, .int .i64 0, .int .i64 0, .int .i64 0] 89)).alloc (.cells #[.int .i64 p0.x, .int .i64 p0.y, .int .i64 p0.z, .int .i64 p0.x, .int .i64 p0.y, .int .i64 p0.z] 89)).drew := bel
  have hK0 : Blk ((w.alloc (.cells #[.int .i64 0, .int .i64 0, .int .i64 0, .int .i64 0, .int .i64 0, .int .i64 0] 89)).alloc (.cells #[.int .i64 p0.x, .int .i64 p0.y, .int .i64 p0.z, .int .i64 p0.x, .int .i64 p0.y, .int .i64 p0.z] 89)).drew (w.heap.size + 1) 89 #[.int .i64 p0.x, .int .i64 p0.y, .int .i64 p0.z, .int .i64 p0.x, .int .i64 p0.y, .int .i64 p0.z] := by
    have h6 : Blk ((w.alloc (.cells #[.int .i64 0, .int .i64 0, .int .i64 0, .int .i64 0, .int .i64 0, .int .i64 0] 89)).alloc (.cells #[.int .i64 p0.x, .int .i64 p0.y, .int .i64 p0.z, .int .i64 p0.x, .int .i64 p0.y, .int .i64 p0.z] 89)) (w.heap.size + 1) 89 #[.int .i64 p0.x, .int .i64 p0.y, .int .i64 p0.z, .int .i64 p0.x, .int .i64 p0.y, .int .i64 p0.z] := by simpa using Blk.new (w.alloc (.cells #[.int .i64 0, .int .i64 0, .int .i64 0, .int .i64 0, .int .i64 0, .int .i64 0] 89)) 89 #[.int .i64 p0.x, .int .i64 p0.y, .int .i64 p0.z, .int .i64 p0.x, .int .i64 p0.y, .int .i64 p0.z]
    exact h6
  have hR0 : Blk ((w.alloc (.cells #[.int .i64 0, .int .i64 0, .int .i64 0, .int .i64 0, .int .i64 0, .int .i64 0] 89)).alloc (.cells #[.int .i64 p0.x, .int .i64 p0.y, .int .i64 p0.z, .int .i64 p0.x, .int .i64 p0.y, .int .i64 p0.z] 89)).drew w.heap.size 89 #[.int .i64 0, .int .i64 0, .int .i64 0, .int .i64 0, .int .i64 0, .int .i64 0] := (Blk.new w _ _).alloc _
  have hC1 := HS.out.below (hW.mono hB)
  have hzW : ((w.alloc (.cells #[.int .i64 0, .int .i64 0, .int .i64 0, .int .i64 0, .int .i64 0, .int .i64 0] 89)).alloc (.cells #[.int .i64 p0.x, .int .i64 p0.y, .int .i64 p0.z, .int .i64 p0.x, .int .i64 p0.y, .int .i64 p0.z] 89)).drew.heap.size = w.heap.size + 2 := by simp
  have HR0 := Lib.hid hR0
  clear c0 c1 c2 hR0
  generalize ((w.alloc (.cells #[.int .i64 0, .int .i64 0, .int .i64 0, .int .i64 0, .int .i64 0, .int .i64 0] 89)).alloc (.cells #[.int .i64 p0.x, .int .i64 p0.y, .int .i64 p0.z, .int .i64 p0.x, .int .i64 p0.y, .int .i64 p0.z] 89)).drew = W1 at *
  go_loopw [4] (fun i wr => ∃ k : Nat, 1 ≤ k ∧ k ≤ n ∧ i = .int .i64 k ∧ Blk wr (w.heap.size + 1) 89 #[.int .i64 (S.hull (S.ptBox p0) ((ps.map S.ptBox).take k)).lo.x, .int .i64 (S.hull (S.ptBox p0) ((ps.map S.ptBox).take k)).lo.y, .int .i64 (S.hull (S.ptBox p0) ((ps.map S.ptBox).take k)).lo.z, .int .i64 (S.hull (S.ptBox p0) ((ps.map S.ptBox).take k)).hi.x, .int .i64 (S.hull (S.ptBox p0) ((ps.map S.ptBox).take k)).hi.y, .int .i64 (S.hull (S.ptBox p0) ((ps.map S.ptBox).take k)).hi.z] ∧ Exc [w.heap.size + 1] W1 wr) (fun i _ => n - (intOf i).toNat)
  case atStart => exact ⟨1, Nat.le_refl _, by omega, rfl, by rw [HH1.out, hull_one]; exact hK0, Exc.refl _ _⟩
  case round =>
    obtain ⟨k, hk1, hk, rfl, hK, hX⟩ := hrel
    have hsz := hX.size
    have hgr := hK.lt
    have k0 := hK.cell 0
    have k1 := hK.cell 1
    have k2 := hK.cell 2
    have k3 := hK.cell 3
    have k4 := hK.cell 4
    have k5 := hK.cell 5
    have f0 := hK.frozen 0
    have f1 := hK.frozen 1
    have f2 := hK.frozen 2
    have f3 := hK.frozen 3
    have f4 := hK.frozen 4
    have f5 := hK.frozen 5
    simp only [List.getElem?_toArray, List.getElem?_cons_zero, List.getElem?_cons_succ] at k0 k1 k2 k3 k4 k5
    by_cases hlt : k < n
    · have hkx : k < ps.length := by have := HN.out; omega
      obtain ⟨c0, c1, c2⟩ := (hC1.below (hX.below (by have := hW.size; omega) (by intro x hx; simp at hx; omega))).pts (List.getElem?_eq_getElem hkx)
      have HT := Lib.hid (show S.hull (S.ptBox p0) ((ps.map S.ptBox).take (k + 1)) = S.join (S.hull (S.ptBox p0) ((ps.map S.ptBox).take k)) (S.ptBox ps[k]) by rw [List.take_succ_eq_append_getElem (by simpa using hkx), hull_snoc, List.getElem_map])
      have hbr : b < wr.heap.size := by omega
      generalize (S.hull (S.ptBox p0) ((ps.map S.ptBox).take k)) = Hk at *
      generalize ps[k] = Y at *
      have hki : (k : Int) < (n : Int) := by omega
      go_wp2
      go_roundw
      case rel =>
        refine ⟨k + 1, by omega, by omega, by go_num, ?_, ?_⟩
        · rw [HT.out]
          have h6 := ((((((hK.set 0 (.int .i64 (S.join Hk (S.ptBox Y)).lo.x)).set 1 (.int .i64 (S.join Hk (S.ptBox Y)).lo.y)).set 2 (.int .i64 (S.join Hk (S.ptBox Y)).lo.z)).set 3 (.int .i64 (S.join Hk (S.ptBox Y)).hi.x)).set 4 (.int .i64 (S.join Hk (S.ptBox Y)).hi.y)).set 5 (.int .i64 (S.join Hk (S.ptBox Y)).hi.z)).alloc (.cells #[.int .i64 Y.x, .int .i64 Y.y, .int .i64 Y.z] 87)
          simp only [List.setIfInBounds_toArray, List.set_cons_zero, List.set_cons_succ] at h6
          exact h6
        · exact ((((((hX.set (.inl (by simp)) _).set (.inl (by simp)) _).set (.inl (by simp)) _).set (.inl (by simp)) _).set (.inl (by simp)) _).set (.inl (by simp)) _).alloc _
      case measure => simp [intOf]; omega
    · have he : k = n := by omega
      subst he
      have ht : (ps.map S.ptBox).take k = ps.map S.ptBox := List.take_of_length_le (by have := HN.out; simp; omega)
      rw [ht] at k0 k1 k2 k3 k4 k5
      have hRr : Blk wr w.heap.size 89 #[.int .i64 0, .int .i64 0, .int .i64 0, .int .i64 0, .int .i64 0, .int .i64 0] := (hX.block w.heap.size (by omega) (by simp)).trans HR0.out
      have z0 := hRr.cell 0
      have z1 := hRr.cell 1
      have z2 := hRr.cell 2
      have z3 := hRr.cell 3
      have z4 := hRr.cell 4
      have z5 := hRr.cell 5
      have y0 := hRr.frozen 0
      have y1 := hRr.frozen 1
      have y2 := hRr.frozen 2
      have y3 := hRr.frozen 3
      have y4 := hRr.frozen 4
      have y5 := hRr.frozen 5
      simp only [List.getElem?_toArray, List.getElem?_cons_zero, List.getElem?_cons_succ] at z0 z1 z2 z3 z4 z5
      have hrl := hRr.lt
      have hbel : Below w.heap.size w wr := hW.trans (hX.below (by omega) (by intro x hx; simp at hx; omega))
      clear hRr
      generalize hH : S.hull (S.ptBox p0) (ps.map S.ptBox) = Hk at *
      have HH := Lib.hid hH
      clear hH
      go_wp2
      exact bodyPost_ret (v := boxV Hk) (by simp [results, Tryz.results157, go_sem, *]) rfl ⟨by rw [HH.out], ((((((hbel.setCell (Nat.le_refl _) _).setCell (Nat.le_refl _) _).setCell (Nat.le_refl _) _).setCell (Nat.le_refl _) _).setCell (Nat.le_refl _) _).setCell (Nat.le_refl _) _)⟩
theorem mnmx_eq (p q : Int) : (if q < p then q else p) = (if p < q then q else p) ↔ p = q := by
  split <;> split <;> omega
theorem mnmx_lt (p q : Int) : (if q < p then q else p) < (if p < q then q else p) ↔ p ≠ q := by
  split <;> split <;> omega
theorem isMain_iff2 {p q : Pt} : S.isMain p q = true ↔ p.x ≠ q.x ∧ p.y = q.y ∧ p.z = q.z := by simp [S.isMain, and_assoc]
theorem legB_main (p q : Pt) : S.isMainB (S.legB p q) = S.isMain p q := by
  rw [Bool.eq_iff_iff, isMainB_iff, isMain_iff2]
  show (if q.x < p.x then q.x else p.x) < (if p.x < q.x then q.x else p.x) ∧ (if q.y < p.y then q.y else p.y) = (if p.y < q.y then q.y else p.y) ∧ (if q.z < p.z then q.z else p.z) = (if p.z < q.z then q.z else p.z) ↔ _
  rw [mnmx_lt, mnmx_eq, mnmx_eq]
theorem legB_box {p q : Pt} (h : S.isMain p q = true) : S.legB p q = S.legBx p q := by
  simp only [S.isMain, Bool.and_eq_true, decide_eq_true_eq, bne_iff_ne] at h
  obtain ⟨⟨h1, h2⟩, h3⟩ := h
  obtain ⟨px, py, pz⟩ := p
  obtain ⟨qx, qy, qz⟩ := q
  simp only [] at h1 h2 h3
  subst h2 h3
  simp only [S.legB, S.join, S.ptBox, S.legBx, S.lmn, S.lmx, Bx.mk.injEq, Pt.mk.injEq]
  simp
  exact ⟨rfl, rfl⟩
theorem mainTo_leg {l : List Pt} : ∀ {m : Nat}, m < l.length → (S.mainTo l m = none → ∀ k, k < m → S.isMainB (S.legB (S.ptD l k) (S.ptD l (k + 1))) = false) ∧
    (∀ b, S.mainTo l m = some b → ∃ j, j < m ∧ S.legB (S.ptD l j) (S.ptD l (j + 1)) = b ∧ S.isMainB b = true ∧ ∀ k, k < j → S.isMainB (S.legB (S.ptD l k) (S.ptD l (k + 1))) = false) := by
  intro m
  induction m with
  | zero => intro _; exact ⟨fun _ k hk => absurd hk (by omega), fun b h => by simp [S.mainTo] at h⟩
  | succ m ih =>
    intro hm
    obtain ⟨ih1, ih2⟩ := ih (by omega)
    have hp : l[m]? = some (S.ptD l m) := by simp [S.ptD, List.getElem?_eq_getElem (show m < l.length by omega)]
    have hq : l[m + 1]? = some (S.ptD l (m + 1)) := by simp [S.ptD, List.getElem?_eq_getElem hm]
    cases hc : S.mainTo l m with
    | some b =>
      have hs := mainTo_stay hc (m + 1) (by omega)
      refine ⟨fun h => (by rw [hs] at h; cases h), fun b' h => ?_⟩
      rw [hs] at h
      injection h with h
      subst h
      obtain ⟨j, h1, h2⟩ := ih2 b hc
      exact ⟨j, by omega, h2⟩
    | none =>
      have hs := mainTo_succ hc hp hq
      have hno := ih1 hc
      by_cases hx : S.isMain (S.ptD l m) (S.ptD l (m + 1)) = true
      · rw [if_pos hx] at hs
        refine ⟨fun h => (by rw [hs] at h; cases h), fun b h => ?_⟩
        rw [hs] at h
        injection h with h
        subst h
        exact ⟨m, by omega, legB_box hx, by rw [← legB_box hx, legB_main]; exact hx, hno⟩
      · rw [if_neg hx] at hs
        refine ⟨fun _ k hk => ?_, fun b h => by rw [hs] at h; cases h⟩
        by_cases hkm : k = m
        · subst hkm; rw [legB_main]; simpa using hx
        · exact hno k (by omega)
theorem legsL_get {l : List Pt} {k : Nat} (hk : k < l.length - 1) : (S.legsL l)[k]? = some (S.legB (S.ptD l k) (S.ptD l (k + 1))) := by
  unfold S.legsL S.legsTo
  rw [List.getElem?_map, List.getElem?_range hk]
  rfl
theorem main_none {l : List Pt} (hl : 0 < l.length) (h : S.mainLeg l = none) : idxf (S.legsL l) S.isMainB = -1 := by
  have h1 := (mainTo_leg (l := l) (m := l.length - 1) (by omega)).1 h
  refine idxf_miss (fun j hj => ?_)
  have hj' : j < l.length - 1 := by simpa [S.legsL, legsTo_len] using hj
  have := legsL_get hj'
  rw [List.getElem?_eq_getElem hj] at this
  injection this with this
  rw [this]
  exact h1 j hj'
theorem main_some {l : List Pt} {b : Bx} (hl : 0 < l.length) (h : S.mainLeg l = some b) : ∃ j : Nat, idxf (S.legsL l) S.isMainB = (j : Int) ∧ (S.legsL l)[j]? = some b ∧ j < l.length - 1 := by
  obtain ⟨j, hj, h1, h2, h3⟩ := (mainTo_leg (l := l) (m := l.length - 1) (by omega)).2 b h
  have hg := legsL_get hj
  obtain ⟨hj', he⟩ := List.getElem?_eq_some_iff.1 hg
  refine ⟨j, idxf_hit hj' (by rw [he, h1]; exact h2) (fun k hk hkj => ?_), by rw [hg, h1], hj⟩
  have hk' : k < l.length - 1 := by omega
  have := legsL_get hk'
  rw [List.getElem?_eq_getElem hk] at this
  injection this with this
  rw [this]
  exact h3 k hkj
set_option maxRecDepth 100000 in
set_option maxHeartbeats 4000000 in
theorem rbent_00 (A : Option Addr) (n c : Nat) (xs : List Bx) (p : Pt) (B : Nat) (w : World) (hn : xs.length = n) (hm : n ≤ 1000000) (hB : B ≤ w.heap.size) (hs : Cells w B A (xs.flatMap boxC)) (h1 : n = 1) :
    Calls Tryz.prog 221 #[.slice A n c, .int .i64 0, ptVal p] w fun e w' => e = .returned (.bool (S.bent xs 0 p)) ∧ Below w.heap.size w w' := by
  have H := Lib.hid (show S.bent xs 0 p = false by simp [S.bent, hn, h1])
  have hni : ¬ (0 : Int) + 1 < n := by omega
  have hni2 : ¬ (1 : Int) < n := by omega
  unfold ptVal
  go_enter Tryz.func221, Tryz.ntmps221
  go_wp2
  refine wp_region_grow (by kernel_rfl) (by kernel_rfl) ?_
  repeat (go_big_quiet_step (fail))
  all_goals (refine wpQuiet_nil ?_; intro wg hbwg; obtain ⟨hcwg, hfwg⟩ := bcell hbwg)
  go_wp2
  go_ret
  exact ⟨ret_b H.out.symm, bel⟩
set_option maxRecDepth 100000 in
set_option maxHeartbeats 4000000 in
theorem rbent_01 (A : Option Addr) (n c : Nat) (xs : List Bx) (p : Pt) (B : Nat) (w : World) (hn : xs.length = n) (hm : n ≤ 1000000) (hB : B ≤ w.heap.size) (hs : Cells w B A (xs.flatMap boxC)) (h1 : 1 < n) :
    Calls Tryz.prog 221 #[.slice A n c, .int .i64 0, ptVal p] w fun e w' => e = .returned (.bool (S.bent xs 0 p)) ∧ Below w.heap.size w w' := by
  have H := Lib.hid (show S.bent xs 0 p = S.touch xs 1 p by simp [S.bent, hn, h1])
  have hni2 : (1 : Int) < n := by omega
  have hk1 : 1 < xs.length := by omega
  have HC := Lib.hid (fun w => rcontains_any (xs.getD 1 S.zbox) (S.pbox p) w (Int.le_refl _) (Int.le_refl _) (Int.le_refl _))
  obtain ⟨b, o, rfl, hb, _⟩ := hs.at_ (by rw [flat_len boxC 6 boxC_len]; omega)
  obtain ⟨c0, c1, c2, c3, c4, c5⟩ := hs.boxes (List.getElem?_eq_getElem hk1)
  simp only [Nat.one_mul, Nat.add_assoc, Nat.reduceAdd] at c0 c1 c2 c3 c4 c5
  rw [show xs.getD 1 S.zbox = xs[1] by simp [List.getD_eq_getElem?_getD, hk1]] at HC
  unfold S.touch at H
  rw [show xs.getD 1 S.zbox = xs[1] by simp [List.getD_eq_getElem?_getD, hk1]] at H
  generalize S.cont xs[1] (S.pbox p) = t at *
  generalize xs[1] = X at *
  have hbw : b < w.heap.size := by omega
  have hbw2 : b < w.heap.size + 1 + 1 := by omega
  unfold ptVal
  unfold boxV at HC
  cases t
  all_goals (
    go_enter Tryz.func221, Tryz.ntmps221
    go_wp2
    refine wp_region_grow (by kernel_rfl) (by kernel_rfl) ?_
    repeat (go_big_quiet_step ((go_at_call 261; exact grow_of (HC.out _))))
    all_goals (refine wpQuiet_nil ?_; intro wg hbwg; obtain ⟨hcwg, hfwg⟩ := bcell hbwg)
    go_wp2
    go_ret
    exact ⟨ret_b H.out.symm, bel⟩)
set_option maxRecDepth 100000 in
set_option maxHeartbeats 4000000 in
theorem rbent_10 (A : Option Addr) (n c k : Nat) (xs : List Bx) (p : Pt) (B : Nat) (w : World) (hn : xs.length = n) (hm : n ≤ 1000000) (hB : B ≤ w.heap.size) (hs : Cells w B A (xs.flatMap boxC)) (h0 : 0 < k) (hk : k < n) (h1 : ¬ k + 1 < n) :
    Calls Tryz.prog 221 #[.slice A n c, .int .i64 k, ptVal p] w fun e w' => e = .returned (.bool (S.bent xs k p)) ∧ Below w.heap.size w w' := by
  have hH : S.bent xs k p = S.touch xs (k - 1) p := by simp [S.bent, hn, h1, h0]
  obtain ⟨j, hj⟩ : ∃ j, j = k - 1 := ⟨_, rfl⟩
  obtain ⟨q, hq⟩ : ∃ q, q = k + 1 := ⟨_, rfl⟩
  have e1 : (k : Int) - 1 = (j : Int) := by omega
  have e2 : (k : Int) + 1 = (q : Int) := by omega
  have e3 : IntKind.i64.wrap (j : Int) = (j : Int) := IntWalk.i64_in _ (by omega)
  have e4 : IntKind.i64.wrap (q : Int) = (q : Int) := IntWalk.i64_in _ (by omega)
  have g1 : (0 : Int) < (k : Int) := by omega
  have g2 : ¬ (q : Int) < (n : Int) := by omega
  have hqd : decide (q < n) = false := by simp; omega
  have g3 : (j : Int) < (n : Int) := by omega
  have hj1 : j < n := by omega
  have hjx : j < xs.length := by omega
  rw [← hj] at hH
  have HC := Lib.hid (fun w => rcontains_any (xs.getD j S.zbox) (S.pbox p) w (Int.le_refl _) (Int.le_refl _) (Int.le_refl _))
  obtain ⟨b, o, rfl, hb, _⟩ := hs.at_ (by rw [flat_len boxC 6 boxC_len]; omega)
  obtain ⟨c0, c1, c2, c3, c4, c5⟩ := hs.boxes (List.getElem?_eq_getElem hjx)
  unfold S.touch at hH
  rw [show xs.getD j S.zbox = xs[j] by simp [List.getD_eq_getElem?_getD, hjx]] at HC hH
  have H := Lib.hid hH
  clear hH hj hq
  generalize S.cont xs[j] (S.pbox p) = t at *
  generalize xs[j] = X at *
  have hbw : b < w.heap.size := by omega
  have hbw2 : b < w.heap.size + 1 + 1 := by omega
  unfold ptVal
  unfold boxV at HC
  cases t
  all_goals (
    go_enter Tryz.func221, Tryz.ntmps221
    go_wp2
    refine wp_region_grow (by kernel_rfl) (by kernel_rfl) ?_
    repeat (go_big_quiet_step ((go_at_call 261; exact grow_of (HC.out _))))
    all_goals (refine wpQuiet_nil ?_; intro wg hbwg; obtain ⟨hcwg, hfwg⟩ := bcell hbwg)
    go_wp2
    go_ret
    exact ⟨ret_b H.out.symm, bel⟩)
set_option maxRecDepth 100000 in
set_option maxHeartbeats 4000000 in
theorem rbent_11 (A : Option Addr) (n c k : Nat) (xs : List Bx) (p : Pt) (B : Nat) (w : World) (hn : xs.length = n) (hm : n ≤ 1000000) (hB : B ≤ w.heap.size) (hs : Cells w B A (xs.flatMap boxC)) (h0 : 0 < k) (h1 : k + 1 < n) :
    Calls Tryz.prog 221 #[.slice A n c, .int .i64 k, ptVal p] w fun e w' => e = .returned (.bool (S.bent xs k p)) ∧ Below w.heap.size w w' := by
  have hH : S.bent xs k p = (S.touch xs (k - 1) p || S.touch xs (k + 1) p) := by simp [S.bent, hn, h1, h0]
  obtain ⟨j, hj⟩ : ∃ j, j = k - 1 := ⟨_, rfl⟩
  obtain ⟨q, hq⟩ : ∃ q, q = k + 1 := ⟨_, rfl⟩
  have e1 : (k : Int) - 1 = (j : Int) := by omega
  obtain ⟨z, hz⟩ : ∃ z : Int, z = (q : Int) := ⟨_, rfl⟩
  have e2 : (k : Int) + 1 = z := by omega
  have e5 : z.toNat = q := by omega
  have e3 : IntKind.i64.wrap (j : Int) = (j : Int) := IntWalk.i64_in _ (by omega)
  have e4 : IntKind.i64.wrap z = z := IntWalk.i64_in _ (by omega)
  have g1 : (0 : Int) < (k : Int) := by omega
  have g2 : z < (n : Int) := by omega
  have g4 : 0 ≤ z := by omega
  have g3 : (j : Int) < (n : Int) := by omega
  have hj1 : j < n := by omega
  have hq1 : q < n := by omega
  have hjx : j < xs.length := by omega
  have hqx : q < xs.length := by omega
  rw [← hj, ← hq] at hH
  have HC := Lib.hid (fun w => rcontains_any (xs.getD j S.zbox) (S.pbox p) w (Int.le_refl _) (Int.le_refl _) (Int.le_refl _))
  have HD := Lib.hid (fun w => rcontains_any (xs.getD q S.zbox) (S.pbox p) w (Int.le_refl _) (Int.le_refl _) (Int.le_refl _))
  obtain ⟨b, o, rfl, hb, _⟩ := hs.at_ (by rw [flat_len boxC 6 boxC_len]; omega)
  obtain ⟨c0, c1, c2, c3, c4, c5⟩ := hs.boxes (List.getElem?_eq_getElem hjx)
  obtain ⟨d0, d1, d2, d3, d4, d5⟩ := hs.boxes (List.getElem?_eq_getElem hqx)
  unfold S.touch at hH
  rw [show xs.getD j S.zbox = xs[j] by simp [List.getD_eq_getElem?_getD, hjx]] at HC hH
  rw [show xs.getD q S.zbox = xs[q] by simp [List.getD_eq_getElem?_getD, hqx]] at HD hH
  have H := Lib.hid hH
  clear hH hj hq hz
  generalize S.cont xs[j] (S.pbox p) = t at *
  generalize S.cont xs[q] (S.pbox p) = u at *
  generalize xs[j] = X at *
  generalize xs[q] = Y at *
  have hbw : b < w.heap.size := by omega
  have hbw2 : b < w.heap.size + 1 + 1 := by omega
  unfold ptVal
  unfold boxV at HC HD
  cases t <;> cases u
  all_goals (
    go_enter Tryz.func221, Tryz.ntmps221
    go_wp2
    refine wp_region_grow (by kernel_rfl) (by kernel_rfl) ?_
    repeat (go_big_quiet_step ((first | (go_at_call 261; with_reducible exact grow_of (HC.out _)) | (go_at_call 261; with_reducible exact grow_of (HD.out _)))))
    all_goals (refine wpQuiet_nil ?_; intro wg hbwg; obtain ⟨hcwg, hfwg⟩ := bcell hbwg)
    go_wp2
    go_ret
    exact ⟨ret_b H.out.symm, bel⟩)
theorem rbent_any (A : Option Addr) (n c k : Nat) (xs : List Bx) (p : Pt) (B : Nat) (w : World) (hn : xs.length = n) (hm : n ≤ 1000000) (hB : B ≤ w.heap.size) (hs : Cells w B A (xs.flatMap boxC)) (hk : k < n) :
    Calls Tryz.prog 221 #[.slice A n c, .int .i64 k, ptVal p] w fun e w' => e = .returned (.bool (S.bent xs k p)) ∧ Below w.heap.size w w' := by
  by_cases h0 : 0 < k
  · by_cases h1 : k + 1 < n
    · exact rbent_11 A n c k xs p B w hn hm hB hs h0 h1
    · exact rbent_10 A n c k xs p B w hn hm hB hs h0 hk h1
  · obtain rfl : k = 0 := by omega
    by_cases h1 : 1 < n
    · exact rbent_01 A n c xs p B w hn hm hB hs h1
    · exact rbent_00 A n c xs p B w hn hm hB hs (by omega)
set_option maxHeartbeats 1000000 in
theorem rshull_yes (A : Option Addr) (n c : Nat) (A' : Option Addr) (n' c' : Nat) (xs hs : List Bx) (x0 : Bx) (B : Nat) (w : World) (hB : B ≤ w.heap.size) (hA : SolAt w B A n A' n' xs hs) (hn : n ≤ 1000000) (h0 : xs[0]? = some x0) :
    Calls Tryz.prog 130 #[solV A n c A' n' c'] w fun e w' => e = .returned (boxV (S.hull x0 xs)) ∧ Below w.heap.size w w' := by
  have HA := Lib.hid hA
  have HH := Lib.hid (fun (W : World) (hw : B ≤ W.heap.size) (hh : Cells W B A (xs.flatMap boxC)) => rbhull_yes A n c xs x0 B W HA.out.len hn hw hh h0)
  clear hA
  generalize S.hull x0 xs = X at *
  unfold solV
  go_enter Tryz.func130, Tryz.ntmps130
  go_wp2_with (go_at_call 192; (with_reducible refine (HH.out _ (size_via hB bel) (SolAt.at_ HA.out hB bel).cells).mono ?_); rintro e w2 ⟨rfl, hbw2⟩; obtain ⟨hcw2, hfw2⟩ := bcell hbw2; have hzw2_0 : w.heap.size < w2.heap.size := lt_via hbw2 (by first | omega | (simp; done) | (simp; omega)); have hzw2_1 : w.heap.size + 1 < w2.heap.size := lt_via hbw2 (by first | omega | (simp; done) | (simp; omega)))
  have hbel : Below w.heap.size w w2 := bel
  have hRs : Blk w2 (w.heap.size + 1) 89 #[.int .i64 0, .int .i64 0, .int .i64 0, .int .i64 0, .int .i64 0, .int .i64 0] := Blk.via (by simpa using Blk.new (w.alloc (.cells #[.slice A n c, .slice A' n' c'] 24)) 89 #[.int .i64 0, .int .i64 0, .int .i64 0, .int .i64 0, .int .i64 0, .int .i64 0]) hbw2
  have z0 := hRs.cell 0
  have z1 := hRs.cell 1
  have z2 := hRs.cell 2
  have z3 := hRs.cell 3
  have z4 := hRs.cell 4
  have z5 := hRs.cell 5
  simp only [List.getElem?_toArray, List.getElem?_cons_zero, List.getElem?_cons_succ] at z0 z1 z2 z3 z4 z5
  exact bodyPost_ret (v := boxV X) (by simp [results, Tryz.results130, go_sem, *]) rfl ⟨rfl, ((((((hbel.setCell (Nat.le_succ _) _).setCell (Nat.le_succ _) _).setCell (Nat.le_succ _) _).setCell (Nat.le_succ _) _).setCell (Nat.le_succ _) _).setCell (Nat.le_succ _) _)⟩
theorem rpoor_yes (m : Mem) (leg : Bx) (A : Option Addr) (n c : Nat) (A' : Option Addr) (n' c' : Nat) (B : Nat) (w : World) (hB : B ≤ w.heap.size) (hA : SolAt w B A n A' n' m.boxes m.holes) (h : S.solid m.boxes m.holes = true) (hl : S.boxOk leg = true) :
    Calls Tryz.prog 73 #[memV m A n c A' n' c', boxV leg] w fun e w' => e = .returned (.bool (S.poor m.boxes leg)) ∧ Below w.heap.size w w' := by
  have HA := Lib.hid hA
  have hn20 : n ≤ 20 := by
    have h1 := hA.len
    simp only [S.solid, Bool.and_eq_true, decide_eq_true_eq] at h
    omega
  obtain ⟨hok, hlen⟩ := solid_ok h
  have h0 : m.boxes[0]? = some (m.boxes.headD ⟨⟨0, 0, 0⟩, ⟨0, 0, 0⟩⟩) := by
    cases hb : m.boxes with
    | nil => rw [hb] at hlen; simp at hlen
    | cons x l => rfl
  have hz := boxOk_z hl
  have hin := hull_lo_in (m.boxes.headD ⟨⟨0, 0, 0⟩, ⟨0, 0, 0⟩⟩) m.boxes (by have := boxOk_z (boxes_ok hok _ (List.mem_of_getElem? h0)); omega) (fun b hb => by have := boxOk_z (boxes_ok hok b hb); omega)
  have HP := Lib.hid (show S.poor m.boxes leg = decide (250 < leg.lo.z - (S.hull (m.boxes.headD ⟨⟨0, 0, 0⟩, ⟨0, 0, 0⟩⟩) m.boxes).lo.z) from rfl)
  have HH := Lib.hid (fun (W : World) (hw : B ≤ W.heap.size) (hh : SolAt W B A n A' n' m.boxes m.holes) => rshull_yes A n c A' n' c' m.boxes m.holes _ B W hw hh (by omega) h0)
  clear hA
  generalize S.hull (m.boxes.headD ⟨⟨0, 0, 0⟩, ⟨0, 0, 0⟩⟩) m.boxes = X at *
  have e1 : IntKind.i64.wrap (leg.lo.z - X.lo.z) = leg.lo.z - X.lo.z := IntWalk.i64_in _ (by omega)
  unfold boxV at HH
  have f0 : ∀ W, (Instr.field 89 (.agg #[.int .i64 X.lo.x, .int .i64 X.lo.y, .int .i64 X.lo.z, .int .i64 X.hi.x, .int .i64 X.hi.y, .int .i64 X.hi.z]) 0).run Tryz.prog W = .ok (.agg #[.int .i64 X.lo.x, .int .i64 X.lo.y, .int .i64 X.lo.z]) W := fun _ => by kernel_rfl
  have f1 : ∀ W, (Instr.field 87 (.agg #[.int .i64 X.lo.x, .int .i64 X.lo.y, .int .i64 X.lo.z]) 2).run Tryz.prog W = .ok (.int .i64 X.lo.z) W := fun _ => by kernel_rfl
  unfold memV boxV
  go_enter Tryz.func73, Tryz.ntmps73
  go_wp2
  refine wp_region_grow (by kernel_rfl) (by kernel_rfl) ?_
  repeat (go_big_quiet_step ((go_at_call 130; exact grow_of (HH.out _ (size_via hB (ba_via (grow_below _ _) bel)) (SolAt.at_ HA.out hB (ba_via (grow_below _ _) bel))))))
  all_goals (refine wpQuiet_nil ?_; intro wg hbwg; obtain ⟨hcwg, hfwg⟩ := bcell hbwg; have hzwg_0 : w.heap.size < wg.heap.size := lt_via hbwg (by first | omega | (simp; done) | (simp; omega)); have hzwg_1 : w.heap.size + 1 < wg.heap.size := lt_via hbwg (by first | omega | (simp; done) | (simp; omega)))
  go_wp2
  go_ret
  exact ⟨ret_b HP.out.symm, bel⟩
set_option maxRecDepth 100000 in
set_option maxHeartbeats 4000000 in
theorem rends_yes (r : Rule) (m : Mem) (A : Option Addr) (n c : Nat) (A' : Option Addr) (n' c' : Nat) (b : Bar) (D : Option Addr) (dn dc : Nat) (L : Option Addr) (k kc : Nat) (xs : List Bx) (B : Nat) (w : World) (hB : B ≤ w.heap.size)
    (hA : EndsAt w B A n A' n' m D dn b L k xs) (h : S.given r m b xs = 0) (j : Nat) (hj : j < xs.length) (hij : idxf xs S.isMainB = j) :
    Calls Tryz.prog 159 #[ruleV r, memV m A n c A' n' c', barV b D dn dc, .slice L k kc] w fun e w' => e = .returned (.tuple #[.int .i64 (S.endLen r m b xs j (xs.getD j S.zbox).lo), .int .i64 (S.endLen r m b xs j (xs.getD j S.zbox).hi)]) ∧ Below w.heap.size w w' := by
  have HA := Lib.hid hA
  have hlen := hA.len
  have hmax := hA.max
  obtain ⟨h1, h2, h3, _⟩ := given_zero h
  have h1' := h1
  simp only [S.heads, Bool.and_eq_true] at h1'
  obtain ⟨⟨g0, g1⟩, g2⟩ := h1'
  have hso : S.solid m.boxes m.holes = true := by
    have := g1
    simp only [S.member, Bool.and_eq_true] at this
    exact this.1.1.1.2
  have hleg : S.boxOk xs[j] = true := boxes_ok h2 _ (List.getElem_mem hj)
  have hbd := size_bd (bar_size g2)
  have hl6 := legs_len b.code
  have hk6 : k ≤ 6 := by omega
  have hjk : j < k := by omega
  have HR := Lib.hid (rule_ok g0)
  have HML := Lib.hid (fun (W : World) (hw : B ≤ W.heap.size) (hh : EndsAt W B A n A' n' m D dn b L k xs) => hij ▸ mainleg_any L k kc xs B W hh.len hh.max hw hh.legs)
  have HP := Lib.hid (fun (W : World) (hw : B ≤ W.heap.size) (hh : EndsAt W B A n A' n' m D dn b L k xs) => rpoor_yes m xs[j] A n c A' n' c' B W hw hh.sol hso hleg)
  have HBL := Lib.hid (fun (W : World) (hw : B ≤ W.heap.size) (hh : EndsAt W B A n A' n' m D dn b L k xs) => rbent_any L k kc j xs xs[j].lo B W hh.len (by omega) hw hh.legs hjk)
  have HBH := Lib.hid (fun (W : World) (hw : B ≤ W.heap.size) (hh : EndsAt W B A n A' n' m D dn b L k xs) => rbent_any L k kc j xs xs[j].hi B W hh.len (by omega) hw hh.legs hjk)
  have HLN := Lib.hid (fun (poor bent : Bool) (W : World) => rlength_any r b.size poor bent W HR.out (by omega) (by omega))
  have hE : ∀ p, S.endLen r m b xs j p = S.length r b.size (S.poor m.boxes xs[j]) (S.bent xs j p) := fun p => by
    unfold S.endLen
    rw [show xs.getD j S.zbox = xs[j] by simp [List.getD_eq_getElem?_getD, hj]]
  rw [hE, hE, show xs.getD j S.zbox = xs[j] by simp [List.getD_eq_getElem?_getD, hj]]
  obtain ⟨bb, o, rfl, hbb, _⟩ := hA.legs.at_ (by rw [flat_len boxC 6 boxC_len]; omega)
  obtain ⟨c0, c1, c2, c3, c4, c5⟩ := hA.legs.boxes (List.getElem?_eq_getElem hj)
  have hbw : bb < w.heap.size := by omega
  have hbw3 : bb < w.heap.size + 1 + 1 + 1 := by omega
  have hbw2 : bb < w.heap.size + 1 + 1 := by omega
  have hbw0 : bb < w.heap.size + 1 := by omega
  have hji : (j : Int) < (k : Int) := by omega
  clear hA h h1 h2 h3 g0 g1 g2 hso hleg hE hij
  generalize S.poor m.boxes xs[j] = tp at *
  generalize S.bent xs j xs[j].lo = tl at *
  generalize S.bent xs j xs[j].hi = th at *
  generalize xs[j] = X at *
  unfold ptVal at HBL HBH
  unfold memV boxV at HP
  unfold ruleV at HLN
  unfold ruleV memV barV
  go_enter Tryz.func159, Tryz.ntmps159
  go_wp2_with (first
    | (go_at_call 96; (with_reducible refine (HML.out _ (size_via hB bel) (EndsAt.at_ HA.out hB bel)).mono ?_); rintro e w1 ⟨rfl, hbw1⟩; obtain ⟨hcw1, hfw1⟩ := bcell hbw1; have hzw1_0 : w.heap.size < w1.heap.size := lt_via hbw1 (by first | omega | (simp; done) | (simp; omega)); have hzw1_1 : w.heap.size + 1 < w1.heap.size := lt_via hbw1 (by first | omega | (simp; done) | (simp; omega)); have hzw1_2 : w.heap.size + 2 < w1.heap.size := lt_via hbw1 (by first | omega | (simp; done) | (simp; omega))))
  have hbw1' : bb < w1.heap.size := by omega
  refine wp_region_grow (by kernel_rfl) (by kernel_rfl) ?_
  repeat (go_big_quiet_step ((go_at_call 73; exact grow_of (HP.out _ (size_via hB (ba_via (grow_below _ _) bel)) (EndsAt.at_ HA.out hB (ba_via (grow_below _ _) bel))))))
  all_goals (refine wpQuiet_nil ?_; intro wg hbwg; obtain ⟨hcwg, hfwg⟩ := bcell hbwg; have hzwg_0 : w.heap.size < wg.heap.size := lt_via hbwg (by first | omega | (simp; done) | (simp; omega)); have hzwg_1 : w.heap.size + 1 < wg.heap.size := lt_via hbwg (by first | omega | (simp; done) | (simp; omega)); have hzwg_2 : w.heap.size + 2 < wg.heap.size := lt_via hbwg (by first | omega | (simp; done) | (simp; omega)))
  have hbwg' : bb < wg.heap.size := by have := hbwg.size; omega
  go_wp2
  refine wp_region_grow (by kernel_rfl) (by kernel_rfl) ?_
  repeat (go_big_quiet_step ((first
    | (go_at_call 221; with_reducible exact grow_of (HBL.out _ (size_via hB (ba_via (grow_below _ _) bel)) (EndsAt.at_ HA.out hB (ba_via (grow_below _ _) bel))))
    | (go_at_call 221; with_reducible exact grow_of (HBH.out _ (size_via hB (ba_via (grow_below _ _) bel)) (EndsAt.at_ HA.out hB (ba_via (grow_below _ _) bel))))
    | (go_at_call 132; exact grow_of (HLN.out _ _ _)))))
  all_goals (refine wpQuiet_nil ?_; intro wh hbwh; obtain ⟨hcwh, hfwh⟩ := bcell hbwh; have hzwh_0 : w.heap.size < wh.heap.size := lt_via hbwh (by first | omega | (simp; done) | (simp; omega)); have hzwh_1 : w.heap.size + 1 < wh.heap.size := lt_via hbwh (by first | omega | (simp; done) | (simp; omega)); have hzwh_2 : w.heap.size + 2 < wh.heap.size := lt_via hbwh (by first | omega | (simp; done) | (simp; omega)))
  go_wp2
  go_ret2
  exact ⟨rfl, bel⟩
theorem ba_set2 {w W : World} {g : Nat} (h : Below w.heap.size w W) (hg : w.heap.size ≤ g) (v0 v1 : Value) : Below w.heap.size w ((W.setCell ⟨g, 0, none⟩ v0).setCell ⟨g, 1, none⟩ v1) :=
  ba_set (ba_set h hg _) hg _
end Go.Proofs.YtffkmgjmlahfpaaGreat
