/- Contract: lap.joint; blocks of nine cells. -/
import Derived.Test.YtnjflafaflalfaaRAJ
set_option linter.unusedVariables false
set_option linter.unusedSimpArgs false
namespace Go.Proofs.Ytnjflafaflalfaa
open Go.RowKit
theorem Blk.newN {W : World} {n : Nat} (hn : W.heap.size = n) (t : TypeId) (cs : Array Value) : Blk (W.alloc (.cells cs t)) n t cs := hn ▸ Blk.new W t cs
theorem Blk.drew {W : World} {g : Nat} {t : TypeId} {cs : Array Value} (h : Blk W g t cs) : Blk W.drew g t cs := h
def BlkE (W : World) (g : Nat) (t : TypeId) : Prop := ∃ c0 c1 c2 c3 c4 c5 c6 c7 c8 : Value, Blk W g t #[c0, c1, c2, c3, c4, c5, c6, c7, c8]
theorem BlkE.newN {W : World} {n : Nat} (hn : W.heap.size = n) (t : TypeId) (c0 c1 c2 c3 c4 c5 c6 c7 c8 : Value) : BlkE (W.alloc (.cells #[c0, c1, c2, c3, c4, c5, c6, c7, c8] t)) n t := ⟨c0, c1, c2, c3, c4, c5, c6, c7, c8, Blk.newN hn t _⟩
theorem BlkE.map {W w : World} {g : Nat} {t : TypeId} (h : BlkE W g t) (f : ∀ cs, Blk W g t cs → Blk w g t cs) : BlkE w g t := by
  obtain ⟨c0, c1, c2, c3, c4, c5, c6, c7, c8, h⟩ := h
  exact ⟨c0, c1, c2, c3, c4, c5, c6, c7, c8, f _ h⟩
theorem BlkE.alloc {W : World} {g : Nat} {t : TypeId} (h : BlkE W g t) (o : Obj) : BlkE (W.alloc o) g t := h.map fun _ h => h.alloc o
theorem BlkE.drew {W : World} {g : Nat} {t : TypeId} (h : BlkE W g t) : BlkE W.drew g t := h
theorem BlkE.via {W w : World} {g : Nat} {t : TypeId} (h : BlkE W g t) (hb : Below W.heap.size W w) : BlkE w g t := h.map fun _ h => h.via hb
theorem Blk.set9 {W : World} {g : Nat} {t : TypeId} (h : BlkE W g t) (v0 v1 v2 v3 v4 v5 v6 v7 v8 : Value) : Blk (((((((((W.setCell ⟨g, 0, none⟩ v0).setCell ⟨g, 1, none⟩ v1).setCell ⟨g, 2, none⟩ v2).setCell ⟨g, 3, none⟩ v3).setCell ⟨g, 4, none⟩ v4).setCell ⟨g, 5, none⟩ v5).setCell ⟨g, 6, none⟩ v6).setCell ⟨g, 7, none⟩ v7).setCell ⟨g, 8, none⟩ v8) g t #[v0, v1, v2, v3, v4, v5, v6, v7, v8] := by
  obtain ⟨c0, c1, c2, c3, c4, c5, c6, c7, c8, hB⟩ := h
  have h9 := ((((((((hB.set 0 v0).set 1 v1).set 2 v2).set 3 v3).set 4 v4).set 5 v5).set 6 v6).set 7 v7).set 8 v8
  simp only [List.setIfInBounds_toArray, List.set_cons_zero, List.set_cons_succ] at h9
  exact h9
theorem Blk.far9 {W : World} {g g' : Nat} {t : TypeId} {cs : Array Value} (h : Blk W g' t cs) (hn : g ≠ g') (v0 v1 v2 v3 v4 v5 v6 v7 v8 : Value) : Blk (((((((((W.setCell ⟨g, 0, none⟩ v0).setCell ⟨g, 1, none⟩ v1).setCell ⟨g, 2, none⟩ v2).setCell ⟨g, 3, none⟩ v3).setCell ⟨g, 4, none⟩ v4).setCell ⟨g, 5, none⟩ v5).setCell ⟨g, 6, none⟩ v6).setCell ⟨g, 7, none⟩ v7).setCell ⟨g, 8, none⟩ v8) g' t cs :=
  ((((((((h.far hn.symm _).far hn.symm _).far hn.symm _).far hn.symm _).far hn.symm _).far hn.symm _).far hn.symm _).far hn.symm _).far hn.symm _
theorem BlkE.far9 {W : World} {g g' : Nat} {t : TypeId} (h : BlkE W g' t) (hn : g ≠ g') (v0 v1 v2 v3 v4 v5 v6 v7 v8 : Value) : BlkE (((((((((W.setCell ⟨g, 0, none⟩ v0).setCell ⟨g, 1, none⟩ v1).setCell ⟨g, 2, none⟩ v2).setCell ⟨g, 3, none⟩ v3).setCell ⟨g, 4, none⟩ v4).setCell ⟨g, 5, none⟩ v5).setCell ⟨g, 6, none⟩ v6).setCell ⟨g, 7, none⟩ v7).setCell ⟨g, 8, none⟩ v8) g' t := h.map fun _ h => h.far9 hn _ _ _ _ _ _ _ _ _
def S.jointIn (l : List Mn) (j : Jn) : Bool := decide (0 ≤ j.first) && decide (j.first < l.length) && decide (0 ≤ j.second) && decide (j.second < l.length)
def S.jointOn (a b : Mn) : Bool := a.has && b.has && decide (a.leg.lo.x < b.leg.lo.x) && decide (a.leg.hi.x < b.leg.hi.x) && decide (b.leg.lo.x ≤ a.leg.hi.x)
def S.jointOk (l : List Mn) (j : Jn) : Bool := S.jointIn l j && (match l[j.first.toNat]?, l[j.second.toNat]? with | some a, some b => S.jointOn a b | _, _ => false)
theorem joint_out (l : List Mn) (j : Jn) (A : Option Addr) (n c : Nat) (w : World) (hn : l.length = n) (hm : n ≤ 9223372036854775807) (h : S.jointIn l j = false) :
    Calls Try.prog 32 #[.slice A n c, jnV j] w fun e w' => e = .returned (.bool (S.jointOk l j)) ∧ Below w.heap.size w w' := by
  have H := Lib.hid (show S.jointOk l j = false by unfold S.jointOk; rw [h]; rfl)
  have hcs : j.first < 0 ∨ (¬ j.first < 0 ∧ (n : Int) ≤ j.first) ∨ (¬ j.first < 0 ∧ ¬ (n : Int) ≤ j.first ∧ j.second < 0) ∨ (¬ j.first < 0 ∧ ¬ (n : Int) ≤ j.first ∧ ¬ j.second < 0 ∧ (n : Int) ≤ j.second) := by
    simp only [S.jointIn, Bool.and_eq_false_iff, decide_eq_false_iff_not, hn] at h
    omega
  clear h hn
  unfold jnV
  rcases hcs with h1 | ⟨h1, h2⟩ | ⟨h1, h2, h3⟩ | ⟨h1, h2, h3, h4⟩
  all_goals (
    go_enter Try.func32, Try.ntmps32
    go_wp2
    go_ret
    exact ⟨ret_b H.out.symm, bel⟩)
set_option maxHeartbeats 4000000 in
theorem joint_in (l : List Mn) (i k : Nat) (a b : Mn) (A : Option Addr) (n c : Nat) (B : Nat) (w : World) (hn : l.length = n) (hm : n ≤ 9223372036854775807) (hB : B ≤ w.heap.size) (hs : Cells w B A (l.flatMap mnC)) (hi : l[i]? = some a) (hk : l[k]? = some b) :
    Calls Try.prog 32 #[.slice A n c, .agg #[.int .i64 i, .int .i64 k]] w fun e w' => e = .returned (.bool (S.jointOn a b)) ∧ Below w.heap.size w w' := by
  have H := Lib.hid (show S.jointOn a b = (a.has && b.has && decide (a.leg.lo.x < b.leg.lo.x) && decide (a.leg.hi.x < b.leg.hi.x) && decide (b.leg.lo.x ≤ a.leg.hi.x)) from rfl)
  obtain ⟨hix, hia⟩ := List.getElem?_eq_some_iff.1 hi
  obtain ⟨hkx, hkb⟩ := List.getElem?_eq_some_iff.1 hk
  have hin : (i : Int) < n := by omega
  have hkn : (k : Int) < n := by omega
  have hi0 : (0 : Int) ≤ i := by omega
  have hk0 : (0 : Int) ≤ k := by omega
  have hi1 : ¬ ((i : Int) < 0) := by omega
  have hk1 : ¬ ((k : Int) < 0) := by omega
  have hi2 : ¬ ((n : Int) ≤ i) := by omega
  have hk2 : ¬ ((n : Int) ≤ k) := by omega
  go_enter Try.func32, Try.ntmps32
  go_wp2
  have hs' := hs.alloc hB (.cells #[.int .i64 i, .int .i64 k] 68)
  obtain ⟨bL, oL, rfl, hbL, _⟩ := hs'.at_ (by rw [flat_len mnC 9 mnC_len]; omega)
  have a0 := hs'.row0 mnC_len hix rfl
  have a1 := hs'.rowj mnC_len hix 1 rfl
  have a2 := hs'.rowj mnC_len hix 2 rfl
  have a3 := hs'.rowj mnC_len hix 3 rfl
  have a4 := hs'.rowj mnC_len hix 4 rfl
  have a5 := hs'.rowj mnC_len hix 5 rfl
  have a6 := hs'.rowj mnC_len hix 6 rfl
  have a7 := hs'.rowj mnC_len hix 7 rfl
  have a8 := hs'.rowj mnC_len hix 8 rfl
  rw [hia] at a0 a1 a2 a3 a4 a5 a6 a7 a8
  have b0 := hs'.row0 mnC_len hkx rfl
  have b1 := hs'.rowj mnC_len hkx 1 rfl
  have b2 := hs'.rowj mnC_len hkx 2 rfl
  have b3 := hs'.rowj mnC_len hkx 3 rfl
  have b4 := hs'.rowj mnC_len hkx 4 rfl
  have b5 := hs'.rowj mnC_len hkx 5 rfl
  have b6 := hs'.rowj mnC_len hkx 6 rfl
  have b7 := hs'.rowj mnC_len hkx 7 rfl
  have b8 := hs'.rowj mnC_len hkx 8 rfl
  rw [hkb] at b0 b1 b2 b3 b4 b5 b6 b7 b8
  have hJ := Blk.new w 68 #[.int .i64 i, .int .i64 k]
  have j0 := hJ.cell 0
  have j1 := hJ.cell 1
  simp only [List.getElem?_toArray, List.getElem?_cons_zero, List.getElem?_cons_succ] at j0 j1
  have hb0 : Below w.heap.size w (w.alloc (.cells #[.int .i64 i, .int .i64 k] 68)) := ba_alloc (Below.refl _ _) _
  have hl0 := hJ.lt
  have hsz : (w.alloc (.cells #[.int .i64 i, .int .i64 k] 68)).heap.size = w.heap.size + 1 := by simp
  have hlb : bL < (w.alloc (.cells #[.int .i64 i, .int .i64 k] 68)).heap.size := by omega
  clear hs hs' hJ hi hk hia hkb
  generalize (w.alloc (.cells #[.int .i64 i, .int .i64 k] 68)) = W0 at *
  clear hsz
  have hkeep : ∀ W', Below W0.heap.size W0 W' → W'.cell? ⟨w.heap.size, 0, none⟩ = some (.int .i64 i) ∧ W'.cell? ⟨w.heap.size, 1, none⟩ = some (.int .i64 k) ∧ W'.cell? ⟨bL, oL + i * 9, none⟩ = some (.int .i64 a.leg.lo.x) ∧ W'.cell? ⟨bL, oL + i * 9 + 1, none⟩ = some (.int .i64 a.leg.lo.y) ∧ W'.cell? ⟨bL, oL + i * 9 + 2, none⟩ = some (.int .i64 a.leg.lo.z) ∧ W'.cell? ⟨bL, oL + i * 9 + 3, none⟩ = some (.int .i64 a.leg.hi.x) ∧ W'.cell? ⟨bL, oL + i * 9 + 4, none⟩ = some (.int .i64 a.leg.hi.y) ∧ W'.cell? ⟨bL, oL + i * 9 + 5, none⟩ = some (.int .i64 a.leg.hi.z) ∧ W'.cell? ⟨bL, oL + i * 9 + 6, none⟩ = some (.bool a.has) ∧ W'.cell? ⟨bL, oL + i * 9 + 7, none⟩ = some (.int .i64 a.size) ∧ W'.cell? ⟨bL, oL + i * 9 + 8, none⟩ = some (.string a.mark) ∧ W'.cell? ⟨bL, oL + k * 9, none⟩ = some (.int .i64 b.leg.lo.x) ∧ W'.cell? ⟨bL, oL + k * 9 + 1, none⟩ = some (.int .i64 b.leg.lo.y) ∧ W'.cell? ⟨bL, oL + k * 9 + 2, none⟩ = some (.int .i64 b.leg.lo.z) ∧ W'.cell? ⟨bL, oL + k * 9 + 3, none⟩ = some (.int .i64 b.leg.hi.x) ∧ W'.cell? ⟨bL, oL + k * 9 + 4, none⟩ = some (.int .i64 b.leg.hi.y) ∧ W'.cell? ⟨bL, oL + k * 9 + 5, none⟩ = some (.int .i64 b.leg.hi.z) ∧ W'.cell? ⟨bL, oL + k * 9 + 6, none⟩ = some (.bool b.has) ∧ W'.cell? ⟨bL, oL + k * 9 + 7, none⟩ = some (.int .i64 b.size) ∧ W'.cell? ⟨bL, oL + k * 9 + 8, none⟩ = some (.string b.mark) := fun W' h => ⟨(h.cell (p := ⟨w.heap.size, 0, none⟩) hl0).trans j0, (h.cell (p := ⟨w.heap.size, 1, none⟩) hl0).trans j1, (h.cell (p := ⟨bL, oL + i * 9, none⟩) hlb).trans a0, (h.cell (p := ⟨bL, oL + i * 9 + 1, none⟩) hlb).trans a1, (h.cell (p := ⟨bL, oL + i * 9 + 2, none⟩) hlb).trans a2, (h.cell (p := ⟨bL, oL + i * 9 + 3, none⟩) hlb).trans a3, (h.cell (p := ⟨bL, oL + i * 9 + 4, none⟩) hlb).trans a4, (h.cell (p := ⟨bL, oL + i * 9 + 5, none⟩) hlb).trans a5, (h.cell (p := ⟨bL, oL + i * 9 + 6, none⟩) hlb).trans a6, (h.cell (p := ⟨bL, oL + i * 9 + 7, none⟩) hlb).trans a7, (h.cell (p := ⟨bL, oL + i * 9 + 8, none⟩) hlb).trans a8, (h.cell (p := ⟨bL, oL + k * 9, none⟩) hlb).trans b0, (h.cell (p := ⟨bL, oL + k * 9 + 1, none⟩) hlb).trans b1, (h.cell (p := ⟨bL, oL + k * 9 + 2, none⟩) hlb).trans b2, (h.cell (p := ⟨bL, oL + k * 9 + 3, none⟩) hlb).trans b3, (h.cell (p := ⟨bL, oL + k * 9 + 4, none⟩) hlb).trans b4, (h.cell (p := ⟨bL, oL + k * 9 + 5, none⟩) hlb).trans b5, (h.cell (p := ⟨bL, oL + k * 9 + 6, none⟩) hlb).trans b6, (h.cell (p := ⟨bL, oL + k * 9 + 7, none⟩) hlb).trans b7, (h.cell (p := ⟨bL, oL + k * 9 + 8, none⟩) hlb).trans b8⟩
  go_cut [6, 7] from 30 to 39 (fun s6 s7 wx => ∃ g6 g7 : Nat, s6 = .pointer (some ⟨g6, 0, none⟩) ∧ s7 = .pointer (some ⟨g7, 0, none⟩) ∧ Blk wx g6 90 #[.int .i64 a.leg.lo.x, .int .i64 a.leg.lo.y, .int .i64 a.leg.lo.z, .int .i64 a.leg.hi.x, .int .i64 a.leg.hi.y, .int .i64 a.leg.hi.z, .bool a.has, .int .i64 a.size, .string a.mark] ∧ Blk wx g7 90 #[.int .i64 b.leg.lo.x, .int .i64 b.leg.lo.y, .int .i64 b.leg.lo.z, .int .i64 b.leg.hi.x, .int .i64 b.leg.hi.y, .int .i64 b.leg.hi.z, .bool b.has, .int .i64 b.size, .string b.mark] ∧ Below W0.heap.size W0 wx)
  case first =>
    go_region_held3 (fun W' => W'.cell? ⟨w.heap.size, 0, none⟩ = some (.int .i64 i) ∧ W'.cell? ⟨w.heap.size, 1, none⟩ = some (.int .i64 k) ∧ W'.cell? ⟨bL, oL + i * 9, none⟩ = some (.int .i64 a.leg.lo.x) ∧ W'.cell? ⟨bL, oL + i * 9 + 1, none⟩ = some (.int .i64 a.leg.lo.y) ∧ W'.cell? ⟨bL, oL + i * 9 + 2, none⟩ = some (.int .i64 a.leg.lo.z) ∧ W'.cell? ⟨bL, oL + i * 9 + 3, none⟩ = some (.int .i64 a.leg.hi.x) ∧ W'.cell? ⟨bL, oL + i * 9 + 4, none⟩ = some (.int .i64 a.leg.hi.y) ∧ W'.cell? ⟨bL, oL + i * 9 + 5, none⟩ = some (.int .i64 a.leg.hi.z) ∧ W'.cell? ⟨bL, oL + i * 9 + 6, none⟩ = some (.bool a.has) ∧ W'.cell? ⟨bL, oL + i * 9 + 7, none⟩ = some (.int .i64 a.size) ∧ W'.cell? ⟨bL, oL + i * 9 + 8, none⟩ = some (.string a.mark) ∧ W'.cell? ⟨bL, oL + k * 9, none⟩ = some (.int .i64 b.leg.lo.x) ∧ W'.cell? ⟨bL, oL + k * 9 + 1, none⟩ = some (.int .i64 b.leg.lo.y) ∧ W'.cell? ⟨bL, oL + k * 9 + 2, none⟩ = some (.int .i64 b.leg.lo.z) ∧ W'.cell? ⟨bL, oL + k * 9 + 3, none⟩ = some (.int .i64 b.leg.hi.x) ∧ W'.cell? ⟨bL, oL + k * 9 + 4, none⟩ = some (.int .i64 b.leg.hi.y) ∧ W'.cell? ⟨bL, oL + k * 9 + 5, none⟩ = some (.int .i64 b.leg.hi.z) ∧ W'.cell? ⟨bL, oL + k * 9 + 6, none⟩ = some (.bool b.has) ∧ W'.cell? ⟨bL, oL + k * 9 + 7, none⟩ = some (.int .i64 b.size) ∧ W'.cell? ⟨bL, oL + k * 9 + 8, none⟩ = some (.string b.mark)) (first | exact hkeep _ belr) (fail)
    all_goals (
      go_wp2_with fail
      go_meet
      exact ⟨_, _, rfl, rfl, (by repeat (with_reducible first | (refine Blk.newN ?_ _ _; first | rfl | (simp; done) | (simp [World.setCell]; done)) | refine Blk.set9 ?_ _ _ _ _ _ _ _ _ _ | (refine Blk.far9 ?_ ?_ _ _ _ _ _ _ _ _ _; rotate_left; omega) | refine Blk.alloc ?_ _ | refine Blk.drew ?_ | refine Blk.via ?_ (by assumption) | (refine BlkE.newN ?_ _ _ _ _ _ _ _ _ _ _; first | rfl | (simp; done) | (simp [World.setCell]; done)) | (refine BlkE.far9 ?_ ?_ _ _ _ _ _ _ _ _ _; rotate_left; omega) | refine BlkE.alloc ?_ _ | refine BlkE.drew ?_ | refine BlkE.via ?_ (by assumption))), (by repeat (with_reducible first | (refine Blk.newN ?_ _ _; first | rfl | (simp; done) | (simp [World.setCell]; done)) | refine Blk.set9 ?_ _ _ _ _ _ _ _ _ _ | (refine Blk.far9 ?_ ?_ _ _ _ _ _ _ _ _ _; rotate_left; omega) | refine Blk.alloc ?_ _ | refine Blk.drew ?_ | refine Blk.via ?_ (by assumption) | (refine BlkE.newN ?_ _ _ _ _ _ _ _ _ _ _; first | rfl | (simp; done) | (simp [World.setCell]; done)) | (refine BlkE.far9 ?_ ?_ _ _ _ _ _ _ _ _ _; rotate_left; omega) | refine BlkE.alloc ?_ _ | refine BlkE.drew ?_ | refine BlkE.via ?_ (by assumption))), belr⟩)
  case rest =>
    obtain ⟨g6, g7, rfl, rfl, hP, hQ, hbc⟩ := hcut
    clear hkeep j0 j1 a0 b0 a1 b1 a2 b2 a3 b3 a4 b4 a5 b5 a6 b6 a7 b7 a8 b8
    have p0 := hP.cell 0
    have p3 := hP.cell 3
    have p6 := hP.cell 6
    have q0 := hQ.cell 0
    have q3 := hQ.cell 3
    have q6 := hQ.cell 6
    simp only [List.getElem?_toArray, List.getElem?_cons_zero, List.getElem?_cons_succ] at p0 p3 p6 q0 q3 q6
    have ltP := hP.lt
    have ltQ := hQ.lt
    have hbw : Below w.heap.size w wc := hb0.trans (hbc.mono hb0.size)
    clear hP hQ
    generalize a.has = t1 at *
    generalize b.has = t2 at *
    generalize a.leg.lo.x = x1 at *
    generalize a.leg.hi.x = x2 at *
    generalize b.leg.lo.x = y1 at *
    generalize b.leg.hi.x = y2 at *
    have hcs : t1 = false ∨ (t1 = true ∧ t2 = false) ∨ (t1 = true ∧ t2 = true ∧ ¬ x1 < y1) ∨ (t1 = true ∧ t2 = true ∧ x1 < y1 ∧ ¬ x2 < y2) ∨ (t1 = true ∧ t2 = true ∧ x1 < y1 ∧ x2 < y2 ∧ ¬ y1 ≤ x2) ∨ (t1 = true ∧ t2 = true ∧ x1 < y1 ∧ x2 < y2 ∧ y1 ≤ x2) := by
      cases t1
      · exact .inl rfl
      · cases t2
        · exact .inr (.inl ⟨rfl, rfl⟩)
        · by_cases h1 : x1 < y1
          · by_cases h2 : x2 < y2
            · by_cases h3 : y1 ≤ x2
              · exact .inr (.inr (.inr (.inr (.inr ⟨rfl, rfl, h1, h2, h3⟩))))
              · exact .inr (.inr (.inr (.inr (.inl ⟨rfl, rfl, h1, h2, h3⟩))))
            · exact .inr (.inr (.inr (.inl ⟨rfl, rfl, h1, h2⟩)))
          · exact .inr (.inr (.inl ⟨rfl, rfl, h1⟩))
    rcases hcs with rfl | ⟨rfl, rfl⟩ | ⟨rfl, rfl, h1⟩ | ⟨rfl, rfl, h1, h2⟩ | ⟨rfl, rfl, h1, h2, h3⟩ | ⟨rfl, rfl, h1, h2, h3⟩
    all_goals (
      go_wp2
      go_ret
      exact ⟨ret_b (by rw [H.out, Bool.eq_iff_iff]; first | (simp; done) | (simp; omega)), hbw⟩)
theorem joint_any (l : List Mn) (j : Jn) (A : Option Addr) (n c : Nat) (B : Nat) (w : World) (hn : l.length = n) (hm : n ≤ 9223372036854775807) (hB : B ≤ w.heap.size) (hs : Cells w B A (l.flatMap mnC)) :
    Calls Try.prog 32 #[.slice A n c, jnV j] w fun e w' => e = .returned (.bool (S.jointOk l j)) ∧ Below w.heap.size w w' := by
  by_cases h : S.jointIn l j = true
  · have h' := h
    simp only [S.jointIn, Bool.and_eq_true, decide_eq_true_eq] at h'
    obtain ⟨i, hi⟩ : ∃ i : Nat, j.first = (i : Int) := ⟨j.first.toNat, by omega⟩
    obtain ⟨k, hk⟩ : ∃ i : Nat, j.second = (i : Int) := ⟨j.second.toNat, by omega⟩
    have hix : i < l.length := by omega
    have hkx : k < l.length := by omega
    have e : S.jointOk l j = S.jointOn l[i] l[k] := by
      unfold S.jointOk
      rw [h, hi, hk]
      simp [hix, hkx]
    rw [e]
    unfold jnV
    rw [hi, hk]
    exact joint_in l i k l[i] l[k] A n c B w hn hm hB hs (List.getElem?_eq_getElem hix) (List.getElem?_eq_getElem hkx)
  · exact joint_out l j A n c w hn hm (by simpa using h)
end Go.Proofs.Ytnjflafaflalfaa
