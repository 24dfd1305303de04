/- Contract: lap.joint; blocks of nine cells. Contract: lap.look of a valid detail. -/
import Derived.Deep.MidRow
import Derived.Test.YtnmolefblaahmaaGreatMQ
set_option linter.unusedVariables false
set_option linter.unusedSimpArgs false
namespace Go.Proofs.YtnmolefblaahmaaGreat
open Go.RowKit
theorem Blk.newN {W : World} {n : Nat} (hn : W.heap.size = n) (t : TypeId) (cs : Array Value) : Blk (W.alloc (.cells cs t)) n t cs := hn ▸ Blk.new W t cs
theorem Blk.drew {W : World} {g : Nat} {t : TypeId} {cs : Array Value} (h : Blk W g t cs) : Blk W.drew g t cs := h
def BlkE (W : World) (g : Nat) (t : TypeId) : Prop := ∃ c0 c1 c2 c3 c4 c5 c6 c7 c8 : Value, Blk W g t #[c0, c1, c2, c3, c4, c5, c6, c7, c8]
theorem BlkE.newN {W : World} {n : Nat} (hn : W.heap.size = n) (t : TypeId) (c0 c1 c2 c3 c4 c5 c6 c7 c8 : Value) : BlkE (W.alloc (.cells #[c0, c1, c2, c3, c4, c5, c6, c7, c8] t)) n t := ⟨c0, c1, c2, c3, c4, c5, c6, c7, c8, Blk.newN hn t _⟩
theorem BlkE.map {W w : World} {g : Nat} {t : TypeId} (h : BlkE W g t) (f : ∀ cs, Blk W g t cs → Blk w g t cs) : BlkE w g t := by
 obtain ⟨c0, c1, c2, c3, c4, c5, c6, c7, c8, h⟩ := h
 exact ⟨c0, c1, c2, c3, c4, c5, c6, c7, c8, f _ h⟩
theorem BlkE.alloc {W : World} {g : Nat} {t : TypeId} (h : BlkE W g t) (o : Obj) : BlkE (W.alloc o) g t := h.map fun _ h => h.alloc o
theorem BlkE.drew {W : World} {g : Nat} {t : TypeId} (h : BlkE W g t) : BlkE W.drew g t := h
theorem BlkE.via {W w : World} {g : Nat} {t : TypeId} (h : BlkE W g t) (hb : Below W.heap.size W w) : BlkE w g t := h.map fun _ h => h.via hb
theorem Blk.set9 {W : World} {g : Nat} {t : TypeId} (h : BlkE W g t) (v0 v1 v2 v3 v4 v5 v6 v7 v8 : Value) : Blk (((((((((W.setCell ⟨g, 0, none⟩ v0).setCell ⟨g, 1, none⟩ v1).setCell ⟨g, 2, none⟩ v2).setCell ⟨g, 3, none⟩ v3).setCell ⟨g, 4, none⟩ v4).setCell ⟨g, 5, none⟩ v5).setCell ⟨g, 6, none⟩ v6).setCell ⟨g, 7, none⟩ v7).setCell ⟨g, 8, none⟩ v8) g t #[v0, v1, v2, v3, v4, v5, v6, v7, v8] := by
 obtain ⟨c0, c1, c2, c3, c4, c5, c6, c7, c8, hB⟩ := h
 have h9 := ((((((((hB.set 0 v0).set 1 v1).set 2 v2).set 3 v3).set 4 v4).set 5 v5).set 6 v6).set 7 v7).set 8 v8
 simp only [List.setIfInBounds_toArray, List.set_cons_zero, List.set_cons_succ] at h9
 exact h9
theorem Blk.far9 {W : World} {g g' : Nat} {t : TypeId} {cs : Array Value} (h : Blk W g' t cs) (hn : g ≠ g') (v0 v1 v2 v3 v4 v5 v6 v7 v8 : Value) : Blk (((((((((W.setCell ⟨g, 0, none⟩ v0).setCell ⟨g, 1, none⟩ v1).setCell ⟨g, 2, none⟩ v2).setCell ⟨g, 3, none⟩ v3).setCell ⟨g, 4, none⟩ v4).setCell ⟨g, 5, none⟩ v5).setCell ⟨g, 6, none⟩ v6).setCell ⟨g, 7, none⟩ v7).setCell ⟨g, 8, none⟩ v8) g' t cs :=
 ((((((((h.far hn.symm _).far hn.symm _).far hn.symm _).far hn.symm _).far hn.symm _).far hn.symm _).far hn.symm _).far hn.symm _).far hn.symm _
theorem BlkE.far9 {W : World} {g g' : Nat} {t : TypeId} (h : BlkE W g' t) (hn : g ≠ g') (v0 v1 v2 v3 v4 v5 v6 v7 v8 : Value) : BlkE (((((((((W.setCell ⟨g, 0, none⟩ v0).setCell ⟨g, 1, none⟩ v1).setCell ⟨g, 2, none⟩ v2).setCell ⟨g, 3, none⟩ v3).setCell ⟨g, 4, none⟩ v4).setCell ⟨g, 5, none⟩ v5).setCell ⟨g, 6, none⟩ v6).setCell ⟨g, 7, none⟩ v7).setCell ⟨g, 8, none⟩ v8) g' t := h.map fun _ h => h.far9 hn _ _ _ _ _ _ _ _ _
def S.jointIn (l : List Mn) (j : Jn) : Bool := decide (0 ≤ j.first) && decide (j.first < l.length) && decide (0 ≤ j.second) && decide (j.second < l.length)
def S.jointOn (a b : Mn) : Bool := a.has && b.has && decide (a.leg.lo.x < b.leg.lo.x) && decide (a.leg.hi.x < b.leg.hi.x) && decide (b.leg.lo.x ≤ a.leg.hi.x)
def S.jointOk (l : List Mn) (j : Jn) : Bool := S.jointIn l j && (match l[j.first.toNat]?, l[j.second.toNat]? with | some a, some b => S.jointOn a b | _, _ => false)
theorem joint_out (l : List Mn) (j : Jn) (A : Option Addr) (n c : Nat) (w : World) (hn : l.length = n) (hm : n ≤ 9223372036854775807) (h : S.jointIn l j = false) :
 Calls Tryz.prog 110 #[.slice A n c, jnV j] w fun e w' => e = .returned (.bool (S.jointOk l j)) ∧ Below w.heap.size w w' := by
 have H := Lib.hid (show S.jointOk l j = false by unfold S.jointOk; rw [h]; rfl)
 have hcs : j.first < 0 ∨ (¬ j.first < 0 ∧ (n : Int) ≤ j.first) ∨ (¬ j.first < 0 ∧ ¬ (n : Int) ≤ j.first ∧ j.second < 0) ∨ (¬ j.first < 0 ∧ ¬ (n : Int) ≤ j.first ∧ ¬ j.second < 0 ∧ (n : Int) ≤ j.second) := by
  simp only [S.jointIn, Bool.and_eq_false_iff, decide_eq_false_iff_not, hn] at h
  omega
 clear h hn
 unfold jnV
 rcases hcs with h1 | ⟨h1, h2⟩ | ⟨h1, h2, h3⟩ | ⟨h1, h2, h3, h4⟩
 all_goals (
  go_enter Tryz.func110, Tryz.ntmps110
  go_wp2
  go_ret
  exact ⟨ret_b H.out.symm, bel⟩)
set_option maxHeartbeats 4000000 in
theorem joint_in (l : List Mn) (i k : Nat) (a b : Mn) (A : Option Addr) (n c : Nat) (B : Nat) (w : World) (hn : l.length = n) (hm : n ≤ 9223372036854775807) (hB : B ≤ w.heap.size) (hs : Cells w B A (l.flatMap mnC)) (hi : l[i]? = some a) (hk : l[k]? = some b) :
 Calls Tryz.prog 110 #[.slice A n c, .agg #[.int .i64 i, .int .i64 k]] w fun e w' => e = .returned (.bool (S.jointOn a b)) ∧ Below w.heap.size w w' := by
 have H := Lib.hid (show S.jointOn a b = (a.has && b.has && decide (a.leg.lo.x < b.leg.lo.x) && decide (a.leg.hi.x < b.leg.hi.x) && decide (b.leg.lo.x ≤ a.leg.hi.x)) from rfl)
 obtain ⟨hix, hia⟩ := List.getElem?_eq_some_iff.1 hi
 obtain ⟨hkx, hkb⟩ := List.getElem?_eq_some_iff.1 hk
 have hin : (i : Int) < n := by omega
 have hkn : (k : Int) < n := by omega
 have hi0 : (0 : Int) ≤ i := by omega
 have hk0 : (0 : Int) ≤ k := by omega
 have hi1 : ¬ ((i : Int) < 0) := by omega
 have hk1 : ¬ ((k : Int) < 0) := by omega
 have hi2 : ¬ ((n : Int) ≤ i) := by omega
 have hk2 : ¬ ((n : Int) ≤ k) := by omega
 go_enter Tryz.func110, Tryz.ntmps110
 go_wp2
 have hs' := hs.alloc hB (.cells #[.int .i64 i, .int .i64 k] 142)
 obtain ⟨bL, oL, rfl, hbL, _⟩ := hs'.at_ (by rw [flat_len mnC 9 mnC_len]; omega)
 have a0 := hs'.row0 mnC_len hix rfl
 have a1 := hs'.rowj mnC_len hix 1 rfl
 have a2 := hs'.rowj mnC_len hix 2 rfl
 have a3 := hs'.rowj mnC_len hix 3 rfl
 have a4 := hs'.rowj mnC_len hix 4 rfl
 have a5 := hs'.rowj mnC_len hix 5 rfl
 have a6 := hs'.rowj mnC_len hix 6 rfl
 have a7 := hs'.rowj mnC_len hix 7 rfl
 have a8 := hs'.rowj mnC_len hix 8 rfl
 rw [hia] at a0 a1 a2 a3 a4 a5 a6 a7 a8
 have b0 := hs'.row0 mnC_len hkx rfl
 have b1 := hs'.rowj mnC_len hkx 1 rfl
 have b2 := hs'.rowj mnC_len hkx 2 rfl
 have b3 := hs'.rowj mnC_len hkx 3 rfl
 have b4 := hs'.rowj mnC_len hkx 4 rfl
 have b5 := hs'.rowj mnC_len hkx 5 rfl
 have b6 := hs'.rowj mnC_len hkx 6 rfl
 have b7 := hs'.rowj mnC_len hkx 7 rfl
 have b8 := hs'.rowj mnC_len hkx 8 rfl
 rw [hkb] at b0 b1 b2 b3 b4 b5 b6 b7 b8
 have hJ := Blk.new w 142 #[.int .i64 i, .int .i64 k]
 have j0 := hJ.cell 0
 have j1 := hJ.cell 1
 simp only [List.getElem?_toArray, List.getElem?_cons_zero, List.getElem?_cons_succ] at j0 j1
 have hb0 : Below w.heap.size w (w.alloc (.cells #[.int .i64 i, .int .i64 k] 142)) := ba_alloc (Below.refl _ _) _
 have hl0 := hJ.lt
 have hsz : (w.alloc (.cells #[.int .i64 i, .int .i64 k] 142)).heap.size = w.heap.size + 1 := by simp
 have hlb : bL < (w.alloc (.cells #[.int .i64 i, .int .i64 k] 142)).heap.size := by omega
 clear hs hs' hJ hi hk hia hkb
 generalize (w.alloc (.cells #[.int .i64 i, .int .i64 k] 142)) = W0 at *
 clear hsz
 have hkeep : ∀ W', Below W0.heap.size W0 W' → W'.cell? ⟨w.heap.size, 0, none⟩ = some (.int .i64 i) ∧ W'.cell? ⟨w.heap.size, 1, none⟩ = some (.int .i64 k) ∧ W'.cell? ⟨bL, oL + i * 9, none⟩ = some (.int .i64 a.leg.lo.x) ∧ W'.cell? ⟨bL, oL + i * 9 + 1, none⟩ = some (.int .i64 a.leg.lo.y) ∧ W'.cell? ⟨bL, oL + i * 9 + 2, none⟩ = some (.int .i64 a.leg.lo.z) ∧ W'.cell? ⟨bL, oL + i * 9 + 3, none⟩ = some (.int .i64 a.leg.hi.x) ∧ W'.cell? ⟨bL, oL + i * 9 + 4, none⟩ = some (.int .i64 a.leg.hi.y) ∧ W'.cell? ⟨bL, oL + i * 9 + 5, none⟩ = some (.int .i64 a.leg.hi.z) ∧ W'.cell? ⟨bL, oL + i * 9 + 6, none⟩ = some (.bool a.has) ∧ W'.cell? ⟨bL, oL + i * 9 + 7, none⟩ = some (.int .i64 a.size) ∧ W'.cell? ⟨bL, oL + i * 9 + 8, none⟩ = some (.string a.mark) ∧ W'.cell? ⟨bL, oL + k * 9, none⟩ = some (.int .i64 b.leg.lo.x) ∧ W'.cell? ⟨bL, oL + k * 9 + 1, none⟩ = some (.int .i64 b.leg.lo.y) ∧ W'.cell? ⟨bL, oL + k * 9 + 2, none⟩ = some (.int .i64 b.leg.lo.z) ∧ W'.cell? ⟨bL, oL + k * 9 + 3, none⟩ = some (.int .i64 b.leg.hi.x) ∧ W'.cell? ⟨bL, oL + k * 9 + 4, none⟩ = some (.int .i64 b.leg.hi.y) ∧ W'.cell? ⟨bL, oL + k * 9 + 5, none⟩ = some (.int .i64 b.leg.hi.z) ∧ W'.cell? ⟨bL, oL + k * 9 + 6, none⟩ = some (.bool b.has) ∧ W'.cell? ⟨bL, oL + k * 9 + 7, none⟩ = some (.int .i64 b.size) ∧ W'.cell? ⟨bL, oL + k * 9 + 8, none⟩ = some (.string b.mark) := fun W' h => ⟨(h.cell (p := ⟨w.heap.size, 0, none⟩) hl0).trans j0, (h.cell (p := ⟨w.heap.size, 1, none⟩) hl0).trans j1, (h.cell (p := ⟨bL, oL + i * 9, none⟩) hlb).trans a0, (h.cell (p := ⟨bL, oL + i * 9 + 1, none⟩) hlb).trans a1, (h.cell (p := ⟨bL, oL + i * 9 + 2, none⟩) hlb).trans a2, (h.cell (p := ⟨bL, oL + i * 9 + 3, none⟩) hlb).trans a3, (h.cell (p := ⟨bL, oL + i * 9 + 4, none⟩) hlb).trans a4, (h.cell (p := ⟨bL, oL + i * 9 + 5, none⟩) hlb).trans a5, (h.cell (p := ⟨bL, oL + i * 9 + 6, none⟩) hlb).trans a6, (h.cell (p := ⟨bL, oL + i * 9 + 7, none⟩) hlb).trans a7, (h.cell (p := ⟨bL, oL + i * 9 + 8, none⟩) hlb).trans a8, (h.cell (p := ⟨bL, oL + k * 9, none⟩) hlb).trans b0, (h.cell (p := ⟨bL, oL + k * 9 + 1, none⟩) hlb).trans b1, (h.cell (p := ⟨bL, oL + k * 9 + 2, none⟩) hlb).trans b2, (h.cell (p := ⟨bL, oL + k * 9 + 3, none⟩) hlb).trans b3, (h.cell (p := ⟨bL, oL + k * 9 + 4, none⟩) hlb).trans b4, (h.cell (p := ⟨bL, oL + k * 9 + 5, none⟩) hlb).trans b5, (h.cell (p := ⟨bL, oL + k * 9 + 6, none⟩) hlb).trans b6, (h.cell (p := ⟨bL, oL + k * 9 + 7, none⟩) hlb).trans b7, (h.cell (p := ⟨bL, oL + k * 9 + 8, none⟩) hlb).trans b8⟩
 go_cut [6, 7] from 30 to 39 (fun s6 s7 wx => ∃ g6 g7 : Nat, s6 = .pointer (some ⟨g6, 0, none⟩) ∧ s7 = .pointer (some ⟨g7, 0, none⟩) ∧ Blk wx g6 232 #[.int .i64 a.leg.lo.x, .int .i64 a.leg.lo.y, .int .i64 a.leg.lo.z, .int .i64 a.leg.hi.x, .int .i64 a.leg.hi.y, .int .i64 a.leg.hi.z, .bool a.has, .int .i64 a.size, .string a.mark] ∧ Blk wx g7 232 #[.int .i64 b.leg.lo.x, .int .i64 b.leg.lo.y, .int .i64 b.leg.lo.z, .int .i64 b.leg.hi.x, .int .i64 b.leg.hi.y, .int .i64 b.leg.hi.z, .bool b.has, .int .i64 b.size, .string b.mark] ∧ Below W0.heap.size W0 wx)
 case first =>
  go_region_held3 (fun W' => W'.cell? ⟨w.heap.size, 0, none⟩ = some (.int .i64 i) ∧ W'.cell? ⟨w.heap.size, 1, none⟩ = some (.int .i64 k) ∧ W'.cell? ⟨bL, oL + i * 9, none⟩ = some (.int .i64 a.leg.lo.x) ∧ W'.cell? ⟨bL, oL + i * 9 + 1, none⟩ = some (.int .i64 a.leg.lo.y) ∧ W'.cell? ⟨bL, oL + i * 9 + 2, none⟩ = some (.int .i64 a.leg.lo.z) ∧ W'.cell? ⟨bL, oL + i * 9 + 3, none⟩ = some (.int .i64 a.leg.hi.x) ∧ W'.cell? ⟨bL, oL + i * 9 + 4, none⟩ = some (.int .i64 a.leg.hi.y) ∧ W'.cell? ⟨bL, oL + i * 9 + 5, none⟩ = some (.int .i64 a.leg.hi.z) ∧ W'.cell? ⟨bL, oL + i * 9 + 6, none⟩ = some (.bool a.has) ∧ W'.cell? ⟨bL, oL + i * 9 + 7, none⟩ = some (.int .i64 a.size) ∧ W'.cell? ⟨bL, oL + i * 9 + 8, none⟩ = some (.string a.mark) ∧ W'.cell? ⟨bL, oL + k * 9, none⟩ = some (.int .i64 b.leg.lo.x) ∧ W'.cell? ⟨bL, oL + k * 9 + 1, none⟩ = some (.int .i64 b.leg.lo.y) ∧ W'.cell? ⟨bL, oL + k * 9 + 2, none⟩ = some (.int .i64 b.leg.lo.z) ∧ W'.cell? ⟨bL, oL + k * 9 + 3, none⟩ = some (.int .i64 b.leg.hi.x) ∧ W'.cell? ⟨bL, oL + k * 9 + 4, none⟩ = some (.int .i64 b.leg.hi.y) ∧ W'.cell? ⟨bL, oL + k * 9 + 5, none⟩ = some (.int .i64 b.leg.hi.z) ∧ W'.cell? ⟨bL, oL + k * 9 + 6, none⟩ = some (.bool b.has) ∧ W'.cell? ⟨bL, oL + k * 9 + 7, none⟩ = some (.int .i64 b.size) ∧ W'.cell? ⟨bL, oL + k * 9 + 8, none⟩ = some (.string b.mark)) (first | exact hkeep _ belr) (fail)
  all_goals (
   go_wp2_with fail
   go_meet
   exact ⟨_, _, rfl, rfl, (by repeat (with_reducible first | (refine Blk.newN ?_ _ _; first | rfl | (simp; done) | (simp [World.setCell]; done)) | refine Blk.set9 ?_ _ _ _ _ _ _ _ _ _ | (refine Blk.far9 ?_ ?_ _ _ _ _ _ _ _ _ _; rotate_left; omega) | refine Blk.alloc ?_ _ | refine Blk.drew ?_ | refine Blk.via ?_ (by assumption) | (refine BlkE.newN ?_ _ _ _ _ _ _ _ _ _ _; first | rfl | (simp; done) | (simp [World.setCell]; done)) | (refine BlkE.far9 ?_ ?_ _ _ _ _ _ _ _ _ _; rotate_left; omega) | refine BlkE.alloc ?_ _ | refine BlkE.drew ?_ | refine BlkE.via ?_ (by assumption))), (by repeat (with_reducible first | (refine Blk.newN ?_ _ _; first | rfl | (simp; done) | (simp [World.setCell]; done)) | refine Blk.set9 ?_ _ _ _ _ _ _ _ _ _ | (refine Blk.far9 ?_ ?_ _ _ _ _ _ _ _ _ _; rotate_left; omega) | refine Blk.alloc ?_ _ | refine Blk.drew ?_ | refine Blk.via ?_ (by assumption) | (refine BlkE.newN ?_ _ _ _ _ _ _ _ _ _ _; first | rfl | (simp; done) | (simp [World.setCell]; done)) | (refine BlkE.far9 ?_ ?_ _ _ _ _ _ _ _ _ _; rotate_left; omega) | refine BlkE.alloc ?_ _ | refine BlkE.drew ?_ | refine BlkE.via ?_ (by assumption))), belr⟩)
 case rest =>
  obtain ⟨g6, g7, rfl, rfl, hP, hQ, hbc⟩ := hcut
  clear hkeep j0 j1 a0 b0 a1 b1 a2 b2 a3 b3 a4 b4 a5 b5 a6 b6 a7 b7 a8 b8
  have p0 := hP.cell 0
  have p3 := hP.cell 3
  have p6 := hP.cell 6
  have q0 := hQ.cell 0
  have q3 := hQ.cell 3
  have q6 := hQ.cell 6
  simp only [List.getElem?_toArray, List.getElem?_cons_zero, List.getElem?_cons_succ] at p0 p3 p6 q0 q3 q6
  have ltP := hP.lt
  have ltQ := hQ.lt
  have hbw : Below w.heap.size w wc := hb0.trans (hbc.mono hb0.size)
  clear hP hQ
  generalize a.has = t1 at *
  generalize b.has = t2 at *
  generalize a.leg.lo.x = x1 at *
  generalize a.leg.hi.x = x2 at *
  generalize b.leg.lo.x = y1 at *
  generalize b.leg.hi.x = y2 at *
  have hcs : t1 = false ∨ (t1 = true ∧ t2 = false) ∨ (t1 = true ∧ t2 = true ∧ ¬ x1 < y1) ∨ (t1 = true ∧ t2 = true ∧ x1 < y1 ∧ ¬ x2 < y2) ∨ (t1 = true ∧ t2 = true ∧ x1 < y1 ∧ x2 < y2 ∧ ¬ y1 ≤ x2) ∨ (t1 = true ∧ t2 = true ∧ x1 < y1 ∧ x2 < y2 ∧ y1 ≤ x2) := by
   cases t1
   ·exact .inl rfl
   ·cases t2
    ·exact .inr (.inl ⟨rfl, rfl⟩)
    ·by_cases h1 : x1 < y1
     ·by_cases h2 : x2 < y2
      ·by_cases h3 : y1 ≤ x2
       ·exact .inr (.inr (.inr (.inr (.inr ⟨rfl, rfl, h1, h2, h3⟩))))
       ·exact .inr (.inr (.inr (.inr (.inl ⟨rfl, rfl, h1, h2, h3⟩))))
      ·exact .inr (.inr (.inr (.inl ⟨rfl, rfl, h1, h2⟩)))
     ·exact .inr (.inr (.inl ⟨rfl, rfl, h1⟩))
  rcases hcs with rfl | ⟨rfl, rfl⟩ | ⟨rfl, rfl, h1⟩ | ⟨rfl, rfl, h1, h2⟩ | ⟨rfl, rfl, h1, h2, h3⟩ | ⟨rfl, rfl, h1, h2, h3⟩
  all_goals (
   go_wp2
   go_ret
   exact ⟨ret_b (by rw [H.out, Bool.eq_iff_iff]; first | (simp; done) | (simp; omega)), hbw⟩)
theorem joint_any (l : List Mn) (j : Jn) (A : Option Addr) (n c : Nat) (B : Nat) (w : World) (hn : l.length = n) (hm : n ≤ 9223372036854775807) (hB : B ≤ w.heap.size) (hs : Cells w B A (l.flatMap mnC)) :
 Calls Tryz.prog 110 #[.slice A n c, jnV j] w fun e w' => e = .returned (.bool (S.jointOk l j)) ∧ Below w.heap.size w w' := by
 by_cases h : S.jointIn l j = true
 ·have h' := h
  simp only [S.jointIn, Bool.and_eq_true, decide_eq_true_eq] at h'
  obtain ⟨i, hi⟩ : ∃ i : Nat, j.first = (i : Int) := ⟨j.first.toNat, by omega⟩
  obtain ⟨k, hk⟩ : ∃ i : Nat, j.second = (i : Int) := ⟨j.second.toNat, by omega⟩
  have hix : i < l.length := by omega
  have hkx : k < l.length := by omega
  have e : S.jointOk l j = S.jointOn l[i] l[k] := by
   unfold S.jointOk
   rw [h, hi, hk]
   simp [hix, hkx]
  rw [e]
  unfold jnV
  rw [hi, hk]
  exact joint_in l i k l[i] l[k] A n c B w hn hm hB hs (List.getElem?_eq_getElem hix) (List.getElem?_eq_getElem hkx)
 ·exact joint_out l j A n c w hn hm (by simpa using h)
def S.lapsOk (l : List Mn) : (Int → Bool) → (Int → Bool) → List Jn → Bool
 | _, _, [] => true
 | f, s, j :: js => S.jointOk l j && !f j.first && !s j.second && S.lapsOk l (fun i => i == j.first || f i) (fun i => i == j.second || s i) js
def S.look (x : Dt) (td : Bool) : Bool := S.member x.m && S.laid (bars x.bs) x.rs && td && S.rule x.rule && decide (x.jn ≤ 1000) && S.lapsOk (S.mains (bars x.bs) x.rs) (fun _ => false) (fun _ => false) x.js
def GivesLook (ok : Bool) (n : Nat) (xs : List Value) (w : World) (e : Ending) (w' : World) : Prop :=
 ∃ A c, e = .returned (.tuple #[.slice A n c, .bool ok]) ∧ w'.ownsRow w.heap.size 232 9 (.slice A n c) n xs ∧ Below w.heap.size w w'
theorem own_kept {w w' : World} {base E size : Nat} {v : Value} {n : Nat} {xs : List Value} (h : w.ownsRow base E size v n xs) (hb : ∀ k, v.ownBlock = some k → w'.heap[k]? = w.heap[k]?) : w'.ownsRow base E size v n xs :=
 (Row.kept (W := w) (g0 := v.ownBlock) ⟨h, fun k hk => .inl hk.symm⟩ hb).own
theorem mains_len {bs : List Bar} : ∀ {rs : List Rn} {rest : Int} (_ : S.runsOk bs rest rs = true), 0 ≤ rest → ((S.mains bs rs).length : Int) ≤ rest := by
 intro rs
 induction rs with
 | nil => intro rest _ h; simpa [S.mains] using h
 | cons r rs ih =>
  intro rest h h0
  simp only [S.runsOk, Bool.and_eq_true, decide_eq_true_eq] at h
  have hc := right_count h.1.1
  have h1 := ih h.2 (by omega)
  have e : S.mains bs (r :: rs) = (match S.barAt bs r.mark with | some b => S.mainsOf b r r.count.toNat | none => []) ++ S.mains bs rs := List.flatMap_cons
  rw [e, List.length_append]
  have h3 : (match S.barAt bs r.mark with | some b => S.mainsOf b r r.count.toNat | none => ([] : List Mn)).length ≤ r.count.toNat := by
   cases S.barAt bs r.mark with
   | some b => simp only []; rw [mainsOf_len]; exact Nat.le_refl _
   | none => simp
  generalize (match S.barAt bs r.mark with | some b => S.mainsOf b r r.count.toNat | none => ([] : List Mn)) = l at *
  omega
theorem grown_blk {w w' : World} {row : Nat} (hg : w.grownBy w' (some row)) {g : Nat} {t : TypeId} {cs : Array Value} (h : Blk w g t cs) (hne : g ≠ row) : Blk w' g t cs := (hg.block g h.lt (by simp [hne])).trans h
theorem Blk.range {w : World} {g : Nat} {t : TypeId} {cs : List Value} (h : Blk w g t cs.toArray) : w.rangeAt g 0 cs := fun j v hv => by
 rw [Nat.zero_add]
 exact (h.cell j).trans (by simpa using hv)
set_option maxRecDepth 20000 in
set_option maxHeartbeats 4000000 in
theorem look_yes (x : Dt) (td : Bool) (B : Nat) (w : World) (hB : B ≤ w.heap.size) (hA : DtAt w B x)
 (hD : ∀ W, Below w.heap.size w W → Calls Tryz.prog 107 #[.slice x.dA x.dn x.dc] W fun e w' => e = .returned (.bool td) ∧ Below W.heap.size W w') (h : S.look x td = true) :
 Calls Tryz.prog 73 #[dtV x] w (GivesLook true (S.mains (bars x.bs) x.rs).length ((S.mains (bars x.bs) x.rs).flatMap mnC) w) := by
 simp only [S.look, Bool.and_eq_true, decide_eq_true_eq] at h
 obtain ⟨⟨⟨⟨⟨h1, h2⟩, rfl⟩, h4⟩, h5⟩, h6⟩ := h
 have HA := Lib.hid hA
 have HM := Lib.hid (fun (W : World) (hw : B ≤ W.heap.size) (hh : SolAt W B x.mA x.mn x.hA x.hn x.m.boxes x.m.holes) => h1 ▸ smember_any x.m x.mA x.mn x.mc x.hA x.hn x.hc B W hw hh hA.name)
 have HL := Lib.hid (fun (W : World) (hw : B ≤ W.heap.size) (hh : BarsAt W B x.bA x.bn x.bs) (hr : RunsAt W B x.rA x.rn x.rs) => h2 ▸ laid_any x.bs x.rs x.bA x.bn x.bc x.rA x.rn x.rc B W hw hh hr)
 have HD := Lib.hid hD
 have HR := Lib.hid (fun W => h4 ▸ avalid_any x.rule W)
 have HX := Lib.hid (fun (W : World) (hw : B ≤ W.heap.size) (hh : DtAt W B x) => mains_any x B W hw hh h2)
 have hml : ((S.mains (bars x.bs) x.rs).length : Int) ≤ 2000 := by
  simp only [S.laid, Bool.and_eq_true] at h2
  exact mains_len h2.2 (by omega)
 have H6 := Lib.hid h6
 have h5i : ¬ 1000 < x.jn := by omega
 have h5j : ¬ ((1000 : Int) < x.jn) := by omega
 have hjl := hA.jlen
 clear hA hD h1 h2 h4 h5 h6
 unfold memV at HM
 unfold ruleV at HR
 unfold dtV at HX
 generalize S.mains (bars x.bs) x.rs = L at *
 unfold dtV
 generalize hjA : x.jA = jA
 have HjA := Lib.hid hjA
 rw [hjA] at HX
 clear hjA
 have hmk : ∀ W, (Instr.makeMap 180 none).run Tryz.prog W = .ok (.map (some W.heap.size)) (W.alloc (.map #[] 0)) := fun _ => by kernel_rfl
 go_enter Tryz.func73, Tryz.ntmps73
 go_upto_region 3 with (first
  | (go_at_call 106; (with_reducible refine (HM.out _ (size_via hB bel) (HA.out.sol.at_ hB bel)).mono ?_); rintro e w1 ⟨rfl, hbw1⟩; obtain ⟨hcw1, hfw1⟩ := bcell hbw1; have hzw1_0 : w.heap.size < w1.heap.size := lt_via hbw1 sz)
  | (go_at_call 61; (with_reducible refine (HL.out _ (size_via hB bel) (HA.out.bars.at_ hB bel) (HA.out.runs.at_ hB bel)).mono ?_); rintro e w2 ⟨rfl, hbw2⟩; obtain ⟨hcw2, hfw2⟩ := bcell hbw2; have hzw2_0 : w.heap.size < w2.heap.size := lt_via hbw2 sz)
  | (go_at_call 107; (with_reducible refine (HD.out _ bel).mono ?_); rintro e w3 ⟨rfl, hbw3⟩; obtain ⟨hcw3, hfw3⟩ := bcell hbw3; have hzw3_0 : w.heap.size < w3.heap.size := lt_via hbw3 sz)
  | (go_at_call 108; (with_reducible refine (HR.out _).mono ?_); rintro e w4 ⟨rfl, hbw4⟩; obtain ⟨hcw4, hfw4⟩ := bcell hbw4; have hzw4_0 : w.heap.size < w4.heap.size := lt_via hbw4 sz))
 have hDB := Blk.via (Blk.via (Blk.via (Blk.via (Blk.new w 34 #[.string x.m.name, .slice x.mA x.mn x.mc, .slice x.hA x.hn x.hc, .int .i64 x.m.cover, .int .i64 x.m.aggr, .int .i64 x.m.poker, .slice x.bA x.bn x.bc, .slice x.rA x.rn x.rc, .slice jA x.jn x.jc, .slice x.dA x.dn x.dc, .int .i64 x.rule.num, .int .i64 x.rule.den, .int .i64 x.rule.pnum, .int .i64 x.rule.pden, .int .i64 x.rule.bnum, .int .i64 x.rule.bden, .int .i64 x.rule.lnum, .int .i64 x.rule.lden, .int .i64 x.rule.least]) hbw1) hbw2) hbw3) hbw4
 have hbw : Below w.heap.size w w4 := bel
 clear hcw1 hfw1 hcw2 hfw2 hcw3 hfw3 hcw4 hfw4 HM HL HD HR
 clear hbw1 hbw2 hbw3 hbw4
 have d8 := hDB.cell 8
 simp only [List.getElem?_toArray, List.getElem?_cons_zero, List.getElem?_cons_succ] at d8
 have hRG := hDB.range
 go_wp2_with (first
  | (refine wpList_load_mid rfl 34 (.tmp 1) rfl _ _ rfl _ _ hRG Tryz.underlying34 rfl (by kernel_rfl) ?_)
  | (go_at_call 109; (with_reducible refine (HX.out _ (size_via hB bel) (HA.out.at_ hB bel)).mono ?_); rintro e w5 ⟨A5, c5, rfl, how5, hbw5⟩; obtain ⟨hcw5, hfw5⟩ := bcell hbw5; have hzw5_0 : w.heap.size < w5.heap.size := lt_via hbw5 sz))
 have hb6 : Below w4.heap.size w4 ((w5.alloc (.map #[] 0)).alloc (.map #[] 0)) := ba_alloc (ba_alloc hbw5 _) _
 have hS1 : SetAt ((w5.alloc (.map #[] 0)).alloc (.map #[] 0)) w5.heap.size 0 (fun _ => false) := (SetAt.new w5).alloc _
 have hS2 : SetAt ((w5.alloc (.map #[] 0)).alloc (.map #[] 0)) (w5.heap.size + 1) 0 (fun _ => false) := by simpa using SetAt.new (w5.alloc (.map #[] 0))
 have how6 := own_kept (w' := (w5.alloc (.map #[] 0)).alloc (.map #[] 0)) how5 (fun k hk => by
  have := (how5.lt k hk).2
  rw [Below.heap_alloc _ _ k (by simp; omega), Below.heap_alloc _ _ k this])
 have hs6 : ((w5.alloc (.map #[] 0)).alloc (.map #[] 0)).heap.size = w5.heap.size + 2 := by simp
 have hA5 : ∀ g, (Value.slice A5 L.length c5).ownBlock = some g → w4.heap.size ≤ g ∧ g < w5.heap.size := fun g hg => how5.lt g hg
 have hD6 := hDB.via hb6
 have h48 : w4.heap.size ≤ w5.heap.size := hbw5.size
 have d8' := hD6.cell 8
 simp only [List.getElem?_toArray, List.getElem?_cons_zero, List.getElem?_cons_succ] at d8'
 have hltD := hD6.lt
 clear hcw5 hfw5 hmk hRG d8 hDB how5
 generalize (w5.alloc (.map #[] 0)).alloc (.map #[] 0) = w6 at *
 have hbw6 : Below w.heap.size w w6 := hbw.trans (hb6.mono hbw.size)
 have HA6 := Lib.hid (HA.out.at_ hB hbw6)
 have hCL := (own_cells how6 (by unfold maxLen; omega)).1
 go_wp2
 go_loopw [46] (fun i wr => ∃ (k : Nat) (f s : Int → Bool), k ≤ x.jn ∧ i = .int .i64 k ∧ SetAt wr w5.heap.size k f ∧ SetAt wr (w5.heap.size + 1) k s ∧ S.lapsOk L f s (x.js.drop k) = true ∧ Exc [w5.heap.size, w5.heap.size + 1] w6 wr) (fun i _ => x.jn - (intOf i).toNat)
 case atStart => exact ⟨0, _, _, Nat.zero_le _, rfl, hS1, hS2, H6.out, Exc.refl _ _⟩
 case round =>
  obtain ⟨k, f, s, hk, rfl, hF, hG, hok, hX⟩ := hrel
  have hbX : Below w5.heap.size w6 wr := hX.below (by omega) (by intro g hg; simp at hg; omega)
  have hbr : Below w.heap.size w wr := hbw6.trans (hbX.mono (by have := hbw.size; omega))
  have hsr := hX.size
  by_cases hlt : k < x.jn
  ·have hkx : k < x.js.length := by omega
   have hki : (k : Int) < x.jn := by omega
   have HKR := Lib.hid (show k + 1 ≤ x.jn by omega)
   have hJc := (HA.out.at_ hB hbr).joints
   rw [HjA.out] at hJc
   obtain ⟨bJ, oJ, hje, hbJ, _⟩ := hJc.at_ (by rw [flat_len jnC 2 jnC_len]; omega)
   subst hje
   have c0 := hJc.row0 jnC_len hkx rfl
   have c1 := hJc.rowj jnC_len hkx 1 rfl
   rw [List.drop_eq_getElem_cons hkx] at hok
   simp only [S.lapsOk, Bool.and_eq_true, Bool.not_eq_true'] at hok
   obtain ⟨⟨⟨ho1, ho2⟩, ho3⟩, ho4⟩ := hok
   have hin : S.jointIn L x.js[k] = true := by
    unfold S.jointOk at ho1
    rw [Bool.and_eq_true] at ho1
    exact ho1.1
   simp only [S.jointIn, Bool.and_eq_true, decide_eq_true_eq] at hin
   have hw1 : Wf64 x.js[k].first := by unfold Wf64; omega
   have hw2 : Wf64 x.js[k].second := by unfold Wf64; omega
   have HO4 := Lib.hid ho4
   have HJ := Lib.hid (fun (W : World) (B' : Nat) (hw : B' ≤ W.heap.size) (hh : Cells W B' A5 (L.flatMap mnC)) => ho1 ▸ joint_any L x.js[k] A5 L.length c5 B' W rfl (by omega) hw hh)
   unfold jnV at HJ
   have hbJl : bJ < wr.heap.size := by omega
   have hCr : Cells wr w6.heap.size A5 (L.flatMap mnC) := by
    have hh := own_kept (w' := wr) how6 (fun g hg => hX.block g (by have := hA5 g hg; omega) (by have := hA5 g hg; simp; omega))
    have hc := (own_cells hh (by unfold maxLen; omega)).1
    rcases hCL with h | ⟨b', o', he, hlt', _⟩
    ·exact .inl h
    ·rcases hc with h | ⟨b2, o2, he2, _, hc2⟩
     ·exact .inl h
     ·rw [he] at he2
      injection he2 with he2
      injection he2 with e1 e2
      subst e1 e2
      exact .inr ⟨_, _, he, hlt', hc2⟩
   clear ho1 ho4 hin hJc
   generalize x.js[k] = j at *
   go_upto_region 10 with (first
    | ((go_at_call 110; (with_reducible refine (HJ.out _ w6.heap.size (by simp; omega) (hCr.alloc hsr _)).mono ?_); rintro e w7 ⟨rfl, hbw7⟩; obtain ⟨hcw7, hfw7⟩ := bcell hbw7; have hzw7_0 : w.heap.size < w7.heap.size := lt_via hbw7 sz; have hyw7_0 : wr.heap.size < w7.heap.size := lt_via hbw7 sz); have hF7 := (hF.alloc (.cells #[.int .i64 j.first, .int .i64 j.second] 142)).via hbw7; have hG7 := (hG.alloc (.cells #[.int .i64 j.first, .int .i64 j.second] 142)).via hbw7; have hl1 := hF7.look hw1; have hl2 := hG7.look hw2; rw [ho2] at hl1; rw [ho3] at hl2))
   have hJb := (Blk.new wr 142 #[.int .i64 j.first, .int .i64 j.second]).via hbw7
   have hm1 : w5.heap.size < wr.heap.size := by omega
   have hFd : SetAt w7.drew w5.heap.size k f := hF7.kept rfl
   have hGd : SetAt w7.drew (w5.heap.size + 1) k s := hG7.kept rfl
   have hJd : Blk w7.drew wr.heap.size 142 #[.int .i64 j.first, .int .i64 j.second] := hJb
   obtain ⟨wA, hu1, hFA, hgA⟩ := hFd.put (by unfold maxLen; omega) hw1
   have hGA := hGd.kept (hgA.block _ hGd.lt (by simp))
   have hJA := grown_blk hgA hJd (by omega)
   obtain ⟨wB, hu2, hGB, hgB⟩ := hGA.put (by unfold maxLen; omega) hw2
   have hFB := hFA.kept (hgB.block _ hFA.lt (by simp))
   have hJB := grown_blk hgB hJA (by omega)
   have hXB : Exc [w5.heap.size, w5.heap.size + 1] w6 wB := ((Exc.via hbw7 (hX.alloc _)).drew.grown hgA (fun g hg => .inl (by injection hg with hg; simp [hg]))).grown hgB (fun g hg => .inl (by injection hg with hg; simp [hg]))
   have k7 : w7.cell? ⟨wr.heap.size, 0, none⟩ = some (.int .i64 j.first) ∧ w7.cell? ⟨wr.heap.size, 1, none⟩ = some (.int .i64 j.second) := ⟨hJb.cell 0, hJb.cell 1⟩
   have kD : w7.drew.cell? ⟨wr.heap.size, 0, none⟩ = some (.int .i64 j.first) ∧ w7.drew.cell? ⟨wr.heap.size, 1, none⟩ = some (.int .i64 j.second) := ⟨hJd.cell 0, hJd.cell 1⟩
   have kA : wA.cell? ⟨wr.heap.size, 0, none⟩ = some (.int .i64 j.first) ∧ wA.cell? ⟨wr.heap.size, 1, none⟩ = some (.int .i64 j.second) := ⟨hJA.cell 0, hJA.cell 1⟩
   have kB : wB.cell? ⟨wr.heap.size, 0, none⟩ = some (.int .i64 j.first) ∧ wB.cell? ⟨wr.heap.size, 1, none⟩ = some (.int .i64 j.second) := ⟨hJB.cell 0, hJB.cell 1⟩
   clear hF7 hG7 hl1 hl2 hcw7 hfw7 c0 c1
   go_region_held3 (fun W' => W'.cell? ⟨wr.heap.size, 0, none⟩ = some (.int .i64 j.first) ∧ W'.cell? ⟨wr.heap.size, 1, none⟩ = some (.int .i64 j.second)) (first | exact k7 | exact kD | exact kA | exact kB) (fail)
   all_goals (
    go_wp2
    go_roundw
    case rel => exact ⟨k + 1, _, _, HKR.out, by go_num, hFB, hGB, HO4.out, hXB⟩
    case measure => have := HKR.out; simp [intOf]; omega)
  ·have how7 := own_kept (w' := wr) how6 (fun g hg => hX.block g (by have := hA5 g hg; omega) (by have := hA5 g hg; simp; omega))
   go_wp2
   go_ret2
   exact ⟨A5, c5, rfl, own_mono how7 (by have := hbw.size; omega), hbr⟩
end Go.Proofs.YtnmolefblaahmaaGreat
