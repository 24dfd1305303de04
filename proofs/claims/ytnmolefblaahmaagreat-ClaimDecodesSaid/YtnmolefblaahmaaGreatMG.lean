/- Contracts: frame.columns, image, placed; laid.plus, isPlace. Contracts: frame.image, placed. -/
import Derived.BigRegion
import Derived.Deep.CutRange
import Derived.Deep.RegionHeld3
import Derived.Test.YtnmolefblaahmaaGreatMD
set_option linter.unusedVariables false
set_option linter.unusedSimpArgs false
namespace Go.Proofs.YtnmolefblaahmaaGreat
open Go.RowKit
theorem unit_near {n : Int} (h : S.isAxis n = true) : S.near1 (S.unit n) 1 = true := by
 have h' : n = 1 ∨ n = 2 ∨ n = 3 ∨ n = -1 ∨ n = -2 ∨ n = -3 := by
  simp only [S.isAxis, Bool.and_eq_true, decide_eq_true_eq, bne_iff_ne] at h
  omega
 rcases h' with rfl | rfl | rfl | rfl | rfl | rfl <;> decide
theorem turn_axes {x y : Int} (h : S.turn x y = true) : S.isAxis x = true ∧ S.isAxis y = true := by
 simp only [S.turn, Bool.and_eq_true] at h
 exact h.1.1
theorem cross_near {x y : Int} (h : S.turn x y = true) : S.near1 (S.cross (S.unit x) (S.unit y)) 1 = true := by
 have hx : x = 1 ∨ x = 2 ∨ x = 3 ∨ x = -1 ∨ x = -2 ∨ x = -3 := by
  have := (turn_axes h).1
  simp only [S.isAxis, Bool.and_eq_true, decide_eq_true_eq, bne_iff_ne] at this
  omega
 have hy : y = 1 ∨ y = 2 ∨ y = 3 ∨ y = -1 ∨ y = -2 ∨ y = -3 := by
  have := (turn_axes h).2
  simp only [S.isAxis, Bool.and_eq_true, decide_eq_true_eq, bne_iff_ne] at this
  omega
 rcases hx with rfl | rfl | rfl | rfl | rfl | rfl <;> rcases hy with rfl | rfl | rfl | rfl | rfl | rfl <;> decide
abbrev colV (x y : Int) : Value := .agg #[.int .i64 (S.unit x).x, .int .i64 (S.unit x).y, .int .i64 (S.unit x).z, .int .i64 (S.unit y).x, .int .i64 (S.unit y).y, .int .i64 (S.unit y).z, .int .i64 (S.cross (S.unit x) (S.unit y)).x, .int .i64 (S.cross (S.unit x) (S.unit y)).y, .int .i64 (S.cross (S.unit x) (S.unit y)).z]
structure T3 (W : World) (b : Nat) (x y z : Int) : Prop where
 lt : b < W.heap.size
 c0 : W.cell? ⟨b, 0, none⟩ = some (.int .i64 x)
 c1 : W.cell? ⟨b, 1, none⟩ = some (.int .i64 y)
 c2 : W.cell? ⟨b, 2, none⟩ = some (.int .i64 z)
theorem T3.alloc {W : World} {b : Nat} {x y z : Int} (h : T3 W b x y z) (o : Obj) : T3 (W.alloc o) b x y z :=
 ⟨by simp; have := h.lt; omega, (World.cell?_alloc_lt _ _ _ h.lt).trans h.c0, (World.cell?_alloc_lt _ _ _ h.lt).trans h.c1, (World.cell?_alloc_lt _ _ _ h.lt).trans h.c2⟩
theorem T3.drew {W : World} {b : Nat} {x y z : Int} (h : T3 W b x y z) : T3 W.drew b x y z := ⟨h.lt, h.c0, h.c1, h.c2⟩
theorem T3.via {W w : World} {b : Nat} {x y z : Int} (h : T3 W b x y z) (hb : Below W.heap.size W w) : T3 w b x y z :=
 ⟨Nat.lt_of_lt_of_le h.lt hb.size, (hb.cell (p := ⟨b, 0, none⟩) h.lt).trans h.c0, (hb.cell (p := ⟨b, 1, none⟩) h.lt).trans h.c1, (hb.cell (p := ⟨b, 2, none⟩) h.lt).trans h.c2⟩
theorem T3.new (W : World) (x y z : Int) (t : TypeId) (fr : Nat × Nat) : T3 (W.alloc (.cells #[.int .i64 x, .int .i64 y, .int .i64 z] t fr)) W.heap.size x y z := by
 have h := Cells.newRow W #[.int .i64 x, .int .i64 y, .int .i64 z] t fr
 have h0 := h.get (k := 0) (v := .int .i64 x) rfl
 have h1 := h.get (k := 1) (v := .int .i64 y) rfl
 have h2 := h.get (k := 2) (v := .int .i64 z) rfl
 rw [Nat.zero_add] at h0 h1 h2
 exact ⟨by simp, h0, h1, h2⟩
theorem T3.newN {W : World} {n : Nat} (hn : W.heap.size = n) (x y z : Int) (t : TypeId) (fr : Nat × Nat) : T3 (W.alloc (.cells #[.int .i64 x, .int .i64 y, .int .i64 z] t fr)) n x y z := hn ▸ T3.new W x y z t fr
def T3E (W : World) (b : Nat) : Prop := ∃ x y z, T3 W b x y z
theorem T3E.alloc {W : World} {b : Nat} (h : T3E W b) (o : Obj) : T3E (W.alloc o) b := h.elim fun x h => h.elim fun y h => h.elim fun z h => ⟨x, y, z, h.alloc o⟩
theorem T3E.drew {W : World} {b : Nat} (h : T3E W b) : T3E W.drew b := h.elim fun x h => h.elim fun y h => h.elim fun z h => ⟨x, y, z, h.drew⟩
theorem T3E.via {W w : World} {b : Nat} (h : T3E W b) (hb : Below W.heap.size W w) : T3E w b := h.elim fun x h => h.elim fun y h => h.elim fun z h => ⟨x, y, z, h.via hb⟩
theorem T3E.newN {W : World} {n : Nat} (hn : W.heap.size = n) (x y z : Int) (t : TypeId) (fr : Nat × Nat) : T3E (W.alloc (.cells #[.int .i64 x, .int .i64 y, .int .i64 z] t fr)) n := ⟨x, y, z, T3.newN hn x y z t fr⟩
theorem T3.set3 {W : World} {b : Nat} (hE : T3E W b) (x' y' z' : Int) :
 T3 (((W.setCell ⟨b, 0, none⟩ (.int .i64 x')).setCell ⟨b, 1, none⟩ (.int .i64 y')).setCell ⟨b, 2, none⟩ (.int .i64 z')) b x' y' z' := by
 obtain ⟨x, y, z, h⟩ := hE
 have h0 := h.c0
 have h1 := h.c1
 have h2 := h.c2
 have ot : ∀ (V : World) (i j : Nat) (u : Value), i ≠ j → (V.setCell ⟨b, i, none⟩ u).cell? ⟨b, j, none⟩ = V.cell? ⟨b, j, none⟩ := fun V i j u h => World.cell?_setCell_other _ _ _ _ (fun e => h (by injection e))
 have sm : ∀ (V : World) (i : Nat) (u v : Value), V.cell? ⟨b, i, none⟩ = some v → (V.setCell ⟨b, i, none⟩ u).cell? ⟨b, i, none⟩ = some u := fun V i u v h => World.cell?_setCell_same' _ _ _ (by rw [h]; rfl)
 refine ⟨by simpa [World.setCell] using h.lt, ?_, ?_, ?_⟩
 ·rw [ot _ 2 0 _ (by decide), ot _ 1 0 _ (by decide)]
  exact sm _ _ _ _ h0
 ·rw [ot _ 2 1 _ (by decide)]
  exact sm _ _ _ _ ((ot _ 0 1 _ (by decide)).trans h1)
 ·exact sm _ _ _ _ ((ot _ 1 2 _ (by decide)).trans ((ot _ 0 2 _ (by decide)).trans h2))
theorem T3E.far3 {W : World} {g b : Nat} (h : T3E W g) (hn : b ≠ g) (u v s : Value) :
 T3E (((W.setCell ⟨b, 0, none⟩ u).setCell ⟨b, 1, none⟩ v).setCell ⟨b, 2, none⟩ s) g := h.elim fun x h => h.elim fun y h => h.elim fun z h =>
 ⟨x, y, z, by simpa [World.setCell] using h.lt, by rw [World.cell?_setCell_far _ _ _ _ hn, World.cell?_setCell_far _ _ _ _ hn, World.cell?_setCell_far _ _ _ _ hn, h.c0],
   by rw [World.cell?_setCell_far _ _ _ _ hn, World.cell?_setCell_far _ _ _ _ hn, World.cell?_setCell_far _ _ _ _ hn, h.c1],
   by rw [World.cell?_setCell_far _ _ _ _ hn, World.cell?_setCell_far _ _ _ _ hn, World.cell?_setCell_far _ _ _ _ hn, h.c2]⟩
theorem T3.far3 {W : World} {g b : Nat} {x y z : Int} (h : T3 W g x y z) (hn : b ≠ g) (u v s : Value) :
 T3 (((W.setCell ⟨b, 0, none⟩ u).setCell ⟨b, 1, none⟩ v).setCell ⟨b, 2, none⟩ s) g x y z :=
 ⟨by simpa [World.setCell] using h.lt, by rw [World.cell?_setCell_far _ _ _ _ hn, World.cell?_setCell_far _ _ _ _ hn, World.cell?_setCell_far _ _ _ _ hn, h.c0],
   by rw [World.cell?_setCell_far _ _ _ _ hn, World.cell?_setCell_far _ _ _ _ hn, World.cell?_setCell_far _ _ _ _ hn, h.c1],
   by rw [World.cell?_setCell_far _ _ _ _ hn, World.cell?_setCell_far _ _ _ _ hn, World.cell?_setCell_far _ _ _ _ hn, h.c2]⟩
set_option maxHeartbeats 8000000 in
theorem columns_any (x y : Int) (h : S.turn x y = true) (w : World) : Calls Tryz.prog 265 #[turnV x y] w fun e w' => e = .returned (colV x y) ∧ Below w.heap.size w w' := by
 have HX := Lib.hid (fun w => unit_any x (turn_axes h).1 w)
 have HY := Lib.hid (fun w => unit_any y (turn_axes h).2 w)
 have HC := Lib.hid (fun w => cross_any (S.unit x) (S.unit y) (unit_near (turn_axes h).1) (unit_near (turn_axes h).2) w)
 clear h
 unfold turnV colV
 generalize S.cross (S.unit x) (S.unit y) = c at *
 generalize S.unit x = a at *
 generalize S.unit y = b at *
 go_enter Tryz.func265, Tryz.ntmps265
 go_wp2
 have hB0 : Below w.heap.size w ((w.alloc (.cells #[.int .i64 x, .int .i64 y] 107)).alloc (.cells #[.int .i64 0, .int .i64 0, .int .i64 0, .int .i64 0, .int .i64 0, .int .i64 0, .int .i64 0, .int .i64 0, .int .i64 0] 315)) := bel
 have hK0 : Blk ((w.alloc (.cells #[.int .i64 x, .int .i64 y] 107)).alloc (.cells #[.int .i64 0, .int .i64 0, .int .i64 0, .int .i64 0, .int .i64 0, .int .i64 0, .int .i64 0, .int .i64 0, .int .i64 0] 315)) w.heap.size 107 #[.int .i64 x, .int .i64 y] := (Blk.new w _ _).alloc _
 have hL0 : Blk ((w.alloc (.cells #[.int .i64 x, .int .i64 y] 107)).alloc (.cells #[.int .i64 0, .int .i64 0, .int .i64 0, .int .i64 0, .int .i64 0, .int .i64 0, .int .i64 0, .int .i64 0, .int .i64 0] 315)) (w.heap.size + 1) 315 #[.int .i64 0, .int .i64 0, .int .i64 0, .int .i64 0, .int .i64 0, .int .i64 0, .int .i64 0, .int .i64 0, .int .i64 0] := by simpa using Blk.new (w.alloc (.cells #[.int .i64 x, .int .i64 y] 107)) 315 #[.int .i64 0, .int .i64 0, .int .i64 0, .int .i64 0, .int .i64 0, .int .i64 0, .int .i64 0, .int .i64 0, .int .i64 0]
 have hS0 : ((w.alloc (.cells #[.int .i64 x, .int .i64 y] 107)).alloc (.cells #[.int .i64 0, .int .i64 0, .int .i64 0, .int .i64 0, .int .i64 0, .int .i64 0, .int .i64 0, .int .i64 0, .int .i64 0] 315)).heap.size = w.heap.size + 2 := by simp
 generalize ((w.alloc (.cells #[.int .i64 x, .int .i64 y] 107)).alloc (.cells #[.int .i64 0, .int .i64 0, .int .i64 0, .int .i64 0, .int .i64 0, .int .i64 0, .int .i64 0, .int .i64 0, .int .i64 0] 315)) = W0 at *
 have hs0 : w.heap.size < W0.heap.size := by omega
 have hs1 : w.heap.size + 1 < W0.heap.size := by omega
 clear hS0
 have hkeep : ∀ W', Below W0.heap.size W0 W' → W'.cell? ⟨w.heap.size, 0, none⟩ = some (.int .i64 x) ∧ W'.cell? ⟨w.heap.size, 1, none⟩ = some (.int .i64 y) := fun W' h => ⟨(hK0.via h).cell 0, (hK0.via h).cell 1⟩
 go_cut [3, 4] from 5 to 10 (fun s3 s4 wx => ∃ b3 b4 : Nat, s3 = .pointer (some ⟨b3, 0, none⟩) ∧ s4 = .pointer (some ⟨b4, 0, none⟩) ∧ T3 wx b3 a.x a.y a.z ∧ T3 wx b4 b.x b.y b.z ∧ Below W0.heap.size W0 wx)
 case first =>
  go_region_held3 (fun W' => W'.cell? ⟨w.heap.size, 0, none⟩ = some (.int .i64 x) ∧ W'.cell? ⟨w.heap.size, 1, none⟩ = some (.int .i64 y)) (first | exact hkeep _ belr) (first
   | (go_at_call 270; (with_reducible refine (HX.out _).mono ?_); rintro e w1 ⟨rfl, hbw1⟩; obtain ⟨hcw1, hfw1⟩ := bcell hbw1; (try (have hzw1_0 : W0.heap.size < w1.heap.size := lt_via hbw1 sz)); (try (have hzw1_1 : W0.heap.size + 1 < w1.heap.size := lt_via hbw1 sz)); (have hxw1 : W0.heap.size ≤ w1.heap.size := (belr : Below W0.heap.size W0 w1).size); (try (have hq0 : W0.heap.size < w1.heap.size := by omega)); (try (have hq1 : ¬ W0.heap.size = w1.heap.size := by omega)); (try (have hq2 : ¬ w1.heap.size = W0.heap.size := by omega)); (try (have hq3 : W0.heap.size < w1.heap.size + 1 := by omega)); (try (have hq4 : ¬ W0.heap.size = w1.heap.size + 1 := by omega)); (try (have hq5 : ¬ w1.heap.size + 1 = W0.heap.size := by omega)); (try (have hq6 : W0.heap.size < w1.heap.size + 2 := by omega)); (try (have hq7 : ¬ W0.heap.size = w1.heap.size + 2 := by omega)); (try (have hq8 : ¬ w1.heap.size + 2 = W0.heap.size := by omega)); (try (have hq9 : W0.heap.size + 1 < w1.heap.size := by omega)); (try (have hq10 : ¬ W0.heap.size + 1 = w1.heap.size := by omega)); (try (have hq11 : ¬ w1.heap.size = W0.heap.size + 1 := by omega)); (try (have hq12 : W0.heap.size + 1 < w1.heap.size + 1 := by omega)); (try (have hq13 : ¬ W0.heap.size + 1 = w1.heap.size + 1 := by omega)); (try (have hq14 : ¬ w1.heap.size + 1 = W0.heap.size + 1 := by omega)); (try (have hq15 : W0.heap.size + 1 < w1.heap.size + 2 := by omega)); (try (have hq16 : ¬ W0.heap.size + 1 = w1.heap.size + 2 := by omega)); (try (have hq17 : ¬ w1.heap.size + 2 = W0.heap.size + 1 := by omega)))
   | (go_at_call 270; (with_reducible refine (HY.out _).mono ?_); rintro e w2 ⟨rfl, hbw2⟩; obtain ⟨hcw2, hfw2⟩ := bcell hbw2; (try (have hzw2_0 : W0.heap.size < w2.heap.size := lt_via hbw2 sz)); (try (have hzw2_1 : W0.heap.size + 1 < w2.heap.size := lt_via hbw2 sz)); (have hxw2 : W0.heap.size ≤ w2.heap.size := (belr : Below W0.heap.size W0 w2).size); (try (have hyw2_0 : w1.heap.size < w2.heap.size := lt_via hbw2 sz)); (try (have hyw2_1 : w1.heap.size + 1 < w2.heap.size := lt_via hbw2 sz))))
  all_goals (
   go_wp2_with fail
   go_meet
   exact ⟨_, _, rfl, rfl, (by repeat (with_reducible first | (refine T3.newN ?_ _ _ _ _ _; first | rfl | (simp; done) | (simp [World.setCell]; done)) | refine T3.set3 ?_ _ _ _ | (refine T3.far3 ?_ ?_ _ _ _; rotate_left; omega) | refine T3.alloc ?_ _ | refine T3.drew ?_ | refine T3.via ?_ (by assumption) | (refine T3E.newN ?_ _ _ _ _ _; first | rfl | (simp; done) | (simp [World.setCell]; done)) | (refine T3E.far3 ?_ ?_ _ _ _; rotate_left; omega) | refine T3E.alloc ?_ _ | refine T3E.drew ?_ | refine T3E.via ?_ (by assumption))), (by repeat (with_reducible first | (refine T3.newN ?_ _ _ _ _ _; first | rfl | (simp; done) | (simp [World.setCell]; done)) | refine T3.set3 ?_ _ _ _ | (refine T3.far3 ?_ ?_ _ _ _; rotate_left; omega) | refine T3.alloc ?_ _ | refine T3.drew ?_ | refine T3.via ?_ (by assumption) | (refine T3E.newN ?_ _ _ _ _ _; first | rfl | (simp; done) | (simp [World.setCell]; done)) | (refine T3E.far3 ?_ ?_ _ _ _; rotate_left; omega) | refine T3E.alloc ?_ _ | refine T3E.drew ?_ | refine T3E.via ?_ (by assumption))), belr⟩)
 case rest =>
 obtain ⟨b3, b4, rfl, rfl, ⟨hl3, x0, x1, x2⟩, ⟨hl4, y0, y1, y2⟩, hbc⟩ := hcut
 obtain ⟨hcc, hfc⟩ := bcell hbc
 have hzz0 : w.heap.size + 1 < wc.heap.size := by have := hbc.size; omega
 have hlr : Blk wc (w.heap.size + 1) 315 #[.int .i64 0, .int .i64 0, .int .i64 0, .int .i64 0, .int .i64 0, .int .i64 0, .int .i64 0, .int .i64 0, .int .i64 0] := hL0.via hbc
 go_wp2_with fail
 refine wp_region_grow_tail 6 (by kernel_rfl) (by kernel_rfl) ?_
 simp only [List.take_succ_cons, List.take_zero, List.drop_succ_cons, List.drop_zero]
 repeat (go_big_quiet_step ((go_at_call 271; exact grow_of (HC.out _))))
 all_goals (refine wpQuiet_nil ?_; intro wg hbwg; obtain ⟨hcwg, hfwg⟩ := bcell hbwg)
 have hlg := hlr.via hbwg
 have z0 := hlg.cell 0
 have z1 := hlg.cell 1
 have z2 := hlg.cell 2
 have z3 := hlg.cell 3
 have z4 := hlg.cell 4
 have z5 := hlg.cell 5
 have z6 := hlg.cell 6
 have z7 := hlg.cell 7
 have z8 := hlg.cell 8
 have fz0 := hlg.frozen 0
 have fz1 := hlg.frozen 1
 have fz2 := hlg.frozen 2
 have fz3 := hlg.frozen 3
 have fz4 := hlg.frozen 4
 have fz5 := hlg.frozen 5
 have fz6 := hlg.frozen 6
 have fz7 := hlg.frozen 7
 have fz8 := hlg.frozen 8
 simp only [List.getElem?_toArray, List.getElem?_cons_zero, List.getElem?_cons_succ] at z0 z1 z2 z3 z4 z5 z6 z7 z8
 clear hcwg hfwg hcc hfc
 have hbb : Below w.heap.size w wg := ba_via hbwg (ba_via hbc hB0)
 have hzg : w.heap.size + 1 < wg.heap.size := hlg.lt
 go_wp2
 have hK9 : Blk (((((((((wg.setCell ⟨w.heap.size + 1, 0, none⟩ (.int .i64 a.x)).setCell ⟨w.heap.size + 1, 1, none⟩ (.int .i64 a.y)).setCell ⟨w.heap.size + 1, 2, none⟩ (.int .i64 a.z)).setCell ⟨w.heap.size + 1, 3, none⟩ (.int .i64 b.x)).setCell ⟨w.heap.size + 1, 4, none⟩ (.int .i64 b.y)).setCell ⟨w.heap.size + 1, 5, none⟩ (.int .i64 b.z)).setCell ⟨w.heap.size + 1, 6, none⟩ (.int .i64 c.x)).setCell ⟨w.heap.size + 1, 7, none⟩ (.int .i64 c.y)).setCell ⟨w.heap.size + 1, 8, none⟩ (.int .i64 c.z)) (w.heap.size + 1) 315 #[.int .i64 a.x, .int .i64 a.y, .int .i64 a.z, .int .i64 b.x, .int .i64 b.y, .int .i64 b.z, .int .i64 c.x, .int .i64 c.y, .int .i64 c.z] := by simpa using (((((((((hlg.set 0 (.int .i64 a.x)).set 1 (.int .i64 a.y)).set 2 (.int .i64 a.z)).set 3 (.int .i64 b.x)).set 4 (.int .i64 b.y)).set 5 (.int .i64 b.z)).set 6 (.int .i64 c.x)).set 7 (.int .i64 c.y)).set 8 (.int .i64 c.z))
 have hb9 : Below w.heap.size w (((((((((wg.setCell ⟨w.heap.size + 1, 0, none⟩ (.int .i64 a.x)).setCell ⟨w.heap.size + 1, 1, none⟩ (.int .i64 a.y)).setCell ⟨w.heap.size + 1, 2, none⟩ (.int .i64 a.z)).setCell ⟨w.heap.size + 1, 3, none⟩ (.int .i64 b.x)).setCell ⟨w.heap.size + 1, 4, none⟩ (.int .i64 b.y)).setCell ⟨w.heap.size + 1, 5, none⟩ (.int .i64 b.z)).setCell ⟨w.heap.size + 1, 6, none⟩ (.int .i64 c.x)).setCell ⟨w.heap.size + 1, 7, none⟩ (.int .i64 c.y)).setCell ⟨w.heap.size + 1, 8, none⟩ (.int .i64 c.z)) := (ba_set (ba_set (ba_set (ba_set (ba_set (ba_set (ba_set (ba_set (ba_set hbb (p := ⟨w.heap.size + 1, 0, none⟩) (Nat.le_succ _) (.int .i64 a.x)) (p := ⟨w.heap.size + 1, 1, none⟩) (Nat.le_succ _) (.int .i64 a.y)) (p := ⟨w.heap.size + 1, 2, none⟩) (Nat.le_succ _) (.int .i64 a.z)) (p := ⟨w.heap.size + 1, 3, none⟩) (Nat.le_succ _) (.int .i64 b.x)) (p := ⟨w.heap.size + 1, 4, none⟩) (Nat.le_succ _) (.int .i64 b.y)) (p := ⟨w.heap.size + 1, 5, none⟩) (Nat.le_succ _) (.int .i64 b.z)) (p := ⟨w.heap.size + 1, 6, none⟩) (Nat.le_succ _) (.int .i64 c.x)) (p := ⟨w.heap.size + 1, 7, none⟩) (Nat.le_succ _) (.int .i64 c.y)) (p := ⟨w.heap.size + 1, 8, none⟩) (Nat.le_succ _) (.int .i64 c.z))
 clear z0 z1 z2 z3 z4 z5 z6 z7 z8 fz0 fz1 fz2 fz3 fz4 fz5 fz6 fz7 fz8 x0 x1 x2 y0 y1 y2 hlg hlr hL0
 generalize (((((((((wg.setCell ⟨w.heap.size + 1, 0, none⟩ (.int .i64 a.x)).setCell ⟨w.heap.size + 1, 1, none⟩ (.int .i64 a.y)).setCell ⟨w.heap.size + 1, 2, none⟩ (.int .i64 a.z)).setCell ⟨w.heap.size + 1, 3, none⟩ (.int .i64 b.x)).setCell ⟨w.heap.size + 1, 4, none⟩ (.int .i64 b.y)).setCell ⟨w.heap.size + 1, 5, none⟩ (.int .i64 b.z)).setCell ⟨w.heap.size + 1, 6, none⟩ (.int .i64 c.x)).setCell ⟨w.heap.size + 1, 7, none⟩ (.int .i64 c.y)).setCell ⟨w.heap.size + 1, 8, none⟩ (.int .i64 c.z)) = W9 at *
 have r0 := hK9.cell 0
 have r1 := hK9.cell 1
 have r2 := hK9.cell 2
 have r3 := hK9.cell 3
 have r4 := hK9.cell 4
 have r5 := hK9.cell 5
 have r6 := hK9.cell 6
 have r7 := hK9.cell 7
 have r8 := hK9.cell 8
 simp only [List.getElem?_toArray, List.getElem?_cons_zero, List.getElem?_cons_succ] at r0 r1 r2 r3 r4 r5 r6 r7 r8
 exact bodyPost_ret (v := .agg #[.int .i64 a.x, .int .i64 a.y, .int .i64 a.z, .int .i64 b.x, .int .i64 b.y, .int .i64 b.z, .int .i64 c.x, .int .i64 c.y, .int .i64 c.z]) (by simp [results, Tryz.results265, go_sem, *]) rfl ⟨rfl, hb9⟩
theorem mul_near {c q m : Int} (hc : -1 ≤ c ∧ c ≤ 1) (hq : -m ≤ q ∧ q ≤ m) : -m ≤ c * q ∧ c * q ≤ m := by
 have h1 : c = -1 ∨ c = 0 ∨ c = 1 := by omega
 rcases h1 with rfl | rfl | rfl <;> omega
theorem near1_out {p : Pt} {m : Int} (h : S.near1 p m = true) : (-m ≤ p.x ∧ p.x ≤ m) ∧ (-m ≤ p.y ∧ p.y ≤ m) ∧ (-m ≤ p.z ∧ p.z ≤ m) := by
 simp only [S.near1, Bool.and_eq_true, decide_eq_true_eq] at h
 omega
theorem image_near {x y : Int} {p : Pt} {m : Int} (h : S.turn x y = true) (hp : S.near1 p m = true) : S.near1 (S.image x y p) (3 * m) = true := by
 have hm := fun (c q : Int) (hc : -1 ≤ c ∧ c ≤ 1) (hq : -m ≤ q ∧ q ≤ m) => mul_near hc hq
 obtain ⟨ax, ay, az⟩ := near1_out (unit_near (turn_axes h).1)
 obtain ⟨bx, by', bz⟩ := near1_out (unit_near (turn_axes h).2)
 obtain ⟨cx, cy, cz⟩ := near1_out (cross_near h)
 obtain ⟨px, py, pz⟩ := near1_out hp
 have m0 := hm _ _ ax px
 have m1 := hm _ _ bx py
 have m2 := hm _ _ cx pz
 have m3 := hm _ _ ay px
 have m4 := hm _ _ by' py
 have m5 := hm _ _ cy pz
 have m6 := hm _ _ az px
 have m7 := hm _ _ bz py
 have m8 := hm _ _ cz pz
 rw [show S.image x y p = ⟨(S.unit x).x * p.x + (S.unit y).x * p.y + (S.cross (S.unit x) (S.unit y)).x * p.z, (S.unit x).y * p.x + (S.unit y).y * p.y + (S.cross (S.unit x) (S.unit y)).y * p.z, (S.unit x).z * p.x + (S.unit y).z * p.y + (S.cross (S.unit x) (S.unit y)).z * p.z⟩ from rfl]
 simp only [S.near1, Bool.and_eq_true, decide_eq_true_eq]
 refine ⟨⟨⟨⟨⟨?_, ?_⟩, ?_⟩, ?_⟩, ?_⟩, ?_⟩ <;> omega
set_option maxHeartbeats 4000000 in
theorem image_any (x y : Int) (h : S.turn x y = true) (p : Pt) (hp : S.near1 p 1048576 = true) (w : World) : Calls Tryz.prog 255 #[turnV x y, ptV p] w fun e w' => e = .returned (ptV (S.image x y p)) ∧ Below w.heap.size w w' := by
 have hm := fun (c q : Int) (hc : -1 ≤ c ∧ c ≤ 1) (hq : -1048576 ≤ q ∧ q ≤ 1048576) => mul_near hc hq
 obtain ⟨ax, ay, az⟩ := near1_out (unit_near (turn_axes h).1)
 obtain ⟨bx, by', bz⟩ := near1_out (unit_near (turn_axes h).2)
 obtain ⟨cx, cy, cz⟩ := near1_out (cross_near h)
 obtain ⟨px, py, pz⟩ := near1_out hp
 have HC := Lib.hid (fun w => columns_any x y h w)
 have HI := Lib.hid (show S.image x y p = ⟨(S.unit x).x * p.x + (S.unit y).x * p.y + (S.cross (S.unit x) (S.unit y)).x * p.z, (S.unit x).y * p.x + (S.unit y).y * p.y + (S.cross (S.unit x) (S.unit y)).y * p.z, (S.unit x).z * p.x + (S.unit y).z * p.y + (S.cross (S.unit x) (S.unit y)).z * p.z⟩ from rfl)
 clear h hp
 unfold colV at HC
 generalize S.cross (S.unit x) (S.unit y) = c at *
 generalize S.unit x = a at *
 generalize S.unit y = b at *
 have m0 := hm _ _ ax px
 have m1 := hm _ _ bx py
 have m2 := hm _ _ cx pz
 have m3 := hm _ _ ay px
 have m4 := hm _ _ by' py
 have m5 := hm _ _ cy pz
 have m6 := hm _ _ az px
 have m7 := hm _ _ bz py
 have m8 := hm _ _ cz pz
 have e0 : IntKind.i64.wrap (a.x * p.x) = a.x * p.x := IntWalk.i64_in _ (by omega)
 have e1 : IntKind.i64.wrap (b.x * p.y) = b.x * p.y := IntWalk.i64_in _ (by omega)
 have e2 : IntKind.i64.wrap (c.x * p.z) = c.x * p.z := IntWalk.i64_in _ (by omega)
 have e3 : IntKind.i64.wrap (a.y * p.x) = a.y * p.x := IntWalk.i64_in _ (by omega)
 have e4 : IntKind.i64.wrap (b.y * p.y) = b.y * p.y := IntWalk.i64_in _ (by omega)
 have e5 : IntKind.i64.wrap (c.y * p.z) = c.y * p.z := IntWalk.i64_in _ (by omega)
 have e6 : IntKind.i64.wrap (a.z * p.x) = a.z * p.x := IntWalk.i64_in _ (by omega)
 have e7 : IntKind.i64.wrap (b.z * p.y) = b.z * p.y := IntWalk.i64_in _ (by omega)
 have e8 : IntKind.i64.wrap (c.z * p.z) = c.z * p.z := IntWalk.i64_in _ (by omega)
 have f0 : IntKind.i64.wrap (a.x * p.x + b.x * p.y) = a.x * p.x + b.x * p.y := IntWalk.i64_in _ (by omega)
 have f1 : IntKind.i64.wrap (a.y * p.x + b.y * p.y) = a.y * p.x + b.y * p.y := IntWalk.i64_in _ (by omega)
 have f2 : IntKind.i64.wrap (a.z * p.x + b.z * p.y) = a.z * p.x + b.z * p.y := IntWalk.i64_in _ (by omega)
 have g0 : IntKind.i64.wrap (a.x * p.x + b.x * p.y + c.x * p.z) = a.x * p.x + b.x * p.y + c.x * p.z := IntWalk.i64_in _ (by omega)
 have g1 : IntKind.i64.wrap (a.y * p.x + b.y * p.y + c.y * p.z) = a.y * p.x + b.y * p.y + c.y * p.z := IntWalk.i64_in _ (by omega)
 have g2 : IntKind.i64.wrap (a.z * p.x + b.z * p.y + c.z * p.z) = a.z * p.x + b.z * p.y + c.z * p.z := IntWalk.i64_in _ (by omega)
 clear hm ax ay az bx by' bz cx cy cz px py pz m0 m1 m2 m3 m4 m5 m6 m7 m8
 unfold turnV ptV
 go_enter Tryz.func255, Tryz.ntmps255
 go_wp2_with (go_at_call 265; (with_reducible refine (HC.out _).mono ?_); rintro e w1 ⟨rfl, hbw1⟩; obtain ⟨hcw1, hfw1⟩ := bcell hbw1; have hzw1_0 : w.heap.size < w1.heap.size := lt_via hbw1 sz; have hzw1_1 : w.heap.size + 1 < w1.heap.size := lt_via hbw1 sz; have hzw1_2 : w.heap.size + 2 < w1.heap.size := lt_via hbw1 sz)
 refine wp_loop_rounds 4 ?_
 rw [rounds_succ]
 go_wp2
 refine wp_region_grow_tail 25 (by kernel_rfl) (by kernel_rfl) ?_
 simp only [List.take_succ_cons, List.take_zero, List.drop_succ_cons, List.drop_zero]
 repeat (go_big_quiet_step (fail))
 all_goals (refine wpQuiet_nil ?_; intro wg0 hbwg0; obtain ⟨hcwg0, hfwg0⟩ := bcell hbwg0; have hzwg0_0 : w.heap.size < wg0.heap.size := lt_via hbwg0 sz; have hzwg0_1 : w.heap.size + 1 < wg0.heap.size := lt_via hbwg0 sz; have hzwg0_2 : w.heap.size + 2 < wg0.heap.size := lt_via hbwg0 sz)
 have hv0_0 : w1.heap.size < wg0.heap.size := lt_via hbwg0 sz
 have hv0_1 : w1.heap.size + 1 < wg0.heap.size := lt_via hbwg0 sz
 go_wp2
 rw [rounds_succ]
 go_wp2
 refine wp_region_grow_tail 25 (by kernel_rfl) (by kernel_rfl) ?_
 simp only [List.take_succ_cons, List.take_zero, List.drop_succ_cons, List.drop_zero]
 repeat (go_big_quiet_step (fail))
 all_goals (refine wpQuiet_nil ?_; intro wg1 hbwg1; obtain ⟨hcwg1, hfwg1⟩ := bcell hbwg1; have hzwg1_0 : w.heap.size < wg1.heap.size := lt_via hbwg1 sz; have hzwg1_1 : w.heap.size + 1 < wg1.heap.size := lt_via hbwg1 sz; have hzwg1_2 : w.heap.size + 2 < wg1.heap.size := lt_via hbwg1 sz)
 have hv1_0 : w1.heap.size < wg1.heap.size := lt_via hbwg1 sz
 have hv1_1 : w1.heap.size + 1 < wg1.heap.size := lt_via hbwg1 sz
 go_wp2
 rw [rounds_succ]
 go_wp2
 refine wp_region_grow_tail 25 (by kernel_rfl) (by kernel_rfl) ?_
 simp only [List.take_succ_cons, List.take_zero, List.drop_succ_cons, List.drop_zero]
 repeat (go_big_quiet_step (fail))
 all_goals (refine wpQuiet_nil ?_; intro wg2 hbwg2; obtain ⟨hcwg2, hfwg2⟩ := bcell hbwg2; have hzwg2_0 : w.heap.size < wg2.heap.size := lt_via hbwg2 sz; have hzwg2_1 : w.heap.size + 1 < wg2.heap.size := lt_via hbwg2 sz; have hzwg2_2 : w.heap.size + 2 < wg2.heap.size := lt_via hbwg2 sz)
 have hv2_0 : w1.heap.size < wg2.heap.size := lt_via hbwg2 sz
 have hv2_1 : w1.heap.size + 1 < wg2.heap.size := lt_via hbwg2 sz
 go_wp2
 rw [rounds_succ]
 go_wp2
 exact bodyPost_ret (v := .agg #[.int .i64 (a.x * p.x + b.x * p.y + c.x * p.z), .int .i64 (a.y * p.x + b.y * p.y + c.y * p.z), .int .i64 (a.z * p.x + b.z * p.y + c.z * p.z)]) (by simp [results, Tryz.results255, go_sem, *]) rfl ⟨by rw [HI.out], bel⟩
theorem placed_any (x y : Int) (h : S.turn x y = true) (o p : Pt) (ho : S.near1 o 1048576 = true) (hp : S.near1 p 1048576 = true) (w : World) : Calls Tryz.prog 223 #[turnV x y, ptV o, ptV p] w fun e w' => e = .returned (ptV (S.placed x y o p)) ∧ Below w.heap.size w w' := by
 obtain ⟨qx, qy, qz⟩ := near1_out (image_near h hp)
 obtain ⟨ox, oy, oz⟩ := near1_out ho
 have HM := Lib.hid (fun w => image_any x y h p hp w)
 have HP := Lib.hid (show S.placed x y o p = ⟨o.x + (S.image x y p).x, o.y + (S.image x y p).y, o.z + (S.image x y p).z⟩ from rfl)
 clear h hp ho
 generalize S.image x y p = q at *
 have e0 : IntKind.i64.wrap (o.x + q.x) = o.x + q.x := IntWalk.i64_in _ (by omega)
 have e1 : IntKind.i64.wrap (o.y + q.y) = o.y + q.y := IntWalk.i64_in _ (by omega)
 have e2 : IntKind.i64.wrap (o.z + q.z) = o.z + q.z := IntWalk.i64_in _ (by omega)
 unfold turnV ptV
 unfold turnV ptV at HM
 go_enter Tryz.func223, Tryz.ntmps223
 go_wp2_with (go_at_call 255; (with_reducible refine (HM.out _).mono ?_); rintro e w1 ⟨rfl, hbw1⟩; obtain ⟨hcw1, hfw1⟩ := bcell hbw1; have hzw1_0 : w.heap.size < w1.heap.size := lt_via hbw1 sz; have hzw1_1 : w.heap.size + 1 < w1.heap.size := lt_via hbw1 sz; have hzw1_2 : w.heap.size + 2 < w1.heap.size := lt_via hbw1 sz; have hzw1_3 : w.heap.size + 3 < w1.heap.size := lt_via hbw1 sz)
 exact bodyPost_ret (v := .agg #[.int .i64 (o.x + q.x), .int .i64 (o.y + q.y), .int .i64 (o.z + q.z)]) (by simp [results, Tryz.results223, go_sem, *]) rfl ⟨by rw [HP.out], bel⟩
theorem plus_any (p s : Pt) (k : Int) (hp : S.near1 p 4398046511104 = true) (hs : S.near1 s 4194304 = true) (hk : 0 ≤ k ∧ k ≤ 1000000) (w : World) : Calls Tryz.prog 69 #[ptV p, ptV s, .int .i64 k] w fun e w' => e = .returned (ptV (S.plus p s k)) ∧ Below w.heap.size w w' := by
 obtain ⟨px, py, pz⟩ := near1_out hp
 obtain ⟨sx, sy, sz⟩ := near1_out hs
 have hm : ∀ q : Int, -4194304 ≤ q ∧ q ≤ 4194304 → -4194304000000 ≤ k * q ∧ k * q ≤ 4194304000000 := fun q hq => by
  have h1 : k * q ≤ k * 4194304 := Int.mul_le_mul_of_nonneg_left hq.2 hk.1
  have h2 : k * (-4194304) ≤ k * q := Int.mul_le_mul_of_nonneg_left hq.1 hk.1
  omega
 have m0 := hm _ sx
 have m1 := hm _ sy
 have m2 := hm _ sz
 have e0 : IntKind.i64.wrap (k * s.x) = k * s.x := IntWalk.i64_in _ (by omega)
 have e1 : IntKind.i64.wrap (k * s.y) = k * s.y := IntWalk.i64_in _ (by omega)
 have e2 : IntKind.i64.wrap (k * s.z) = k * s.z := IntWalk.i64_in _ (by omega)
 have f0 : IntKind.i64.wrap (p.x + k * s.x) = p.x + k * s.x := IntWalk.i64_in _ (by omega)
 have f1 : IntKind.i64.wrap (p.y + k * s.y) = p.y + k * s.y := IntWalk.i64_in _ (by omega)
 have f2 : IntKind.i64.wrap (p.z + k * s.z) = p.z + k * s.z := IntWalk.i64_in _ (by omega)
 have x0 : S.plus p s k = ⟨p.x + k * s.x, p.y + k * s.y, p.z + k * s.z⟩ := rfl
 unfold ptV
 rw [x0]
 go_enter Tryz.func69, Tryz.ntmps69
 go_wp2
 exact bodyPost_ret (v := .agg #[.int .i64 (p.x + k * s.x), .int .i64 (p.y + k * s.y), .int .i64 (p.z + k * s.z)]) (by simp [results, Tryz.results69, go_sem, *]) rfl ⟨rfl, bel⟩
def S.lmn (a b : Int) : Int := if b < a then b else a
def S.lmx (a b : Int) : Int := if a < b then b else a
theorem lmax3 (x y z : Int) (W : World) : Sem.run Tryz.prog (Builtin.max_ #[3, 3, 3] 3 #[.int .i64 x, .int .i64 y, .int .i64 z]) W = .ok (.int .i64 (S.lmx (S.lmx x y) z)) W := by
 simp [Builtin.max_, go_sem, List.foldlM, Builtin.max2, S.lmx]
 rfl
theorem lmin3 (x y z : Int) (W : World) : Sem.run Tryz.prog (Builtin.min_ #[3, 3, 3] 3 #[.int .i64 x, .int .i64 y, .int .i64 z]) W = .ok (.int .i64 (S.lmn (S.lmn x y) z)) W := by
 simp [Builtin.min_, go_sem, List.foldlM, Builtin.min2, S.lmn]
 rfl
theorem lmx3_le {x y z m : Int} : S.lmx (S.lmx x y) z ≤ m ↔ x ≤ m ∧ y ≤ m ∧ z ≤ m := by
 unfold S.lmx; split <;> split <;> omega
theorem le_lmn3 {x y z m : Int} : m ≤ S.lmn (S.lmn x y) z ↔ m ≤ x ∧ m ≤ y ∧ m ≤ z := by
 unfold S.lmn; split <;> split <;> omega
theorem isplace_any (p : Pt) (m : Int) (hm : 0 ≤ m ∧ m ≤ 1000000000000) (w : World) : Calls Tryz.prog 67 #[ptV p, .int .i64 m] w fun e w' => e = .returned (.bool (S.near1 p m)) ∧ Below w.heap.size w w' := by
 have H := Lib.hid (show S.near1 p m = (decide (-m ≤ S.lmn (S.lmn p.x p.y) p.z) && decide (S.lmx (S.lmx p.x p.y) p.z ≤ m)) from by
  rw [Bool.eq_iff_iff]
  simp only [S.near1, Bool.and_eq_true, decide_eq_true_eq, lmx3_le, le_lmn3]
  omega)
 have hMx := lmax3 p.x p.y p.z
 have hMn := lmin3 p.x p.y p.z
 generalize S.lmx (S.lmx p.x p.y) p.z = M at *
 generalize S.lmn (S.lmn p.x p.y) p.z = N at *
 unfold ptV
 by_cases h1 : -m ≤ N
 ·go_enter Tryz.func67, Tryz.ntmps67
  go_wp2
  go_ret
  exact ⟨ret_b (by rw [H.out]; simp [h1]), bel⟩
 ·go_enter Tryz.func67, Tryz.ntmps67
  go_wp2
  go_ret
  exact ⟨ret_b (by rw [H.out]; exact Eq.symm (Bool.and_eq_false_imp.mpr (fun h => absurd (of_decide_eq_true h) (by omega)))), bel⟩
end Go.Proofs.YtnmolefblaahmaaGreat
