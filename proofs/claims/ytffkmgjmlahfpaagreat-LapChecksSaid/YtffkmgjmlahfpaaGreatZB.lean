/- The main legs of laid bars are boxes in the place's bounds (no walk). Contracts: box.along, box.Square, the reference's Along and Square. Contracts: anchor.poor, anchor.Poor. Contracts of the reference for layers 14 and 16: Valid (14), run where it says no. A region that draws its order, whose operations yield values that only have a property (addresses of memory just made): in whatever order they come. A region that draws its order, some of whose operations only read, and the others make memory or call, one behind the other: walked in the order of the text. Contracts of the reference for layer 16: run, Valid. Contracts of the reference for layer 16: run for every run, Valid, Place, Bar. Contracts of the reference for layer 16: Bar, Points. Contract of the reference for layer 16: Legs. Contracts of the reference for layer 25: Main, Size, Mark, Count. Contract of the reference for layer 25: joint. Contracts of the reference for layers 10 and 23: between, Place, Valid; Find, Valid. Contracts of the reference for layer 23: Find, Valid. Contracts of the reference for layer 17: thick, Valid, Member. Contract of the reference for layer 25: Valid. Contract: lap.Check of a valid detail. -/
import Derived.Test.YtffkmgjmlahfpaaGreatRunEq
import Derived.Test.YtffkmgjmlahfpaaGreatLegsP
import Derived.Test.YtffkmgjmlahfpaaGreatRBoxA
import Derived.Test.YtffkmgjmlahfpaaGreatSolidB
import Derived.Test.YtffkmgjmlahfpaaGreatZA
import Derived.Test.YtffkmgjmlahfpaaGreatTail
import Derived.Test.YtffkmgjmlahfpaaGreatRow
import Derived.Deep.MidRow
import Derived.Test.YtffkmgjmlahfpaaGreatLook
import Derived.Test.YtffkmgjmlahfpaaGreatDetail
import Derived.Test.YtffkmgjmlahfpaaGreatJoint
import Derived.Test.YtffkmgjmlahfpaaGreatChL
import Derived.Test.YtffkmgjmlahfpaaGreatAnchL
set_option linter.unusedVariables false
set_option linter.unusedSimpArgs false
namespace Go.Proofs.YtffkmgjmlahfpaaGreat
open Go.RowKit
theorem right_pts {bs : List Bar} {r : Rn} {k0 : Nat} {b : Bar} (ho : RunOk bs r k0 b) (hr : S.right bs r = true) : S.rightPts b r = true := by
  unfold S.right at hr
  rw [Bool.and_eq_true, ho.at_] at hr
  exact hr.2
theorem laid_near {bs : List Bar} {r : Rn} {k0 : Nat} {b : Bar} (ho : RunOk bs r k0 b) (hr : S.right bs r = true) {n : Nat} (hn : (n : Int) < r.count) : S.near (S.laidPath b r n) 1048576 = true := by
  have hp := right_pts ho hr
  unfold S.rightPts at hp
  rw [Bool.and_eq_true, List.all_eq_true, List.all_eq_true] at hp
  rw [← laid_pts ho.turn ho.bar, List.all_eq_true]
  intro p hpm
  have h0 := hp.1 p hpm
  have h1 := hp.2 p hpm
  unfold S.ptOk S.laidPt at *
  by_cases hz : n = 0
  · subst hz
    exact h0
  · rw [if_pos (by omega)] at h1
    rw [if_neg (by omega)] at h0
    rw [if_pos (by omega)]
    generalize S.plus p r.at_ 1 = q at *
    obtain ⟨ax, ay, az⟩ := near1_out h0
    obtain ⟨bx, by', bz⟩ := near1_out h1
    rw [show S.plus q r.step n = ⟨q.x + n * r.step.x, q.y + n * r.step.y, q.z + n * r.step.z⟩ from rfl]
    have cx := conv ax bx (show (0 : Int) ≤ n by omega) (show (n : Int) ≤ r.count - 1 by omega)
    have cy := conv ay by' (show (0 : Int) ≤ n by omega) (show (n : Int) ≤ r.count - 1 by omega)
    have cz := conv az bz (show (0 : Int) ≤ n by omega) (show (n : Int) ≤ r.count - 1 by omega)
    simp only [S.near1, Bool.and_eq_true, decide_eq_true_eq]
    omega
theorem legB_ok {p q : Pt} (hp : S.near1 p 1048576 = true) (hq : S.near1 q 1048576 = true) : S.boxOk (S.legB p q) = true := by
  obtain ⟨ax, ay, az⟩ := near1_out hp
  obtain ⟨bx, by', bz⟩ := near1_out hq
  simp only [S.boxOk, S.okAx, Bool.and_eq_true, decide_eq_true_eq]
  show ((((if q.x < p.x then q.x else p.x) ≤ (if p.x < q.x then q.x else p.x) ∧ _ ≤ (if q.x < p.x then q.x else p.x)) ∧ (if p.x < q.x then q.x else p.x) ≤ _) ∧ (((if q.y < p.y then q.y else p.y) ≤ (if p.y < q.y then q.y else p.y) ∧ _ ≤ (if q.y < p.y then q.y else p.y)) ∧ (if p.y < q.y then q.y else p.y) ≤ _)) ∧ (((if q.z < p.z then q.z else p.z) ≤ (if p.z < q.z then q.z else p.z) ∧ _ ≤ (if q.z < p.z then q.z else p.z)) ∧ (if p.z < q.z then q.z else p.z) ≤ _)
  refine ⟨⟨⟨⟨?_, ?_⟩, ?_⟩, ⟨?_, ?_⟩, ?_⟩, ⟨?_, ?_⟩, ?_⟩ <;> (repeat' split) <;> omega
theorem main_ok {l : List Pt} (h : S.near l 1048576 = true) {b : Bx} (hb : S.mainLeg l = some b) : S.boxOk b = true := by
  have hl : 0 < l.length := by
    cases l with
    | nil => simp [S.mainLeg, S.mainTo] at hb
    | cons p r => simp
  obtain ⟨j, hj, he, _⟩ := (mainTo_leg (l := l) (m := l.length - 1) (by omega)).2 b hb
  subst he
  have h1 := near_in h (k := j) (by omega)
  have h2 := near_in h (k := j + 1) (by omega)
  have e1 : S.ptD l j = l[j]'(by omega) := by simp [S.ptD, List.getElem?_eq_getElem (show j < l.length by omega)]
  have e2 : S.ptD l (j + 1) = l[j + 1]'(by omega) := by simp [S.ptD, List.getElem?_eq_getElem (show j + 1 < l.length by omega)]
  rw [e1, e2]
  exact legB_ok h1 h2
theorem bar_size {b : Bar} (h : S.bar b = true) : S.size b.size = true := by
  simp only [S.bar, S.barHead, Bool.and_eq_true] at h
  simp_all
theorem mains_box {bs : List Bar} {rs : List Rn} (h : S.laid bs rs = true) {i : Nat} {m : Mn} (hm : (S.mains bs rs)[i]? = some m) : S.size m.size = true ∧ (m.has = true → S.boxOk m.leg = true) := by
  obtain ⟨hi, _⟩ := List.getElem?_eq_some_iff.1 hm
  obtain ⟨k, j, k0, b, hs⟩ := stands_of h hi
  have hg := hs.get
  rw [hm] at hg
  injection hg with hg
  subst hg
  have hr := h
  simp only [S.laid, Bool.and_eq_true] at hr
  have hR := runs_in hr.2 (List.getElem_mem hs.lt)
  have hn := laid_near hs.ok hR hs.inr
  have hlt := hs.lt
  cases hc : S.mainLeg (S.laidPath b (rs[k]'hlt) j) with
  | none => exact ⟨bar_size hs.ok.bar, fun h => by cases h⟩
  | some x => exact ⟨bar_size hs.ok.bar, fun _ => main_ok hn hc⟩
end Go.Proofs.YtffkmgjmlahfpaaGreat
set_option linter.unusedVariables false
set_option linter.unusedSimpArgs false
namespace Go.Proofs.YtffkmgjmlahfpaaGreat
open Go.RowKit
/-- How far two ranges lie apart; at most 0 where they meet. -/
def S.gap (al ah bl bh : Int) : Int := if bl - ah < al - bh then al - bh else bl - ah
theorem boxOk_x {b : Bx} (h : S.boxOk b = true) : -1048576 ≤ b.lo.x ∧ b.lo.x ≤ b.hi.x ∧ b.hi.x ≤ 1048576 := by
  simp only [S.boxOk, S.okAx, Bool.and_eq_true, decide_eq_true_eq] at h
  omega
theorem boxOk_y {b : Bx} (h : S.boxOk b = true) : -1048576 ≤ b.lo.y ∧ b.lo.y ≤ b.hi.y ∧ b.hi.y ≤ 1048576 := by
  simp only [S.boxOk, S.okAx, Bool.and_eq_true, decide_eq_true_eq] at h
  omega
theorem boxOk_zz {b : Bx} (h : S.boxOk b = true) : -1048576 ≤ b.lo.z ∧ b.lo.z ≤ b.hi.z ∧ b.hi.z ≤ 1048576 := by
  simp only [S.boxOk, S.okAx, Bool.and_eq_true, decide_eq_true_eq] at h
  omega
theorem along_x (a b : Bx) (ha : S.boxOk a = true) (hb : S.boxOk b = true) (w : World) :
    Calls Tryz.prog 126 #[boxV a, boxV b, .int .i64 0] w fun e w' => e = .returned (.int .i64 (S.gap a.lo.x a.hi.x b.lo.x b.hi.x)) ∧ Below w.heap.size w w' := by
  have HE := Lib.hid (fun w => ends_x a w)
  have HF := Lib.hid (fun w => ends_x b w)
  have ha' := boxOk_x ha
  have hb' := boxOk_x hb
  have e0 : IntKind.i64.wrap (b.lo.x - a.hi.x) = b.lo.x - a.hi.x := IntWalk.i64_in _ (by omega)
  have e1 : IntKind.i64.wrap (a.lo.x - b.hi.x) = a.lo.x - b.hi.x := IntWalk.i64_in _ (by omega)
  have HG := Lib.hid (show S.gap a.lo.x a.hi.x b.lo.x b.hi.x = if b.lo.x - a.hi.x < a.lo.x - b.hi.x then a.lo.x - b.hi.x else b.lo.x - a.hi.x from rfl)
  clear ha hb ha' hb'
  unfold boxV at HE HF
  unfold boxV
  go_enter Tryz.func126, Tryz.ntmps126
  go_wp2_with (first | (go_at_call 167; (with_reducible refine (HE.out _).mono ?_); rintro e w1 ⟨rfl, hbw1⟩; obtain ⟨hcw1, hfw1⟩ := bcell hbw1; have hzw1_0 : w.heap.size < w1.heap.size := lt_via hbw1 (by first | omega | (simp; done) | (simp; omega)); have hzw1_1 : w.heap.size + 1 < w1.heap.size := lt_via hbw1 (by first | omega | (simp; done) | (simp; omega))) | (go_at_call 167; (with_reducible refine (HF.out _).mono ?_); rintro e w2 ⟨rfl, hbw2⟩; obtain ⟨hcw2, hfw2⟩ := bcell hbw2; have hzw2_0 : w.heap.size < w2.heap.size := lt_via hbw2 (by first | omega | (simp; done) | (simp; omega)); have hzw2_1 : w.heap.size + 1 < w2.heap.size := lt_via hbw2 (by first | omega | (simp; done) | (simp; omega))))
  all_goals (go_ret; exact ⟨ret_i (by rw [HG.out]; split <;> omega), (by repeat (first | exact Below.refl _ _ | assumption | refine ba_alloc ?_ _ | refine ba_drew ?_ | refine ba_drewN ?_ _ | refine ba_via (by assumption) ?_ | (refine ba_set ?_ ?_ _; rotate_left; (first | omega | (simp; omega) | simp))))⟩)
theorem along_y (a b : Bx) (ha : S.boxOk a = true) (hb : S.boxOk b = true) (w : World) :
    Calls Tryz.prog 126 #[boxV a, boxV b, .int .i64 1] w fun e w' => e = .returned (.int .i64 (S.gap a.lo.y a.hi.y b.lo.y b.hi.y)) ∧ Below w.heap.size w w' := by
  have HE := Lib.hid (fun w => ends_y a w)
  have HF := Lib.hid (fun w => ends_y b w)
  have ha' := boxOk_y ha
  have hb' := boxOk_y hb
  have e0 : IntKind.i64.wrap (b.lo.y - a.hi.y) = b.lo.y - a.hi.y := IntWalk.i64_in _ (by omega)
  have e1 : IntKind.i64.wrap (a.lo.y - b.hi.y) = a.lo.y - b.hi.y := IntWalk.i64_in _ (by omega)
  have HG := Lib.hid (show S.gap a.lo.y a.hi.y b.lo.y b.hi.y = if b.lo.y - a.hi.y < a.lo.y - b.hi.y then a.lo.y - b.hi.y else b.lo.y - a.hi.y from rfl)
  clear ha hb ha' hb'
  unfold boxV at HE HF
  unfold boxV
  go_enter Tryz.func126, Tryz.ntmps126
  go_wp2_with (first | (go_at_call 167; (with_reducible refine (HE.out _).mono ?_); rintro e w1 ⟨rfl, hbw1⟩; obtain ⟨hcw1, hfw1⟩ := bcell hbw1; have hzw1_0 : w.heap.size < w1.heap.size := lt_via hbw1 (by first | omega | (simp; done) | (simp; omega)); have hzw1_1 : w.heap.size + 1 < w1.heap.size := lt_via hbw1 (by first | omega | (simp; done) | (simp; omega))) | (go_at_call 167; (with_reducible refine (HF.out _).mono ?_); rintro e w2 ⟨rfl, hbw2⟩; obtain ⟨hcw2, hfw2⟩ := bcell hbw2; have hzw2_0 : w.heap.size < w2.heap.size := lt_via hbw2 (by first | omega | (simp; done) | (simp; omega)); have hzw2_1 : w.heap.size + 1 < w2.heap.size := lt_via hbw2 (by first | omega | (simp; done) | (simp; omega))))
  all_goals (go_ret; exact ⟨ret_i (by rw [HG.out]; split <;> omega), (by repeat (first | exact Below.refl _ _ | assumption | refine ba_alloc ?_ _ | refine ba_drew ?_ | refine ba_drewN ?_ _ | refine ba_via (by assumption) ?_ | (refine ba_set ?_ ?_ _; rotate_left; (first | omega | (simp; omega) | simp))))⟩)
theorem along_z (a b : Bx) (ha : S.boxOk a = true) (hb : S.boxOk b = true) (w : World) :
    Calls Tryz.prog 126 #[boxV a, boxV b, .int .i64 2] w fun e w' => e = .returned (.int .i64 (S.gap a.lo.z a.hi.z b.lo.z b.hi.z)) ∧ Below w.heap.size w w' := by
  have HE := Lib.hid (fun w => ends_z a w)
  have HF := Lib.hid (fun w => ends_z b w)
  have ha' := boxOk_zz ha
  have hb' := boxOk_zz hb
  have e0 : IntKind.i64.wrap (b.lo.z - a.hi.z) = b.lo.z - a.hi.z := IntWalk.i64_in _ (by omega)
  have e1 : IntKind.i64.wrap (a.lo.z - b.hi.z) = a.lo.z - b.hi.z := IntWalk.i64_in _ (by omega)
  have HG := Lib.hid (show S.gap a.lo.z a.hi.z b.lo.z b.hi.z = if b.lo.z - a.hi.z < a.lo.z - b.hi.z then a.lo.z - b.hi.z else b.lo.z - a.hi.z from rfl)
  clear ha hb ha' hb'
  unfold boxV at HE HF
  unfold boxV
  go_enter Tryz.func126, Tryz.ntmps126
  go_wp2_with (first | (go_at_call 167; (with_reducible refine (HE.out _).mono ?_); rintro e w1 ⟨rfl, hbw1⟩; obtain ⟨hcw1, hfw1⟩ := bcell hbw1; have hzw1_0 : w.heap.size < w1.heap.size := lt_via hbw1 (by first | omega | (simp; done) | (simp; omega)); have hzw1_1 : w.heap.size + 1 < w1.heap.size := lt_via hbw1 (by first | omega | (simp; done) | (simp; omega))) | (go_at_call 167; (with_reducible refine (HF.out _).mono ?_); rintro e w2 ⟨rfl, hbw2⟩; obtain ⟨hcw2, hfw2⟩ := bcell hbw2; have hzw2_0 : w.heap.size < w2.heap.size := lt_via hbw2 (by first | omega | (simp; done) | (simp; omega)); have hzw2_1 : w.heap.size + 1 < w2.heap.size := lt_via hbw2 (by first | omega | (simp; done) | (simp; omega))))
  all_goals (go_ret; exact ⟨ret_i (by rw [HG.out]; split <;> omega), (by repeat (first | exact Below.refl _ _ | assumption | refine ba_alloc ?_ _ | refine ba_drew ?_ | refine ba_drewN ?_ _ | refine ba_via (by assumption) ?_ | (refine ba_set ?_ ?_ _; rotate_left; (first | omega | (simp; omega) | simp))))⟩)
def S.pos (t : Int) : Int := if 0 < t then t else 0
def S.gapX (a b : Bx) : Int := S.gap a.lo.x a.hi.x b.lo.x b.hi.x
def S.gapY (a b : Bx) : Int := S.gap a.lo.y a.hi.y b.lo.y b.hi.y
def S.gapZ (a b : Bx) : Int := S.gap a.lo.z a.hi.z b.lo.z b.hi.z
/-- The square of the distance of two boxes. -/
def S.square (a b : Bx) : Int := S.pos (S.gapX a b) * S.pos (S.gapX a b) + S.pos (S.gapY a b) * S.pos (S.gapY a b) + S.pos (S.gapZ a b) * S.pos (S.gapZ a b)
theorem gap_bd {al ah bl bh : Int} (h1 : -1048576 ≤ al ∧ al ≤ ah ∧ ah ≤ 1048576) (h2 : -1048576 ≤ bl ∧ bl ≤ bh ∧ bh ≤ 1048576) : -2097152 ≤ S.gap al ah bl bh ∧ S.gap al ah bl bh ≤ 2097152 := by
  unfold S.gap
  split <;> omega
theorem pos_sq {g : Int} (h : g ≤ 2097152) : 0 ≤ S.pos g * S.pos g ∧ S.pos g * S.pos g ≤ 4398046511104 := by
  unfold S.pos
  split
  · have h1 : 0 ≤ g * g := Int.mul_nonneg (by omega) (by omega)
    have h2 : g * g ≤ 2097152 * 2097152 := Int.mul_le_mul h h (by omega) (by omega)
    omega
  · simp
theorem square_bd {a b : Bx} (ha : S.boxOk a = true) (hb : S.boxOk b = true) : 0 ≤ S.square a b ∧ S.square a b ≤ 13194139533312 := by
  have hx := pos_sq (gap_bd (boxOk_x ha) (boxOk_x hb)).2
  have hy := pos_sq (gap_bd (boxOk_y ha) (boxOk_y hb)).2
  have hz := pos_sq (gap_bd (boxOk_zz ha) (boxOk_zz hb)).2
  unfold S.square S.gapX S.gapY S.gapZ
  omega
set_option maxHeartbeats 4000000 in
theorem Square_yes (a b : Bx) (w : World) (ha : S.boxOk a = true) (hb : S.boxOk b = true) :
    Calls Tryz.prog 68 #[boxV a, boxV b] w fun e w' => e = .returned (.tuple #[.int .i64 (S.square a b), .int .i64 0]) ∧ Below w.heap.size w w' := by
  have HA := Lib.hid (fun w => ha ▸ bvalid_any a w)
  have HB := Lib.hid (fun w => hb ▸ bvalid_any b w)
  have HX := Lib.hid (fun w => along_x a b ha hb w)
  have HY := Lib.hid (fun w => along_y a b ha hb w)
  have HZ := Lib.hid (fun w => along_z a b ha hb w)
  have hx := (gap_bd (boxOk_x ha) (boxOk_x hb))
  have hy := (gap_bd (boxOk_y ha) (boxOk_y hb))
  have hz := (gap_bd (boxOk_zz ha) (boxOk_zz hb))
  have sx := pos_sq hx.2
  have sy := pos_sq hy.2
  have sz := pos_sq hz.2
  have HS := Lib.hid (show S.square a b = S.pos (S.gap a.lo.x a.hi.x b.lo.x b.hi.x) * S.pos (S.gap a.lo.x a.hi.x b.lo.x b.hi.x) + S.pos (S.gap a.lo.y a.hi.y b.lo.y b.hi.y) * S.pos (S.gap a.lo.y a.hi.y b.lo.y b.hi.y) + S.pos (S.gap a.lo.z a.hi.z b.lo.z b.hi.z) * S.pos (S.gap a.lo.z a.hi.z b.lo.z b.hi.z) from rfl)
  clear ha hb
  generalize S.square a b = q at *
  unfold boxV at HA HB HX HY HZ
  unfold boxV
  generalize S.gap a.lo.x a.hi.x b.lo.x b.hi.x = gx at *
  generalize S.gap a.lo.y a.hi.y b.lo.y b.hi.y = gy at *
  generalize S.gap a.lo.z a.hi.z b.lo.z b.hi.z = gz at *
  have kx : (0 < gx ∧ S.pos gx = gx) ∨ (gx ≤ 0 ∧ S.pos gx = 0) := by unfold S.pos; split <;> omega
  have ky : (0 < gy ∧ S.pos gy = gy) ∨ (gy ≤ 0 ∧ S.pos gy = 0) := by unfold S.pos; split <;> omega
  have kz : (0 < gz ∧ S.pos gz = gz) ∨ (gz ≤ 0 ∧ S.pos gz = 0) := by unfold S.pos; split <;> omega
  have HP := Lib.hid (show (S.pos gx = if 0 < gx then gx else 0) ∧ (S.pos gy = if 0 < gy then gy else 0) ∧ (S.pos gz = if 0 < gz then gz else 0) from ⟨rfl, rfl, rfl⟩)
  obtain ⟨xx, hxx⟩ : ∃ y, y = S.pos gx * S.pos gx := ⟨_, rfl⟩
  obtain ⟨yy, hyy⟩ : ∃ y, y = S.pos gy * S.pos gy := ⟨_, rfl⟩
  obtain ⟨zz, hzz⟩ : ∃ y, y = S.pos gz * S.pos gz := ⟨_, rfl⟩
  rw [← hxx] at HS sx
  rw [← hyy] at HS sy
  rw [← hzz] at HS sz
  have w1 : IntKind.i64.wrap xx = xx := IntWalk.i64_in _ (by omega)
  have w2 : IntKind.i64.wrap yy = yy := IntWalk.i64_in _ (by omega)
  have w3 : IntKind.i64.wrap zz = zz := IntWalk.i64_in _ (by omega)
  have w4 : IntKind.i64.wrap (xx + yy) = xx + yy := IntWalk.i64_in _ (by omega)
  have w5 : IntKind.i64.wrap (xx + zz) = xx + zz := IntWalk.i64_in _ (by omega)
  have w6 : IntKind.i64.wrap (yy + zz) = yy + zz := IntWalk.i64_in _ (by omega)
  have w7 : IntKind.i64.wrap (xx + yy + zz) = xx + yy + zz := IntWalk.i64_in _ (by omega)
  rcases kx with ⟨c1, d1⟩ | ⟨c1, d1⟩ <;> rcases ky with ⟨c2, d2⟩ | ⟨c2, d2⟩ <;> rcases kz with ⟨c3, d3⟩ | ⟨c3, d3⟩
  all_goals (
    rw [d1] at hxx
    rw [d2] at hyy
    rw [d3] at hzz
    have v1 : IntKind.i64.wrap (gx * gx) = IntKind.i64.wrap (gx * gx) := rfl
    first | (have u1 : gx * gx = xx := hxx.symm) | (have u1 : xx = 0 := by simpa using hxx)
    first | (have u2 : gy * gy = yy := hyy.symm) | (have u2 : yy = 0 := by simpa using hyy)
    first | (have u3 : gz * gz = zz := hzz.symm) | (have u3 : zz = 0 := by simpa using hzz)
    clear v1 HP d1 d2 d3 hxx hyy hzz
    go_enter Tryz.func68, Tryz.ntmps68
    go_wp2_with (first | (go_at_call 107; (with_reducible refine (HA.out _).mono ?_); rintro e wa ⟨rfl, hbwa⟩; obtain ⟨hcwa, hfwa⟩ := bcell hbwa; have hzwa_0 : w.heap.size < wa.heap.size := lt_via hbwa (by first | omega | (simp; done) | (simp; omega)); have hzwa_1 : w.heap.size + 1 < wa.heap.size := lt_via hbwa (by first | omega | (simp; done) | (simp; omega))) | (go_at_call 107; (with_reducible refine (HB.out _).mono ?_); rintro e wb ⟨rfl, hbwb⟩; obtain ⟨hcwb, hfwb⟩ := bcell hbwb; have hzwb_0 : w.heap.size < wb.heap.size := lt_via hbwb (by first | omega | (simp; done) | (simp; omega)); have hzwb_1 : w.heap.size + 1 < wb.heap.size := lt_via hbwb (by first | omega | (simp; done) | (simp; omega))))
    refine wp_loop_rounds 4 ?_
    rw [rounds_succ]
    go_wp2_with (go_at_call 126; (with_reducible refine (HX.out _).mono ?_); rintro e wc ⟨rfl, hbwc⟩; obtain ⟨hcwc, hfwc⟩ := bcell hbwc; have hzwc_0 : w.heap.size < wc.heap.size := lt_via hbwc (by first | omega | (simp; done) | (simp; omega)); have hzwc_1 : w.heap.size + 1 < wc.heap.size := lt_via hbwc (by first | omega | (simp; done) | (simp; omega)))
    rw [rounds_succ]
    go_wp2_with (go_at_call 126; (with_reducible refine (HY.out _).mono ?_); rintro e wd ⟨rfl, hbwd⟩; obtain ⟨hcwd, hfwd⟩ := bcell hbwd; have hzwd_0 : w.heap.size < wd.heap.size := lt_via hbwd (by first | omega | (simp; done) | (simp; omega)); have hzwd_1 : w.heap.size + 1 < wd.heap.size := lt_via hbwd (by first | omega | (simp; done) | (simp; omega)))
    rw [rounds_succ]
    go_wp2_with (go_at_call 126; (with_reducible refine (HZ.out _).mono ?_); rintro e we ⟨rfl, hbwe⟩; obtain ⟨hcwe, hfwe⟩ := bcell hbwe; have hzwe_0 : w.heap.size < we.heap.size := lt_via hbwe (by first | omega | (simp; done) | (simp; omega)); have hzwe_1 : w.heap.size + 1 < we.heap.size := lt_via hbwe (by first | omega | (simp; done) | (simp; omega)))
    rw [rounds_succ]
    go_wp2
    go_ret2
    exact ⟨ret_2 (by first | (rw [HS.out]; done) | (rw [HS.out]; omega)) rfl, (by repeat (first | exact Below.refl _ _ | assumption | refine ba_alloc ?_ _ | refine ba_drew ?_ | refine ba_drewN ?_ _ | refine ba_via (by assumption) ?_ | (refine ba_set ?_ ?_ _; rotate_left; (first | omega | (simp; omega) | simp))))⟩)
end Go.Proofs.YtffkmgjmlahfpaaGreat
set_option linter.unusedVariables false
set_option linter.unusedSimpArgs false
namespace Go.Proofs.YtffkmgjmlahfpaaGreat
open Go.RowKit
/-- The lowest coordinate of boxes. -/
def S.low (x0 : Bx) (xs : List Bx) : Int := (S.hull x0 xs).lo.z
def S.poor (xs : List Bx) (leg : Bx) : Bool := decide (250 < leg.lo.z - (S.hull (xs.headD ⟨⟨0, 0, 0⟩, ⟨0, 0, 0⟩⟩) xs).lo.z)
theorem hull_lo_in (a : Bx) (l : List Bx) (h0 : -1048576 ≤ a.lo.z ∧ a.lo.z ≤ 1048576) (h : ∀ b, b ∈ l → -1048576 ≤ b.lo.z ∧ b.lo.z ≤ 1048576) : -1048576 ≤ (S.hull a l).lo.z ∧ (S.hull a l).lo.z ≤ 1048576 := by
  induction l generalizing a with
  | nil => exact h0
  | cons x l ih =>
    have e : S.hull a (x :: l) = S.hull (S.join a x) l := rfl
    rw [e]
    refine ih _ ?_ (fun b hb => h b (List.mem_cons_of_mem _ hb))
    have hx := h x List.mem_cons_self
    simp only [S.join]
    split <;> omega
theorem boxOk_z {b : Bx} (h : S.boxOk b = true) : -1048576 ≤ b.lo.z ∧ b.lo.z ≤ b.hi.z ∧ b.hi.z ≤ 1048576 := by
  simp only [S.boxOk, S.okAx, Bool.and_eq_true, decide_eq_true_eq] at h
  omega
theorem boxes_ok {xs : List Bx} (h : anyb xs S.boxNot = false) : ∀ b, b ∈ xs → S.boxOk b = true := by
  intro b hb
  unfold anyb at h
  rw [List.any_eq_false] at h
  have := h b hb
  simpa [S.boxNot] using this
theorem poor_yes (m : Mem) (leg : Bx) (A : Option Addr) (n c : Nat) (A' : Option Addr) (n' c' : Nat) (B : Nat) (w : World) (hB : B ≤ w.heap.size) (hA : SolAt w B A n A' n' m.boxes m.holes) (h : S.solid m.boxes m.holes = true) (hl : S.boxOk leg = true) :
    Calls Tryz.prog 125 #[memV m A n c A' n' c', boxV leg] w fun e w' => e = .returned (.bool (S.poor m.boxes leg)) ∧ Below w.heap.size w w' := by
  have HA := Lib.hid hA
  obtain ⟨hok, hlen⟩ := solid_ok h
  have h0 : m.boxes[0]? = some (m.boxes.headD ⟨⟨0, 0, 0⟩, ⟨0, 0, 0⟩⟩) := by
    cases hb : m.boxes with
    | nil => rw [hb] at hlen; simp at hlen
    | cons x l => rfl
  have hz := boxOk_z hl
  have hin := hull_lo_in (m.boxes.headD ⟨⟨0, 0, 0⟩, ⟨0, 0, 0⟩⟩) m.boxes (by have := boxOk_z (boxes_ok hok _ (List.mem_of_getElem? h0)); omega) (fun b hb => by have := boxOk_z (boxes_ok hok b hb); omega)
  have HP := Lib.hid (show S.poor m.boxes leg = decide (250 < leg.lo.z - (S.hull (m.boxes.headD ⟨⟨0, 0, 0⟩, ⟨0, 0, 0⟩⟩) m.boxes).lo.z) from rfl)
  have HH := Lib.hid (fun (W : World) (hw : B ≤ W.heap.size) (hh : SolAt W B A n A' n' m.boxes m.holes) => shull_yes A n c A' n' c' m.boxes m.holes _ B W hw hh h h0 hok)
  clear hA
  generalize S.hull (m.boxes.headD ⟨⟨0, 0, 0⟩, ⟨0, 0, 0⟩⟩) m.boxes = X at *
  have e1 : IntKind.i64.wrap (leg.lo.z - X.lo.z) = leg.lo.z - X.lo.z := IntWalk.i64_in _ (by omega)
  unfold memV boxV
  go_enter Tryz.func125, Tryz.ntmps125
  go_wp2_with (go_at_call 191; (with_reducible refine (HH.out _ (size_via hB (by repeat (first | exact Below.refl _ _ | assumption | refine ba_alloc ?_ _ | refine ba_drew ?_ | refine ba_drewN ?_ _ | refine ba_via (by assumption) ?_ | (refine ba_set ?_ ?_ _; rotate_left; (first | omega | (simp; omega) | simp))))) (SolAt.at_ HA.out hB (by repeat (first | exact Below.refl _ _ | assumption | refine ba_alloc ?_ _ | refine ba_drew ?_ | refine ba_drewN ?_ _ | refine ba_via (by assumption) ?_ | (refine ba_set ?_ ?_ _; rotate_left; (first | omega | (simp; omega) | simp)))))).mono ?_); rintro e w1 ⟨rfl, hbw1⟩; obtain ⟨hcw1, hfw1⟩ := bcell hbw1; have hzw1_0 : w.heap.size < w1.heap.size := lt_via hbw1 (by first | omega | (simp; done) | (simp; omega)); have hzw1_1 : w.heap.size + 1 < w1.heap.size := lt_via hbw1 (by first | omega | (simp; done) | (simp; omega)))
  go_ret
  exact ⟨ret_b HP.out.symm, (by repeat (first | exact Below.refl _ _ | assumption | refine ba_alloc ?_ _ | refine ba_drew ?_ | refine ba_drewN ?_ _ | refine ba_via (by assumption) ?_ | (refine ba_set ?_ ?_ _; rotate_left; (first | omega | (simp; omega) | simp))))⟩
def S.poorOk (m : Mem) (leg : Bx) : Bool := S.member m && S.boxOk leg
theorem Poor_no (m : Mem) (leg : Bx) (A : Option Addr) (n c : Nat) (A' : Option Addr) (n' c' : Nat) (B : Nat) (w : World) (hB : B ≤ w.heap.size) (hA : SolAt w B A n A' n' m.boxes m.holes) (hk : m.name.size ≤ 9223372036854775807) (h : S.poorOk m leg = false) :
    Calls Tryz.prog 66 #[memV m A n c A' n' c', boxV leg] w fun e w' => e = .returned (.tuple #[.bool false, .int .i64 1]) ∧ Below w.heap.size w w' := by
  have HA := Lib.hid hA
  have HM := Lib.hid (fun (W : World) (hw : B ≤ W.heap.size) (hh : SolAt W B A n A' n' m.boxes m.holes) => smember_any m A n c A' n' c' B W hw hh hk)
  have HV := Lib.hid (fun w => bvalid_any leg w)
  unfold S.poorOk at h
  clear hA
  generalize S.member m = t1 at *
  generalize S.boxOk leg = t2 at *
  unfold memV boxV
  cases t1 <;> cases t2
  case true.true => cases h
  all_goals (
    go_enter Tryz.func66, Tryz.ntmps66
    go_wp2_with (first
      | (go_at_call 119; (with_reducible refine (HM.out _ (size_via hB (by repeat (first | exact Below.refl _ _ | assumption | refine ba_alloc ?_ _ | refine ba_drew ?_ | refine ba_drewN ?_ _ | refine ba_via (by assumption) ?_ | (refine ba_set ?_ ?_ _; rotate_left; (first | omega | (simp; omega) | simp))))) (SolAt.at_ HA.out hB (by repeat (first | exact Below.refl _ _ | assumption | refine ba_alloc ?_ _ | refine ba_drew ?_ | refine ba_drewN ?_ _ | refine ba_via (by assumption) ?_ | (refine ba_set ?_ ?_ _; rotate_left; (first | omega | (simp; omega) | simp)))))).mono ?_); rintro e w1 ⟨rfl, hbw1⟩; obtain ⟨hcw1, hfw1⟩ := bcell hbw1; have hzw1_0 : w.heap.size < w1.heap.size := lt_via hbw1 (by first | omega | (simp; done) | (simp; omega)); have hzw1_1 : w.heap.size + 1 < w1.heap.size := lt_via hbw1 (by first | omega | (simp; done) | (simp; omega)))
      | (go_at_call 107; (with_reducible refine (HV.out _).mono ?_); rintro e w2 ⟨rfl, hbw2⟩; obtain ⟨hcw2, hfw2⟩ := bcell hbw2; have hzw2_0 : w.heap.size < w2.heap.size := lt_via hbw2 (by first | omega | (simp; done) | (simp; omega)); have hzw2_1 : w.heap.size + 1 < w2.heap.size := lt_via hbw2 (by first | omega | (simp; done) | (simp; omega))))
    go_ret2
    exact ⟨rfl, (by repeat (first | exact Below.refl _ _ | assumption | refine ba_alloc ?_ _ | refine ba_drew ?_ | refine ba_drewN ?_ _ | refine ba_via (by assumption) ?_ | (refine ba_set ?_ ?_ _; rotate_left; (first | omega | (simp; omega) | simp))))⟩)
theorem Poor_yes (m : Mem) (leg : Bx) (A : Option Addr) (n c : Nat) (A' : Option Addr) (n' c' : Nat) (B : Nat) (w : World) (hB : B ≤ w.heap.size) (hA : SolAt w B A n A' n' m.boxes m.holes) (hk : m.name.size ≤ 9223372036854775807) (h : S.poorOk m leg = true) :
    Calls Tryz.prog 66 #[memV m A n c A' n' c', boxV leg] w fun e w' => e = .returned (.tuple #[.bool (S.poor m.boxes leg), .int .i64 0]) ∧ Below w.heap.size w w' := by
  have HA := Lib.hid hA
  simp only [S.poorOk, Bool.and_eq_true] at h
  have hso : S.solid m.boxes m.holes = true := by
    have := h.1
    simp only [S.member, Bool.and_eq_true] at this
    exact this.1.1.1.2
  have HM := Lib.hid (fun (W : World) (hw : B ≤ W.heap.size) (hh : SolAt W B A n A' n' m.boxes m.holes) => h.1 ▸ smember_any m A n c A' n' c' B W hw hh hk)
  have HV := Lib.hid (fun w => h.2 ▸ bvalid_any leg w)
  have HP := Lib.hid (fun (W : World) (hw : B ≤ W.heap.size) (hh : SolAt W B A n A' n' m.boxes m.holes) => poor_yes m leg A n c A' n' c' B W hw hh hso h.2)
  clear hA h
  generalize S.poor m.boxes leg = t at *
  unfold memV boxV
  go_enter Tryz.func66, Tryz.ntmps66
  go_wp2_with (first
    | (go_at_call 119; (with_reducible refine (HM.out _ (size_via hB (by repeat (first | exact Below.refl _ _ | assumption | refine ba_alloc ?_ _ | refine ba_drew ?_ | refine ba_drewN ?_ _ | refine ba_via (by assumption) ?_ | (refine ba_set ?_ ?_ _; rotate_left; (first | omega | (simp; omega) | simp))))) (SolAt.at_ HA.out hB (by repeat (first | exact Below.refl _ _ | assumption | refine ba_alloc ?_ _ | refine ba_drew ?_ | refine ba_drewN ?_ _ | refine ba_via (by assumption) ?_ | (refine ba_set ?_ ?_ _; rotate_left; (first | omega | (simp; omega) | simp)))))).mono ?_); rintro e w1 ⟨rfl, hbw1⟩; obtain ⟨hcw1, hfw1⟩ := bcell hbw1; have hzw1_0 : w.heap.size < w1.heap.size := lt_via hbw1 (by first | omega | (simp; done) | (simp; omega)); have hzw1_1 : w.heap.size + 1 < w1.heap.size := lt_via hbw1 (by first | omega | (simp; done) | (simp; omega)))
    | (go_at_call 107; (with_reducible refine (HV.out _).mono ?_); rintro e w2 ⟨rfl, hbw2⟩; obtain ⟨hcw2, hfw2⟩ := bcell hbw2; have hzw2_0 : w.heap.size < w2.heap.size := lt_via hbw2 (by first | omega | (simp; done) | (simp; omega)); have hzw2_1 : w.heap.size + 1 < w2.heap.size := lt_via hbw2 (by first | omega | (simp; done) | (simp; omega)))
    | (go_at_call 125; (with_reducible refine (HP.out _ (size_via hB (by repeat (first | exact Below.refl _ _ | assumption | refine ba_alloc ?_ _ | refine ba_drew ?_ | refine ba_drewN ?_ _ | refine ba_via (by assumption) ?_ | (refine ba_set ?_ ?_ _; rotate_left; (first | omega | (simp; omega) | simp))))) (SolAt.at_ HA.out hB (by repeat (first | exact Below.refl _ _ | assumption | refine ba_alloc ?_ _ | refine ba_drew ?_ | refine ba_drewN ?_ _ | refine ba_via (by assumption) ?_ | (refine ba_set ?_ ?_ _; rotate_left; (first | omega | (simp; omega) | simp)))))).mono ?_); rintro e w3 ⟨rfl, hbw3⟩; obtain ⟨hcw3, hfw3⟩ := bcell hbw3; have hzw3_0 : w.heap.size < w3.heap.size := lt_via hbw3 (by first | omega | (simp; done) | (simp; omega)); have hzw3_1 : w.heap.size + 1 < w3.heap.size := lt_via hbw3 (by first | omega | (simp; done) | (simp; omega))))
  go_ret2
  exact ⟨rfl, (by repeat (first | exact Below.refl _ _ | assumption | refine ba_alloc ?_ _ | refine ba_drew ?_ | refine ba_drewN ?_ _ | refine ba_via (by assumption) ?_ | (refine ba_set ?_ ?_ _; rotate_left; (first | omega | (simp; omega) | simp))))⟩
end Go.Proofs.YtffkmgjmlahfpaaGreat
set_option linter.unusedVariables false
set_option linter.unusedSimpArgs false
namespace Go.Proofs.YtffkmgjmlahfpaaGreat
open Go.RowKit
set_option maxHeartbeats 1000000 in
theorem rsched_any (l : List BarR) (A : Option Addr) (n c : Nat) (B : Nat) (w : World) (hB : B ≤ w.heap.size) (hA : BarsAt w B A n l) :
    Calls Tryz.prog 114 #[.slice A n c] w fun e w' => e = .returned (.bool (S.sched (bars l))) ∧ Below w.heap.size w w' := by
  have HA := Lib.hid hA
  have hL : (bars l).length = n := by simpa using hA.len
  have HL := Lib.hid hL
  clear hA
  by_cases h60 : 60 < n
  · have HS := Lib.hid (show S.sched (bars l) = false from by unfold S.sched; rw [hL]; simp; omega)
    clear hL
    go_enter Tryz.func114, Tryz.ntmps114
    go_wp2
    go_ret
    exact ⟨ret_b HS.out.symm, (by repeat (first | exact Below.refl _ _ | assumption | refine ba_alloc ?_ _ | refine ba_drew ?_ | refine ba_drewN ?_ _ | refine ba_via (by assumption) ?_ | (refine ba_set ?_ ?_ _; rotate_left; (first | omega | (simp; omega) | simp))))⟩
  clear hL
  go_enter Tryz.func114, Tryz.ntmps114
  go_wp2
  go_loopw [3] (fun i wr => ∃ k : Nat, k ≤ n ∧ i = .int .i64 k ∧ (∀ j, j < k → S.schedAt (bars l) j = true) ∧ Below w.heap.size w wr) (fun i _ => n - (intOf i).toNat)
  case atStart => exact ⟨0, Nat.zero_le _, rfl, fun j hj => absurd hj (by omega), Below.refl _ _⟩
  case round =>
    obtain ⟨k, hk, rfl, hno, hbr⟩ := hrel
    have HNO := Lib.hid hno
    clear hno
    by_cases hlt : k < n
    · have hkx : k < l.length := by have := HA.out.len; omega
      have hkb : k < (bars l).length := by have := HL.out; omega
      have hwr : B ≤ wr.heap.size := by have := hbr.size; omega
      have hA' := HA.out.at_ hB hbr
      have HA' := Lib.hid hA'
      have hs' := hA'.cells
      have HE := Lib.hid (hA'.each l[k] (List.getElem_mem hkx))
      obtain ⟨b, o, hAe, hbB, _⟩ := hs'.at_ (by rw [flat_len barC 5 barC_len]; omega)
      have hbl : b < wr.heap.size := by omega
      subst hAe
      have c0 := hs'.row0 barC_len hkx rfl
      have c1 := hs'.rowj barC_len hkx 1 rfl
      have c2 := hs'.rowj barC_len hkx 2 rfl
      have c3 := hs'.rowj barC_len hkx 3 rfl
      have c4 := hs'.rowj barC_len hkx 4 rfl
      have HAT := Lib.hid (schedAt_eq (l := bars l) (k := k) (b := l[k].b) (by simp [hkx]))
      have HNS := Lib.hid (fun h => sched_no (l := bars l) hkb h)
      have HIX := Lib.hid (fun (W : World) (hw : B ≤ W.heap.size) (hh : BarsAt W B (some ⟨b, o, none⟩) n l) => rfind14_any l l[k].b.mark (some ⟨b, o, none⟩) n c B W hw hh)
      have HVX := Lib.hid (fun (W : World) (hw : B ≤ W.heap.size) (hh : BarAt W B l[k].A l[k].n l[k].b) => rvalid12_any l[k].b l[k].A l[k].n l[k].c B W hw hh)
      have hb2 := index_bd (bars l) l[k].b.mark
      clear hA' hs'
      unfold barV at HVX
      generalize S.index (bars l) l[k].b.mark = j at *
      generalize S.bar l[k].b = t at *
      generalize l[k] = r at *
      cases t
      · go_wp2_with (first
          | (go_at_call 174; (with_reducible refine (HVX.out _ hwr HE.out).mono ?_); rintro e w1 ⟨rfl, hbw1⟩; obtain ⟨hcw1, hfw1⟩ := bcell hbw1))
        go_ret
        exact ⟨ret_b (HNS.out (by rw [HAT.out]; simp)).symm, (by repeat (first | exact Below.refl _ _ | assumption | refine ba_alloc ?_ _ | refine ba_drew ?_ | refine ba_drewN ?_ _ | refine ba_via (by assumption) ?_ | (refine ba_set ?_ ?_ _; rotate_left; (first | omega | (simp; omega) | simp))))⟩
      · by_cases hj : j = (k : Int)
        · go_wp2_with (first
            | (go_at_call 174; (with_reducible refine (HVX.out _ hwr HE.out).mono ?_); rintro e w1 ⟨rfl, hbw1⟩; obtain ⟨hcw1, hfw1⟩ := bcell hbw1)
            | (go_at_call 162; (with_reducible refine (HIX.out _ (by have := hbw1.size; omega) (HA'.out.at_ hwr hbw1)).mono ?_); rintro e w2 ⟨rfl, hbw2⟩; obtain ⟨hcw2, hfw2⟩ := bcell hbw2))
          go_roundw
          case rel =>
            refine ⟨k + 1, by omega, by go_num, fun j' hj' => ?_, (by repeat (first | exact Below.refl _ _ | assumption | refine ba_alloc ?_ _ | refine ba_drew ?_ | refine ba_drewN ?_ _ | refine ba_via (by assumption) ?_ | (refine ba_set ?_ ?_ _; rotate_left; (first | omega | (simp; omega) | simp))))⟩
            by_cases hjk : j' = k
            · subst hjk; rw [HAT.out]; simp [hj]
            · exact HNO.out j' (by omega)
          case measure => simp [intOf]; omega
        · go_wp2_with (first
            | (go_at_call 174; (with_reducible refine (HVX.out _ hwr HE.out).mono ?_); rintro e w1 ⟨rfl, hbw1⟩; obtain ⟨hcw1, hfw1⟩ := bcell hbw1)
            | (go_at_call 162; (with_reducible refine (HIX.out _ (by have := hbw1.size; omega) (HA'.out.at_ hwr hbw1)).mono ?_); rintro e w2 ⟨rfl, hbw2⟩; obtain ⟨hcw2, hfw2⟩ := bcell hbw2))
          go_ret
          exact ⟨ret_b (HNS.out (by rw [HAT.out]; simp [hj])).symm, (by repeat (first | exact Below.refl _ _ | assumption | refine ba_alloc ?_ _ | refine ba_drew ?_ | refine ba_drewN ?_ _ | refine ba_via (by assumption) ?_ | (refine ba_set ?_ ?_ _; rotate_left; (first | omega | (simp; omega) | simp))))⟩
    · go_wp2
      go_ret
      exact ⟨ret_b (sched_yes (by have := HL.out; omega) (fun j hj => HNO.out j (by have := HL.out; omega))).symm, hbr⟩
theorem rrun_no0 (l : List BarR) (r : Rn) (A : Option Addr) (n c : Nat) (B : Nat) (w : World) (hB : B ≤ w.heap.size) (hA : BarsAt w B A n l) (h : S.rightHead (bars l) r = false) :
    Calls Tryz.prog 115 #[.slice A n c, rnV r] w fun e w' => e = .returned (.bool false) ∧ Below w.heap.size w w' := by
  have HA := Lib.hid hA
  have HI := Lib.hid (fun (W : World) (hw : B ≤ W.heap.size) (hh : BarsAt W B A n l) => rfind14_any l r.mark A n c B W hw hh)
  have HV := Lib.hid (fun w => rturn_any r.tx r.ty w)
  have HP := Lib.hid (fun w => rnear1_any r.at_ w)
  unfold S.rightHead at h
  generalize S.index (bars l) r.mark = j at *
  generalize S.turn r.tx r.ty = t1 at *
  generalize S.near1 r.at_ 1048576 = t2 at *
  have hcs : j < 0 ∨ (¬ j < 0 ∧ t1 = false) ∨ (¬ j < 0 ∧ t1 = true ∧ r.count < 1) ∨ (¬ j < 0 ∧ t1 = true ∧ ¬ r.count < 1 ∧ 1000 < r.count) ∨ (¬ j < 0 ∧ t1 = true ∧ ¬ r.count < 1 ∧ ¬ 1000 < r.count ∧ t2 = false) := by
    by_cases h0 : j < 0
    · exact .inl h0
    · cases t1
      · exact .inr (.inl ⟨h0, rfl⟩)
      · by_cases h1 : r.count < 1
        · exact .inr (.inr (.inl ⟨h0, rfl, h1⟩))
        · by_cases h2 : 1000 < r.count
          · exact .inr (.inr (.inr (.inl ⟨h0, rfl, h1, h2⟩)))
          · cases t2
            · exact .inr (.inr (.inr (.inr ⟨h0, rfl, h1, h2, rfl⟩)))
            · exfalso
              have h3 : 1 ≤ r.count := by omega
              have h4 : r.count ≤ 1000 := by omega
              simp [h0, h3, h4] at h
  clear hA h
  unfold turnV at HV
  unfold ptV at HP
  unfold rnV
  rcases hcs with h0 | ⟨h0, rfl⟩ | ⟨h0, rfl, h1⟩ | ⟨h0, rfl, h1, h2⟩ | ⟨h0, rfl, h1, h2, rfl⟩
  all_goals (
    go_enter Tryz.func115, Tryz.ntmps115
    go_wp2_with (first
      | (go_at_call 162; (with_reducible refine (HI.out _ (by simp; omega) (HA.out.at_ hB (by repeat (first | exact Below.refl _ _ | assumption | refine ba_alloc ?_ _ | refine ba_drew ?_ | refine ba_drewN ?_ _ | refine ba_via (by assumption) ?_ | (refine ba_set ?_ ?_ _; rotate_left; (first | omega | (simp; omega) | simp)))))).mono ?_); rintro e w1 ⟨rfl, hbw1⟩; obtain ⟨hcw1, hfw1⟩ := bcell hbw1; have hzw1_0 : w.heap.size < w1.heap.size := lt_via hbw1 (by first | omega | (simp; done) | (simp; omega)))
      | (go_at_call 175; (with_reducible refine (HV.out _).mono ?_); rintro e w2 ⟨rfl, hbw2⟩; obtain ⟨hcw2, hfw2⟩ := bcell hbw2; have hzw2_0 : w.heap.size < w2.heap.size := lt_via hbw2 (by first | omega | (simp; done) | (simp; omega)))
      | (go_at_call 176; (with_reducible refine (HP.out _).mono ?_); rintro e w3 ⟨rfl, hbw3⟩; obtain ⟨hcw3, hfw3⟩ := bcell hbw3; have hzw3_0 : w.heap.size < w3.heap.size := lt_via hbw3 (by first | omega | (simp; done) | (simp; omega))))
    go_ret
    exact ⟨rfl, (by repeat (first | exact Below.refl _ _ | assumption | refine ba_alloc ?_ _ | refine ba_drew ?_ | refine ba_drewN ?_ _ | refine ba_via (by assumption) ?_ | (refine ba_set ?_ ?_ _; rotate_left; (first | omega | (simp; omega) | simp))))⟩)
theorem rrun_no1 (l : List BarR) (r : Rn) (A : Option Addr) (n c : Nat) (B : Nat) (w : World) (hB : B ≤ w.heap.size) (hA : BarsAt w B A n l) (h : S.rightHead (bars l) r = true) (h' : S.rightStep r = false) :
    Calls Tryz.prog 115 #[.slice A n c, rnV r] w fun e w' => e = .returned (.bool false) ∧ Below w.heap.size w w' := by
  have HA := Lib.hid hA
  obtain ⟨⟨h0, h1, h2⟩, h3, h4⟩ := rightHead_out h
  have HI := Lib.hid (fun (W : World) (hw : B ≤ W.heap.size) (hh : BarsAt W B A n l) => rfind14_any l r.mark A n c B W hw hh)
  have HV := Lib.hid (fun w => h1 ▸ rturn_any r.tx r.ty w)
  have HP := Lib.hid (fun w => h2 ▸ rnear1_any r.at_ w)
  have HS := Lib.hid (fun w => rtwice_any r.step w)
  have hz : ∀ W, (binOp .eql 87 (.agg #[.int .i64 r.step.x, .int .i64 r.step.y, .int .i64 r.step.z]) (.agg #[.int .i64 0, .int .i64 0, .int .i64 0])).run Tryz.prog W = .ok (.bool (S.pt0 r.step)) W := fun W => run_eq0 r.step W
  have z91 : ∀ W, (Instr.build 87 #[]).run Tryz.prog W = .ok (.agg #[.int .i64 0, .int .i64 0, .int .i64 0]) W := fun _ => by kernel_rfl
  unfold S.rightStep at h'
  clear hA h
  generalize S.index (bars l) r.mark = j at *
  generalize S.near1 r.step 2097152 = t2 at *
  generalize S.pt0 r.step = t1 at *
  have hj : ¬ j < 0 := by omega
  have hcs : (1 < r.count ∧ t1 = true) ∨ (1 < r.count ∧ t1 = false ∧ t2 = false) := by
    by_cases h5 : 1 < r.count
    · cases t1
      · cases t2
        · exact .inr ⟨h5, rfl, rfl⟩
        · simp [h5] at h'
      · exact .inl ⟨h5, rfl⟩
    · simp [h5] at h'
  clear h0 h1 h2 h'
  unfold turnV at HV
  unfold ptV at HP HS
  unfold rnV
  rcases hcs with ⟨h5, rfl⟩ | ⟨h5, rfl, rfl⟩
  all_goals (
    go_enter Tryz.func115, Tryz.ntmps115
    go_wp2_with (first
      | (go_at_call 162; (with_reducible refine (HI.out _ (by simp; omega) (HA.out.at_ hB (by repeat (first | exact Below.refl _ _ | assumption | refine ba_alloc ?_ _ | refine ba_drew ?_ | refine ba_drewN ?_ _ | refine ba_via (by assumption) ?_ | (refine ba_set ?_ ?_ _; rotate_left; (first | omega | (simp; omega) | simp)))))).mono ?_); rintro e w1 ⟨rfl, hbw1⟩; obtain ⟨hcw1, hfw1⟩ := bcell hbw1; have hzw1_0 : w.heap.size < w1.heap.size := lt_via hbw1 (by first | omega | (simp; done) | (simp; omega)))
      | (go_at_call 175; (with_reducible refine (HV.out _).mono ?_); rintro e w2 ⟨rfl, hbw2⟩; obtain ⟨hcw2, hfw2⟩ := bcell hbw2; have hzw2_0 : w.heap.size < w2.heap.size := lt_via hbw2 (by first | omega | (simp; done) | (simp; omega)))
      | (go_at_call 176; (with_reducible refine (HP.out _).mono ?_); rintro e w3 ⟨rfl, hbw3⟩; obtain ⟨hcw3, hfw3⟩ := bcell hbw3; have hzw3_0 : w.heap.size < w3.heap.size := lt_via hbw3 (by first | omega | (simp; done) | (simp; omega)))
      | (go_at_call 177; (with_reducible refine (HS.out _).mono ?_); rintro e w4 ⟨rfl, hbw4⟩; obtain ⟨hcw4, hfw4⟩ := bcell hbw4; have hzw4_0 : w.heap.size < w4.heap.size := lt_via hbw4 (by first | omega | (simp; done) | (simp; omega))))
    go_ret
    exact ⟨rfl, (by repeat (first | exact Below.refl _ _ | assumption | refine ba_alloc ?_ _ | refine ba_drew ?_ | refine ba_drewN ?_ _ | refine ba_via (by assumption) ?_ | (refine ba_set ?_ ?_ _; rotate_left; (first | omega | (simp; omega) | simp))))⟩)
end Go.Proofs.YtffkmgjmlahfpaaGreat
set_option linter.unusedVariables false
set_option linter.unusedSimpArgs false
namespace Go.Proofs.YtffkmgjmlahfpaaGreat
open Go.RowKit
/-- What an operation has left in its slot. -/
def slotV (a : Act) (o : Oper) : Value := match o.dst with | some s => a.tmps.getD s undef | none => undef
theorem cnt_set : ∀ (l : List Bool) (i : Nat), l[i]? = some false → (l.set i true).count false + 1 = l.count false := by
  intro l
  induction l with
  | nil => intro i h; simp at h
  | cons b l ih =>
    intro i h
    cases i with
    | zero =>
      simp only [List.getElem?_cons_zero, Option.some.injEq] at h
      subst h
      simp
    | succ i =>
      simp only [List.getElem?_cons_succ] at h
      have := ih i h
      cases b <;> simp <;> omega
section
variable {P : Program} {l : List Oper} {V : Nat → Value → World → Prop} {S : Act → World → Prop} {G : World → World → Prop} {Q : Exit → Act → World → Prop}
theorem slot_put {a : Act} {oi oj : Oper} {v : Value} (h : oi.dst.isSome = true → oi.dst ≠ oj.dst) : slotV (a.put oj.dst v) oi = slotV a oi := by
  unfold slotV Act.put
  cases hi : oi.dst with
  | none => rfl
  | some s =>
    cases hj : oj.dst with
    | none => rfl
    | some d =>
      have hne : s ≠ d := by
        have := h (by simp [hi])
        rw [hi, hj] at this
        simpa using this
      simp only [Array.getD_eq_getD_getElem?]
      rw [Array.getElem?_setIfInBounds_ne (fun e => hne e.symm)]
theorem slot_same {a : Act} {oj : Oper} {v : Value} (hb : ∀ s, oj.dst = some s → s < a.tmps.size) (hn : oj.dst = none → v = undef) : slotV (a.put oj.dst v) oj = v := by
  unfold slotV Act.put
  cases hj : oj.dst with
  | none => simpa using (hn hj).symm
  | some d =>
    have := hb d hj
    simp [Array.getD_eq_getD_getElem?, this]
theorem wpAny_rel {md : Region.Mode}
    (hV : ∀ i v w w', V i v w → G w w' → V i v w')
    (hearly : ∀ (j : Nat) (oj : Oper), l[j]? = some oj → ∀ e ∈ oj.after, Region.binds md e = true → e.on < j)
    (hdst : ∀ (i j : Nat) (oi oj : Oper), l[i]? = some oi → l[j]? = some oj → i ≠ j → oi.dst.isSome = true → oi.dst ≠ oj.dst)
    (hsz : ∀ (j : Nat) (oj : Oper) (s : Nat) (a : Act) (w : World), l[j]? = some oj → oj.dst = some s → S a w → s < a.tmps.size)
    (hstep : ∀ (j : Nat) (oj : Oper) (a : Act) (w : World), l[j]? = some oj → S a w → (∀ e ∈ oj.after, Region.binds md e = true → ∀ oe, l[e.on]? = some oe → V e.on (slotV a oe) w) →
      wpOp P l.toArray Q j (fun a' w' => ∃ v, a' = a.put oj.dst v ∧ (oj.dst = none → v = undef) ∧ V j v w' ∧ G w w' ∧ S a' w') a w)
    (hend : ∀ (a : Act) (w : World), S a w → (∀ j oj, l[j]? = some oj → V j (slotV a oj) w) → Q .normal a w) :
    ∀ (f : Nat) (listed : Array Bool) (a : Act) (w : World), listed.size = l.length → listed.toList.count false ≤ f → S a w → (∀ j oj, l[j]? = some oj → listed.getD j false = true → V j (slotV a oj) w) →
      wpAny P md l.toArray Q f listed a w := by
  have hlow : ∀ (listed : Array Bool), listed.size = l.length → Region.ready md l.toArray listed = [] → ∀ n, n ≤ l.length → ∀ j, j < n → listed.getD j false = true := by
    intro listed hls hr n
    induction n with
    | zero => intro _ j hj; omega
    | succ n ih =>
      intro hn j hj
      by_cases hjn : j < n
      · exact ih (by omega) j hjn
      · obtain rfl : j = n := by omega
        by_cases hlj : listed.getD j false = true
        · exact hlj
        · exfalso
          have hjl : j < l.length := by omega
          have hm : j ∈ Region.ready md l.toArray listed := by
            rw [mem_ready]
            refine ⟨?_, l[j], by simp [hjl], fun e he hb => ?_⟩
            · have h1 : j < listed.size := by omega
              simp [Array.getD_eq_getD_getElem?, h1] at hlj ⊢
              exact hlj
            · exact ih (by omega) e.on (hearly j l[j] (by simp [hjl]) e he hb)
          rw [hr] at hm
          cases hm
  have hfin : ∀ (listed : Array Bool) (a : Act) (w : World), listed.size = l.length → Region.ready md l.toArray listed = [] → S a w → (∀ j oj, l[j]? = some oj → listed.getD j false = true → V j (slotV a oj) w) → Q .normal a w := by
    intro listed a w hls hr hS hI
    refine hend a w hS (fun j oj hj => hI j oj hj ?_)
    exact hlow listed hls hr l.length (Nat.le_refl _) j (List.getElem?_eq_some_iff.1 hj).1
  intro f
  induction f with
  | zero =>
    intro listed a w hls hc hS hI
    have hr : Region.ready md l.toArray listed = [] := by
      rcases hrr : Region.ready md l.toArray listed with _ | ⟨j, t⟩
      · rfl
      · exfalso
        have hm : j ∈ Region.ready md l.toArray listed := by rw [hrr]; simp
        rw [mem_ready] at hm
        obtain ⟨h1, o, ho, _⟩ := hm
        have hjl : j < l.length := by
          have := (Array.getElem?_eq_some_iff.1 ho).1
          simpa using this
        have h2 : j < listed.size := by omega
        have h3 : listed[j] = false := by simpa [Array.getD_eq_getD_getElem?, h2] using h1
        have : false ∈ listed.toList := by
          rw [← h3]
          simp
        have := List.count_pos_iff.2 this
        omega
    exact ⟨hr, hfin listed a w hls hr hS hI⟩
  | succ f ih =>
    intro listed a w hls hc hS hI
    refine ⟨fun hr => hfin listed a w hls hr hS hI, fun j hj => ?_⟩
    rw [mem_ready] at hj
    obtain ⟨h1, oj, hoj, hdep⟩ := hj
    have hoj' : l[j]? = some oj := by simpa using hoj
    have hjl : j < l.length := (List.getElem?_eq_some_iff.1 hoj').1
    have h2 : j < listed.size := by omega
    have h3 : listed[j] = false := by simpa [Array.getD_eq_getD_getElem?, h2] using h1
    refine wpOp_mono ?_ (hstep j oj a w hoj' hS (fun e he hb oe hoe => hI e.on oe hoe (hdep e he hb)))
    rintro a' w' ⟨v, rfl, hvn, hvj, hg, hS'⟩
    refine ih _ _ _ (by simpa using hls) ?_ hS' (fun i oi hoi hli => ?_)
    · have hcs := cnt_set listed.toList j (by simp [h2, h3])
      rw [Array.toList_setIfInBounds]
      omega
    · by_cases hij : i = j
      · subst hij
        rw [hoj'] at hoi
        injection hoi with hoi
        subst hoi
        rw [slot_same (fun s hs => hsz i oj s a w hoj' hs hS) hvn]
        exact hvj
      · rw [slot_put (fun hs => hdst i j oi oj hoi hoj' hij hs)]
        refine hV _ _ _ _ (hI i oi hoi ?_) hg
        have hil : i < listed.size := by have := (List.getElem?_eq_some_iff.1 hoi).1; omega
        rw [Array.getD_eq_getD_getElem?, Array.getElem?_setIfInBounds_ne (fun e => hij e.symm)] at hli
        rw [Array.getD_eq_getD_getElem?]
        exact hli
/-- The region. -/
theorem wp_region_rel {id : Nat} {a : Act} {w : World} (hm : P.follows .mixedOrders = true)
    (hV : ∀ i v w w', V i v w → G w w' → V i v w')
    (hearly : ∀ (j : Nat) (oj : Oper), l[j]? = some oj → ∀ e ∈ oj.after, Region.binds .any e = true → e.on < j)
    (hdst : ∀ (i j : Nat) (oi oj : Oper), l[i]? = some oi → l[j]? = some oj → i ≠ j → oi.dst.isSome = true → oi.dst ≠ oj.dst)
    (hsz : ∀ (j : Nat) (oj : Oper) (s : Nat) (a : Act) (w : World), l[j]? = some oj → oj.dst = some s → S a w → s < a.tmps.size)
    (h0 : S a w.drew)
    (hstep : ∀ (j : Nat) (oj : Oper) (a : Act) (w : World), l[j]? = some oj → S a w → (∀ e ∈ oj.after, Region.binds .any e = true → ∀ oe, l[e.on]? = some oe → V e.on (slotV a oe) w) →
      wpOp P l.toArray Q j (fun a' w' => ∃ v, a' = a.put oj.dst v ∧ (oj.dst = none → v = undef) ∧ V j v w' ∧ G w w' ∧ S a' w') a w)
    (hend : ∀ (a : Act) (w : World), S a w → (∀ j oj, l[j]? = some oj → V j (slotV a oj) w) → Q .normal a w) : (Code.region id l.toArray true).wp P Q a w := by
  refine wp_region_any hm ?_
  refine wpAny_rel hV hearly hdst hsz hstep hend _ _ a w.drew (by simp) ?_ h0 (fun j oj hj hl => ?_)
  · simp
  · rw [Array.getD_eq_getD_getElem?] at hl
    have hjl : j < l.length := (List.getElem?_eq_some_iff.1 hj).1
    simp [hjl] at hl
end
theorem op_val {P : Program} {ops : Array Oper} {Q : Exit → Act → World → Prop} {j : Nat} {K : Act → World → Prop} {a : Act} {w w' : World} {o : Oper} {v : Value} (ho : ops[j]? = some o) (hg : o.guard = none)
    (hr : (execOp a.eval o).run P w = .ok (.value v) w') (hK : K (a.put o.dst v) w') : wpOp P ops Q j K a w := by
  unfold wpOp
  rw [ho]
  simp only []
  rw [if_pos (by simp [Region.wanted, hg])]
  left
  unfold Oper.wp
  rw [hr]
  exact hK
theorem op_skip {P : Program} {ops : Array Oper} {Q : Exit → Act → World → Prop} {j : Nat} {K : Act → World → Prop} {a : Act} {w w' : World} {o : Oper} (ho : ops[j]? = some o) (hg : o.guard = none)
    (hr : (execOp a.eval o).run P w = .ok .skip w') (hK : K (a.put o.dst undef) w') : wpOp P ops Q j K a w := by
  unfold wpOp
  rw [ho]
  simp only []
  rw [if_pos (by simp [Region.wanted, hg])]
  left
  unfold Oper.wp
  rw [hr]
  exact hK
theorem op_call {P : Program} {ops : Array Oper} {Q : Exit → Act → World → Prop} {j : Nat} {K : Act → World → Prop} {a : Act} {w : World} {o : Oper} {f : FuncId} {args : Array Value} (ho : ops[j]? = some o) (hg : o.guard = none)
    (hr : (execOp a.eval o).run P w = .ok (.enter f args) w) {R : Ending → World → Prop} (hc : Calls P f args w R) (hK : ∀ e w', R e w' → ∃ v, e = .returned v ∧ K (a.put o.dst v) w') : wpOp P ops Q j K a w := by
  unfold wpOp
  rw [ho]
  simp only []
  rw [if_pos (by simp [Region.wanted, hg])]
  left
  unfold Oper.wp
  rw [hr]
  exact hc.mono (fun e w' h => by obtain ⟨v, rfl, hk⟩ := hK e w' h; exact hk)
def earlyB (md : Region.Mode) (l : List Oper) : Bool := (List.range l.length).all fun j => match l[j]? with | some o => o.after.all (fun e => !Region.binds md e || decide (e.on < j)) | none => true
def distB (l : List Oper) : Bool := (List.range l.length).all fun i => (List.range l.length).all fun j => i == j || (match l[i]?, l[j]? with | some oi, some oj => !oi.dst.isSome || (oi.dst != oj.dst) | _, _ => true)
def slotsB (N : Nat) (l : List Oper) : Bool := l.all fun o => match o.dst with | some s => decide (s < N) | none => true
theorem earlyB_out {md : Region.Mode} {l : List Oper} (h : earlyB md l = true) : ∀ (j : Nat) (oj : Oper), l[j]? = some oj → ∀ e ∈ oj.after, Region.binds md e = true → e.on < j := by
  intro j oj hj e he hb
  unfold earlyB at h
  rw [List.all_eq_true] at h
  have := h j (by simpa using (List.getElem?_eq_some_iff.1 hj).1)
  rw [hj] at this
  simp only [Array.all_eq_true_iff_forall_mem] at this
  have := this e he
  simp only [hb, Bool.not_true, Bool.false_or, decide_eq_true_eq] at this
  exact this
theorem distB_out {l : List Oper} (h : distB l = true) : ∀ (i j : Nat) (oi oj : Oper), l[i]? = some oi → l[j]? = some oj → i ≠ j → oi.dst.isSome = true → oi.dst ≠ oj.dst := by
  intro i j oi oj hi hj hij hs
  unfold distB at h
  rw [List.all_eq_true] at h
  have := h i (by simpa using (List.getElem?_eq_some_iff.1 hi).1)
  rw [List.all_eq_true] at this
  have := this j (by simpa using (List.getElem?_eq_some_iff.1 hj).1)
  rw [hi, hj] at this
  simpa [hij, hs] using this
theorem slotsB_out {N : Nat} {l : List Oper} (h : slotsB N l = true) {j : Nat} {oj : Oper} {s : Nat} (hj : l[j]? = some oj) (hs : oj.dst = some s) : s < N := by
  unfold slotsB at h
  rw [List.all_eq_true] at h
  have := h oj (List.mem_of_getElem? hj)
  rw [hs] at this
  simpa using this
theorem exc_setCells (b : Nat) : ∀ (vs : List Value) (o : Nat) (w : World), Exc [b] w (w.setCells b o vs) := by
  intro vs
  induction vs with
  | nil => intro o w; exact Exc.refl _ _
  | cons v r ih =>
    intro o w
    have h1 : Exc [b] w (w.setCell ⟨b, o, none⟩ v) := (Exc.refl _ _).set (.inl (by simp)) v
    have h2 := ih (o + 1) (w.setCell ⟨b, o, none⟩ v)
    exact ⟨h2.os.trans h1.os, h2.tape.trans h1.tape, h2.output.trans h1.output, Nat.le_trans h1.size h2.size, fun k hk hm => (h2.block k (Nat.lt_of_lt_of_le hk h1.size) hm).trans (h1.block k hk hm)⟩
end Go.Proofs.YtffkmgjmlahfpaaGreat
set_option linter.unusedVariables false
set_option linter.unusedSimpArgs false
namespace Go.Proofs.YtffkmgjmlahfpaaGreat
open Go.RowKit
section
variable {P : Program} {ops : Array Oper} {md : Region.Mode} {C : World → Prop}
/-- Kinds of operations that hand back a value, and call no function. -/
def calmB (o : Oper) : Bool := match o.op with
  | .move _ | .assign _ | .pick _ _ _ | .build _ _ | .load _ _ | .binOp _ _ _ _ _ | .unOp _ _ _ | .convert _ _ _ | .slice _ _ _ _ _ | .fieldAddr _ _ _ | .field _ _ _ | .indexAddr _ _ _ | .index _ _ _ | .extract _ _ | .lookup _ _ _ _ => true
  | .call c => (match c.callee with | .builtin .len => true | .builtin .cap => true | .builtin .max => true | .builtin .min => true | _ => false)
  | _ => false
theorem v_value {s : Sem Value} {n : Next} {w w' : World} (h : (do pure (Next.value (← s)) : Sem Next).run P w = .ok n w') : ∃ v, n = .value v := by
  rw [Sem.run_bind] at h
  cases hs : s.run P w with
  | ok u w1 =>
    rw [hs] at h
    simp only [Result.andThen_ok, Sem.run_pure] at h
    injection h with h1 h2
    exact ⟨u, h1.symm⟩
  | halt x w1 =>
    rw [hs] at h
    cases h
theorem p_value {s : Sem Bool} {a b : Value} {n : Next} {w w' : World} (h : (do pure (Next.value (if ← s then a else b)) : Sem Next).run P w = .ok n w') : ∃ v, n = .value v := by
  rw [Sem.run_bind] at h
  cases hs : s.run P w with
  | ok u w1 =>
    rw [hs] at h
    simp only [Result.andThen_ok, Sem.run_pure] at h
    injection h with h1 h2
    exact ⟨_, h1.symm⟩
  | halt x w1 =>
    rw [hs] at h
    cases h
theorem call_value {ρ : Operand → Value} {c : Call} {t : TypeId} {b : Builtin} (hb : b = .len ∨ b = .cap ∨ b = .max ∨ b = .min) (hc : c.callee = .builtin b) {n : Next} {w w' : World}
    (h : (do let d ← resolve ρ c t; invoke d.target d.args : Sem Next).run P w = .ok n w') : ∃ v, n = .value v := by
  rw [Sem.run_bind] at h
  unfold resolve at h
  simp only [hc, Sem.run_pure, Result.andThen_ok, invoke] at h
  rcases hb with rfl | rfl | rfl | rfl
  all_goals (simp only [builtin] at h; exact v_value h)
theorem calm_value {o : Oper} (hc : calmB o = true) {ρ : Operand → Value} {n : Next} {w w' : World} (h : (execOp ρ o).run P w = .ok n w') : ∃ v, n = .value v := by
  unfold calmB at hc
  unfold execOp at h
  split at hc
  all_goals (rename_i ho; try (rw [ho] at h))
  all_goals (first | exact v_value h | (simp only [Sem.run_pure] at h; injection h with h1 h2; exact ⟨_, h1.symm⟩) | exact p_value h | skip)
  · split at hc
    · rename_i hb; exact call_value (.inl rfl) hb h
    · rename_i hb; exact call_value (.inr (.inl rfl)) hb h
    · rename_i hb; exact call_value (.inr (.inr (.inl rfl))) hb h
    · rename_i hb; exact call_value (.inr (.inr (.inr rfl))) hb h
    · cases hc
  · cases hc
def stopPost : Exit → Act → World → Prop := fun _ _ _ => False
/-- Behind an operation that is not the last one. -/
def segPost (C : World → Prop) (next : Act → World → Prop) : Exit → Act → World → Prop
  | .normal, a, w => C w ∧ next a w
  | _, _, _ => False
theorem calm_at {o : Oper} {a : Act} {w : World} {v : Value} (hc : calmB o = true) (h : o.quietAt P a C w v) : (execOp a.eval o).run P w = .ok (.value v) w := by
  unfold Oper.quietAt at h
  generalize hr : (execOp a.eval o).run P w = r at h
  cases r with
  | ok n w' =>
    obtain ⟨u, rfl⟩ := calm_value hc hr
    obtain ⟨rfl, rfl⟩ := h
    rfl
  | halt x w' => exact (show False from h).elim
theorem yields_one {o : Oper} {a : Act} {w : World} {v v' : Value} (hc : calmB o = true) (hw : C w) (h : YieldsIn P ops C o v a) (h' : YieldsIn P ops C o v' a) : v = v' := by
  rcases h with ⟨h1, h2⟩ | ⟨h1, rfl⟩ <;> rcases h' with ⟨g1, g2⟩ | ⟨g1, rfl⟩
  · have e1 := calm_at hc (h2 w hw)
    rw [calm_at hc (g2 w hw)] at e1
    injection e1 with e1 _
    injection e1 with e1
    exact e1.symm
  · rw [h1] at g1; cases g1
  · rw [h1] at g1; cases g1
  · rfl
theorem lets_stop (h : LetsOut stopPost) : False := by
  obtain ⟨_, _, h⟩ := h
  exact h
theorem wpOp_putC {j : Nat} {oi oj : Oper} {v : Value} (hj : ops[j]? = some oj) (hap : oi.apart ops oj = true) (hsi : ∀ cs b, oi.op ≠ .select cs b) (hsj : ∀ cs b, oj.op ≠ .select cs b) {K : Act → World → Prop} {a : Act} {w : World}
    (hy : YieldsIn P ops C oi v a) (h : wpOp P ops stopPost j K (a.put oi.dst v) w) : wpOp P ops stopPost j (fun a' w' => YieldsIn P ops C oi v a' ∧ K (a'.put oi.dst v) w') a w := by
  obtain ⟨h1, h2, h3⟩ := Oper.apart_spec hap
  have keep : ∀ (a : Act), YieldsIn P ops C oi v a → ∀ u, YieldsIn P ops C oi v (a.put oj.dst u) := fun a hy u =>
    hy.of_same (execOp_put oi hsi a oj.dst u h3) (wanted_put oi a oj.dst u h3)
  have keepD : ∀ d, YieldsIn P ops C oi v { a with defers := d :: a.defers } := fun d => hy.of_same rfl rfl
  unfold wpOp at *
  simp only [hj] at *
  rw [wanted_put oj a oi.dst v h1] at h
  split
  · rename_i hw
    simp only [hw, if_true] at h
    rcases h with h | ⟨hasks, hlets⟩
    case inr => exact (lets_stop hlets).elim
    refine .inl ?_
    unfold Oper.wp at *
    rw [execOp_put oj hsj a oi.dst v h1] at h
    generalize (execOp a.eval oj).run P w = r at *
    cases r with
    | ok n w' =>
      cases n <;> simp only [Oper.upon] at h ⊢
      case value u => exact ⟨keep a hy u, by rw [← Act.put_comm a v u h2]; exact h⟩
      case skip => exact ⟨keep a hy _, by rw [← Act.put_comm a v undef h2]; exact h⟩
      case defer d =>
        refine ⟨keep _ (keepD d) _, ?_⟩
        rw [← Act.put_comm _ v undef h2, ← Act.put_defers]
        exact h
      case enter f args =>
        refine Calls.mono h fun e w'' he => ?_
        cases e with
        | returned u => exact ⟨keep a hy u, by rw [← Act.put_comm a v u h2]; exact he⟩
        | panicked c => exact he
        | outgrown => exact he
      case row row args => exact Rows.mono h fun u w'' he => ⟨keep a hy u, by rw [← Act.put_comm a v u h2]; exact he⟩
    | halt x w' =>
      cases x <;> simp only [Oper.upon] at h ⊢
      case panic u => exact h
  · rename_i hw
    simp only [hw] at h
    exact ⟨keep a hy _, by rw [← Act.put_comm a v undef h2]; exact h⟩
theorem wpOp_back {i : Nat} {oi oj : Oper} {v : Value} (hi : ops[i]? = some oi) (hap : oi.apart ops oj = true) (hsi : ∀ cs b, oi.op ≠ .select cs b) (hsj : ∀ cs b, oj.op ≠ .select cs b) {K K' : Act → World → Prop} {a : Act} {w : World}
    (hy : YieldsIn P ops C oj v a) (hK : ∀ a' w', YieldsIn P ops C oj v a' → K a' w' → K' (a'.put oj.dst v) w') (h : wpOp P ops stopPost i K a w) : wpOp P ops stopPost i K' (a.put oj.dst v) w := by
  obtain ⟨h3, h2, h1⟩ := Oper.apart_spec hap
  have h2' : ∀ d, oj.dst = some d → oi.dst ≠ some d := fun d hd he => h2 d he hd
  have keep : ∀ (a : Act), YieldsIn P ops C oj v a → ∀ u, YieldsIn P ops C oj v (a.put oi.dst u) := fun a hy u =>
    hy.of_same (execOp_put oj hsj a oi.dst u h3) (wanted_put oj a oi.dst u h3)
  have keepD : ∀ d, YieldsIn P ops C oj v { a with defers := d :: a.defers } := fun d => hy.of_same rfl rfl
  unfold wpOp at *
  simp only [hi] at *
  rw [wanted_put oi a oj.dst v h1]
  split
  · rename_i hw
    simp only [hw, if_true] at h
    rcases h with h | ⟨hasks, hlets⟩
    case inr => exact (lets_stop hlets).elim
    refine .inl ?_
    unfold Oper.wp at *
    rw [execOp_put oi hsi a oj.dst v h1]
    generalize (execOp a.eval oi).run P w = r at *
    cases r with
    | ok n w' =>
      cases n <;> simp only [Oper.upon] at h ⊢
      case value u => rw [Act.put_comm a v u h2']; exact hK _ _ (keep a hy u) h
      case skip => rw [Act.put_comm a v undef h2']; exact hK _ _ (keep a hy _) h
      case defer d =>
        have := hK _ _ (keep _ (keepD d) _) h
        rw [← Act.put_comm _ v undef h2', ← Act.put_defers] at this
        exact this
      case enter f args =>
        refine Calls.mono h fun e w'' he => ?_
        cases e with
        | returned u =>
          simp only [] at he ⊢
          rw [Act.put_comm a v u h2']; exact hK _ _ (keep a hy u) he
        | panicked c => exact he
        | outgrown => exact he
      case row row args => exact Rows.mono h fun u w'' he => by rw [Act.put_comm a v u h2']; exact hK _ _ (keep a hy u) he
    | halt x w' =>
      cases x <;> simp only [Oper.upon] at h ⊢
      case panic u => exact h
  · rename_i hw
    simp only [hw] at h
    rw [Act.put_comm a v undef h2']
    exact hK _ _ (keep a hy _) h
theorem wpOp_some {i : Nat} {oi : Oper} (hi : ops[i]? = some oi) {K : Act → World → Prop} {a : Act} {w : World} (h : wpOp P ops stopPost i K a w) :
    ∃ a0 u w', K (a0.put oi.dst u) w' ∧ (a0 = a ∨ ∃ d, a0 = { a with defers := d :: a.defers }) := by
  unfold wpOp at h
  simp only [hi] at h
  split at h
  · rcases h with h | ⟨_, hlets⟩
    case inr => exact (lets_stop hlets).elim
    unfold Oper.wp at h
    generalize (execOp a.eval oi).run P w = r at *
    cases r with
    | ok n w' =>
      cases n <;> simp only [Oper.upon] at h
      case value u => exact ⟨a, u, w', h, .inl rfl⟩
      case skip => exact ⟨a, _, w', h, .inl rfl⟩
      case defer d => exact ⟨_, _, w', h, .inr ⟨d, rfl⟩⟩
      case enter f args =>
        obtain ⟨e, w'', fr, he, _⟩ := h []
        cases e with
        | returned u => exact ⟨a, u, w'', he, .inl rfl⟩
        | panicked c => exact (show False from he).elim
        | outgrown => exact (lets_stop he).elim
      case row row args =>
        obtain ⟨v, w'', he, _⟩ := h (Frame.ofRow P row args .normal) []
        exact ⟨a, v, w'', he, .inl rfl⟩
    | halt x w' =>
      cases x <;> simp only [Oper.upon] at h
      case panic u => exact (show False from h).elim
  · exact ⟨a, _, w, h, .inl rfl⟩
theorem wp_stop {o : Oper} {K : Act → World → Prop} {Q : Exit → Act → World → Prop} {a : Act} {w : World} (h : o.wp P a w K stopPost) : o.wp P a w K Q := by
  unfold Oper.wp at *
  generalize (execOp a.eval o).run P w = r at *
  cases r with
  | ok n w' =>
    cases n <;> simp only [Oper.upon] at h ⊢ <;> try exact h
    refine Calls.mono h fun e w'' he => ?_
    cases e with
    | returned u => exact he
    | panicked c => exact (show False from he).elim
    | outgrown => exact (lets_stop he).elim
  | halt x w' =>
    cases x <;> simp only [Oper.upon] at h ⊢
    case panic u => exact (show False from h).elim
theorem wpOp_stop {i : Nat} {K : Act → World → Prop} {Q : Exit → Act → World → Prop} {a : Act} {w : World} (h : wpOp P ops stopPost i K a w) : wpOp P ops Q i K a w := by
  unfold wpOp at *
  split
  · rename_i ho; simp only [ho] at h; exact h
  · rename_i o ho
    simp only [ho] at h
    split
    · rename_i hw
      simp only [hw, if_true] at h
      rcases h with h | ⟨_, hlets⟩
      · exact .inl (wp_stop h)
      · exact (lets_stop hlets).elim
    · rename_i hw
      simp only [hw] at h
      exact h
/-- The operations of R that are not listed yet, in the order of the text: those of ks one behind the other, the others without touching the world. -/
def wpMix (P : Program) (ops : Array Oper) (C : World → Prop) (ks : Nat → Bool) (K : Act → World → Prop) (listed : Array Bool) : List Nat → Act → World → Prop
  | [], a, w => K a w
  | i :: R, a, w => if listed.getD i false = true then wpMix P ops C ks K listed R a w
    else if ks i = true then wpOp P ops stopPost i (fun a' w' => C w' ∧ wpMix P ops C ks K listed R a' w') a w
    else qOp P ops C i (fun a' => wpMix P ops C ks K listed R a' w) a
theorem wpMix_congr {ks : Nat → Bool} {K : Act → World → Prop} {l1 l2 : Array Bool} : ∀ {R : List Nat}, (∀ i, i ∈ R → l1.getD i false = l2.getD i false) → wpMix P ops C ks K l1 R = wpMix P ops C ks K l2 R := by
  intro R
  induction R with
  | nil => intro _; rfl
  | cons i R ih =>
    intro h
    have e := ih (fun i hi => h i (List.mem_cons_of_mem _ hi))
    funext a w
    simp only [wpMix, e, h i List.mem_cons_self]
theorem pull {ks : Nat → Bool} {K : Act → World → Prop} (hsel : ∀ (j : Nat) (o : Oper) cs b, ops[j]? = some o → o.op ≠ .select cs b) (hcalm : ∀ i o, ops[i]? = some o → ks i = false → calmB o = true)
    {listed : Array Bool} {j : Nat} {oj : Oper} (hj : ops[j]? = some oj) (hjl : listed.getD j false = false) (hjs : j < listed.size) :
    ∀ R : List Nat, R.Pairwise (· < ·) → j ∈ R → (∀ i, i ∈ R → i < j → listed.getD i false = false → ∃ oi, ops[i]? = some oi ∧ oi.apart ops oj = true) → (ks j = true → ∀ i, i ∈ R → i < j → listed.getD i false = false → ks i = false) →
    ∀ (a : Act) (w : World), C w → wpMix P ops C ks K listed R a w → if ks j = true then wpOp P ops stopPost j (fun a' w' => C w' ∧ wpMix P ops C ks K (listed.setIfInBounds j true) R a' w') a w else qOp P ops C j (fun a' => wpMix P ops C ks K (listed.setIfInBounds j true) R a' w) a := by
  intro R
  induction R with
  | nil => intro _ h; cases h
  | cons i R ih =>
    intro hp hm hap hch a w hC h
    have hjt : (listed.setIfInBounds j true).getD j false = true := by simp [Array.getD_eq_getD_getElem?, hjs]
    obtain ⟨hlt, hpR⟩ := List.pairwise_cons.1 hp
    by_cases hij : i = j
    · subst hij
      have hni : i ∉ R := fun hi => absurd (hlt i hi) (Nat.lt_irrefl _)
      have e : wpMix P ops C ks K (listed.setIfInBounds i true) (i :: R) = wpMix P ops C ks K listed R := by
        funext a w
        simp only [wpMix, hjt, if_true]
        rw [wpMix_congr (fun k hk => getD_set_ne false (fun (e : i = k) => hni (by rw [e]; exact hk)))]
      rw [e]
      simp only [wpMix, hjl, Bool.false_eq_true, if_false] at h
      exact h
    · have hjR : j ∈ R := by
        rcases List.mem_cons.1 hm with h1 | h1
        · exact absurd h1.symm hij
        · exact h1
      have hi_lt := hlt j hjR
      have ih' := ih hpR hjR (fun k hk => hap k (List.mem_cons_of_mem _ hk)) (fun h k hk => hch h k (List.mem_cons_of_mem _ hk))
      have hset : (listed.setIfInBounds j true).getD i false = listed.getD i false := getD_set_ne false (fun e => hij e.symm)
      by_cases hl : listed.getD i false = true
      · simp only [wpMix, hset, hl, if_true] at h ⊢
        exact ih' a w hC h
      · have hl' : listed.getD i false = false := by simpa using hl
        obtain ⟨oi, hoi, hapi⟩ := hap i List.mem_cons_self hi_lt hl'
        simp only [wpMix, hset, hl', Bool.false_eq_true, if_false] at h ⊢
        by_cases hk : ks i = true
        · have hkj : ks j = false := by
            cases hkj : ks j with
            | false => rfl
            | true =>
              have := hch hkj i List.mem_cons_self hi_lt hl'
              rw [hk] at this
              cases this
          simp only [hkj, Bool.false_eq_true, if_false] at ih' ⊢
          rw [if_pos hk] at h
          obtain ⟨a0, u, w1, ⟨hC1, h1⟩, ha0⟩ := wpOp_some hoi h
          obtain ⟨v, hy, _⟩ := yieldsIn_of_qOp hj (ih' _ _ hC1 h1)
          obtain ⟨g1, g2, g3⟩ := Oper.apart_spec hapi
          have hy0 : YieldsIn P ops C oj v a0 := hy.of_same (execOp_put oj (fun cs b => hsel j oj cs b hj) a0 oi.dst u g1).symm (wanted_put oj a0 oi.dst u g1).symm
          have hya : YieldsIn P ops C oj v a := by
            rcases ha0 with rfl | ⟨d, rfl⟩
            · exact hy0
            · exact hy0.of_same rfl rfl
          refine hya.qOp hj ?_
          rw [if_pos hk]
          refine wpOp_back hoi hapi (fun cs b => hsel i oi cs b hoi) (fun cs b => hsel j oj cs b hj) hya (fun a' w' hy' hh => ⟨hh.1, ?_⟩) h
          obtain ⟨v', hv', hn⟩ := yieldsIn_of_qOp hj (ih' _ _ hh.1 hh.2)
          rw [yields_one (hcalm j oj hj hkj) hh.1 hy' hv']
          exact hn
        · have hk' : ks i = false := by simpa using hk
          simp only [hk', Bool.false_eq_true, if_false] at h ⊢
          obtain ⟨v, hy, hn⟩ := yieldsIn_of_qOp hoi h
          have h2 := ih' _ _ hC hn
          by_cases hkj : ks j = true
          · rw [if_pos hkj] at h2 ⊢
            refine wpOp_mono ?_ (wpOp_putC hj hapi (fun cs b => hsel i oi cs b hoi) (fun cs b => hsel j oj cs b hj) hy h2)
            rintro a' w' ⟨hy', hC', hm'⟩
            exact ⟨hC', hy'.qOp hoi hm'⟩
          · rw [if_neg hkj] at h2 ⊢
            refine qOp_mono ?_ (qOp_put hj hapi (fun cs b => hsel i oi cs b hoi) (fun cs b => hsel j oj cs b hj) hy h2)
            rintro a' ⟨hy', hm'⟩
            exact hy'.qOp hoi hm'
theorem wpOp_calm {i : Nat} {oi : Oper} {Q : Exit → Act → World → Prop} {K : Act → Prop} {a : Act} {w : World} (hi : ops[i]? = some oi) (hc : calmB oi = true) (hC : C w) (h : qOp P ops C i K a) : wpOp P ops Q i (fun a' w' => w' = w ∧ K a') a w := by
  obtain ⟨v, hy, hK⟩ := yieldsIn_of_qOp hi h
  unfold wpOp
  simp only [hi]
  rcases hy with ⟨hw, hv⟩ | ⟨hw, rfl⟩
  · rw [if_pos hw]
    refine .inl ?_
    unfold Oper.wp
    rw [calm_at hc (hv w hC)]
    exact ⟨by first | rfl | trivial, hK⟩
  · rw [if_neg (by simp [hw])]
    exact ⟨by first | rfl | trivial, hK⟩
/-- Operation j waits, straight or over others between, for operation i. -/
def linkB (md : Region.Mode) (ops : Array Oper) : Nat → Nat → Nat → Bool
  | 0, _, _ => false
  | f + 1, j, i => Region.waitsFor md ops j i || (List.range' (i + 1) (j - (i + 1))).any (fun k => Region.waitsFor md ops j k && linkB md ops f k i)
theorem link_listed {n : Nat} {listed : Array Bool} (inv : HeadInv md ops n listed) : ∀ (f j i : Nat), linkB md ops f j i = true → listed.getD j false = true → listed.getD i false = true := by
  have hw : ∀ j i, Region.waitsFor md ops j i = true → listed.getD j false = true → listed.getD i false = true := fun j i h hj => by
    obtain ⟨oj, hoj, e, he, hb, hon⟩ := Region.waitsFor_spec h
    have := inv.closed j oj hoj hj e he hb
    rwa [hon] at this
  intro f
  induction f with
  | zero => intro j i h; cases h
  | succ f ih =>
    intro j i h hj
    simp only [linkB, Bool.or_eq_true, List.any_eq_true, Bool.and_eq_true] at h
    rcases h with h | ⟨k, _, h1, h2⟩
    · exact hw j i h hj
    · exact ih k i h2 (hw j k h1 hj)
theorem link_ready {n : Nat} {listed : Array Bool} (inv : HeadInv md ops n listed) {f j i : Nat} (h : linkB md ops f j i = true) (hj : j ∈ Region.ready md ops listed) : listed.getD i false = true := by
  obtain ⟨_, oj, hoj, hall⟩ := mem_ready.1 hj
  have hw : ∀ i, Region.waitsFor md ops j i = true → listed.getD i false = true := fun i h => by
    obtain ⟨o', ho', e, he, hb, hon⟩ := Region.waitsFor_spec h
    obtain rfl : o' = oj := Option.some.inj (ho'.symm.trans hoj)
    have := hall e he hb
    rwa [hon] at this
  cases f with
  | zero => cases h
  | succ f =>
    simp only [linkB, Bool.or_eq_true, List.any_eq_true, Bool.and_eq_true] at h
    rcases h with h | ⟨k, _, h1, h2⟩
    · exact hw i h
    · exact link_listed inv f k i h2 (hw k h1)
def linksB (md : Region.Mode) (ops : Array Oper) : List Nat → Bool
  | a :: b :: r => decide (a < b) && linkB md ops (b - a) b a && linksB md ops (b :: r)
  | _ => true
theorem links_order {n : Nat} {listed : Array Bool} (inv : HeadInv md ops n listed) : ∀ {l : List Nat}, linksB md ops l = true → ∀ i j, i ∈ l → j ∈ l → i < j → (j ∈ Region.ready md ops listed ∨ listed.getD j false = true) → listed.getD i false = true := by
  intro l
  induction l with
  | nil => intro _ i j hi; cases hi
  | cons a l ih =>
    intro h i j hi hj hlt hr
    cases l with
    | nil =>
      simp only [List.mem_cons, List.not_mem_nil, or_false] at hi hj
      omega
    | cons b r =>
      simp only [linksB, Bool.and_eq_true, decide_eq_true_eq] at h
      obtain ⟨⟨hab, hl⟩, hb⟩ := h
      have hsorted : ∀ k, k ∈ b :: r → b ≤ k := by
        have : ∀ (l : List Nat) (b : Nat), linksB md ops (b :: l) = true → ∀ k, k ∈ b :: l → b ≤ k := by
          intro l
          induction l with
          | nil => intro b _ k hk; simp at hk; omega
          | cons c l ih =>
            intro b h k hk
            simp only [linksB, Bool.and_eq_true, decide_eq_true_eq] at h
            rcases List.mem_cons.1 hk with rfl | hk
            · exact Nat.le_refl _
            · have := ih c h.2 k hk; omega
        exact this r b hb
      rcases List.mem_cons.1 hi with rfl | hi'
      · have hjb : j ∈ b :: r := by
          rcases List.mem_cons.1 hj with h1 | h1
          · omega
          · exact h1
        have hbj := hsorted j hjb
        by_cases hbe : j = b
        · subst hbe
          rcases hr with hr | hr
          · exact link_ready inv hl hr
          · exact link_listed inv _ _ _ hl hr
        · have := ih hb b j List.mem_cons_self hjb (by omega) hr
          exact link_listed inv _ _ _ hl this
      · have hib := hsorted i hi'
        refine ih hb i j hi' ?_ hlt hr
        rcases List.mem_cons.1 hj with h1 | h1
        · omega
        · exact h1
def apartAllB (md : Region.Mode) (ops : Array Oper) : Bool := (List.range ops.size).all fun j => (List.range j).all fun i => Region.waitsFor md ops j i || (match ops[i]?, ops[j]? with | some oi, some oj => oi.apart ops oj | _, _ => true)
theorem apartAll_out (h : apartAllB md ops = true) {i j : Nat} {oi oj : Oper} (hij : i < j) (hi : ops[i]? = some oi) (hj : ops[j]? = some oj) (hw : Region.waitsFor md ops j i = false) : oi.apart ops oj = true := by
  unfold apartAllB at h
  rw [List.all_eq_true] at h
  have h1 := h j (List.mem_range.2 (Array.getElem?_eq_some_iff.1 hj).1)
  rw [List.all_eq_true] at h1
  have h2 := h1 i (List.mem_range.2 hij)
  rw [hw, hi, hj] at h2
  simpa using h2
def canonL (t n : Nat) : Array Bool := (List.replicate t true ++ List.replicate (n - t) false).toArray
/-- What is asked of a region's operations: t: where the tail begins; l: those ahead of it that go one behind the other. -/
def mixB (md : Region.Mode) (ops : Array Oper) (t : Nat) (l : List Nat) : Bool :=
  Region.noSelect ops && decide (t < ops.size) && Region.sinkB md ops t && Region.chainB md ops t && apartAllB md ops && earlyB md ops.toList && linksB md ops l && (List.range t).all (fun i => l.contains i || (match ops[i]? with | some o => calmB o | none => true)) && Region.seqB md ops (ops.size - t) t (canonL t ops.size)
theorem mix_any {Q : Exit → Act → World → Prop} {t : Nat} {l : List Nat} (hB : mixB md ops t l = true) :
    ∀ (f : Nat) (listed : Array Bool) (a : Act) (w : World), listed.toList.count false = f → HeadInv md ops t listed → C w →
      wpMix P ops C (fun i => l.contains i || decide (t ≤ i)) (wpList P ops Q (ops.toList.drop t)) listed (List.range t) a w → wpAny P md ops Q f listed a w := by
  simp only [mixB, Bool.and_eq_true, decide_eq_true_eq] at hB
  obtain ⟨⟨⟨⟨⟨⟨⟨⟨hsel, hn⟩, hs⟩, hc⟩, hap⟩, hear⟩, hl⟩, hcm⟩, hseq⟩ := hB
  have hsel' := Region.noSelect_spec hsel
  have hcalm : ∀ i o, ops[i]? = some o → (l.contains i || decide (t ≤ i)) = false → calmB o = true := fun i o ho hk => by
    rw [Bool.or_eq_false_iff, decide_eq_false_iff_not] at hk
    rw [List.all_eq_true] at hcm
    have := hcm i (List.mem_range.2 (by omega))
    rw [hk.1, ho] at this
    simpa using this
  intro f
  induction f with
  | zero =>
    intro listed a w hf inv hC h
    exfalso
    have h1 := inv.tail t (Nat.le_refl _) hn
    have h2 : t < listed.size := by rw [inv.size]; exact hn
    have h3 : listed[t] = false := by simpa [Array.getD_eq_getD_getElem?, h2] using h1
    have h4 : false ∈ listed.toList := by rw [← h3]; simp
    have := List.count_pos_iff.2 h4
    omega
  | succ f ih =>
    intro listed a w hf inv hC h
    by_cases hall : ∀ i, i < t → listed.getD i false = true
    · have hcan : listed = canonL t ops.size := by
        apply Array.ext
        · rw [inv.size]; simp [canonL]; omega
        · intro i h1 h2
          by_cases hi : i < t
          · have := hall i hi
            have e : listed[i] = true := by simpa [Array.getD_eq_getD_getElem?, h1] using this
            rw [e]
            simp [canonL, hi, List.getElem_append]
          · have := inv.tail i (by omega) (by rw [← inv.size]; exact h1)
            have e : listed[i] = false := by simpa [Array.getD_eq_getD_getElem?, h1] using this
            rw [e]
            simp [canonL, hi, List.getElem_append]
      have hK : wpList P ops Q (ops.toList.drop t) a w := by
        have : ∀ R : List Nat, (∀ i, i ∈ R → i < t) → wpMix P ops C (fun i => l.contains i || decide (t ≤ i)) (wpList P ops Q (ops.toList.drop t)) listed R a w → wpList P ops Q (ops.toList.drop t) a w := by
          intro R
          induction R with
          | nil => intro _ h; exact h
          | cons i R ihR =>
            intro hR h
            simp only [wpMix, hall i (hR i List.mem_cons_self), if_true] at h
            exact ihR (fun k hk => hR k (List.mem_cons_of_mem _ hk)) h
        exact this _ (fun i hi => List.mem_range.1 hi) h
      have hlen : (ops.toList.drop t).length = f + 1 := by
        rw [← hf, hcan]
        simp [canonL, List.count_append, List.count_replicate]
      have hdl : (ops.toList.drop t).length = ops.size - t := by simp
      have := wpAny_of_seq (P := P) (md := md) (Q' := Q) (ops.toList.drop t) t listed a w (fun j => by simp [List.getElem?_drop]) (by rw [hdl, hcan]; exact hseq) hK
      rwa [hlen] at this
    · have hex : ∃ i, i < t ∧ listed.getD i false = false := by
        apply Classical.byContradiction
        intro hno
        refine hall fun i hi => ?_
        cases hg : listed.getD i false with
        | true => rfl
        | false => exact (hno ⟨i, hi, hg⟩).elim
      obtain ⟨i0, hi0, hg0⟩ := hex
      have hun0 : listed.getD i0 true = false := getD_in (by rw [inv.size]; omega) hg0
      have hjt : ∀ j, j ∈ Region.ready md ops listed → j < t := fun j hj => Nat.lt_of_not_le fun hle => tail_waits hs hc hn inv _ i0 rfl hi0 hun0 j hle hj
      refine ⟨fun hr => ?_, fun j hj => ?_⟩
      · -- something is ready: the first one that is not listed
        exfalso
        have hlow : ∀ n, n ≤ t → ∀ i, i < n → listed.getD i false = true := by
          intro n
          induction n with
          | zero => intro _ i hi; omega
          | succ n ihn =>
            intro hn' i hi
            by_cases hin : i < n
            · exact ihn (by omega) i hin
            · obtain rfl : i = n := by omega
              cases hg : listed.getD i false with
              | true => rfl
              | false =>
                exfalso
                have hm : i ∈ Region.ready md ops listed := by
                  rw [mem_ready]
                  have his : i < ops.size := by omega
                  refine ⟨getD_in (by rw [inv.size]; exact his) hg, ops[i], by simp [his], fun e he hb => ?_⟩
                  exact ihn (by omega) e.on (earlyB_out hear i ops[i] (by simp [his]) e he hb)
                rw [hr] at hm
                cases hm
        have := hlow t (Nat.le_refl _) i0 hi0
        rw [hg0] at this
        cases this
      · have hj' := hjt j hj
        obtain ⟨hun, oj, hoj, hdep⟩ := mem_ready.1 hj
        have hjs : j < listed.size := by rw [inv.size]; omega
        have hjl : listed.getD j false = false := getD_both hun
        have hwt : ∀ i, listed.getD i false = false → Region.waitsFor md ops j i = false := fun i hi => by
          cases hw : Region.waitsFor md ops j i with
          | false => rfl
          | true =>
            obtain ⟨o', ho', e, he, hb, hon⟩ := Region.waitsFor_spec hw
            obtain rfl : o' = oj := Option.some.inj (ho'.symm.trans hoj)
            have := hdep e he hb
            rw [hon, hi] at this
            cases this
        have hp := pull (P := P) (ops := ops) (C := C) (ks := fun i => l.contains i || decide (t ≤ i)) (K := wpList P ops Q (ops.toList.drop t)) hsel' hcalm hoj hjl hjs (List.range t) List.pairwise_lt_range (List.mem_range.2 hj')
          (fun i hi hij hil => by
            have his : i < ops.size := by omega
            exact ⟨ops[i], by simp [his], apartAll_out hap hij (by simp [his]) hoj (hwt i hil)⟩)
          (fun hk i hi hij hil => by
            simp only [Bool.or_eq_true, List.contains_iff_mem, decide_eq_true_eq] at hk
            rw [Bool.or_eq_false_iff, decide_eq_false_iff_not]
            refine ⟨?_, by omega⟩
            cases hci : l.contains i with
            | false => rfl
            | true =>
              have := links_order inv hl i j (by simpa using hci) (by rcases hk with hk | hk; exact hk; omega) hij (.inl hj)
              rw [hil] at this
              cases this) a w hC h
        have hcs : (listed.setIfInBounds j true).toList.count false = f := by
          have h3 : listed[j] = false := by simpa [Array.getD_eq_getD_getElem?, hjs] using hun
          have := cnt_set listed.toList j (by simp [hjs, h3])
          rw [Array.toList_setIfInBounds]
          omega
        by_cases hk : (l.contains j || decide (t ≤ j)) = true
        · rw [if_pos hk] at hp
          exact wpOp_stop (wpOp_mono (fun a' w' hh => ih _ a' w' hcs (inv.set hj hj') hh.1 hh.2) hp)
        · rw [if_neg hk] at hp
          refine wpOp_mono ?_ (wpOp_calm hoj (hcalm j oj hoj (by simpa using hk)) hC hp)
          rintro a' w' ⟨rfl, hh⟩
          exact ih _ a' _ hcs (inv.set hj hj') hC hh
/-- The walk: ms: how many operations read ahead of each one that makes memory or calls; r: how many read behind the last one; then the tail. -/
def wpSegs (P : Program) (ops : Array Oper) (C : World → Prop) (Q : Exit → Act → World → Prop) (r : Nat) : List Nat → List Oper → Act → World → Prop
  | [], l, a, w => wpQuiet P ops C (fun a' => wpList P ops Q (l.drop r) a' w) (l.take r) a
  | m :: ms, l, a, w => wpQuiet P ops C (fun a' => wpList P ops (segPost C (wpSegs P ops C Q r ms (l.drop (m + 1)))) ((l.drop m).take 1) a' w) (l.take m) a
theorem seg_next {next : Act → World → Prop} {a : Act} {w : World} (hC : C w) (h : next a w) : segPost C next .normal a w := ⟨hC, h⟩
def chainAt : Nat → List Nat → List Nat
  | _, [] => []
  | p, m :: ms => (p + m) :: chainAt (p + m + 1) ms
def endAt (r : Nat) : Nat → List Nat → Nat
  | p, [] => p + r
  | p, m :: ms => endAt r (p + m + 1) ms
theorem endAt_le (r : Nat) : ∀ (ms : List Nat) (p : Nat), p ≤ endAt r p ms := by
  intro ms
  induction ms with
  | nil => intro p; exact Nat.le_add_right _ _
  | cons m ms ih => intro p; have := ih (p + m + 1); simp only [endAt]; omega
theorem chainAt_ge : ∀ (ms : List Nat) (p i : Nat), i ∈ chainAt p ms → p ≤ i := by
  intro ms
  induction ms with
  | nil => intro p i h; cases h
  | cons m ms ih =>
    intro p i h
    rcases List.mem_cons.1 h with rfl | h
    · exact Nat.le_add_right _ _
    · have := ih _ _ h; omega
theorem quiet_mix {ks : Nat → Bool} {K : Act → World → Prop} {listed : Array Bool} {N : Act → Prop} {w : World} {R : List Nat} (hlist : ∀ i, listed.getD i false = false) :
    ∀ (m p : Nat) (a : Act), p + m ≤ ops.size → (∀ i, p ≤ i → i < p + m → ks i = false) → (∀ a, N a → wpMix P ops C ks K listed R a w) → wpQuiet P ops C N ((ops.toList.drop p).take m) a →
      wpMix P ops C ks K listed (List.range' p m ++ R) a w := by
  intro m
  induction m with
  | zero =>
    intro p a _ _ hN h
    simp only [List.take_zero] at h
    exact hN a h
  | succ m ih =>
    intro p a hp hk hN h
    have hps : p < ops.size := by omega
    have e : (ops.toList.drop p).take (m + 1) = ops[p] :: (ops.toList.drop (p + 1)).take m := by
      rw [List.drop_eq_getElem_cons (by simpa using hps), List.take_succ_cons]
      rfl
    rw [e] at h
    rw [List.range'_succ, List.cons_append]
    simp only [wpMix, hlist p, hk p (Nat.le_refl _) (by omega), Bool.false_eq_true, if_false]
    unfold wpQuiet at h
    unfold qOp
    simp only [show ops[p]? = some ops[p] by simp [hps]]
    have ih' : ∀ a, wpQuiet P ops C N ((ops.toList.drop (p + 1)).take m) a → wpMix P ops C ks K listed (List.range' (p + 1) m ++ R) a w := fun a' h' => ih (p + 1) a' (by omega) (fun i h1 h2 => hk i (by omega) (by omega)) hN h'
    split
    · rename_i hw
      rw [if_pos hw] at h
      exact Oper.quiet_mono ih' h
    · rename_i hw
      rw [if_neg hw] at h
      exact ih' _ h
theorem segs_mix {Q : Exit → Act → World → Prop} {ks : Nat → Bool} {listed : Array Bool} {t : Nat} (r : Nat) (ht : t ≤ ops.size) (hlist : ∀ i, listed.getD i false = false) :
    ∀ (ms : List Nat) (p : Nat) (a : Act) (w : World), endAt r p ms = t → (∀ i, p ≤ i → i < t → ks i = (chainAt p ms).contains i) → wpSegs P ops C Q r ms (ops.toList.drop p) a w →
      wpMix P ops C ks (wpList P ops Q (ops.toList.drop t)) listed (List.range' p (t - p)) a w := by
  intro ms
  induction ms with
  | nil =>
    intro p a w he hk h
    simp only [endAt] at he
    subst he
    have e : List.range' p (p + r - p) = List.range' p r ++ [] := by simp
    rw [e]
    refine quiet_mix hlist r p a ht (fun i h1 h2 => by rw [hk i h1 h2]; simp [chainAt]) ?_ h
    intro a' h'
    simp only [wpMix]
    rwa [List.drop_drop] at h'
  | cons m ms ih =>
    intro p a w he hk h
    simp only [endAt] at he
    have hle := endAt_le r ms (p + m + 1)
    have e : List.range' p (t - p) = List.range' p m ++ ((p + m) :: List.range' (p + m + 1) (t - (p + m + 1))) := by
      have e1 : t - p = m + (1 + (t - (p + m + 1))) := by omega
      rw [e1, ← List.range'_append_1, ← List.range'_append_1]
      simp
    rw [e]
    refine quiet_mix hlist m p a (by omega) (fun i h1 h2 => ?_) ?_ h
    · rw [hk i h1 (by omega)]
      simp only [chainAt]
      cases hc : ((p + m) :: chainAt (p + m + 1) ms).contains i with
      | false => rfl
      | true =>
        exfalso
        have hm : i ∈ (p + m) :: chainAt (p + m + 1) ms := by simpa using hc
        rcases List.mem_cons.1 hm with h3 | h3
        · omega
        · have := chainAt_ge _ _ _ h3; omega
    · intro a' h'
      have hps : p + m < ops.size := by omega
      have hkp : ks (p + m) = true := by rw [hk (p + m) (by omega) (by omega)]; simp [chainAt]
      simp only [wpMix, hlist (p + m), hkp, Bool.false_eq_true, if_false, if_true]
      have e2 : ((ops.toList.drop p).drop m).take 1 = [ops[p + m]] := by
        rw [List.drop_drop, List.drop_eq_getElem_cons (by simpa using hps), List.take_succ_cons, List.take_zero]
        rfl
      rw [e2] at h'
      have ih' := fun a w h => ih (p + m + 1) a w he (fun i h1 h2 => by
        rw [hk i (by omega) h2]
        simp only [chainAt, List.contains_cons]
        rw [show (i == p + m) = false by simp; omega]
        rfl) h
      have e3 : (ops.toList.drop p).drop (m + 1) = ops.toList.drop (p + m + 1) := by rw [List.drop_drop]; rfl
      rw [e3] at h'
      unfold wpList at h'
      unfold wpOp
      simp only [show ops[p + m]? = some ops[p + m] by simp [hps]]
      have hfin : ∀ a w, wpList P ops (segPost C (wpSegs P ops C Q r ms (ops.toList.drop (p + m + 1)))) [] a w → C w ∧ wpMix P ops C ks (wpList P ops Q (ops.toList.drop t)) listed (List.range' (p + m + 1) (t - (p + m + 1))) a w := fun a w h => ⟨h.1, ih' a w h.2⟩
      have hlets : LetsOut (segPost C (wpSegs P ops C Q r ms (ops.toList.drop (p + m + 1)))) → LetsOut stopPost := fun ⟨_, _, h⟩ => (show False from h).elim
      split
      · rename_i hw
        rw [if_pos hw] at h'
        rcases h' with h' | ⟨h1, h2⟩
        · refine .inl (Oper.wp_mono hfin ?_)
          unfold Oper.wp at *
          generalize (execOp a'.eval ops[p + m]).run P w = rr at *
          cases rr with
          | ok n w' =>
            cases n <;> simp only [Oper.upon] at h' ⊢ <;> try exact h'
          | halt x w' =>
            cases x <;> simp only [Oper.upon] at h' ⊢
            all_goals (try exact (show False from h').elim)
        · exact .inr ⟨h1, hlets h2⟩
      · rename_i hw
        rw [if_neg hw] at h'
        exact hfin _ _ h'
/-- The region. -/
theorem wp_region_mix {id : Nat} {Q : Exit → Act → World → Prop} {a : Act} {w : World} {l : List Oper} (r : Nat) (ms : List Nat) (hm : P.follows .mixedOrders = true) (hB : mixB .any l.toArray (endAt r 0 ms) (chainAt 0 ms) = true)
    (hend : endAt r 0 ms ≤ l.length) (h : wpSegs P l.toArray (fun w' => ∃ g, w' = grow w g) Q r ms l a w.drew) : (Code.region id l.toArray true).wp P Q a w := by
  refine wp_region_any hm ?_
  have hin : ∀ i, (Array.replicate l.toArray.size false).getD i false = false := fun i => getD_replicate_false _ _
  refine mix_any (C := fun w' => ∃ g, w' = grow w g) hB _ _ a w.drew (by simp [List.count_replicate]) ⟨by simp, fun j oj _ hl => (by rw [hin] at hl; cases hl), fun t _ ht => getD_in (by simpa using ht) (hin t)⟩ ⟨w.drew, (grow_eq (Below.drew (Below.refl _ _))).symm⟩ ?_
  have := segs_mix (P := P) (ops := l.toArray) (C := fun w' => ∃ g, w' = grow w g) (Q := Q) (ks := fun i => (chainAt 0 ms).contains i || decide (endAt r 0 ms ≤ i)) (listed := Array.replicate l.toArray.size false) (t := endAt r 0 ms) r (by simpa using hend) hin ms 0 a w.drew rfl
    (fun i _ h2 => by simp [Nat.not_le.2 h2]) (by simpa using h)
  rwa [Nat.sub_zero, ← List.range_eq_range'] at this
theorem grow_to {w w' : World} (h : Below w.heap.size w w') : ∃ g, w' = grow w g := ⟨w', (grow_eq h).symm⟩
end
end Go.Proofs.YtffkmgjmlahfpaaGreat
set_option linter.unusedVariables false
set_option linter.unusedSimpArgs false
namespace Go.Proofs.YtffkmgjmlahfpaaGreat
open Go.RowKit
set_option maxRecDepth 20000 in
set_option maxHeartbeats 4000000 in
theorem rrun_in (l : List BarR) (r : Rn) (k0 : Nat) (b : BarR) (A : Option Addr) (n c : Nat) (B : Nat) (w : World) (hB : B ≤ w.heap.size) (hA : BarsAt w B A n l) (h : S.rightHead (bars l) r = true) (h' : S.rightStep r = true) (hk0 : S.index (bars l) r.mark = (k0 : Int)) (hbk : l[k0]? = some b) (hv : S.bar b.b = true) :
    Calls Tryz.prog 115 #[.slice A n c, rnV r] w fun e w' => e = .returned (.bool (S.near (S.laidPath b.b r 0) 1048576 && S.near (S.laidPath b.b r (r.count - 1).toNat) 1048576)) ∧ Below w.heap.size w w' := by
  have HA := Lib.hid hA
  obtain ⟨⟨h0, h1, h2⟩, h3, h4⟩ := rightHead_out h
  obtain ⟨hkx, hkb⟩ := List.getElem?_eq_some_iff.1 hbk
  have hkn : k0 < n := by have := hA.len; omega
  have hs' := hA.cells
  obtain ⟨bb, o, rfl, hbb, _⟩ := hs'.at_ (by rw [flat_len barC 5 barC_len]; omega)
  have hbb' : bb < w.heap.size := by omega
  have c0 := hs'.row0 barC_len hkx rfl
  have c1 := hs'.rowj barC_len hkx 1 rfl
  have c2 := hs'.rowj barC_len hkx 2 rfl
  have c3 := hs'.rowj barC_len hkx 3 rfl
  have c4 := hs'.rowj barC_len hkx 4 rfl
  have HE := Lib.hid (hA.each l[k0] (List.getElem_mem hkx))
  rw [hkb] at c0 c1 c2 c3 c4 HE
  have HI := Lib.hid (fun (W : World) (hw : B ≤ W.heap.size) (hh : BarsAt W B (some ⟨bb, o, none⟩) n l) => hk0 ▸ rfind14_any l r.mark (some ⟨bb, o, none⟩) n c B W hw hh)
  have HV := Lib.hid (fun w => h1 ▸ rturn_any r.tx r.ty w)
  have HP := Lib.hid (fun w => h2 ▸ rnear1_any r.at_ w)
  have HS := Lib.hid (fun w => rtwice_any r.step w)
  have hz : ∀ W, (binOp .eql 87 (.agg #[.int .i64 r.step.x, .int .i64 r.step.y, .int .i64 r.step.z]) (.agg #[.int .i64 0, .int .i64 0, .int .i64 0])).run Tryz.prog W = .ok (.bool (S.pt0 r.step)) W := fun W => run_eq0 r.step W
  have z91 : ∀ W, (Instr.build 87 #[]).run Tryz.prog W = .ok (.agg #[.int .i64 0, .int .i64 0, .int .i64 0]) W := fun _ => by kernel_rfl
  obtain ⟨q, hq⟩ : ∃ q : Nat, q = (r.count - 1).toNat := ⟨_, rfl⟩
  have hqi : (q : Int) = r.count - 1 := by omega
  have hcs : (¬ 1 < r.count) ∨ (1 < r.count ∧ S.pt0 r.step = false ∧ S.near1 r.step 2097152 = true) := by
    by_cases h5 : 1 < r.count
    · simp [S.rightStep, h5] at h'
      exact .inr ⟨h5, h'⟩
    · exact .inl h5
  have hst : 0 < q → S.near1 r.step 2097152 = true := fun hq0 => by
    rcases hcs with h5 | h5
    · exfalso; omega
    · exact h5.2.2
  have hl6 := legs_len b.b.code
  have HP0 := Lib.hid (fun (W : World) (hw : B ≤ W.heap.size) (hh : BarAt W B b.A b.n b.b) => show Calls Tryz.prog 179 #[barV b.b b.A b.n b.c, rnV r, .int .i64 0] W (GivesOne 87 3 ((S.legsOf b.b.code).length + 1) ((S.laidPath b.b r 0).flatMap ptC) W) from rpoints_any b.b r 0 b.A b.n b.c B W hw hh hv h1 h2 (by omega) (fun h => absurd h (by omega)) _ rfl)
  have HPQ := Lib.hid (fun (W : World) (hw : B ≤ W.heap.size) (hh : BarAt W B b.A b.n b.b) => rpoints_any b.b r q b.A b.n b.c B W hw hh hv h1 h2 (by omega) hst _ rfl)
  have HN0 := Lib.hid (fun (W : World) (A' : Option Addr) (c' : Nat) (B' : Nat) (hw : B' ≤ W.heap.size) (hh : Cells W B' A' ((S.laidPath b.b r 0).flatMap ptC)) => rnearL_any (S.laidPath b.b r 0) A' ((S.legsOf b.b.code).length + 1) c' B' W (laidPath_len _ _ _) (by omega) hw hh)
  have HNQ := Lib.hid (fun (W : World) (A' : Option Addr) (c' : Nat) (B' : Nat) (hw : B' ≤ W.heap.size) (hh : Cells W B' A' ((S.laidPath b.b r q).flatMap ptC)) => rnearL_any (S.laidPath b.b r q) A' ((S.legsOf b.b.code).length + 1) c' B' W (laidPath_len _ _ _) (by omega) hw hh)
  rw [← hq]
  have e1 : IntKind.i64.wrap (r.count - 1) = (q : Int) := by rw [IntWalk.i64_in _ (by omega)]; omega
  have HQ := Lib.hid hqi
  generalize S.near (S.laidPath b.b r 0) 1048576 = N0 at *
  generalize S.near (S.laidPath b.b r q) 1048576 = NQ at *
  generalize (S.laidPath b.b r 0).flatMap ptC = P0 at *
  generalize (S.laidPath b.b r q).flatMap ptC = PQ at *
  have hj : ¬ (k0 : Int) < 0 := by omega
  have hki : (k0 : Int) < (n : Int) := by omega
  clear hA h h' h0 h1 h2 hv hbk hs' hst hq hqi hk0 hkb
  unfold turnV at HV
  unfold ptV at HP HS
  unfold barV rnV at HP0 HPQ
  unfold rnV
  have hW0 : Below w.heap.size w (w.alloc (.cells #[.string r.mark, .int .i64 r.tx, .int .i64 r.ty, .int .i64 r.at_.x, .int .i64 r.at_.y, .int .i64 r.at_.z, .int .i64 r.step.x, .int .i64 r.step.y, .int .i64 r.step.z, .int .i64 r.count] 183)) := ba_alloc (Below.refl _ _) _
  have HRB := Lib.hid (Blk.new w 183 #[.string r.mark, .int .i64 r.tx, .int .i64 r.ty, .int .i64 r.at_.x, .int .i64 r.at_.y, .int .i64 r.at_.z, .int .i64 r.step.x, .int .i64 r.step.y, .int .i64 r.step.z, .int .i64 r.count])
  have HC := Lib.hid (show w.cell? ⟨bb, o + k0 * 5, none⟩ = some (.string b.b.mark) ∧ w.cell? ⟨bb, o + k0 * 5 + 1, none⟩ = some (.int .i64 b.b.size) ∧ w.cell? ⟨bb, o + k0 * 5 + 2, none⟩ = some (.int .i64 b.b.count) ∧ w.cell? ⟨bb, o + k0 * 5 + 3, none⟩ = some (.int .i64 b.b.code) ∧ w.cell? ⟨bb, o + k0 * 5 + 4, none⟩ = some (.slice b.A b.n b.c) from ⟨c0, c1, c2, c3, c4⟩)
  clear c0 c1 c2 c3 c4
  rcases hcs with h5 | ⟨h5, h6, h7⟩
  case' inl =>
    go_enter Tryz.func115, Tryz.ntmps115
    go_upto_region 6 with (first
      | (go_at_call 162; (with_reducible refine (HI.out _ (by simp; omega) (HA.out.at_ hB (by repeat (first | exact Below.refl _ _ | assumption | refine ba_alloc ?_ _ | refine ba_drew ?_ | refine ba_drewN ?_ _ | refine ba_via (by assumption) ?_ | (refine ba_set ?_ ?_ _; rotate_left; (first | omega | (simp; omega) | simp)))))).mono ?_); rintro e w1 ⟨rfl, hbw1⟩; obtain ⟨hcw1, hfw1⟩ := bcell hbw1; have hzw1_0 : w.heap.size < w1.heap.size := lt_via hbw1 (by first | omega | (simp; done) | (simp; omega)))
      | (go_at_call 175; (with_reducible refine (HV.out _).mono ?_); rintro e w2 ⟨rfl, hbw2⟩; obtain ⟨hcw2, hfw2⟩ := bcell hbw2; have hzw2_0 : w.heap.size < w2.heap.size := lt_via hbw2 (by first | omega | (simp; done) | (simp; omega)))
      | (go_at_call 176; (with_reducible refine (HP.out _).mono ?_); rintro e w3 ⟨rfl, hbw3⟩; obtain ⟨hcw3, hfw3⟩ := bcell hbw3; have hzw3_0 : w.heap.size < w3.heap.size := lt_via hbw3 (by first | omega | (simp; done) | (simp; omega)))
      | (go_at_call 177; (with_reducible refine (HS.out _).mono ?_); rintro e w4 ⟨rfl, hbw4⟩; obtain ⟨hcw4, hfw4⟩ := bcell hbw4; have hzw4_0 : w.heap.size < w4.heap.size := lt_via hbw4 (by first | omega | (simp; done) | (simp; omega))))
    have hb0 : Below w.heap.size w w3 := (by repeat (first | exact Below.refl _ _ | assumption | refine ba_alloc ?_ _ | refine ba_drew ?_ | refine ba_drewN ?_ _ | refine ba_via (by assumption) ?_ | (refine ba_set ?_ ?_ _; rotate_left; (first | omega | (simp; omega) | simp))))
    have hR0 := ((HRB.out.via hbw1).via hbw2).via hbw3
    clear hcw1 hfw1 hcw2 hfw2 hcw3 hfw3
    clear hbw1 hbw2 hbw3
    generalize w3 = W0 at *
  case' inr =>
    rw [h6] at hz
    rw [h7] at HS
    go_enter Tryz.func115, Tryz.ntmps115
    go_upto_region 6 with (first
      | (go_at_call 162; (with_reducible refine (HI.out _ (by simp; omega) (HA.out.at_ hB (by repeat (first | exact Below.refl _ _ | assumption | refine ba_alloc ?_ _ | refine ba_drew ?_ | refine ba_drewN ?_ _ | refine ba_via (by assumption) ?_ | (refine ba_set ?_ ?_ _; rotate_left; (first | omega | (simp; omega) | simp)))))).mono ?_); rintro e w1 ⟨rfl, hbw1⟩; obtain ⟨hcw1, hfw1⟩ := bcell hbw1; have hzw1_0 : w.heap.size < w1.heap.size := lt_via hbw1 (by first | omega | (simp; done) | (simp; omega)))
      | (go_at_call 175; (with_reducible refine (HV.out _).mono ?_); rintro e w2 ⟨rfl, hbw2⟩; obtain ⟨hcw2, hfw2⟩ := bcell hbw2; have hzw2_0 : w.heap.size < w2.heap.size := lt_via hbw2 (by first | omega | (simp; done) | (simp; omega)))
      | (go_at_call 176; (with_reducible refine (HP.out _).mono ?_); rintro e w3 ⟨rfl, hbw3⟩; obtain ⟨hcw3, hfw3⟩ := bcell hbw3; have hzw3_0 : w.heap.size < w3.heap.size := lt_via hbw3 (by first | omega | (simp; done) | (simp; omega)))
      | (go_at_call 177; (with_reducible refine (HS.out _).mono ?_); rintro e w4 ⟨rfl, hbw4⟩; obtain ⟨hcw4, hfw4⟩ := bcell hbw4; have hzw4_0 : w.heap.size < w4.heap.size := lt_via hbw4 (by first | omega | (simp; done) | (simp; omega))))
    have hb0 : Below w.heap.size w w4 := (by repeat (first | exact Below.refl _ _ | assumption | refine ba_alloc ?_ _ | refine ba_drew ?_ | refine ba_drewN ?_ _ | refine ba_via (by assumption) ?_ | (refine ba_set ?_ ?_ _; rotate_left; (first | omega | (simp; omega) | simp))))
    have hR0 := (((HRB.out.via hbw1).via hbw2).via hbw3).via hbw4
    clear hcw1 hfw1 hcw2 hfw2 hcw3 hfw3 hcw4 hfw4
    clear hbw1 hbw2 hbw3 hbw4
    generalize w4 = W0 at *
  all_goals (
    have hkeep : ∀ W', Below W0.heap.size W0 W' → W'.cell? ⟨bb, o + k0 * 5, none⟩ = some (.string b.b.mark) ∧ W'.cell? ⟨bb, o + k0 * 5 + 1, none⟩ = some (.int .i64 b.b.size) ∧ W'.cell? ⟨bb, o + k0 * 5 + 2, none⟩ = some (.int .i64 b.b.count) ∧ W'.cell? ⟨bb, o + k0 * 5 + 3, none⟩ = some (.int .i64 b.b.code) ∧ W'.cell? ⟨bb, o + k0 * 5 + 4, none⟩ = some (.slice b.A b.n b.c) ∧ W'.cell? ⟨w.heap.size, 0, none⟩ = some (.string r.mark) ∧ W'.cell? ⟨w.heap.size, 1, none⟩ = some (.int .i64 r.tx) ∧ W'.cell? ⟨w.heap.size, 2, none⟩ = some (.int .i64 r.ty) ∧ W'.cell? ⟨w.heap.size, 3, none⟩ = some (.int .i64 r.at_.x) ∧ W'.cell? ⟨w.heap.size, 4, none⟩ = some (.int .i64 r.at_.y) ∧ W'.cell? ⟨w.heap.size, 5, none⟩ = some (.int .i64 r.at_.z) ∧ W'.cell? ⟨w.heap.size, 6, none⟩ = some (.int .i64 r.step.x) ∧ W'.cell? ⟨w.heap.size, 7, none⟩ = some (.int .i64 r.step.y) ∧ W'.cell? ⟨w.heap.size, 8, none⟩ = some (.int .i64 r.step.z) ∧ W'.cell? ⟨w.heap.size, 9, none⟩ = some (.int .i64 r.count) := fun W' hw => by
      have g := (hb0.trans (hw.mono hb0.size))
      have g1 := hR0.via hw
      obtain ⟨c0, c1, c2, c3, c4⟩ := HC.out
      exact ⟨(g.cell (p := ⟨bb, _, none⟩) hbb').trans c0, (g.cell (p := ⟨bb, _, none⟩) hbb').trans c1, (g.cell (p := ⟨bb, _, none⟩) hbb').trans c2, (g.cell (p := ⟨bb, _, none⟩) hbb').trans c3, (g.cell (p := ⟨bb, _, none⟩) hbb').trans c4,
        g1.cell 0, g1.cell 1, g1.cell 2, g1.cell 3, g1.cell 4, g1.cell 5, g1.cell 6, g1.cell 7, g1.cell 8, g1.cell 9⟩
    have HK := Lib.hid hkeep
    clear hkeep hz HI HV HP HS HA
    have hrl := hR0.lt
    clear hR0
    obtain ⟨c0, c1, c2, c3, c4, d0, d1, d2, d3, d4, d5, d6, d7, d8, d9⟩ := HK.out W0 (Below.refl _ _)
    have hbb0 : bb < W0.heap.size := by have := hb0.size; omega
    cases N0
    all_goals (
      refine wp_region_mix 1 [5, 0, 9, 0] (by kernel_rfl) (by kernel_rfl) (of_decide_eq_true (by kernel_rfl)) ?_
      try simp only [wpSegs, List.take_succ_cons, List.take_zero, List.drop_succ_cons, List.drop_zero, List.take_nil, List.drop_nil]
      repeat (go_big_quiet_step (fail))
      refine wpQuiet_nil ?_
      show wpList _ _ _ _ _ _
      go_wp2_with ((go_at_call 179; (with_reducible refine (HP0.out _ (size_via hB (by repeat (with_reducible first | exact Below.refl _ _ | assumption | refine ba_alloc ?_ _ | refine ba_drew ?_ | refine ba_drewN ?_ _ | refine ba_via (by assumption) ?_ | (refine ba_set ?_ ?_ _; rotate_left; (first | omega | (simp; omega) | simp))))) (HE.out.at_ hB (by repeat (with_reducible first | exact Below.refl _ _ | assumption | refine ba_alloc ?_ _ | refine ba_drew ?_ | refine ba_drewN ?_ _ | refine ba_via (by assumption) ?_ | (refine ba_set ?_ ?_ _; rotate_left; (first | omega | (simp; omega) | simp)))))).mono ?_); rintro e wA ⟨AA, cAA, rfl, hoAA, hbAA⟩; have hcAA := (own_cells hoAA (by unfold maxLen; omega)).1))
      refine seg_next (grow_to (by repeat (with_reducible first | exact Below.refl _ _ | assumption | refine ba_alloc ?_ _ | refine ba_drew ?_ | refine ba_drewN ?_ _ | refine ba_via (by assumption) ?_ | (refine ba_set ?_ ?_ _; rotate_left; (first | omega | (simp; omega) | simp))))) ?_
      try simp only [wpSegs, List.take_succ_cons, List.take_zero, List.drop_succ_cons, List.drop_zero, List.take_nil, List.drop_nil]
      repeat (go_big_quiet_step (fail))
      refine wpQuiet_nil ?_
      show wpList _ _ _ _ _ _
      go_wp2_with ((go_at_call 178; (with_reducible refine (HN0.out _ _ _ _ (Nat.le_refl _) hcAA).mono ?_); rintro e wB ⟨rfl, hbBB⟩; obtain ⟨hxBB, hyBB⟩ := bcell (show Below W0.heap.size W0 wB from (by repeat (with_reducible first | exact Below.refl _ _ | assumption | refine ba_alloc ?_ _ | refine ba_drew ?_ | refine ba_drewN ?_ _ | refine ba_via (by assumption) ?_ | (refine ba_set ?_ ?_ _; rotate_left; (first | omega | (simp; omega) | simp)))))))
      refine seg_next (grow_to (by repeat (with_reducible first | exact Below.refl _ _ | assumption | refine ba_alloc ?_ _ | refine ba_drew ?_ | refine ba_drewN ?_ _ | refine ba_via (by assumption) ?_ | (refine ba_set ?_ ?_ _; rotate_left; (first | omega | (simp; omega) | simp))))) ?_
      try simp only [wpSegs, List.take_succ_cons, List.take_zero, List.drop_succ_cons, List.drop_zero, List.take_nil, List.drop_nil]
      repeat (go_big_quiet_step (fail))
      refine wpQuiet_nil ?_
      show wpList _ _ _ _ _ _
      go_wp2_with ((go_at_call 179; (with_reducible refine (HPQ.out _ (size_via hB (by repeat (with_reducible first | exact Below.refl _ _ | assumption | refine ba_alloc ?_ _ | refine ba_drew ?_ | refine ba_drewN ?_ _ | refine ba_via (by assumption) ?_ | (refine ba_set ?_ ?_ _; rotate_left; (first | omega | (simp; omega) | simp))))) (HE.out.at_ hB (by repeat (with_reducible first | exact Below.refl _ _ | assumption | refine ba_alloc ?_ _ | refine ba_drew ?_ | refine ba_drewN ?_ _ | refine ba_via (by assumption) ?_ | (refine ba_set ?_ ?_ _; rotate_left; (first | omega | (simp; omega) | simp)))))).mono ?_); rintro e wC ⟨AC, cAC, rfl, hoAC, hbAC⟩; have hcAC := (own_cells hoAC (by unfold maxLen; omega)).1))
      refine seg_next (grow_to (by repeat (with_reducible first | exact Below.refl _ _ | assumption | refine ba_alloc ?_ _ | refine ba_drew ?_ | refine ba_drewN ?_ _ | refine ba_via (by assumption) ?_ | (refine ba_set ?_ ?_ _; rotate_left; (first | omega | (simp; omega) | simp))))) ?_
      try simp only [wpSegs, List.take_succ_cons, List.take_zero, List.drop_succ_cons, List.drop_zero, List.take_nil, List.drop_nil]
      repeat (go_big_quiet_step (fail))
      refine wpQuiet_nil ?_
      show wpList _ _ _ _ _ _
      go_wp2_with ((go_at_call 178; (with_reducible refine (HNQ.out _ _ _ _ (Nat.le_refl _) hcAC).mono ?_); rintro e wD ⟨rfl, hbBD⟩; obtain ⟨hxBD, hyBD⟩ := bcell (show Below W0.heap.size W0 wD from (by repeat (with_reducible first | exact Below.refl _ _ | assumption | refine ba_alloc ?_ _ | refine ba_drew ?_ | refine ba_drewN ?_ _ | refine ba_via (by assumption) ?_ | (refine ba_set ?_ ?_ _; rotate_left; (first | omega | (simp; omega) | simp)))))))
      refine seg_next (grow_to (by repeat (with_reducible first | exact Below.refl _ _ | assumption | refine ba_alloc ?_ _ | refine ba_drew ?_ | refine ba_drewN ?_ _ | refine ba_via (by assumption) ?_ | (refine ba_set ?_ ?_ _; rotate_left; (first | omega | (simp; omega) | simp))))) ?_
      try simp only [wpSegs, List.take_succ_cons, List.take_zero, List.drop_succ_cons, List.drop_zero, List.take_nil, List.drop_nil]
      repeat (go_big_quiet_step (fail))
      refine wpQuiet_nil ?_
      show wpList _ _ _ _ _ _
      go_wp2
      go_ret
      exact ⟨rfl, (by repeat (with_reducible first | exact Below.refl _ _ | assumption | refine ba_alloc ?_ _ | refine ba_drew ?_ | refine ba_drewN ?_ _ | refine ba_via (by assumption) ?_ | (refine ba_set ?_ ?_ _; rotate_left; (first | omega | (simp; omega) | simp))))⟩))
end Go.Proofs.YtffkmgjmlahfpaaGreat
set_option linter.unusedVariables false
set_option linter.unusedSimpArgs false
namespace Go.Proofs.YtffkmgjmlahfpaaGreat
open Go.RowKit
theorem rrun_any (l : List BarR) (r : Rn) (A : Option Addr) (n c : Nat) (B : Nat) (w : World) (hB : B ≤ w.heap.size) (hA : BarsAt w B A n l) (hs : S.sched (bars l) = true) :
    Calls Tryz.prog 115 #[.slice A n c, rnV r] w fun e w' => e = .returned (.bool (S.right (bars l) r)) ∧ Below w.heap.size w w' := by
  rw [← rrun_eq hs]
  by_cases h : S.rightHead (bars l) r = true
  · by_cases h' : S.rightStep r = true
    · obtain ⟨⟨h0, _⟩, _⟩ := rightHead_out h
      have hb := (index_bd (bars l) r.mark).2
      obtain ⟨k, hk⟩ : ∃ k : Nat, S.index (bars l) r.mark = (k : Int) := ⟨(S.index (bars l) r.mark).toNat, by omega⟩
      have hkl : k < l.length := by rw [hk] at hb; simpa using hb
      have e : S.rrun (bars l) r = (S.near (S.laidPath l[k].b r 0) 1048576 && S.near (S.laidPath l[k].b r (r.count - 1).toNat) 1048576) := by
        have : S.barAt (bars l) r.mark = some l[k].b := by
          unfold S.barAt
          rw [hk]
          simp [hkl]
        unfold S.rrun
        rw [h, h', this]
        rfl
      rw [e]
      exact rrun_in l r k l[k] A n c B w hB hA h h' hk (List.getElem?_eq_getElem hkl) (sched_bar hs (k := k) (by simp [hkl])).1
    · have h2 : S.rightStep r = false := by simpa using h'
      have e : S.rrun (bars l) r = false := by unfold S.rrun; rw [h2]; simp
      rw [e]
      exact rrun_no1 l r A n c B w hB hA h h2
  · have h2 : S.rightHead (bars l) r = false := by simpa using h
    have e : S.rrun (bars l) r = false := by unfold S.rrun; rw [h2]; simp
    rw [e]
    exact rrun_no0 l r A n c B w hB hA h2
set_option maxHeartbeats 1000000 in
theorem rlaid_any (l : List BarR) (rs : List Rn) (A : Option Addr) (n c : Nat) (A' : Option Addr) (n' c' : Nat) (B : Nat) (w : World) (hB : B ≤ w.heap.size) (hA : BarsAt w B A n l) (hR : RunsAt w B A' n' rs) :
    Calls Tryz.prog 61 #[.slice A n c, .slice A' n' c'] w fun e w' => e = .returned (.bool (S.laid (bars l) rs)) ∧ Below w.heap.size w w' := by
  have HA := Lib.hid hA
  have HR := Lib.hid hR
  have HS := Lib.hid (fun (W : World) (hw : B ≤ W.heap.size) (hh : BarsAt W B A n l) => rsched_any l A n c B W hw hh)
  have HL := Lib.hid (show S.laid (bars l) rs = (S.sched (bars l) && decide (n' ≤ 60) && (rs.all (S.right (bars l)) && decide (S.sumAll rs ≤ 2000))) by unfold S.laid; rw [hR.len, runsOk_iff (by omega)])
  have hn := hR.len
  have hnm := hR.max
  by_cases hs : S.sched (bars l) = true
  rotate_left
  · have hs' : S.sched (bars l) = false := by simpa using hs
    rw [hs'] at HS HL
    clear hA hR hs hs' hn
    go_enter Tryz.func61, Tryz.ntmps61
    go_wp2_with (first
      | (go_at_call 114; (with_reducible refine (HS.out _ hB HA.out).mono ?_); rintro e w1 ⟨rfl, hbw1⟩; obtain ⟨hcw1, hfw1⟩ := bcell hbw1))
    go_ret
    exact ⟨ret_b (by rw [HL.out]; rfl), (by repeat (first | exact Below.refl _ _ | assumption | refine ba_alloc ?_ _ | refine ba_drew ?_ | refine ba_drewN ?_ _ | refine ba_via (by assumption) ?_ | (refine ba_set ?_ ?_ _; rotate_left; (first | omega | (simp; omega) | simp))))⟩
  rw [hs] at HS HL
  have HRI := Lib.hid (fun (r : Rn) (W : World) (hw : B ≤ W.heap.size) (hh : BarsAt W B A n l) => rrun_any l r A n c B W hw hh hs)
  have HC := Lib.hid (fun (r : Rn) (h : S.right (bars l) r = true) => right_count h)
  have HCN := Lib.hid (fun (W : World) (hw : B ≤ W.heap.size) (hh : RunsAt W B A' n' rs) (h60 : n' ≤ 60) (hc : ∀ k (hk : k < rs.length), 0 ≤ rs[k].count ∧ rs[k].count ≤ 1000) => rcount16_any rs A' n' c' B W hw hh h60 hc)
  unfold rnV at HRI
  by_cases h60 : 60 < n'
  · have e : decide (n' ≤ 60) = false := by simpa using h60
    rw [e] at HL
    clear hA hR hs e hn
    go_enter Tryz.func61, Tryz.ntmps61
    go_wp2_with (first
      | (go_at_call 114; (with_reducible refine (HS.out _ hB HA.out).mono ?_); rintro e w1 ⟨rfl, hbw1⟩; obtain ⟨hcw1, hfw1⟩ := bcell hbw1))
    go_ret
    exact ⟨ret_b (by rw [HL.out]; rfl), (by repeat (first | exact Below.refl _ _ | assumption | refine ba_alloc ?_ _ | refine ba_drew ?_ | refine ba_drewN ?_ _ | refine ba_via (by assumption) ?_ | (refine ba_set ?_ ?_ _; rotate_left; (first | omega | (simp; omega) | simp))))⟩
  have e : decide (n' ≤ 60) = true := by simp; omega
  rw [e] at HL
  clear hA hR hs e hn
  go_enter Tryz.func61, Tryz.ntmps61
  go_wp2_with (first
    | (go_at_call 114; (with_reducible refine (HS.out _ hB HA.out).mono ?_); rintro e w1 ⟨rfl, hbw1⟩; obtain ⟨hcw1, hfw1⟩ := bcell hbw1))
  go_loopw [5] (fun i wr => ∃ (k : Nat), k ≤ n' ∧ i = .int .i64 k ∧ Hid (∀ j (hj : j < rs.length), j < k → S.right (bars l) rs[j] = true) ∧ Below w1.heap.size w1 wr) (fun i _ => n' - (intOf i).toNat)
  case atStart => exact ⟨0, Nat.zero_le _, rfl, Lib.hid (fun j _ hj => absurd hj (by omega)), Below.refl _ _⟩
  case round =>
    obtain ⟨k, hk, rfl, HNO, hbr⟩ := hrel
    have hbwr : Below w.heap.size w wr := hbw1.trans (hbr.mono hbw1.size)
    have hwr : B ≤ wr.heap.size := by have := hbwr.size; omega
    by_cases hlt : k < n'
    · have hkx : k < rs.length := by have := HR.out.len; omega
      have hki : (k : Int) < (n' : Int) := by omega
      have HA' := Lib.hid (HA.out.at_ hB hbwr)
      have hs' := (HR.out.at_ hB hbwr).cells
      obtain ⟨b, o, hAe, _, _⟩ := hs'.at_ (by rw [flat_len rnC 10 rnC_len]; omega)
      subst hAe
      have c0 := hs'.row0 rnC_len hkx rfl
      have c1 := hs'.rowj rnC_len hkx 1 rfl
      have c2 := hs'.rowj rnC_len hkx 2 rfl
      have c3 := hs'.rowj rnC_len hkx 3 rfl
      have c4 := hs'.rowj rnC_len hkx 4 rfl
      have c5 := hs'.rowj rnC_len hkx 5 rfl
      have c6 := hs'.rowj rnC_len hkx 6 rfl
      have c7 := hs'.rowj rnC_len hkx 7 rfl
      have c8 := hs'.rowj rnC_len hkx 8 rfl
      have c9 := hs'.rowj rnC_len hkx 9 rfl
      have HRX := Lib.hid (fun (W : World) (hw : B ≤ W.heap.size) (hh : BarsAt W B A n l) => HRI.out rs[k] W hw hh)
      have HBAD := Lib.hid (fun (h : S.right (bars l) rs[k] = false) => all_no (p := S.right (bars l)) hkx h)
      have HGO := Lib.hid (fun (h : S.right (bars l) rs[k] = true) (j : Nat) (hj : j < rs.length) (hjk : j < k + 1) => show S.right (bars l) rs[j] = true from by
        by_cases hjk' : j = k
        · subst hjk'; exact h
        · exact HNO.out j hj (by omega))
      clear hs'
      generalize S.right (bars l) rs[k] = t at *
      generalize rs[k] = r at *
      cases t
      · go_wp2_with (first
          | (go_at_call 115; (with_reducible refine (HRX.out _ hwr HA'.out).mono ?_); rintro e w2 ⟨rfl, hbw2⟩; obtain ⟨hcw2, hfw2⟩ := bcell hbw2))
        go_ret
        exact ⟨ret_b (by rw [HL.out, HBAD.out trivial]; rfl), hbwr.trans (hbw2.mono hbwr.size)⟩
      · go_wp2_with (first
          | (go_at_call 115; (with_reducible refine (HRX.out _ hwr HA'.out).mono ?_); rintro e w2 ⟨rfl, hbw2⟩; obtain ⟨hcw2, hfw2⟩ := bcell hbw2))
        go_roundw
        case rel => exact ⟨k + 1, by omega, by go_num, Lib.hid (HGO.out trivial), hbr.trans (hbw2.mono hbr.size)⟩
        case measure => simp [intOf]; omega
    · have hall : ∀ j (hj : j < rs.length), S.right (bars l) rs[j] = true := fun j hj => HNO.out j hj (by have := HR.out.len; omega)
      have HAL := Lib.hid (all_yes (p := S.right (bars l)) hall)
      have HCX := Lib.hid (HCN.out wr hwr (HR.out.at_ hB hbwr) (by omega) (fun j hj => by have := HC.out _ (hall j hj); omega))
      clear hall
      generalize S.sumAll rs = sm at *
      go_wp2_with (first
        | (go_at_call 94; (with_reducible refine (HCX.out).mono ?_); rintro e w' ⟨rfl, rfl⟩))
      go_ret
      exact ⟨ret_b (by rw [HL.out, HAL.out]; simp), hbwr⟩
/-- Where laid bar i stands, in memory: the reference's Place. -/
theorem rplace_any (rs : List Rn) (A : Option Addr) (n c : Nat) (B : Nat) (w : World) (hB : B ≤ w.heap.size) (hR : RunsAt w B A n rs) (hc : ∀ k (hk : k < rs.length), 0 ≤ rs[k].count) (i k j : Nat) (hk : k < rs.length) (hi : (i : Int) = S.sumTo rs k + j) (hj : (j : Int) < rs[k].count) (hi64 : i ≤ 1000000) :
    Calls Tryz.prog 161 #[.slice A n c, .int .i64 i] w fun e w' => e = .returned (.tuple #[.int .i64 k, .int .i64 j]) ∧ w = w' := by
  have HN := Lib.hid hR.len
  have HS := Lib.hid hR.cells
  have hnm := hR.max
  have hkn : k < n := by have := hR.len; omega
  have HSM := Lib.hid (fun (m : Nat) (hm : m ≤ k) => sumTo_mono (rs := rs) hc hm (by omega))
  have HSZ := Lib.hid (fun (m : Nat) (hm : m ≤ rs.length) => sumTo_mono (rs := rs) hc (Nat.zero_le m) hm)
  have HSS := Lib.hid (fun (m : Nat) (hm : m < rs.length) => sumTo_succ rs hm)
  have HI := Lib.hid hi
  have HJ := Lib.hid hj
  clear hR hi hj
  go_enter Tryz.func161, Tryz.ntmps161
  go_wp2
  go_loop [1, 6] (fun v m => ∃ q : Nat, q ≤ k ∧ m = .int .i64 q ∧ v = .int .i64 ((i : Int) - S.sumTo rs q)) (fun _ m => k - (intOf m).toNat)
  case atStart => exact ⟨0, Nat.zero_le _, rfl, by rw [sumTo_zero]; simp⟩
  case round =>
    obtain ⟨q, hq, rfl, rfl⟩ := hrel
    have hl := HN.out
    have hqx : q < rs.length := by omega
    have hqi : (q : Int) < (n : Int) := by omega
    have hs' := HS.out
    obtain ⟨b, o, rfl, _, _⟩ := hs'.at_ (by rw [flat_len rnC 10 rnC_len]; omega)
    have c9 := hs'.rowj rnC_len hqx 9 rfl
    have h0 := HSZ.out q (by omega)
    rw [sumTo_zero] at h0
    have h1 := HI.out
    have h2 := HSM.out q hq
    have h3 := HSS.out q hqx
    have h5 := hc q hqx
    clear hs' hl
    by_cases hlt : q < k
    · have h4 := HSM.out (q + 1) (by omega)
      have hge : rs[q].count ≤ (i : Int) - S.sumTo rs q := by omega
      have e1 : IntKind.i64.wrap ((i : Int) - S.sumTo rs q - rs[q].count) = (i : Int) - S.sumTo rs (q + 1) := by
        rw [IntWalk.i64_in _ (by omega)]; omega
      have hd : decide (rs[q].count ≤ (i : Int) - S.sumTo rs q) = true := decide_eq_true hge
      clear h0 h1 h2 h3 h4 h5
      generalize hs1 : S.sumTo rs (q + 1) = s1 at *
      have HS1 := Lib.hid hs1
      clear hs1
      generalize S.sumTo rs q = s0 at *
      generalize rs[q].count = cq at *
      go_wp2
      go_round
      case rel => exact ⟨q + 1, by omega, by go_num, by rw [HS1.out]⟩
      case measure => simp [intOf]; omega
    · have hqk : q = k := by omega
      subst hqk
      have hj' := HJ.out
      have hlt2 : ¬ rs[q].count ≤ (i : Int) - S.sumTo rs q := by omega
      have HE := Lib.hid (show (i : Int) - S.sumTo rs q = j by omega)
      clear h0 h1 h2 h3 hj'
      generalize (i : Int) - S.sumTo rs q = v at *
      generalize rs[q].count = cq at *
      go_wp2
      go_ret2
      exact ⟨ret_2 rfl HE.out, rfl⟩
end Go.Proofs.YtffkmgjmlahfpaaGreat
set_option linter.unusedVariables false
set_option linter.unusedSimpArgs false
namespace Go.Proofs.YtffkmgjmlahfpaaGreat
open Go.RowKit
/-- Laid bar i stands in run k at place j; its line of the schedule is r. -/
structure Lies (l : List BarR) (rs : List Rn) (i k j k0 : Nat) (r : BarR) : Prop where
  st : Stands (bars l) rs i k j k0 r.b
  get : l[k0]? = some r
  cnt : ∀ k (hk : k < rs.length), 0 ≤ rs[k].count ∧ rs[k].count ≤ 1000
  lim : i ≤ 1000000
theorem lies_of {l : List BarR} {rs : List Rn} (h : S.laid (bars l) rs = true) {i : Nat} (hi : i < (S.mains (bars l) rs).length) : ∃ k j k0 r, Lies l rs i k j k0 r := by
  obtain ⟨k, j, k0, b, hs⟩ := stands_of h hi
  have hg := hs.ok.get
  rw [List.getElem?_map] at hg
  cases hr : l[k0]? with
  | none => rw [hr] at hg; cases hg
  | some r =>
    rw [hr] at hg
    simp only [Option.map_some, Option.some.injEq] at hg
    subst hg
    simp only [S.laid, Bool.and_eq_true, decide_eq_true_eq] at h
    have hml := mains_len h.2 (by omega)
    exact ⟨k, j, k0, r, hs, hr, fun k hk => by have := right_count (runs_in h.2 (List.getElem_mem hk)); omega, by omega⟩
set_option maxHeartbeats 1000000 in
theorem rbar16_any (l : List BarR) (rs : List Rn) (A : Option Addr) (n c : Nat) (A' : Option Addr) (n' c' : Nat) (B : Nat) (w : World) (hB : B ≤ w.heap.size) (hA : BarsAt w B A n l) (hR : RunsAt w B A' n' rs) (i k j k0 : Nat) (r : BarR) (hL : Lies l rs i k j k0 r) :
    Calls Tryz.prog 102 #[.slice A n c, .slice A' n' c', .int .i64 i] w fun e w' => e = .returned (barV r.b r.A r.n r.c) ∧ Below w.heap.size w w' := by
  have HA := Lib.hid hA
  have hkx := hL.st.lt
  have hkn : k < n' := by have := hR.len; omega
  have hki : (k : Int) < (n' : Int) := by omega
  have HP := Lib.hid (fun (W : World) (hw : B ≤ W.heap.size) (hh : RunsAt W B A' n' rs) => rplace_any rs A' n' c' B W hw hh (fun k hk => (hL.cnt k hk).1) i k j hkx hL.st.sum hL.st.inr hL.lim)
  have HR := Lib.hid hR
  have hix := hL.st.ok.index
  obtain ⟨hk0, hrg⟩ := List.getElem?_eq_some_iff.1 hL.get
  have hk0n : k0 < n := by have := hA.len; omega
  have hk0i : (k0 : Int) < (n : Int) := by omega
  have HF := Lib.hid (fun (W : World) (hw : B ≤ W.heap.size) (hh : BarsAt W B A n l) => hix ▸ rfind14_any l rs[k].mark A n c B W hw hh)
  have hs' := hR.cells
  obtain ⟨b, o, hAe, hbB, _⟩ := hs'.at_ (by rw [flat_len rnC 10 rnC_len]; omega)
  subst hAe
  have c0 := hs'.row0 rnC_len hkx rfl
  have hs2 := hA.cells
  obtain ⟨b2, o2, hAe2, hbB2, _⟩ := hs2.at_ (by rw [flat_len barC 5 barC_len]; omega)
  subst hAe2
  have d0 := hs2.row0 barC_len hk0 rfl
  have d1 := hs2.rowj barC_len hk0 1 rfl
  have d2 := hs2.rowj barC_len hk0 2 rfl
  have d3 := hs2.rowj barC_len hk0 3 rfl
  have d4 := hs2.rowj barC_len hk0 4 rfl
  rw [hrg] at d0 d1 d2 d3 d4
  have hb1 : b < w.heap.size := by omega
  have hb2 : b2 < w.heap.size := by omega
  clear hA hR hs' hs2 hix hrg
  clear hL
  generalize rs[k].mark = mk at *
  unfold barV
  go_enter Tryz.func102, Tryz.ntmps102
  go_wp2_with (first
    | (go_at_call 161; (with_reducible refine (HP.out _ (size_via hB (by repeat (first | exact Below.refl _ _ | assumption | refine ba_alloc ?_ _ | refine ba_drew ?_ | refine ba_drewN ?_ _ | refine ba_via (by assumption) ?_ | (refine ba_set ?_ ?_ _; rotate_left; (first | omega | (simp; omega) | simp))))) (HR.out.at_ hB (by repeat (first | exact Below.refl _ _ | assumption | refine ba_alloc ?_ _ | refine ba_drew ?_ | refine ba_drewN ?_ _ | refine ba_via (by assumption) ?_ | (refine ba_set ?_ ?_ _; rotate_left; (first | omega | (simp; omega) | simp)))))).mono ?_); rintro e w' ⟨rfl, rfl⟩)
    | (go_at_call 162; (with_reducible refine (HF.out _ (size_via hB (by repeat (first | exact Below.refl _ _ | assumption | refine ba_alloc ?_ _ | refine ba_drew ?_ | refine ba_drewN ?_ _ | refine ba_via (by assumption) ?_ | (refine ba_set ?_ ?_ _; rotate_left; (first | omega | (simp; omega) | simp))))) (HA.out.at_ hB (by repeat (first | exact Below.refl _ _ | assumption | refine ba_alloc ?_ _ | refine ba_drew ?_ | refine ba_drewN ?_ _ | refine ba_via (by assumption) ?_ | (refine ba_set ?_ ?_ _; rotate_left; (first | omega | (simp; omega) | simp)))))).mono ?_); rintro e w2 ⟨rfl, hbw2⟩; obtain ⟨hcw2, hfw2⟩ := bcell hbw2; have hzw2_0 : w.heap.size < w2.heap.size := lt_via hbw2 (by first | omega | (simp; done) | (simp; omega))))
  have hbel : Below w.heap.size w w2 := (by repeat (first | exact Below.refl _ _ | assumption | refine ba_alloc ?_ _ | refine ba_drew ?_ | refine ba_drewN ?_ _ | refine ba_via (by assumption) ?_ | (refine ba_set ?_ ?_ _; rotate_left; (first | omega | (simp; omega) | simp))))
  exact bodyPost_ret (v := .agg #[.string r.b.mark, .int .i64 r.b.size, .int .i64 r.b.count, .int .i64 r.b.code, .slice r.A r.n r.c]) (by simp [results, Tryz.results102, go_sem, *]) rfl ⟨rfl, (((((hbel.setCell (Nat.le_refl _) _).setCell (Nat.le_refl _) _).setCell (Nat.le_refl _) _).setCell (Nat.le_refl _) _).setCell (Nat.le_refl _) _)⟩
set_option maxHeartbeats 2000000 in
theorem rpoints16_any (l : List BarR) (rs : List Rn) (A : Option Addr) (n c : Nat) (A' : Option Addr) (n' c' : Nat) (B : Nat) (w : World) (hB : B ≤ w.heap.size) (hA : BarsAt w B A n l) (hR : RunsAt w B A' n' rs) (i k j k0 : Nat) (r : BarR) (hL : Lies l rs i k j k0 r) (L : Nat) (hLL : (S.legsOf r.b.code).length = L) :
    Calls Tryz.prog 156 #[.slice A n c, .slice A' n' c', .int .i64 i] w (GivesOne 87 3 (L + 1) ((S.laidPath r.b (rs[k]'hL.st.lt) j).flatMap ptC) w) := by
  have HA := Lib.hid hA
  have hkx := hL.st.lt
  have hkn : k < n' := by have := hR.len; omega
  have hki : (k : Int) < (n' : Int) := by omega
  have HP := Lib.hid (fun (W : World) (hw : B ≤ W.heap.size) (hh : RunsAt W B A' n' rs) => rplace_any rs A' n' c' B W hw hh (fun k hk => (hL.cnt k hk).1) i k j hkx hL.st.sum hL.st.inr hL.lim)
  have HR := Lib.hid hR
  have HBR := Lib.hid (fun (W : World) (hw : B ≤ W.heap.size) (hh : BarsAt W B A n l) (hr : RunsAt W B A' n' rs) => rbar16_any l rs A n c A' n' c' B W hw hh hr i k j k0 r hL)
  obtain ⟨hk0, hrg⟩ := List.getElem?_eq_some_iff.1 hL.get
  have HE := Lib.hid (hrg ▸ hA.each l[k0] (List.getElem_mem hk0))
  have hok := hL.st.ok
  have hcn := hL.cnt k hkx
  have hjr := hL.st.inr
  have hst : 0 < j → S.near1 rs[k].step 2097152 = true := fun hj => by
    have h1 := hok.start 1 (by omega) (by omega)
    have h2 := hok.home
    obtain ⟨ax, ay, az⟩ := near1_out h2
    obtain ⟨bx, by', bz⟩ := near1_out h1
    rw [show S.plus rs[k].at_ rs[k].step 1 = ⟨rs[k].at_.x + 1 * rs[k].step.x, rs[k].at_.y + 1 * rs[k].step.y, rs[k].at_.z + 1 * rs[k].step.z⟩ from rfl] at bx by' bz
    simp only [S.near1, Bool.and_eq_true, decide_eq_true_eq]
    simp only [] at bx by' bz
    omega
  have HPT := Lib.hid (fun (W : World) (hw : B ≤ W.heap.size) (hh : BarAt W B r.A r.n r.b) => rpoints_any r.b rs[k] j r.A r.n r.c B W hw hh hok.bar hok.turn hok.home (by omega) hst L hLL)
  have hs' := hR.cells
  obtain ⟨b, o, hAe, hbB, _⟩ := hs'.at_ (by rw [flat_len rnC 10 rnC_len]; omega)
  subst hAe
  have c0 := hs'.row0 rnC_len hkx rfl
  have c1 := hs'.rowj rnC_len hkx 1 rfl
  have c2 := hs'.rowj rnC_len hkx 2 rfl
  have c3 := hs'.rowj rnC_len hkx 3 rfl
  have c4 := hs'.rowj rnC_len hkx 4 rfl
  have c5 := hs'.rowj rnC_len hkx 5 rfl
  have c6 := hs'.rowj rnC_len hkx 6 rfl
  have c7 := hs'.rowj rnC_len hkx 7 rfl
  have c8 := hs'.rowj rnC_len hkx 8 rfl
  have c9 := hs'.rowj rnC_len hkx 9 rfl
  have hb1 : b < w.heap.size := by omega
  clear hA hR hs' hrg hok hcn hjr hst
  generalize S.laidPath r.b rs[k] j = LP at *
  generalize rs[k] = rr at *
  unfold barV at HBR HPT
  unfold rnV at HPT
  go_enter Tryz.func156, Tryz.ntmps156
  go_wp2_with (first
    | (go_at_call 161; (with_reducible refine (HP.out _ (size_via hB (by repeat (first | exact Below.refl _ _ | assumption | refine ba_alloc ?_ _ | refine ba_drew ?_ | refine ba_drewN ?_ _ | refine ba_via (by assumption) ?_ | (refine ba_set ?_ ?_ _; rotate_left; (first | omega | (simp; omega) | simp))))) (HR.out.at_ hB (by repeat (first | exact Below.refl _ _ | assumption | refine ba_alloc ?_ _ | refine ba_drew ?_ | refine ba_drewN ?_ _ | refine ba_via (by assumption) ?_ | (refine ba_set ?_ ?_ _; rotate_left; (first | omega | (simp; omega) | simp)))))).mono ?_); rintro e w' ⟨rfl, rfl⟩))
  refine wp_region_mix 0 [3, 5] (by kernel_rfl) (by kernel_rfl) (of_decide_eq_true (by kernel_rfl)) ?_
  try simp only [wpSegs, List.take_succ_cons, List.take_zero, List.drop_succ_cons, List.drop_zero, List.take_nil, List.drop_nil]
  repeat (go_big_quiet_step (fail))
  refine wpQuiet_nil ?_
  show wpList _ _ _ _ _ _
  go_wp2_with ((go_at_call 102; (with_reducible refine (HBR.out _ (size_via hB (by repeat (with_reducible first | exact Below.refl _ _ | assumption | refine ba_alloc ?_ _ | refine ba_drew ?_ | refine ba_drewN ?_ _ | refine ba_via (by assumption) ?_ | (refine ba_set ?_ ?_ _; rotate_left; (first | omega | (simp; omega) | simp))))) (HA.out.at_ hB (by repeat (with_reducible first | exact Below.refl _ _ | assumption | refine ba_alloc ?_ _ | refine ba_drew ?_ | refine ba_drewN ?_ _ | refine ba_via (by assumption) ?_ | (refine ba_set ?_ ?_ _; rotate_left; (first | omega | (simp; omega) | simp))))) (HR.out.at_ hB (by repeat (with_reducible first | exact Below.refl _ _ | assumption | refine ba_alloc ?_ _ | refine ba_drew ?_ | refine ba_drewN ?_ _ | refine ba_via (by assumption) ?_ | (refine ba_set ?_ ?_ _; rotate_left; (first | omega | (simp; omega) | simp)))))).mono ?_); rintro e w1 ⟨rfl, hbw1⟩))
  refine seg_next (grow_to (by repeat (with_reducible first | exact Below.refl _ _ | assumption | refine ba_alloc ?_ _ | refine ba_drew ?_ | refine ba_drewN ?_ _ | refine ba_via (by assumption) ?_ | (refine ba_set ?_ ?_ _; rotate_left; (first | omega | (simp; omega) | simp))))) ?_
  try simp only [wpSegs, List.take_succ_cons, List.take_zero, List.drop_succ_cons, List.drop_zero, List.take_nil, List.drop_nil]
  repeat (go_big_quiet_step (fail))
  refine wpQuiet_nil ?_
  show wpList _ _ _ _ _ _
  go_wp2_with ((go_at_call 179; (with_reducible refine (HPT.out _ (size_via hB (by repeat (with_reducible first | exact Below.refl _ _ | assumption | refine ba_alloc ?_ _ | refine ba_drew ?_ | refine ba_drewN ?_ _ | refine ba_via (by assumption) ?_ | (refine ba_set ?_ ?_ _; rotate_left; (first | omega | (simp; omega) | simp))))) (HE.out.at_ hB (by repeat (with_reducible first | exact Below.refl _ _ | assumption | refine ba_alloc ?_ _ | refine ba_drew ?_ | refine ba_drewN ?_ _ | refine ba_via (by assumption) ?_ | (refine ba_set ?_ ?_ _; rotate_left; (first | omega | (simp; omega) | simp)))))).mono ?_); rintro e w2 ⟨A2, c2', rfl, ho2, hbw2⟩))
  refine seg_next (grow_to (by repeat (with_reducible first | exact Below.refl _ _ | assumption | refine ba_alloc ?_ _ | refine ba_drew ?_ | refine ba_drewN ?_ _ | refine ba_via (by assumption) ?_ | (refine ba_set ?_ ?_ _; rotate_left; (first | omega | (simp; omega) | simp))))) ?_
  try simp only [wpSegs, List.take_succ_cons, List.take_zero, List.drop_succ_cons, List.drop_zero, List.take_nil, List.drop_nil]
  repeat (go_big_quiet_step (fail))
  refine wpQuiet_nil ?_
  show wpList _ _ _ _ _ _
  go_wp2
  go_ret
  exact ⟨A2, c2', rfl, own_mono ho2 (show w.heap.size ≤ w1.heap.size from Below.size (w := w) (by repeat (with_reducible first | exact Below.refl _ _ | assumption | refine ba_alloc ?_ _ | refine ba_drew ?_ | refine ba_drewN ?_ _ | refine ba_via (by assumption) ?_ | (refine ba_set ?_ ?_ _; rotate_left; (first | omega | (simp; omega) | simp))))), (by repeat (with_reducible first | exact Below.refl _ _ | assumption | refine ba_alloc ?_ _ | refine ba_drew ?_ | refine ba_drewN ?_ _ | refine ba_via (by assumption) ?_ | (refine ba_set ?_ ?_ _; rotate_left; (first | omega | (simp; omega) | simp))))⟩
end Go.Proofs.YtffkmgjmlahfpaaGreat
set_option linter.unusedVariables false
set_option linter.unusedSimpArgs false
namespace Go.Proofs.YtffkmgjmlahfpaaGreat
open Go.RowKit
theorem ptD_get {l : List Pt} {k : Nat} (h : k < l.length) : l[k]? = some (S.ptD l k) := by simp [S.ptD, List.getElem?_eq_getElem h]
theorem Cells.two {w : World} {B b o : Nat} {l : List Pt} (h : Cells w B (some ⟨b, o, none⟩) (l.flatMap ptC)) {k : Nat} (hk : k + 1 < l.length) : Cells w B (some ⟨b, o + k * 3, none⟩) ([S.ptD l k, S.ptD l (k + 1)].flatMap ptC) := by
  obtain ⟨b', o', he, hb, _⟩ := h.at_ (by rw [flat_len ptC 3 ptC_len]; omega)
  injection he with he
  injection he with h1 h2
  subst h1 h2
  obtain ⟨c0, c1, c2⟩ := h.pts (ptD_get (show k < l.length by omega))
  obtain ⟨d0, d1, d2⟩ := h.pts (ptD_get hk)
  refine .inr ⟨b, o + k * 3, rfl, hb, fun j v hv => ?_⟩
  have e : o + (k + 1) * 3 = o + k * 3 + 3 := by omega
  rw [e] at d0 d1 d2
  simp only [List.flatMap_cons, List.flatMap_nil, List.append_nil, List.cons_append, List.nil_append] at hv
  have hj : j < 6 := by
    have := (List.getElem?_eq_some_iff.1 hv).1
    simpa using this
  have : j = 0 ∨ j = 1 ∨ j = 2 ∨ j = 3 ∨ j = 4 ∨ j = 5 := by omega
  rcases this with rfl | rfl | rfl | rfl | rfl | rfl
  all_goals (simp only [List.getElem?_cons_zero, List.getElem?_cons_succ, Option.some.injEq] at hv; subst hv)
  · exact c0
  · exact c1
  · exact c2
  · exact d0
  · exact d1
  · exact d2
set_option maxRecDepth 20000 in
set_option maxHeartbeats 2000000 in
theorem rlegs16_any (l : List BarR) (rs : List Rn) (A : Option Addr) (n c : Nat) (A' : Option Addr) (n' c' : Nat) (B : Nat) (w : World) (hB : B ≤ w.heap.size) (hA : BarsAt w B A n l) (hR : RunsAt w B A' n' rs) (i k j k0 : Nat) (r : BarR) (hL : Lies l rs i k j k0 r) (L : Nat) (hLL : (S.legsOf r.b.code).length = L) :
    Calls Tryz.prog 95 #[.slice A n c, .slice A' n' c', .int .i64 i] w (GivesOne 89 6 L ((S.legsL (S.laidPath r.b (rs[k]'hL.st.lt) j)).flatMap boxC) w) := by
  have HP := Lib.hid (rpoints16_any l rs A n c A' n' c' B w hB hA hR i k j k0 r hL L hLL)
  have HLP := Lib.hid (show (S.laidPath r.b (rs[k]'hL.st.lt) j).length = L + 1 by rw [laidPath_len, hLL])
  have hl6 := legs_len r.b.code
  rw [hLL] at hl6
  clear hA hR
  generalize S.laidPath r.b (rs[k]'hL.st.lt) j = LP at *
  clear hL hLL
  have HLN := Lib.hid (show (S.legsL LP).length = L by rw [S.legsL, legsTo_len, HLP.out]; rfl)
  have HLL := Lib.hid (show S.legsL LP = S.legsTo LP L by rw [S.legsL, HLP.out]; rfl)
  have HLS := Lib.hid (fun m => legsTo_snoc LP m)
  have HTW := Lib.hid (fun (p q : Pt) (W : World) (A : Option Addr) (c B' : Nat) (hw : B' ≤ W.heap.size) (hs : Cells W B' A ([p, q].flatMap ptC)) => hull_two p q ▸ rhull_any A 2 c [p, q] p B' W rfl (by omega) hw hs rfl)
  go_enter Tryz.func95, Tryz.ntmps95
  go_wp2_with (first
    | (go_at_call 156; (with_reducible refine (HP.out).mono ?_); rintro e w1 ⟨Aw1, cw1, rfl, how1, hbw1⟩; obtain ⟨hcw1, hfw1⟩ := bcell hbw1))
  have hs1 := (own_cells how1 (by unfold maxLen; omega)).1
  have hcw := (own_cells how1 (by unfold maxLen; omega)).2.1
  have hbw : Below w.heap.size w w1 := hbw1
  clear hcw1 hfw1 how1
  go_loopw [8, 9] (fun v i wr => ∃ (q : Nat) (A3 : Option Addr) (c3 : Nat), q ≤ L ∧ i = .int .i64 ((q + 1 : Nat) : Int) ∧ v = .slice A3 q c3 ∧ Row w1 wr none w.heap.size 89 6 (.slice A3 q c3) q ((S.legsTo LP q).flatMap boxC) ∧ Exc [] w1 wr) (fun _ i _ => L + 1 - (intOf i).toNat)
  case atStart => exact ⟨0, none, 0, Nat.zero_le _, rfl, rfl, by simpa [S.legsTo] using Row.none_ _ _ _ _, Exc.refl _ _⟩
  case round =>
    obtain ⟨q, A3, c3, hq, rfl, rfl, hRW, hX⟩ := hrel
    have hbx : Below w1.heap.size w1 wr := hX.below (Nat.le_refl _) (by simp)
    have hsz := hbx.size
    by_cases hlt : q < L
    · have hs' := hs1.below hbx
      obtain ⟨b4, o4, rfl, hbl, _⟩ := hs'.at_ (by rw [flat_len ptC 3 ptC_len, HLP.out]; omega)
      have hs2 := Cells.two (k := q) hs' (by have := HLP.out; omega)
      have HTq := Lib.hid (fun (W : World) (A : Option Addr) (c B' : Nat) (hw : B' ≤ W.heap.size) (hs : Cells W B' A ([S.ptD LP q, S.ptD LP (q + 1)].flatMap ptC)) => HTW.out _ _ W A c B' hw hs)
      have HSq := Lib.hid (show (S.legsTo LP (q + 1)).flatMap boxC = (S.legsTo LP q).flatMap boxC ++ boxC (S.legB (S.ptD LP q) (S.ptD LP (q + 1))) by rw [HLS.out, List.flatMap_append]; simp)
      generalize S.legB (S.ptD LP q) (S.ptD LP (q + 1)) = X at *
      generalize [S.ptD LP q, S.ptD LP (q + 1)].flatMap ptC = P2 at *
      have hki : (q : Int) + 1 < (L : Int) + 1 := by omega
      have hq6 : q ≤ 6 := by omega
      have hcp : q + 1 + 1 ≤ cw1 := by omega
      have hcpi : (q : Int) + 1 + 1 ≤ (cw1 : Int) := by omega
      have e2 : q + 1 + 1 - q = 2 := by omega
      go_wp2_with (first
        | (go_at_call 157; (with_reducible refine (HTq.out _ _ _ _ (Nat.le_trans (Nat.le_refl _) hsz) hs2).mono ?_); rintro e w2 ⟨rfl, hbw2⟩; obtain ⟨hcw2, hfw2⟩ := bcell hbw2)
        | (at_builtin; refine wpList_push rfl (.tmp 20) (.tmp 28) _ rfl elemBx ((hRW.via hbw2).alloc _) ((Exc.via hbw2 hX).alloc _) (by simp) hbw.size rfl (w2.heap.size) 1 1 [.int .i64 X.lo.x, .int .i64 X.lo.y, .int .i64 X.lo.z, .int .i64 X.hi.x, .int .i64 X.hi.y, .int .i64 X.hi.z] rfl rfl ?_ (by simp [Value.oneCell']) (by unfold maxLen; omega) (by omega) ?_; (· intro j u hu; exact by have := (Cells.newRow w2 #[.int .i64 X.lo.x, .int .i64 X.lo.y, .int .i64 X.lo.z, .int .i64 X.hi.x, .int .i64 X.hi.y, .int .i64 X.hi.z] 89 (0, 0)).get (k := j) (v := u) hu; rwa [Nat.zero_add] at this); intro v' w' hR' hX' hO'))
      obtain ⟨A5, c5, rfl, _, _, _⟩ := own_form hR'.own
      go_roundw
      case rel => exact ⟨q + 1, A5, c5, by omega, by go_num, rfl, by rw [HSq.out]; exact hR', hX'⟩
      case measure => simp [intOf]; omega
    · have he : q = L := by omega
      subst he
      have hki : ¬ (q : Int) + 1 < (q : Int) + 1 := by omega
      go_wp2
      go_ret
      refine ⟨A3, c3, rfl, ?_, ba_via hbx hbw⟩
      have := hRW.own
      rwa [← HLL.out] at this
end Go.Proofs.YtffkmgjmlahfpaaGreat
set_option linter.unusedVariables false
set_option linter.unusedSimpArgs false
namespace Go.Proofs.YtffkmgjmlahfpaaGreat
open Go.RowKit
theorem ret_s {a b : ByteArray} (h : a = b) : Ending.returned (.string a) = .returned (.string b) := by rw [h]
theorem mnOf_size (s : Int) (m : ByteArray) (o : Option Bx) : (S.mnOf s m o).size = s := by cases o <;> rfl
theorem mnOf_mark (s : Int) (m : ByteArray) (o : Option Bx) : (S.mnOf s m o).mark = m := by cases o <;> rfl
set_option maxRecDepth 20000 in
set_option maxHeartbeats 2000000 in
theorem rmain_any (x : Dt) (B : Nat) (w : World) (hB : B ≤ w.heap.size) (hA : DtAt w B x) (h : S.laid (bars x.bs) x.rs = true) (i : Nat) (m : Mn) (hm : (S.mains (bars x.bs) x.rs)[i]? = some m) :
    Calls Tryz.prog 43 #[dtV x, .int .i64 i] w fun e w' => e = .returned (.tuple #[boxV m.leg, .bool m.has]) ∧ Below w.heap.size w w' := by
  obtain ⟨k, j, k0, r, hL⟩ := lies_of h (List.getElem?_eq_some_iff.1 hm).1
  have hmn : m = S.mnOf r.b.size r.b.mark (S.mainLeg (S.laidPath r.b (x.rs[k]'hL.st.lt) j)) := by
    have := hL.st.get
    rw [hm] at this
    injection this
  have HA := Lib.hid hA
  have hl6 := legs_len r.b.code
  have hlp := laidPath_len r.b (x.rs[k]'hL.st.lt) j
  have HLG := Lib.hid (fun (W : World) (hw : B ≤ W.heap.size) (hh : DtAt W B x) => rlegs16_any x.bs x.rs x.bA x.bn x.bc x.rA x.rn x.rc B W hw hh.bars hh.runs i k j k0 r hL _ rfl)
  have hln : (S.legsL (S.laidPath r.b (x.rs[k]'hL.st.lt) j)).length = (S.legsOf r.b.code).length := by rw [S.legsL, legsTo_len, hlp]; rfl
  clear hA hm
  generalize S.laidPath r.b (x.rs[k]'hL.st.lt) j = LP at *
  cases hml : S.mainLeg LP with
  | none =>
    have hid := main_none (by omega) hml
    have HMG := Lib.hid (fun (W : World) (A : Option Addr) (c B' : Nat) (hw : B' ≤ W.heap.size) (hs : Cells W B' A ((S.legsL LP).flatMap boxC)) => hid ▸ mainleg_any A (S.legsOf r.b.code).length c (S.legsL LP) B' W hln (by omega) hw hs)
    rw [hml] at hmn
    subst hmn
    unfold dtV
    go_enter Tryz.func43, Tryz.ntmps43
    go_wp2_with (first
      | (go_at_call 95; (with_reducible refine (HLG.out _ (size_via hB (by repeat (first | exact Below.refl _ _ | assumption | refine ba_alloc ?_ _ | refine ba_drew ?_ | refine ba_drewN ?_ _ | refine ba_via (by assumption) ?_ | (refine ba_set ?_ ?_ _; rotate_left; (first | omega | (simp; omega) | simp))))) (HA.out.at_ hB (by repeat (first | exact Below.refl _ _ | assumption | refine ba_alloc ?_ _ | refine ba_drew ?_ | refine ba_drewN ?_ _ | refine ba_via (by assumption) ?_ | (refine ba_set ?_ ?_ _; rotate_left; (first | omega | (simp; omega) | simp)))))).mono ?_); rintro e w1 ⟨Aw1, cw1, rfl, how1, hbw1⟩; obtain ⟨hcw1, hfw1⟩ := bcell hbw1; have hzw1_0 : w.heap.size < w1.heap.size := lt_via hbw1 (by first | omega | (simp; done) | (simp; omega)); have hzw1_1 : w.heap.size + 1 < w1.heap.size := lt_via hbw1 (by first | omega | (simp; done) | (simp; omega)))
      | (go_at_call 96; (with_reducible refine (HMG.out _ _ _ _ (Nat.le_refl _) (own_cells how1 (by unfold maxLen; omega)).1).mono ?_); rintro e w2 ⟨rfl, hbw2⟩; obtain ⟨hcw2, hfw2⟩ := bcell hbw2; have hzw2_0 : w.heap.size < w2.heap.size := lt_via hbw2 (by first | omega | (simp; done) | (simp; omega)); have hzw2_1 : w.heap.size + 1 < w2.heap.size := lt_via hbw2 (by first | omega | (simp; done) | (simp; omega))))
    have hbel : Below w.heap.size w w2 := (by repeat (first | exact Below.refl _ _ | assumption | refine ba_alloc ?_ _ | refine ba_drew ?_ | refine ba_drewN ?_ _ | refine ba_via (by assumption) ?_ | (refine ba_set ?_ ?_ _; rotate_left; (first | omega | (simp; omega) | simp))))
    exact bodyPost_ret (v := .tuple #[.agg #[.int .i64 0, .int .i64 0, .int .i64 0, .int .i64 0, .int .i64 0, .int .i64 0], .bool false]) (by simp [results, Tryz.results43, go_sem, *]) rfl ⟨rfl, ((((((hbel.setCell (Nat.le_succ _) _).setCell (Nat.le_succ _) _).setCell (Nat.le_succ _) _).setCell (Nat.le_succ _) _).setCell (Nat.le_succ _) _).setCell (Nat.le_succ _) _)⟩
  | some b =>
    obtain ⟨jj, hid, hg, hjj⟩ := main_some (by omega) hml
    have HMG := Lib.hid (fun (W : World) (A : Option Addr) (c B' : Nat) (hw : B' ≤ W.heap.size) (hs : Cells W B' A ((S.legsL LP).flatMap boxC)) => hid ▸ mainleg_any A (S.legsOf r.b.code).length c (S.legsL LP) B' W hln (by omega) hw hs)
    rw [hml] at hmn
    subst hmn
    have HG := Lib.hid hg
    have hjl : jj < (S.legsOf r.b.code).length := by omega
    have hji : (jj : Int) < ((S.legsOf r.b.code).length : Int) := by omega
    clear hid hg
    unfold dtV
    go_enter Tryz.func43, Tryz.ntmps43
    go_wp2_with (first
      | (go_at_call 95; (with_reducible refine (HLG.out _ (size_via hB (by repeat (first | exact Below.refl _ _ | assumption | refine ba_alloc ?_ _ | refine ba_drew ?_ | refine ba_drewN ?_ _ | refine ba_via (by assumption) ?_ | (refine ba_set ?_ ?_ _; rotate_left; (first | omega | (simp; omega) | simp))))) (HA.out.at_ hB (by repeat (first | exact Below.refl _ _ | assumption | refine ba_alloc ?_ _ | refine ba_drew ?_ | refine ba_drewN ?_ _ | refine ba_via (by assumption) ?_ | (refine ba_set ?_ ?_ _; rotate_left; (first | omega | (simp; omega) | simp)))))).mono ?_); rintro e w1 ⟨Aw1, cw1, rfl, how1, hbw1⟩; obtain ⟨hcw1, hfw1⟩ := bcell hbw1; have hzw1_0 : w.heap.size < w1.heap.size := lt_via hbw1 (by first | omega | (simp; done) | (simp; omega)); have hzw1_1 : w.heap.size + 1 < w1.heap.size := lt_via hbw1 (by first | omega | (simp; done) | (simp; omega)))
      | (go_at_call 96; (with_reducible refine (HMG.out _ _ _ _ (Nat.le_refl _) (own_cells how1 (by unfold maxLen; omega)).1).mono ?_); rintro e w2 ⟨rfl, hbw2⟩; obtain ⟨hcw2, hfw2⟩ := bcell hbw2
         have hzw2_0 : w.heap.size < w2.heap.size := lt_via hbw2 (by first | omega | (simp; done) | (simp; omega))
         have hzw2_1 : w.heap.size + 1 < w2.heap.size := lt_via hbw2 (by first | omega | (simp; done) | (simp; omega))
         have hsL := (own_cells how1 (by unfold maxLen; omega)).1
         obtain ⟨b4, o4, rfl, hbl4, hxx⟩ := hsL.at_ (by rw [flat_len boxC 6 boxC_len, hln]; omega)
         clear hxx
         obtain ⟨c0, c1, c2, c3, c4, c5⟩ := hsL.boxes HG.out))
    have hbel : Below w.heap.size w w2 := (by repeat (first | exact Below.refl _ _ | assumption | refine ba_alloc ?_ _ | refine ba_drew ?_ | refine ba_drewN ?_ _ | refine ba_via (by assumption) ?_ | (refine ba_set ?_ ?_ _; rotate_left; (first | omega | (simp; omega) | simp))))
    exact bodyPost_ret (v := .tuple #[.agg #[.int .i64 b.lo.x, .int .i64 b.lo.y, .int .i64 b.lo.z, .int .i64 b.hi.x, .int .i64 b.hi.y, .int .i64 b.hi.z], .bool true]) (by simp [results, Tryz.results43, go_sem, *]) rfl ⟨rfl, ((((((hbel.setCell (Nat.le_succ _) _).setCell (Nat.le_succ _) _).setCell (Nat.le_succ _) _).setCell (Nat.le_succ _) _).setCell (Nat.le_succ _) _).setCell (Nat.le_succ _) _)⟩
set_option maxRecDepth 20000 in
set_option maxHeartbeats 2000000 in
theorem rsize25_any (x : Dt) (B : Nat) (w : World) (hB : B ≤ w.heap.size) (hA : DtAt w B x) (h : S.laid (bars x.bs) x.rs = true) (i : Nat) (m : Mn) (hm : (S.mains (bars x.bs) x.rs)[i]? = some m) :
    Calls Tryz.prog 47 #[dtV x, .int .i64 i] w fun e w' => e = .returned (.int .i64 m.size) ∧ Below w.heap.size w w' := by
  obtain ⟨k, j, k0, r, hL⟩ := lies_of h (List.getElem?_eq_some_iff.1 hm).1
  have hmn : m = S.mnOf r.b.size r.b.mark (S.mainLeg (S.laidPath r.b (x.rs[k]'hL.st.lt) j)) := by
    have := hL.st.get
    rw [hm] at this
    injection this
  have HE := Lib.hid (show m.size = r.b.size by rw [hmn, mnOf_size])
  have HA := Lib.hid hA
  have HLG := Lib.hid (fun (W : World) (hw : B ≤ W.heap.size) (hh : DtAt W B x) => rbar16_any x.bs x.rs x.bA x.bn x.bc x.rA x.rn x.rc B W hw hh.bars hh.runs i k j k0 r hL)
  clear hA hm hmn hL
  unfold dtV
  unfold barV at HLG
  have f1 : ∀ W, (Instr.field 158 (.agg #[.string r.b.mark, .int .i64 r.b.size, .int .i64 r.b.count, .int .i64 r.b.code, .slice r.A r.n r.c]) 1).run Tryz.prog W = .ok (.int .i64 r.b.size) W := fun _ => by kernel_rfl
  go_enter Tryz.func47, Tryz.ntmps47
  go_wp2_with (first
    | (go_at_call 102; (with_reducible refine (HLG.out _ (size_via hB (by repeat (first | exact Below.refl _ _ | assumption | refine ba_alloc ?_ _ | refine ba_drew ?_ | refine ba_drewN ?_ _ | refine ba_via (by assumption) ?_ | (refine ba_set ?_ ?_ _; rotate_left; (first | omega | (simp; omega) | simp))))) (HA.out.at_ hB (by repeat (first | exact Below.refl _ _ | assumption | refine ba_alloc ?_ _ | refine ba_drew ?_ | refine ba_drewN ?_ _ | refine ba_via (by assumption) ?_ | (refine ba_set ?_ ?_ _; rotate_left; (first | omega | (simp; omega) | simp)))))).mono ?_); rintro e w1 ⟨rfl, hbw1⟩; obtain ⟨hcw1, hfw1⟩ := bcell hbw1; have hzw1_0 : w.heap.size < w1.heap.size := lt_via hbw1 (by first | omega | (simp; done) | (simp; omega))))
  go_ret
  exact ⟨ret_i HE.out.symm, (by repeat (first | exact Below.refl _ _ | assumption | refine ba_alloc ?_ _ | refine ba_drew ?_ | refine ba_drewN ?_ _ | refine ba_via (by assumption) ?_ | (refine ba_set ?_ ?_ _; rotate_left; (first | omega | (simp; omega) | simp))))⟩
set_option maxRecDepth 20000 in
set_option maxHeartbeats 2000000 in
theorem rmark25_any (x : Dt) (B : Nat) (w : World) (hB : B ≤ w.heap.size) (hA : DtAt w B x) (h : S.laid (bars x.bs) x.rs = true) (i : Nat) (m : Mn) (hm : (S.mains (bars x.bs) x.rs)[i]? = some m) :
    Calls Tryz.prog 75 #[dtV x, .int .i64 i] w fun e w' => e = .returned (.string m.mark) ∧ Below w.heap.size w w' := by
  obtain ⟨k, j, k0, r, hL⟩ := lies_of h (List.getElem?_eq_some_iff.1 hm).1
  have hmn : m = S.mnOf r.b.size r.b.mark (S.mainLeg (S.laidPath r.b (x.rs[k]'hL.st.lt) j)) := by
    have := hL.st.get
    rw [hm] at this
    injection this
  have HE := Lib.hid (show m.mark = r.b.mark by rw [hmn, mnOf_mark])
  have HA := Lib.hid hA
  have HLG := Lib.hid (fun (W : World) (hw : B ≤ W.heap.size) (hh : DtAt W B x) => rbar16_any x.bs x.rs x.bA x.bn x.bc x.rA x.rn x.rc B W hw hh.bars hh.runs i k j k0 r hL)
  clear hA hm hmn hL
  unfold dtV
  unfold barV at HLG
  have f1 : ∀ W, (Instr.field 158 (.agg #[.string r.b.mark, .int .i64 r.b.size, .int .i64 r.b.count, .int .i64 r.b.code, .slice r.A r.n r.c]) 0).run Tryz.prog W = .ok (.string r.b.mark) W := fun _ => by kernel_rfl
  go_enter Tryz.func75, Tryz.ntmps75
  go_wp2_with (first
    | (go_at_call 102; (with_reducible refine (HLG.out _ (size_via hB (by repeat (first | exact Below.refl _ _ | assumption | refine ba_alloc ?_ _ | refine ba_drew ?_ | refine ba_drewN ?_ _ | refine ba_via (by assumption) ?_ | (refine ba_set ?_ ?_ _; rotate_left; (first | omega | (simp; omega) | simp))))) (HA.out.at_ hB (by repeat (first | exact Below.refl _ _ | assumption | refine ba_alloc ?_ _ | refine ba_drew ?_ | refine ba_drewN ?_ _ | refine ba_via (by assumption) ?_ | (refine ba_set ?_ ?_ _; rotate_left; (first | omega | (simp; omega) | simp)))))).mono ?_); rintro e w1 ⟨rfl, hbw1⟩; obtain ⟨hcw1, hfw1⟩ := bcell hbw1; have hzw1_0 : w.heap.size < w1.heap.size := lt_via hbw1 (by first | omega | (simp; done) | (simp; omega))))
  go_ret
  exact ⟨ret_s HE.out.symm, (by repeat (first | exact Below.refl _ _ | assumption | refine ba_alloc ?_ _ | refine ba_drew ?_ | refine ba_drewN ?_ _ | refine ba_via (by assumption) ?_ | (refine ba_set ?_ ?_ _; rotate_left; (first | omega | (simp; omega) | simp))))⟩
theorem laid_len {bs : List Bar} {rs : List Rn} (h : S.laid bs rs = true) : ((S.mains bs rs).length : Int) = S.sumAll rs := by
  simp only [S.laid, Bool.and_eq_true, decide_eq_true_eq] at h
  have := mains_sum h.1.1 (fun r hr => runs_in h.2 hr) (k := rs.length) (Nat.le_refl _)
  rwa [List.take_length] at this
theorem rcount25_any (x : Dt) (B : Nat) (w : World) (hB : B ≤ w.heap.size) (hA : DtAt w B x) (h : S.laid (bars x.bs) x.rs = true) :
    Calls Tryz.prog 42 #[dtV x] w fun e w' => e = .returned (.int .i64 (S.mains (bars x.bs) x.rs).length) ∧ Below w.heap.size w w' := by
  have HA := Lib.hid hA
  have hrs : ∀ k (hk : k < x.rs.length), 0 ≤ x.rs[k].count ∧ x.rs[k].count ≤ 1000 := fun k hk => by
    have h2 := h
    simp only [S.laid, Bool.and_eq_true, decide_eq_true_eq] at h2
    have := right_count (runs_in h2.2 (List.getElem_mem hk))
    omega
  have h60 : x.rn ≤ 60 := by
    have h2 := h
    simp only [S.laid, Bool.and_eq_true, decide_eq_true_eq] at h2
    have := hA.runs.len
    omega
  have HC := Lib.hid (fun (W : World) (hw : B ≤ W.heap.size) (hh : DtAt W B x) => (laid_len h).symm ▸ rcount16_any x.rs x.rA x.rn x.rc B W hw hh.runs h60 hrs)
  clear hA hrs h60 h
  unfold dtV
  go_enter Tryz.func42, Tryz.ntmps42
  go_wp2_with (first
    | (go_at_call 94; (with_reducible refine (HC.out _ (size_via hB (by repeat (first | exact Below.refl _ _ | assumption | refine ba_alloc ?_ _ | refine ba_drew ?_ | refine ba_drewN ?_ _ | refine ba_via (by assumption) ?_ | (refine ba_set ?_ ?_ _; rotate_left; (first | omega | (simp; omega) | simp))))) (HA.out.at_ hB (by repeat (first | exact Below.refl _ _ | assumption | refine ba_alloc ?_ _ | refine ba_drew ?_ | refine ba_drewN ?_ _ | refine ba_via (by assumption) ?_ | (refine ba_set ?_ ?_ _; rotate_left; (first | omega | (simp; omega) | simp)))))).mono ?_); rintro e w' ⟨rfl, rfl⟩))
  go_ret
  exact ⟨rfl, (by repeat (first | exact Below.refl _ _ | assumption | refine ba_alloc ?_ _ | refine ba_drew ?_ | refine ba_drewN ?_ _ | refine ba_via (by assumption) ?_ | (refine ba_set ?_ ?_ _; rotate_left; (first | omega | (simp; omega) | simp))))⟩
end Go.Proofs.YtffkmgjmlahfpaaGreat
set_option linter.unusedVariables false
set_option linter.unusedSimpArgs false
namespace Go.Proofs.YtffkmgjmlahfpaaGreat
open Go.RowKit
theorem jointOk_in {l : List Mn} {j : Jn} {i k : Nat} (hi : j.first = (i : Int)) (hk : j.second = (k : Int)) (h : S.jointIn l j = true) {a b : Mn} (ha : l[i]? = some a) (hb : l[k]? = some b) : S.jointOk l j = S.jointOn a b := by
  unfold S.jointOk
  rw [h, hi, hk]
  simp [ha, hb]
set_option maxRecDepth 20000 in
set_option maxHeartbeats 4000000 in
theorem rjoint_in (x : Dt) (B : Nat) (w : World) (hB : B ≤ w.heap.size) (hA : DtAt w B x) (h : S.laid (bars x.bs) x.rs = true) (i k : Nat) (a b : Mn) (ha : (S.mains (bars x.bs) x.rs)[i]? = some a) (hb : (S.mains (bars x.bs) x.rs)[k]? = some b) :
    Calls Tryz.prog 64 #[dtV x, .agg #[.int .i64 i, .int .i64 k]] w fun e w' => e = .returned (.bool (S.jointOn a b)) ∧ Below w.heap.size w w' := by
  have HA := Lib.hid hA
  have HC := Lib.hid (fun (W : World) (hw : B ≤ W.heap.size) (hh : DtAt W B x) => rcount25_any x B W hw hh h)
  have HM1 := Lib.hid (fun (W : World) (hw : B ≤ W.heap.size) (hh : DtAt W B x) => rmain_any x B W hw hh h i a ha)
  have HM2 := Lib.hid (fun (W : World) (hw : B ≤ W.heap.size) (hh : DtAt W B x) => rmain_any x B W hw hh h k b hb)
  have HE := Lib.hid (show S.jointOn a b = (a.has && b.has && decide (a.leg.lo.x < b.leg.lo.x) && decide (a.leg.hi.x < b.leg.hi.x) && decide (b.leg.lo.x ≤ a.leg.hi.x)) from rfl)
  have hil := (List.getElem?_eq_some_iff.1 ha).1
  have hkl := (List.getElem?_eq_some_iff.1 hb).1
  have hii : (i : Int) < ((S.mains (bars x.bs) x.rs).length : Int) := by omega
  have hki : (k : Int) < ((S.mains (bars x.bs) x.rs).length : Int) := by omega
  have hDB : Blk ((w.alloc (.cells #[.string x.m.name, .slice x.mA x.mn x.mc, .slice x.hA x.hn x.hc, .int .i64 x.m.cover, .int .i64 x.m.aggr, .int .i64 x.m.poker, .slice x.bA x.bn x.bc, .slice x.rA x.rn x.rc, .slice x.jA x.jn x.jc, .slice x.dA x.dn x.dc, .int .i64 x.rule.num, .int .i64 x.rule.den, .int .i64 x.rule.pnum, .int .i64 x.rule.pden, .int .i64 x.rule.bnum, .int .i64 x.rule.bden, .int .i64 x.rule.lnum, .int .i64 x.rule.lden, .int .i64 x.rule.least] 34)).alloc (.cells #[.int .i64 i, .int .i64 k] 124)) w.heap.size 34 #[.string x.m.name, .slice x.mA x.mn x.mc, .slice x.hA x.hn x.hc, .int .i64 x.m.cover, .int .i64 x.m.aggr, .int .i64 x.m.poker, .slice x.bA x.bn x.bc, .slice x.rA x.rn x.rc, .slice x.jA x.jn x.jc, .slice x.dA x.dn x.dc, .int .i64 x.rule.num, .int .i64 x.rule.den, .int .i64 x.rule.pnum, .int .i64 x.rule.pden, .int .i64 x.rule.bnum, .int .i64 x.rule.bden, .int .i64 x.rule.lnum, .int .i64 x.rule.lden, .int .i64 x.rule.least] := (Blk.new w 34 #[.string x.m.name, .slice x.mA x.mn x.mc, .slice x.hA x.hn x.hc, .int .i64 x.m.cover, .int .i64 x.m.aggr, .int .i64 x.m.poker, .slice x.bA x.bn x.bc, .slice x.rA x.rn x.rc, .slice x.jA x.jn x.jc, .slice x.dA x.dn x.dc, .int .i64 x.rule.num, .int .i64 x.rule.den, .int .i64 x.rule.pnum, .int .i64 x.rule.pden, .int .i64 x.rule.bnum, .int .i64 x.rule.bden, .int .i64 x.rule.lnum, .int .i64 x.rule.lden, .int .i64 x.rule.least]).alloc _
  clear hA ha hb hil hkl h
  generalize (S.mains (bars x.bs) x.rs).length = n at *
  have hRG := hDB.range
  have HDB := Lib.hid hDB
  clear hDB
  unfold dtV at HC HM1 HM2
  unfold dtV
  go_enter Tryz.func64, Tryz.ntmps64
  go_upto_region 2 with (first
    | (refine wpList_load_mid rfl 34 (.tmp 2) rfl _ _ rfl _ _ hRG Tryz.underlying34 rfl (by kernel_rfl) ?_)
    | (go_at_call 42; (with_reducible refine (HC.out _ (size_via hB (by repeat (first | exact Below.refl _ _ | assumption | refine ba_alloc ?_ _ | refine ba_drew ?_ | refine ba_drewN ?_ _ | refine ba_via (by assumption) ?_ | (refine ba_set ?_ ?_ _; rotate_left; (first | omega | (simp; omega) | simp))))) (HA.out.at_ hB (by repeat (first | exact Below.refl _ _ | assumption | refine ba_alloc ?_ _ | refine ba_drew ?_ | refine ba_drewN ?_ _ | refine ba_via (by assumption) ?_ | (refine ba_set ?_ ?_ _; rotate_left; (first | omega | (simp; omega) | simp)))))).mono ?_); rintro e w1 ⟨rfl, hbw1⟩; obtain ⟨hcw1, hfw1⟩ := bcell hbw1; have hzw1_0 : w.heap.size < w1.heap.size := lt_via hbw1 (by first | omega | (simp; done) | (simp; omega)); have hzw1_1 : w.heap.size + 1 < w1.heap.size := lt_via hbw1 (by first | omega | (simp; done) | (simp; omega))))
  have hRG1 := (HDB.out.via hbw1).range
  have hi0 : ¬ (i : Int) < 0 := by omega
  have hk0 : ¬ (k : Int) < 0 := by omega
  have hi1 : ¬ (n : Int) ≤ (i : Int) := by omega
  have hk1 : ¬ (n : Int) ≤ (k : Int) := by omega
  have hJ0 : w1.cell? ⟨w.heap.size + 1, 0, none⟩ = some (.int .i64 i) := by
    have := (Blk.via (by simpa using Blk.new (w.alloc (.cells #[.string x.m.name, .slice x.mA x.mn x.mc, .slice x.hA x.hn x.hc, .int .i64 x.m.cover, .int .i64 x.m.aggr, .int .i64 x.m.poker, .slice x.bA x.bn x.bc, .slice x.rA x.rn x.rc, .slice x.jA x.jn x.jc, .slice x.dA x.dn x.dc, .int .i64 x.rule.num, .int .i64 x.rule.den, .int .i64 x.rule.pnum, .int .i64 x.rule.pden, .int .i64 x.rule.bnum, .int .i64 x.rule.bden, .int .i64 x.rule.lnum, .int .i64 x.rule.lden, .int .i64 x.rule.least] 34)) 124 #[.int .i64 i, .int .i64 k]) hbw1).cell 0
    simpa using this
  have hJ1 : w1.cell? ⟨w.heap.size + 1, 1, none⟩ = some (.int .i64 k) := by
    have := (Blk.via (by simpa using Blk.new (w.alloc (.cells #[.string x.m.name, .slice x.mA x.mn x.mc, .slice x.hA x.hn x.hc, .int .i64 x.m.cover, .int .i64 x.m.aggr, .int .i64 x.m.poker, .slice x.bA x.bn x.bc, .slice x.rA x.rn x.rc, .slice x.jA x.jn x.jc, .slice x.dA x.dn x.dc, .int .i64 x.rule.num, .int .i64 x.rule.den, .int .i64 x.rule.pnum, .int .i64 x.rule.pden, .int .i64 x.rule.bnum, .int .i64 x.rule.bden, .int .i64 x.rule.lnum, .int .i64 x.rule.lden, .int .i64 x.rule.least] 34)) 124 #[.int .i64 i, .int .i64 k]) hbw1).cell 1
    simpa using this
  have hbv1 : Below w.heap.size w w1 := (by repeat (first | exact Below.refl _ _ | assumption | refine ba_alloc ?_ _ | refine ba_drew ?_ | refine ba_drewN ?_ _ | refine ba_via (by assumption) ?_ | (refine ba_set ?_ ?_ _; rotate_left; (first | omega | (simp; omega) | simp))))
  have HDB1 := Lib.hid (HDB.out.via hbw1)
  clear hcw1 hfw1
  clear hRG HDB hbw1 HC
  go_upto_region 5 with (first
    | (refine wpList_load_mid rfl 34 (.tmp 2) rfl _ _ rfl _ _ hRG1 Tryz.underlying34 rfl (by kernel_rfl) ?_)
    | (go_at_call 43; (with_reducible refine (HM1.out _ (size_via hB (by repeat (first | exact Below.refl _ _ | assumption | refine ba_alloc ?_ _ | refine ba_drew ?_ | refine ba_drewN ?_ _ | refine ba_via (by assumption) ?_ | (refine ba_set ?_ ?_ _; rotate_left; (first | omega | (simp; omega) | simp))))) (HA.out.at_ hB (by repeat (first | exact Below.refl _ _ | assumption | refine ba_alloc ?_ _ | refine ba_drew ?_ | refine ba_drewN ?_ _ | refine ba_via (by assumption) ?_ | (refine ba_set ?_ ?_ _; rotate_left; (first | omega | (simp; omega) | simp)))))).mono ?_); rintro e w2 ⟨rfl, hbw2⟩; obtain ⟨hcw2, hfw2⟩ := bcell hbw2))
  have hbv2 : Below w.heap.size w w2 := (by repeat (first | exact Below.refl _ _ | assumption | refine ba_alloc ?_ _ | refine ba_drew ?_ | refine ba_drewN ?_ _ | refine ba_via (by assumption) ?_ | (refine ba_set ?_ ?_ _; rotate_left; (first | omega | (simp; omega) | simp))))
  have hRG2 : (w2.alloc (.cells #[.int .i64 a.leg.lo.x, .int .i64 a.leg.lo.y, .int .i64 a.leg.lo.z, .int .i64 a.leg.hi.x, .int .i64 a.leg.hi.y, .int .i64 a.leg.hi.z] 89)).rangeAt w.heap.size 0 [.string x.m.name, .slice x.mA x.mn x.mc, .slice x.hA x.hn x.hc, .int .i64 x.m.cover, .int .i64 x.m.aggr, .int .i64 x.m.poker, .slice x.bA x.bn x.bc, .slice x.rA x.rn x.rc, .slice x.jA x.jn x.jc, .slice x.dA x.dn x.dc, .int .i64 x.rule.num, .int .i64 x.rule.den, .int .i64 x.rule.pnum, .int .i64 x.rule.pden, .int .i64 x.rule.bnum, .int .i64 x.rule.bden, .int .i64 x.rule.lnum, .int .i64 x.rule.lden, .int .i64 x.rule.least] := ((HDB1.out.via hbw2).alloc _).range
  have hz2 : w.heap.size + 1 < w2.heap.size := lt_via hbw2 hzw1_1
  have hb1 := (Blk.new w2 89 #[.int .i64 a.leg.lo.x, .int .i64 a.leg.lo.y, .int .i64 a.leg.lo.z, .int .i64 a.leg.hi.x, .int .i64 a.leg.hi.y, .int .i64 a.leg.hi.z])
  clear HM1 HDB1 hRG1
  cases hb : b.has
  all_goals (
    rw [hb] at HM2 HE
    clear hb
    go_upto_region 6 with (first
      | (refine wpList_load_mid rfl 34 (.tmp 2) rfl _ _ rfl _ _ hRG2 Tryz.underlying34 rfl (by kernel_rfl) ?_)
      | (go_at_call 43; (with_reducible refine (HM2.out _ (size_via hB (by repeat (first | exact Below.refl _ _ | assumption | refine ba_alloc ?_ _ | refine ba_drew ?_ | refine ba_drewN ?_ _ | refine ba_via (by assumption) ?_ | (refine ba_set ?_ ?_ _; rotate_left; (first | omega | (simp; omega) | simp))))) (HA.out.at_ hB (by repeat (first | exact Below.refl _ _ | assumption | refine ba_alloc ?_ _ | refine ba_drew ?_ | refine ba_drewN ?_ _ | refine ba_via (by assumption) ?_ | (refine ba_set ?_ ?_ _; rotate_left; (first | omega | (simp; omega) | simp)))))).mono ?_); rintro e w3 ⟨rfl, hbw3⟩; obtain ⟨hcw3, hfw3⟩ := bcell hbw3))
    have hbv3 : Below w.heap.size w w3 := ba_via hbw3 (ba_alloc hbv2 _)
    have hx := hb1.via hbw3
    have hx0 := hx.cell 0
    have hx3 := hx.cell 3
    have hlx := hx.lt
    simp only [List.getElem?_toArray, List.getElem?_cons_zero, List.getElem?_cons_succ] at hx0 hx3
    clear hcw3 hfw3 hcw2 hfw2
    clear hx
    cases ha : a.has
    all_goals (
      rw [ha] at HE
      go_wp2
      all_goals (go_ret; exact ⟨ret_b (by rw [HE.out, Bool.eq_iff_iff]; all_goals (first | (simp; done) | (simp; omega))), ba_alloc hbv3 _⟩)))
set_option maxRecDepth 20000 in
set_option maxHeartbeats 4000000 in
theorem rjoint_out (x : Dt) (jn : Jn) (B : Nat) (w : World) (hB : B ≤ w.heap.size) (hA : DtAt w B x) (hl : S.laid (bars x.bs) x.rs = true) (h : S.jointIn (S.mains (bars x.bs) x.rs) jn = false) :
    Calls Tryz.prog 64 #[dtV x, jnV jn] w fun e w' => e = .returned (.bool (S.jointOk (S.mains (bars x.bs) x.rs) jn)) ∧ Below w.heap.size w w' := by
  have H := Lib.hid (show S.jointOk (S.mains (bars x.bs) x.rs) jn = false by unfold S.jointOk; rw [h]; rfl)
  have HA := Lib.hid hA
  have HC := Lib.hid (fun (W : World) (hw : B ≤ W.heap.size) (hh : DtAt W B x) => rcount25_any x B W hw hh hl)
  rw [H.out]
  have hcs : jn.first < 0 ∨ (¬ jn.first < 0 ∧ ((S.mains (bars x.bs) x.rs).length : Int) ≤ jn.first) ∨ (¬ jn.first < 0 ∧ ¬ ((S.mains (bars x.bs) x.rs).length : Int) ≤ jn.first ∧ jn.second < 0) ∨ (¬ jn.first < 0 ∧ ¬ ((S.mains (bars x.bs) x.rs).length : Int) ≤ jn.first ∧ ¬ jn.second < 0 ∧ ((S.mains (bars x.bs) x.rs).length : Int) ≤ jn.second) := by
    simp only [S.jointIn, Bool.and_eq_false_iff, decide_eq_false_iff_not] at h
    omega
  have hDB : Blk ((w.alloc (.cells #[.string x.m.name, .slice x.mA x.mn x.mc, .slice x.hA x.hn x.hc, .int .i64 x.m.cover, .int .i64 x.m.aggr, .int .i64 x.m.poker, .slice x.bA x.bn x.bc, .slice x.rA x.rn x.rc, .slice x.jA x.jn x.jc, .slice x.dA x.dn x.dc, .int .i64 x.rule.num, .int .i64 x.rule.den, .int .i64 x.rule.pnum, .int .i64 x.rule.pden, .int .i64 x.rule.bnum, .int .i64 x.rule.bden, .int .i64 x.rule.lnum, .int .i64 x.rule.lden, .int .i64 x.rule.least] 34)).alloc (.cells #[.int .i64 jn.first, .int .i64 jn.second] 124)) w.heap.size 34 #[.string x.m.name, .slice x.mA x.mn x.mc, .slice x.hA x.hn x.hc, .int .i64 x.m.cover, .int .i64 x.m.aggr, .int .i64 x.m.poker, .slice x.bA x.bn x.bc, .slice x.rA x.rn x.rc, .slice x.jA x.jn x.jc, .slice x.dA x.dn x.dc, .int .i64 x.rule.num, .int .i64 x.rule.den, .int .i64 x.rule.pnum, .int .i64 x.rule.pden, .int .i64 x.rule.bnum, .int .i64 x.rule.bden, .int .i64 x.rule.lnum, .int .i64 x.rule.lden, .int .i64 x.rule.least] := (Blk.new w 34 #[.string x.m.name, .slice x.mA x.mn x.mc, .slice x.hA x.hn x.hc, .int .i64 x.m.cover, .int .i64 x.m.aggr, .int .i64 x.m.poker, .slice x.bA x.bn x.bc, .slice x.rA x.rn x.rc, .slice x.jA x.jn x.jc, .slice x.dA x.dn x.dc, .int .i64 x.rule.num, .int .i64 x.rule.den, .int .i64 x.rule.pnum, .int .i64 x.rule.pden, .int .i64 x.rule.bnum, .int .i64 x.rule.bden, .int .i64 x.rule.lnum, .int .i64 x.rule.lden, .int .i64 x.rule.least]).alloc _
  have hRG := hDB.range
  clear hA h H hDB hl
  generalize (S.mains (bars x.bs) x.rs).length = n at *
  unfold dtV at HC
  unfold dtV jnV
  rcases hcs with h | ⟨h, h'⟩ | ⟨h, h', h2⟩ | ⟨h, h', h2, h3⟩
  all_goals (
    go_enter Tryz.func64, Tryz.ntmps64
    go_wp2_with (first
      | (refine wpList_load_mid rfl 34 (.tmp 2) rfl _ _ rfl _ _ hRG Tryz.underlying34 rfl (by kernel_rfl) ?_)
      | (go_at_call 42; (with_reducible refine (HC.out _ (size_via hB (by repeat (first | exact Below.refl _ _ | assumption | refine ba_alloc ?_ _ | refine ba_drew ?_ | refine ba_drewN ?_ _ | refine ba_via (by assumption) ?_ | (refine ba_set ?_ ?_ _; rotate_left; (first | omega | (simp; omega) | simp))))) (HA.out.at_ hB (by repeat (first | exact Below.refl _ _ | assumption | refine ba_alloc ?_ _ | refine ba_drew ?_ | refine ba_drewN ?_ _ | refine ba_via (by assumption) ?_ | (refine ba_set ?_ ?_ _; rotate_left; (first | omega | (simp; omega) | simp)))))).mono ?_); rintro e w1 ⟨rfl, hbw1⟩; obtain ⟨hcw1, hfw1⟩ := bcell hbw1; have hzw1_0 : w.heap.size < w1.heap.size := lt_via hbw1 (by first | omega | (simp; done) | (simp; omega)); have hzw1_1 : w.heap.size + 1 < w1.heap.size := lt_via hbw1 (by first | omega | (simp; done) | (simp; omega))))
    go_ret
    exact ⟨rfl, (by repeat (first | exact Below.refl _ _ | assumption | refine ba_alloc ?_ _ | refine ba_drew ?_ | refine ba_drewN ?_ _ | refine ba_via (by assumption) ?_ | (refine ba_set ?_ ?_ _; rotate_left; (first | omega | (simp; omega) | simp))))⟩)
theorem rjoint_any (x : Dt) (jn : Jn) (B : Nat) (w : World) (hB : B ≤ w.heap.size) (hA : DtAt w B x) (hl : S.laid (bars x.bs) x.rs = true) :
    Calls Tryz.prog 64 #[dtV x, jnV jn] w fun e w' => e = .returned (.bool (S.jointOk (S.mains (bars x.bs) x.rs) jn)) ∧ Below w.heap.size w w' := by
  by_cases h : S.jointIn (S.mains (bars x.bs) x.rs) jn = true
  · have h' := h
    simp only [S.jointIn, Bool.and_eq_true, decide_eq_true_eq] at h'
    obtain ⟨i, hi⟩ : ∃ i : Nat, jn.first = (i : Int) := ⟨jn.first.toNat, by omega⟩
    obtain ⟨k, hk⟩ : ∃ i : Nat, jn.second = (i : Int) := ⟨jn.second.toNat, by omega⟩
    have hix : i < (S.mains (bars x.bs) x.rs).length := by omega
    have hkx : k < (S.mains (bars x.bs) x.rs).length := by omega
    rw [jointOk_in hi hk h (List.getElem?_eq_getElem hix) (List.getElem?_eq_getElem hkx)]
    unfold jnV
    rw [hi, hk]
    exact rjoint_in x B w hB hA hl i k _ _ (List.getElem?_eq_getElem hix) (List.getElem?_eq_getElem hkx)
  · exact rjoint_out x jn B w hB hA hl (by simpa using h)
end Go.Proofs.YtffkmgjmlahfpaaGreat
set_option linter.unusedVariables false
set_option linter.unusedSimpArgs false
namespace Go.Proofs.YtffkmgjmlahfpaaGreat
open Go.RowKit
def S.btw (n lo hi : Int) : Bool := decide (lo ≤ n) && decide (n ≤ hi)
theorem rbetween_any (n lo hi : Int) (w : World) : Calls Tryz.prog 103 #[.int .i64 n, .int .i64 lo, .int .i64 hi] w fun e w' => e = .returned (.bool (S.btw n lo hi)) ∧ w = w' := by
  have H := Lib.hid (show S.btw n lo hi = (decide (lo ≤ n) && decide (n ≤ hi)) from rfl)
  go_enter Tryz.func103, Tryz.ntmps103
  go_wp2
  all_goals (go_ret; exact ⟨ret_b (by rw [H.out, Bool.eq_iff_iff]; all_goals (first | (simp; done) | (simp; omega))), rfl⟩)
theorem rplace10_any (n : Int) (w : World) : Calls Tryz.prog 88 #[.int .i64 n] w fun e w' => e = .returned (.bool (S.place n)) ∧ w = w' := by
  have H := Lib.hid (show S.place n = S.btw n (-1048576) 1048576 from rfl)
  have HB := Lib.hid (rbetween_any n (-1048576) 1048576)
  generalize S.btw n (-1048576) 1048576 = t at *
  go_enter Tryz.func88, Tryz.ntmps88
  go_wp2_with (go_at_call 103; (with_reducible refine (HB.out _).mono ?_); rintro e w' ⟨rfl, rfl⟩)
  go_ret
  exact ⟨ret_b H.out.symm, rfl⟩
set_option maxHeartbeats 1000000 in
theorem rsteps_any (l : List Stp) (A : Option Addr) (n c : Nat) (B : Nat) (w : World) (hB : B ≤ w.heap.size) (hA : StepsAt w B A n l) :
    Calls Tryz.prog 50 #[.slice A n c] w fun e w' => e = .returned (.bool (S.steps l)) ∧ Below w.heap.size w w' := by
  have HA := Lib.hid hA
  have HPL := Lib.hid (fun n w => rplace10_any n w)
  have hmx := hA.max
  have hL := hA.len
  clear hA
  by_cases h200 : 200 < n
  · have HS := Lib.hid (show S.steps l = false from by unfold S.steps; rw [hL]; simp; omega)
    clear hL
    go_enter Tryz.func50, Tryz.ntmps50
    go_wp2
    go_ret
    exact ⟨ret_b HS.out.symm, (by repeat (first | exact Below.refl _ _ | assumption | refine ba_alloc ?_ _ | refine ba_drew ?_ | refine ba_drewN ?_ _ | refine ba_via (by assumption) ?_ | (refine ba_set ?_ ?_ _; rotate_left; (first | omega | (simp; omega) | simp))))⟩
  clear hL
  go_enter Tryz.func50, Tryz.ntmps50
  go_wp2
  go_loopw [3] (fun i wr => ∃ k : Nat, k ≤ n ∧ i = .int .i64 k ∧ (∀ j, j < k → S.stepAt l j = true) ∧ Below w.heap.size w wr) (fun i _ => n - (intOf i).toNat)
  case atStart => exact ⟨0, Nat.zero_le _, rfl, fun j hj => absurd hj (by omega), Below.refl _ _⟩
  case round =>
    obtain ⟨k, hk, rfl, hno, hbr⟩ := hrel
    have HNO := Lib.hid hno
    clear hno
    by_cases hlt : k < n
    · have hkx : k < l.length := by have := HA.out.len; omega
      have hs' := HA.out.cells.below (hbr.mono hB)
      obtain ⟨b, o, rfl, hbB, _⟩ := hs'.at_ (by rw [flat_len stC 2 stC_len]; omega)
      have hbw : b < wr.heap.size := by have := hbr.size; omega
      have c0 := hs'.row0 stC_len hkx rfl
      have c1 := hs'.rowj stC_len hkx 1 rfl
      have HNS := Lib.hid (fun h => show S.steps l = false from rng_no (p := S.stepAt l) (k := k) hkx h)
      have HGO := Lib.hid (fun (h : S.stepAt l k = true) => show ∀ j, j < k + 1 → S.stepAt l j = true from fun j hj => by
        by_cases hjk : j = k
        · subst hjk; exact h
        · exact HNO.out j (by omega))
      have hge : l[k]? = some l[k] := List.getElem?_eq_getElem hkx
      cases k with
      | zero =>
        have HAT := Lib.hid (show S.stepAt l 0 = (S.place l[0].fro && S.btw l[0].val 0 1099511627776) by unfold S.stepAt S.btw; rw [hge]; simp [Bool.and_assoc])
        have HP0 := Lib.hid (HPL.out l[0].fro)
        have HB0 := Lib.hid (fun w => rbetween_any l[0].val 0 1099511627776 w)
        rw [Nat.zero_mul, Nat.add_zero] at c0 c1
        generalize S.place l[0].fro = t0 at *
        generalize S.btw l[0].val 0 1099511627776 = t1 at *
        generalize l[0] = s at *
        clear hs' hge
        have hcs : t0 = false ∨ (t0 = true ∧ t1 = false) ∨ (t0 = true ∧ t1 = true) := by
          cases t0 <;> cases t1 <;> simp
        rcases hcs with rfl | ⟨rfl, rfl⟩ | ⟨rfl, rfl⟩
        rotate_right
        · have HG := Lib.hid (HGO.out (by rw [HAT.out]; rfl))
          go_upto_region 6 with fail
          refine wp_region_grow (by kernel_rfl) (by kernel_rfl) ?_
          repeat (go_big_quiet_step ((first | (go_at_call 88; exact grow_of_eq (HP0.out _)) | (go_at_call 103; exact grow_of_eq (HB0.out _)))))
          all_goals (refine wpQuiet_nil ?_; intro wg hbwg; obtain ⟨hcwg, hfwg⟩ := bcell hbwg)
          go_wp2
          go_roundw
          case rel => exact ⟨0 + 1, by omega, by go_num, HG.out, (by repeat (first | exact Below.refl _ _ | assumption | refine ba_alloc ?_ _ | refine ba_drew ?_ | refine ba_drewN ?_ _ | refine ba_via (by assumption) ?_ | (refine ba_set ?_ ?_ _; rotate_left; (first | omega | (simp; omega) | simp))))⟩
          case measure => simp [intOf]; omega
        all_goals (
          have HG := Lib.hid (HNS.out (by rw [HAT.out]; rfl))
          go_upto_region 6 with fail
          refine wp_region_grow (by kernel_rfl) (by kernel_rfl) ?_
          repeat (go_big_quiet_step ((first | (go_at_call 88; exact grow_of_eq (HP0.out _)) | (go_at_call 103; exact grow_of_eq (HB0.out _)))))
          all_goals (refine wpQuiet_nil ?_; intro wg hbwg; obtain ⟨hcwg, hfwg⟩ := bcell hbwg)
          go_wp2
          go_ret
          exact ⟨ret_b HG.out.symm, (by repeat (first | exact Below.refl _ _ | assumption | refine ba_alloc ?_ _ | refine ba_drew ?_ | refine ba_drewN ?_ _ | refine ba_via (by assumption) ?_ | (refine ba_set ?_ ?_ _; rotate_left; (first | omega | (simp; omega) | simp))))⟩)
      | succ j =>
        have hjx : j < l.length := by omega
        have d0 := hs'.row0 stC_len hjx rfl
        have HAT := Lib.hid (show S.stepAt l (j + 1) = (S.place l[j + 1].fro && S.btw l[j + 1].val 0 1099511627776 && decide (l[j].fro < l[j + 1].fro)) by unfold S.stepAt S.btw; rw [hge]; simp only []; rw [List.getElem?_eq_getElem hjx]; simp [Bool.and_assoc])
        have HP0 := Lib.hid (HPL.out l[j + 1].fro)
        have HB0 := Lib.hid (fun w => rbetween_any l[j + 1].val 0 1099511627776 w)
        generalize S.place l[j + 1].fro = t0 at *
        generalize S.btw l[j + 1].val 0 1099511627776 = t1 at *
        generalize l[j + 1] = s at *
        generalize l[j] = p at *
        clear hs' hge
        have hk0 : (0 : Int) < ((j + 1 : Nat) : Int) := by omega
        have e1 : IntKind.i64.wrap (((j + 1 : Nat) : Int) - 1) = (j : Nat) := by rw [IntWalk.i64_in _ (by omega)]; omega
        have hjn : (j : Int) < n := by omega
        have hcs : t0 = false ∨ (t0 = true ∧ t1 = false) ∨ (t0 = true ∧ t1 = true ∧ s.fro ≤ p.fro) ∨ (t0 = true ∧ t1 = true ∧ ¬ s.fro ≤ p.fro) := by
          cases t0 <;> cases t1 <;> simp <;> omega
        rcases hcs with rfl | ⟨rfl, rfl⟩ | ⟨rfl, rfl, h3⟩ | ⟨rfl, rfl, h3⟩
        rotate_right
        · have HG := Lib.hid (HGO.out (by rw [HAT.out]; simp; omega))
          go_upto_region 6 with fail
          refine wp_region_grow (by kernel_rfl) (by kernel_rfl) ?_
          repeat (go_big_quiet_step ((first | (go_at_call 88; exact grow_of_eq (HP0.out _)) | (go_at_call 103; exact grow_of_eq (HB0.out _)))))
          all_goals (refine wpQuiet_nil ?_; intro wg hbwg; obtain ⟨hcwg, hfwg⟩ := bcell hbwg)
          go_wp2
          go_roundw
          case rel => exact ⟨j + 1 + 1, by omega, by go_num, HG.out, (by repeat (first | exact Below.refl _ _ | assumption | refine ba_alloc ?_ _ | refine ba_drew ?_ | refine ba_drewN ?_ _ | refine ba_via (by assumption) ?_ | (refine ba_set ?_ ?_ _; rotate_left; (first | omega | (simp; omega) | simp))))⟩
          case measure => simp [intOf]; omega
        all_goals (
          have HG := Lib.hid (HNS.out (by rw [HAT.out]; simp; try omega))
          go_upto_region 6 with fail
          refine wp_region_grow (by kernel_rfl) (by kernel_rfl) ?_
          repeat (go_big_quiet_step ((first | (go_at_call 88; exact grow_of_eq (HP0.out _)) | (go_at_call 103; exact grow_of_eq (HB0.out _)))))
          all_goals (refine wpQuiet_nil ?_; intro wg hbwg; obtain ⟨hcwg, hfwg⟩ := bcell hbwg)
          go_wp2
          go_ret
          exact ⟨ret_b HG.out.symm, (by repeat (first | exact Below.refl _ _ | assumption | refine ba_alloc ?_ _ | refine ba_drew ?_ | refine ba_drewN ?_ _ | refine ba_via (by assumption) ?_ | (refine ba_set ?_ ?_ _; rotate_left; (first | omega | (simp; omega) | simp))))⟩)
    · have HG := Lib.hid (show S.steps l = true from rng_yes (p := S.stepAt l) (by have := HA.out.len; simp; omega) (fun j hj => HNO.out j (by have := HA.out.len; omega)))
      go_wp2
      go_ret
      exact ⟨ret_b HG.out.symm, (by repeat (first | exact Below.refl _ _ | assumption | refine ba_alloc ?_ _ | refine ba_drew ?_ | refine ba_drewN ?_ _ | refine ba_via (by assumption) ?_ | (refine ba_set ?_ ?_ _; rotate_left; (first | omega | (simp; omega) | simp))))⟩
end Go.Proofs.YtffkmgjmlahfpaaGreat
set_option linter.unusedVariables false
set_option linter.unusedSimpArgs false
namespace Go.Proofs.YtffkmgjmlahfpaaGreat
open Go.RowKit
theorem rfind23_any (l : List Dm) (m : ByteArray) (A : Option Addr) (n c : Nat) (B : Nat) (w : World) (hB : B ≤ w.heap.size) (hA : DemsAt w B A n l) :
    Calls Tryz.prog 116 #[.slice A n c, .string m] w fun e w' => e = .returned (.int .i64 (idxf l (S.isDem m))) ∧ Below w.heap.size w w' := by
  have HN := Lib.hid hA.len
  have hm := hA.max
  have hs := hA.cells
  clear hA
  go_enter Tryz.func116, Tryz.ntmps116
  go_wp2
  go_loopw [5] (fun i wr => ∃ k : Nat, k ≤ n ∧ i = .int .i64 k ∧ Hid (∀ j (h : j < l.length), j < k → S.isDem m l[j] = false) ∧ Below w.heap.size w wr) (fun i _ => n - (intOf i).toNat)
  case atStart => exact ⟨0, Nat.zero_le _, rfl, Lib.hid fun j _ hj => absurd hj (by omega), Below.refl _ _⟩
  case round =>
    obtain ⟨k, hk, rfl, HNO, hbr⟩ := hrel
    by_cases hlt : k < n
    · have hki : (k : Int) < (n : Int) := by omega
      have hkx : k < l.length := by have := HN.out; omega
      have hkl : k < l.length := hkx
      have hs' := hs.below (hbr.mono hB)
      obtain ⟨b, o, rfl, _, _⟩ := hs'.at_ (by rw [flat_len dmC 8 dmC_len]; omega)
      have c0 := hs'.row0 dmC_len hkl rfl
      have HE := Lib.hid (show S.isDem m l[k] = (l[k].name.toList == m.toList) from rfl)
      have HX := Lib.hid (fun hx => idxf_hit (p := S.isDem m) hkx hx HNO.out)
      generalize hq : S.isDem m l[k] = q at *
      have HQ := Lib.hid hq
      clear hq hs'
      generalize hmk : l[k].name = mk at *
      have HMK := Lib.hid hmk
      clear hmk
      by_cases hx : (mk.toList == m.toList) = true
      · have hq : q = true := HE.out.trans hx
        subst hq
        go_wp2
        go_ret
        exact ⟨ret_i (HX.out trivial).symm, hbr⟩
      · have hx' : (mk.toList == m.toList) = false := by simpa using hx
        have hq : q = false := HE.out.trans hx'
        subst hq
        clear hx
        go_wp2
        go_roundw
        case rel =>
          refine ⟨k + 1, by omega, by go_num, Lib.hid fun j hj hjk => ?_, hbr⟩
          by_cases hjk' : j = k
          · subst hjk'; exact HQ.out
          · exact HNO.out j hj (by omega)
        case measure => simp [intOf]; omega
    · have HX := Lib.hid (idxf_miss (p := S.isDem m) (xs := l) fun j hj => HNO.out j hj (by have := HN.out; omega))
      go_wp2
      go_ret
      exact ⟨ret_i HX.out.symm, hbr⟩
theorem idxf_first {α : Type} {p : α → Bool} {xs : List α} {k : Nat} (hk : k < xs.length) (h : p xs[k] = true) : (idxf xs p = (k : Int)) ↔ anyb (xs.take k) p = false := by
  constructor
  · intro he
    unfold idxf at he
    split at he
    · rename_i i hi
      have : i = k := by omega
      subst this
      obtain ⟨_, _, h3⟩ := List.findIdx?_eq_some_iff_getElem.1 hi
      unfold anyb
      rw [List.any_eq_false]
      intro x hx
      obtain ⟨j, hj, rfl⟩ := List.mem_iff_getElem.1 hx
      rw [List.length_take] at hj
      rw [List.getElem_take]
      exact h3 j (by omega)
    · omega
  · intro he
    refine idxf_hit hk h (fun j hj hjk => ?_)
    unfold anyb at he
    rw [List.any_eq_false] at he
    have hm : xs[j] ∈ xs.take k := by
      have hjt : j < (xs.take k).length := by rw [List.length_take]; omega
      have e : (xs.take k)[j] = xs[j] := List.getElem_take
      rw [← e]
      exact List.getElem_mem _
    simpa using he _ hm
theorem isDem_self (d : Dm) : S.isDem d.name d = true := by simp [S.isDem]
set_option maxHeartbeats 2000000 in
theorem rdems_any (l : List Dm) (A : Option Addr) (n c : Nat) (B : Nat) (w : World) (hB : B ≤ w.heap.size) (hA : DemsAt w B A n l) :
    Calls Tryz.prog 62 #[.slice A n c] w fun e w' => e = .returned (.bool (S.dems l)) ∧ Below w.heap.size w w' := by
  have HA := Lib.hid hA
  have hmx := hA.max
  have hL := hA.len
  clear hA
  by_cases h20 : 20 < n
  · have HS := Lib.hid (show S.dems l = false from by unfold S.dems; rw [hL]; simp; omega)
    clear hL
    go_enter Tryz.func62, Tryz.ntmps62
    go_wp2
    go_ret
    exact ⟨ret_b HS.out.symm, (by repeat (first | exact Below.refl _ _ | assumption | refine ba_alloc ?_ _ | refine ba_drew ?_ | refine ba_drewN ?_ _ | refine ba_via (by assumption) ?_ | (refine ba_set ?_ ?_ _; rotate_left; (first | omega | (simp; omega) | simp))))⟩
  clear hL
  go_enter Tryz.func62, Tryz.ntmps62
  go_wp2
  go_loopw [3] (fun i wr => ∃ k : Nat, k ≤ n ∧ i = .int .i64 k ∧ Hid (∀ j, j < k → S.demAt l j = true) ∧ Below w.heap.size w wr) (fun i _ => n - (intOf i).toNat)
  case atStart => exact ⟨0, Nat.zero_le _, rfl, Lib.hid (fun j hj => absurd hj (by omega)), Below.refl _ _⟩
  case round =>
    obtain ⟨k, hk, rfl, HNO, hbr⟩ := hrel
    by_cases hlt : k < n
    · have hkx : k < l.length := by have := HA.out.len; omega
      have hki : (k : Int) < (n : Int) := by omega
      have hwr : B ≤ wr.heap.size := by have := hbr.size; omega
      have HA' := Lib.hid (HA.out.at_ hB hbr)
      have hs' := HA'.out.cells
      obtain ⟨b, o, hAe, hbB, _⟩ := hs'.at_ (by rw [flat_len dmC 8 dmC_len]; omega)
      have hbw : b < wr.heap.size := by omega
      subst hAe
      have c0 := hs'.row0 dmC_len hkx rfl
      have c1 := hs'.rowj dmC_len hkx 1 rfl
      have c2 := hs'.rowj dmC_len hkx 2 rfl
      have c3 := hs'.rowj dmC_len hkx 3 rfl
      have c4 := hs'.rowj dmC_len hkx 4 rfl
      have c5 := hs'.rowj dmC_len hkx 5 rfl
      have c6 := hs'.rowj dmC_len hkx 6 rfl
      have c7 := hs'.rowj dmC_len hkx 7 rfl
      have HNS := Lib.hid (fun h => show S.dems l = false from rng_no (p := S.demAt l) (k := k) hkx h)
      have HGO := Lib.hid (fun (h : S.demAt l k = true) => show ∀ j, j < k + 1 → S.demAt l j = true from fun j hj => by
        by_cases hjk : j = k
        · subst hjk; exact h
        · exact HNO.out j (by omega))
      have hge : l[k]? = some l[k] := List.getElem?_eq_getElem hkx
      have HF := Lib.hid (idxf_first (p := S.isDem l[k].name) hkx (isDem_self _))
      have HFC := Lib.hid (fun (W : World) (hw : B ≤ W.heap.size) (hh : DemsAt W B (some ⟨b, o, none⟩) n l) => rfind23_any l l[k].name (some ⟨b, o, none⟩) n c B W hw hh)
      have HNC := Lib.hid (fun w => risname_any l[k].name w (HA'.out.name _ (List.getElem_mem hkx)))
      have HBC := Lib.hid (fun w => rbvalid_any l[k].zone w)
      have HSC := Lib.hid (fun (W : World) (hw : B ≤ W.heap.size) (hh : StepsAt W B l[k].A l[k].n l[k].st) => rsteps_any l[k].st l[k].A l[k].n l[k].c B W hw hh)
      have HSA := Lib.hid (HA'.out.each _ (List.getElem_mem hkx))
      have HAT := Lib.hid (show S.demAt l k = (S.isName l[k].name && S.boxOk l[k].zone && S.steps l[k].st && !anyb (l.take k) (S.isDem l[k].name)) by unfold S.demAt S.demRight; rw [hge])
      clear hs' hge
      unfold boxV at HBC
      generalize anyb (l.take k) (S.isDem l[k].name) = t3 at *
      generalize idxf l (S.isDem l[k].name) = ix at *
      generalize S.isName l[k].name = t0 at *
      generalize S.boxOk l[k].zone = t1 at *
      generalize S.steps l[k].st = t2 at *
      generalize l[k] = d at *
      have hcs : t0 = false ∨ (t0 = true ∧ ¬ ix = (k : Int)) ∨ (t0 = true ∧ ix = (k : Int) ∧ t1 = false) ∨ (t0 = true ∧ ix = (k : Int) ∧ t1 = true ∧ t2 = false) ∨ (t0 = true ∧ ix = (k : Int) ∧ t1 = true ∧ t2 = true) := by
        by_cases hh : ix = (k : Int)
        · cases t0 <;> cases t1 <;> cases t2 <;> simp [hh]
        · cases t0 <;> simp [hh]
      rcases hcs with rfl | ⟨rfl, h1⟩ | ⟨rfl, h1, rfl⟩ | ⟨rfl, h1, rfl, rfl⟩ | ⟨rfl, h1, rfl, rfl⟩
      rotate_right
      · have HG := Lib.hid (HGO.out (by rw [HAT.out, HF.out.1 h1]; rfl))
        subst h1
        go_wp2_with (first
          | (go_at_call 112; (with_reducible refine (HNC.out _).mono ?_); rintro e w' ⟨rfl, rfl⟩)
          | ((go_at_call 116; (with_reducible refine (HFC.out _ (size_via hwr (by repeat (with_reducible first | exact Below.refl _ _ | assumption | refine ba_alloc ?_ _ | refine ba_drew ?_ | refine ba_drewN ?_ _ | refine ba_via (by assumption) ?_ | (refine ba_set ?_ ?_ _; rotate_left; (first | omega | (simp; omega) | simp))))) (HA'.out.at_ hwr (by repeat (with_reducible first | exact Below.refl _ _ | assumption | refine ba_alloc ?_ _ | refine ba_drew ?_ | refine ba_drewN ?_ _ | refine ba_via (by assumption) ?_ | (refine ba_set ?_ ?_ _; rotate_left; (first | omega | (simp; omega) | simp)))))).mono ?_); rintro e w2 ⟨rfl, hbw2⟩; obtain ⟨hcw2, hfw2⟩ := bcell hbw2); have hq2 : b < w2.heap.size := lt_via hbw2 hbw)
          | ((go_at_call 117; (with_reducible refine (HBC.out _).mono ?_); rintro e w3 ⟨rfl, hbw3⟩; obtain ⟨hcw3, hfw3⟩ := bcell hbw3); have hq3 : b < w3.heap.size := lt_via hbw3 hq2)
          | (go_at_call 50; (with_reducible refine (HSC.out _ (size_via hwr (by repeat (with_reducible first | exact Below.refl _ _ | assumption | refine ba_alloc ?_ _ | refine ba_drew ?_ | refine ba_drewN ?_ _ | refine ba_via (by assumption) ?_ | (refine ba_set ?_ ?_ _; rotate_left; (first | omega | (simp; omega) | simp))))) (HSA.out.below (Below.mono (by repeat (with_reducible first | exact Below.refl _ _ | assumption | refine ba_alloc ?_ _ | refine ba_drew ?_ | refine ba_drewN ?_ _ | refine ba_via (by assumption) ?_ | (refine ba_set ?_ ?_ _; rotate_left; (first | omega | (simp; omega) | simp)))) hwr))).mono ?_); rintro e w4 ⟨rfl, hbw4⟩; obtain ⟨hcw4, hfw4⟩ := bcell hbw4))
        go_roundw
        case rel => exact ⟨k + 1, by omega, by go_num, Lib.hid HG.out, (by repeat (with_reducible first | exact Below.refl _ _ | assumption | refine ba_alloc ?_ _ | refine ba_drew ?_ | refine ba_drewN ?_ _ | refine ba_via (by assumption) ?_ | (refine ba_set ?_ ?_ _; rotate_left; (first | omega | (simp; omega) | simp))))⟩
        case measure => simp [intOf]; omega
      all_goals (
        have HG := Lib.hid (HNS.out (by
          rw [HAT.out]
          first
            | rfl
            | (have h3 : t3 = true := by
                 cases t3 with
                 | true => rfl
                 | false => exact (h1 (HF.out.2 rfl)).elim
               rw [h3]; simp)
            | simp))
        go_wp2_with (first
          | (go_at_call 112; (with_reducible refine (HNC.out _).mono ?_); rintro e w' ⟨rfl, rfl⟩)
          | ((go_at_call 116; (with_reducible refine (HFC.out _ (size_via hwr (by repeat (with_reducible first | exact Below.refl _ _ | assumption | refine ba_alloc ?_ _ | refine ba_drew ?_ | refine ba_drewN ?_ _ | refine ba_via (by assumption) ?_ | (refine ba_set ?_ ?_ _; rotate_left; (first | omega | (simp; omega) | simp))))) (HA'.out.at_ hwr (by repeat (with_reducible first | exact Below.refl _ _ | assumption | refine ba_alloc ?_ _ | refine ba_drew ?_ | refine ba_drewN ?_ _ | refine ba_via (by assumption) ?_ | (refine ba_set ?_ ?_ _; rotate_left; (first | omega | (simp; omega) | simp)))))).mono ?_); rintro e w2 ⟨rfl, hbw2⟩; obtain ⟨hcw2, hfw2⟩ := bcell hbw2); have hq2 : b < w2.heap.size := lt_via hbw2 hbw)
          | ((go_at_call 117; (with_reducible refine (HBC.out _).mono ?_); rintro e w3 ⟨rfl, hbw3⟩; obtain ⟨hcw3, hfw3⟩ := bcell hbw3); have hq3 : b < w3.heap.size := lt_via hbw3 hq2)
          | (go_at_call 50; (with_reducible refine (HSC.out _ (size_via hwr (by repeat (with_reducible first | exact Below.refl _ _ | assumption | refine ba_alloc ?_ _ | refine ba_drew ?_ | refine ba_drewN ?_ _ | refine ba_via (by assumption) ?_ | (refine ba_set ?_ ?_ _; rotate_left; (first | omega | (simp; omega) | simp))))) (HSA.out.below (Below.mono (by repeat (with_reducible first | exact Below.refl _ _ | assumption | refine ba_alloc ?_ _ | refine ba_drew ?_ | refine ba_drewN ?_ _ | refine ba_via (by assumption) ?_ | (refine ba_set ?_ ?_ _; rotate_left; (first | omega | (simp; omega) | simp)))) hwr))).mono ?_); rintro e w4 ⟨rfl, hbw4⟩; obtain ⟨hcw4, hfw4⟩ := bcell hbw4))
        go_ret
        exact ⟨ret_b HG.out.symm, (by repeat (with_reducible first | exact Below.refl _ _ | assumption | refine ba_alloc ?_ _ | refine ba_drew ?_ | refine ba_drewN ?_ _ | refine ba_via (by assumption) ?_ | (refine ba_set ?_ ?_ _; rotate_left; (first | omega | (simp; omega) | simp))))⟩)
    · have HG := Lib.hid (show S.dems l = true from rng_yes (p := S.demAt l) (by have := HA.out.len; simp; omega) (fun j hj => HNO.out j (by have := HA.out.len; omega)))
      go_wp2
      go_ret
      exact ⟨ret_b HG.out.symm, (by repeat (first | exact Below.refl _ _ | assumption | refine ba_alloc ?_ _ | refine ba_drew ?_ | refine ba_drewN ?_ _ | refine ba_via (by assumption) ?_ | (refine ba_set ?_ ?_ _; rotate_left; (first | omega | (simp; omega) | simp))))⟩
end Go.Proofs.YtffkmgjmlahfpaaGreat
set_option linter.unusedVariables false
set_option linter.unusedSimpArgs false
namespace Go.Proofs.YtffkmgjmlahfpaaGreat
open Go.RowKit
theorem anyb_of {α : Type} {xs : List α} {p : α → Bool} {k : Nat} (hk : k < xs.length) (h : p xs[k] = true) : anyb xs p = true := by
  unfold anyb
  rw [List.any_eq_true]
  exact ⟨_, List.getElem_mem hk, h⟩
theorem anyb_not {α : Type} {xs : List α} {p : α → Bool} (h : ∀ j (hj : j < xs.length), p xs[j] = false) : anyb xs p = false := by
  unfold anyb
  rw [List.any_eq_false]
  intro x hx
  obtain ⟨j, hj, rfl⟩ := List.mem_iff_getElem.1 hx
  simp [h j hj]
set_option maxHeartbeats 1000000 in
theorem rthick_any (b : Bx) (w : World) :
    Calls Tryz.prog 173 #[boxV b] w fun e w' => e = .returned (.bool (S.thick b)) ∧ Below w.heap.size w w' := by
  have HV := Lib.hid (fun w => rbvalid_any b w)
  have H := Lib.hid (show S.thick b = (S.boxOk b && decide (b.lo.x < b.hi.x) && decide (b.lo.y < b.hi.y) && decide (b.lo.z < b.hi.z)) from rfl)
  generalize S.boxOk b = t at *
  unfold boxV
  cases t
  all_goals (
    go_enter Tryz.func173, Tryz.ntmps173
    go_wp2_with (go_at_call 117; (with_reducible refine (HV.out _).mono ?_); rintro e w1 ⟨rfl, hbw1⟩; obtain ⟨hcw1, hfw1⟩ := bcell hbw1; have hzw1_0 : w.heap.size < w1.heap.size := lt_via hbw1 (by first | omega | (simp; done) | (simp; omega)))
    all_goals (go_ret; exact ⟨ret_b (by rw [H.out, Bool.eq_iff_iff]; all_goals (first | (simp; done) | (simp; omega))), (by repeat (first | exact Below.refl _ _ | assumption | refine ba_alloc ?_ _ | refine ba_drew ?_ | refine ba_drewN ?_ _ | refine ba_via (by assumption) ?_ | (refine ba_set ?_ ?_ _; rotate_left; (first | omega | (simp; omega) | simp))))⟩))
set_option maxRecDepth 100000 in
set_option maxHeartbeats 4000000 in
theorem rsvalid_any (A : Option Addr) (n c : Nat) (A' : Option Addr) (n' c' : Nat) (xs hs : List Bx) (B : Nat) (w : World) (hB : B ≤ w.heap.size) (hA : SolAt w B A n A' n' xs hs) :
    Calls Tryz.prog 113 #[solV A n c A' n' c'] w fun e w' => e = .returned (.bool (S.solid xs hs)) ∧ Below w.heap.size w w' := by
  have HA := Lib.hid hA
  have hm := hA.max
  have hm' := hA.max'
  have H := Lib.hid (show S.solid xs hs = (decide (1 ≤ n) && decide (n ≤ 20) && decide (n' ≤ 20) && !anyb xs S.thin && !anyb hs S.thin) by unfold S.solid; rw [hA.len, hA.len'])
  clear hA
  unfold solV
  by_cases hbad : n < 1 ∨ 20 < n ∨ 20 < n'
  · have HF : Hid (S.solid xs hs = false) := Lib.hid (by
      rw [H.out]
      rcases hbad with h | h | h
      · have : decide (1 ≤ n) = false := by simp; omega
        simp [this]
      · have : decide (n ≤ 20) = false := by simp; omega
        simp [this]
      · have : decide (n' ≤ 20) = false := by simp; omega
        simp [this])
    by_cases h1 : (n : Int) < 1
    · go_enter Tryz.func113, Tryz.ntmps113
      go_wp2
      go_ret
      exact ⟨ret_b HF.out.symm, (by repeat (first | exact Below.refl _ _ | assumption | refine ba_alloc ?_ _ | refine ba_drew ?_ | refine ba_drewN ?_ _ | refine ba_via (by assumption) ?_ | (refine ba_set ?_ ?_ _; rotate_left; (first | omega | (simp; omega) | simp))))⟩
    · by_cases h2 : (20 : Int) < n
      · go_enter Tryz.func113, Tryz.ntmps113
        go_wp2
        go_ret
        exact ⟨ret_b HF.out.symm, (by repeat (first | exact Below.refl _ _ | assumption | refine ba_alloc ?_ _ | refine ba_drew ?_ | refine ba_drewN ?_ _ | refine ba_via (by assumption) ?_ | (refine ba_set ?_ ?_ _; rotate_left; (first | omega | (simp; omega) | simp))))⟩
      · have h3 : (20 : Int) < n' := by omega
        go_enter Tryz.func113, Tryz.ntmps113
        go_wp2
        go_ret
        exact ⟨ret_b HF.out.symm, (by repeat (first | exact Below.refl _ _ | assumption | refine ba_alloc ?_ _ | refine ba_drew ?_ | refine ba_drewN ?_ _ | refine ba_via (by assumption) ?_ | (refine ba_set ?_ ?_ _; rotate_left; (first | omega | (simp; omega) | simp))))⟩
  · have g1 : ¬ (n : Int) < 1 := by omega
    have g2 : ¬ (20 : Int) < n := by omega
    have g3 : ¬ (20 : Int) < n' := by omega
    clear hbad
    go_enter Tryz.func113, Tryz.ntmps113
    go_wp2
    have hB0 : Blk (w.alloc (.cells #[.slice A n c, .slice A' n' c'] 24)) w.heap.size 24 #[.slice A n c, .slice A' n' c'] := Blk.new _ _ _
    have hW0 : Below w.heap.size w (w.alloc (.cells #[.slice A n c, .slice A' n' c'] 24)) := (by repeat (first | exact Below.refl _ _ | assumption | refine ba_alloc ?_ _ | refine ba_drew ?_ | refine ba_drewN ?_ _ | refine ba_via (by assumption) ?_ | (refine ba_set ?_ ?_ _; rotate_left; (first | omega | (simp; omega) | simp))))
    have HB0 := Lib.hid hB0
    clear hB0
    generalize w.alloc (.cells #[.slice A n c, .slice A' n' c'] 24) = W0 at *
    go_loopw [3] (fun i wr => ∃ k : Nat, k ≤ n ∧ i = .int .i64 k ∧ Hid (∀ j (h : j < xs.length), j < k → S.thin xs[j] = false) ∧ Below W0.heap.size W0 wr) (fun i _ => n - (intOf i).toNat)
    case atStart => exact ⟨0, Nat.zero_le _, rfl, Lib.hid fun j _ hj => absurd hj (by omega), Below.refl _ _⟩
    case round =>
      obtain ⟨k, hk, rfl, HNO, hbr⟩ := hrel
      have hBk := HB0.out.via hbr
      have x0 := hBk.cell 0
      have x1 := hBk.cell 1
      simp only [List.getElem?_toArray, List.getElem?_cons_zero, List.getElem?_cons_succ] at x0 x1
      have hBl := hBk.lt
      clear hBk
      by_cases hlt : k < n
      · have hki : (k : Int) < (n : Int) := by omega
        have hkx : k < xs.length := by have := HA.out.len; omega
        have hs' := (HA.out.below ((ba_via hbr hW0).mono hB)).cells
        obtain ⟨b, o, rfl, _, _⟩ := hs'.at_ (by rw [flat_len boxC 6 boxC_len]; omega)
        obtain ⟨c0, c1, c2, c3, c4, c5⟩ := hs'.boxes (List.getElem?_eq_getElem hkx)
        have HT := Lib.hid (rthick_any xs[k])
        have HTH := Lib.hid (show S.thin xs[k] = !S.thick xs[k] from rfl)
        generalize hq : S.thick xs[k] = q at *
        cases q
        · go_wp2_with (go_at_call 173; (with_reducible refine (HT.out _).mono ?_); rintro e w1 ⟨rfl, hbw1⟩; obtain ⟨hcw1, hfw1⟩ := bcell hbw1)
          go_ret
          exact ⟨ret_b (by rw [H.out, anyb_of hkx HTH.out]; simp), ba_via hbw1 (ba_via hbr hW0)⟩
        · go_wp2_with (go_at_call 173; (with_reducible refine (HT.out _).mono ?_); rintro e w1 ⟨rfl, hbw1⟩; obtain ⟨hcw1, hfw1⟩ := bcell hbw1)
          go_roundw
          case rel =>
            refine ⟨k + 1, by omega, by go_num, Lib.hid fun j hj hjk => ?_, ba_via hbw1 hbr⟩
            by_cases hjk' : j = k
            · subst hjk'; exact HTH.out
            · exact HNO.out j hj (by omega)
          case measure => simp [intOf]; omega
      · have HX := Lib.hid (anyb_not (p := S.thin) (xs := xs) fun j hj => HNO.out j hj (by have := HA.out.len; omega))
        have hbx := hbr
        go_wp2
        go_loopw [4] (fun i wr => ∃ k : Nat, k ≤ n' ∧ i = .int .i64 k ∧ Hid (∀ j (h : j < hs.length), j < k → S.thin hs[j] = false) ∧ Below W0.heap.size W0 wr) (fun i _ => n' - (intOf i).toNat)
        case atStart => exact ⟨0, Nat.zero_le _, rfl, Lib.hid fun j _ hj => absurd hj (by omega), hbx⟩
        case round =>
          obtain ⟨k', hk', rfl, HNO', hbr'⟩ := hrel
          have hBk := HB0.out.via hbr'
          have y0 := hBk.cell 0
          have y1 := hBk.cell 1
          simp only [List.getElem?_toArray, List.getElem?_cons_zero, List.getElem?_cons_succ] at y0 y1
          have hBl' := hBk.lt
          clear hBk
          by_cases hlt' : k' < n'
          · have hki : (k' : Int) < (n' : Int) := by omega
            have hkx : k' < hs.length := by have := HA.out.len'; omega
            have hs' := (HA.out.below ((ba_via hbr' hW0).mono hB)).cells'
            obtain ⟨b, o, rfl, _, _⟩ := hs'.at_ (by rw [flat_len boxC 6 boxC_len]; omega)
            obtain ⟨c0, c1, c2, c3, c4, c5⟩ := hs'.boxes (List.getElem?_eq_getElem hkx)
            have HT := Lib.hid (rthick_any hs[k'])
            have HTH := Lib.hid (show S.thin hs[k'] = !S.thick hs[k'] from rfl)
            generalize hq : S.thick hs[k'] = q at *
            cases q
            · go_wp2_with (go_at_call 173; (with_reducible refine (HT.out _).mono ?_); rintro e w1 ⟨rfl, hbw1⟩; obtain ⟨hcw1, hfw1⟩ := bcell hbw1)
              go_ret
              exact ⟨ret_b (by rw [H.out, HX.out, anyb_of hkx HTH.out]; simp), ba_via hbw1 (ba_via hbr' hW0)⟩
            · go_wp2_with (go_at_call 173; (with_reducible refine (HT.out _).mono ?_); rintro e w1 ⟨rfl, hbw1⟩; obtain ⟨hcw1, hfw1⟩ := bcell hbw1)
              go_roundw
              case rel =>
                refine ⟨k' + 1, by omega, by go_num, Lib.hid fun j hj hjk => ?_, ba_via hbw1 hbr'⟩
                by_cases hjk' : j = k'
                · subst hjk'; exact HTH.out
                · exact HNO'.out j hj (by omega)
              case measure => simp [intOf]; omega
          · go_wp2
            go_ret
            exact ⟨ret_b (by
              rw [H.out, HX.out, anyb_not (p := S.thin) (xs := hs) fun j hj => HNO'.out j hj (by have := HA.out.len'; omega)]
              simp; omega), ba_via hbr' hW0⟩
set_option maxHeartbeats 2000000 in
theorem rmember_any (m : Mem) (A : Option Addr) (n c : Nat) (A' : Option Addr) (n' c' : Nat) (B : Nat) (w : World) (hB : B ≤ w.heap.size) (hA : SolAt w B A n A' n' m.boxes m.holes) (hk : m.name.size ≤ 9223372036854775807) :
    Calls Tryz.prog 60 #[memV m A n c A' n' c'] w fun e w' => e = .returned (.bool (S.member m)) ∧ Below w.heap.size w w' := by
  have HA := Lib.hid hA
  have H := Lib.hid (show S.member m = (S.isName m.name && S.solid m.boxes m.holes && (decide (0 ≤ m.cover) && decide (m.cover ≤ 200)) && (decide (1 ≤ m.aggr) && decide (m.aggr ≤ 100)) && (decide (1 ≤ m.poker) && decide (m.poker ≤ 200))) from rfl)
  have HN := Lib.hid (fun w => risname_any m.name w hk)
  have HS := Lib.hid (fun (W : World) (hw : B ≤ W.heap.size) (h : SolAt W B A n A' n' m.boxes m.holes) => rsvalid_any A n c A' n' c' m.boxes m.holes B W hw h)
  clear hA
  generalize S.isName m.name = t0 at *
  generalize S.solid m.boxes m.holes = t1 at *
  unfold memV
  cases t0 <;> cases t1
  all_goals (
    go_enter Tryz.func60, Tryz.ntmps60
    go_wp2_with (first
      | (go_at_call 112; (with_reducible refine (HN.out _).mono ?_); rintro e w' ⟨rfl, rfl⟩)
      | (go_at_call 113; (with_reducible refine (HS.out _ (size_via hB (by repeat (first | exact Below.refl _ _ | assumption | refine ba_alloc ?_ _ | refine ba_drew ?_ | refine ba_drewN ?_ _ | refine ba_via (by assumption) ?_ | (refine ba_set ?_ ?_ _; rotate_left; (first | omega | (simp; omega) | simp))))) (SolAt.at_ HA.out hB (by repeat (first | exact Below.refl _ _ | assumption | refine ba_alloc ?_ _ | refine ba_drew ?_ | refine ba_drewN ?_ _ | refine ba_via (by assumption) ?_ | (refine ba_set ?_ ?_ _; rotate_left; (first | omega | (simp; omega) | simp)))))).mono ?_); rintro e w1 ⟨rfl, hbw1⟩; obtain ⟨hcw1, hfw1⟩ := bcell hbw1; have hzw1_0 : w.heap.size < w1.heap.size := lt_via hbw1 (by first | omega | (simp; done) | (simp; omega))))
    all_goals (go_ret; exact ⟨ret_b (by rw [H.out, Bool.eq_iff_iff]; all_goals (first | (simp; done) | (simp; omega))), (by repeat (first | exact Below.refl _ _ | assumption | refine ba_alloc ?_ _ | refine ba_drew ?_ | refine ba_drewN ?_ _ | refine ba_via (by assumption) ?_ | (refine ba_set ?_ ?_ _; rotate_left; (first | omega | (simp; omega) | simp))))⟩))
end Go.Proofs.YtffkmgjmlahfpaaGreat
set_option linter.unusedVariables false
set_option linter.unusedSimpArgs false
namespace Go.Proofs.YtffkmgjmlahfpaaGreat
open Go.RowKit
def S.apartJ (a b : Jn) : Bool := !(a.first == b.first) && !(a.second == b.second)
/-- What the reference asks of lap i. -/
def S.lapAt (L : List Mn) (js : List Jn) (i : Nat) : Bool := match js[i]? with | some j => S.jointOk L j && (js.take i).all (fun k => S.apartJ k j) | none => true
theorem lapsOk_of {L : List Mn} : ∀ {js : List Jn} {f s : Int → Bool}, (∀ j, j ∈ js → S.jointOk L j = true ∧ f j.first = false ∧ s j.second = false) → (js.map Jn.first).Nodup → (js.map Jn.second).Nodup → S.lapsOk L f s js = true := by
  intro js
  induction js with
  | nil => intro f s _ _ _; rfl
  | cons a js ih =>
    intro f s h h1 h2
    rw [List.map_cons, List.nodup_cons] at h1 h2
    obtain ⟨g1, g2, g3⟩ := h a List.mem_cons_self
    simp only [S.lapsOk, g1, g2, g3, Bool.not_false, Bool.true_and]
    refine ih (fun j hj => ?_) h1.2 h2.2
    obtain ⟨k1, k2, k3⟩ := h j (List.mem_cons_of_mem _ hj)
    have n1 : j.first ≠ a.first := fun e => h1.1 (e ▸ List.mem_map_of_mem hj)
    have n2 : j.second ≠ a.second := fun e => h2.1 (e ▸ List.mem_map_of_mem hj)
    exact ⟨k1, by simp [n1, k2], by simp [n2, k3]⟩
theorem nodup_iff {α : Type} (f : α → Int) (l : List α) : (l.map f).Nodup ↔ ∀ i k (hi : i < l.length) (hk : k < i), f (l[k]'(by omega)) ≠ f l[i] := by
  unfold List.Nodup
  rw [List.pairwise_iff_getElem]
  constructor
  · intro h i k hi hk
    have := h k i (by simp; omega) (by simpa using hi) hk
    simpa using this
  · intro h i j hi hj hij
    have := h j i (by simpa using hj) hij
    simpa using this
theorem lapsOk_eq (L : List Mn) (js : List Jn) : S.lapsOk L (fun _ => false) (fun _ => false) js = (List.range js.length).all (S.lapAt L js) := by
  rw [Bool.eq_iff_iff, List.all_eq_true]
  constructor
  · intro h i hi
    have hi' := List.mem_range.1 hi
    obtain ⟨h1, h2, h3⟩ := lapsOk_out h
    rw [nodup_iff] at h2 h3
    unfold S.lapAt
    rw [List.getElem?_eq_getElem hi']
    simp only [Bool.and_eq_true]
    refine ⟨(h1 _ (List.getElem_mem hi')).1, ?_⟩
    rw [List.all_eq_true]
    intro x hx
    obtain ⟨k, hk, rfl⟩ := List.mem_iff_getElem.1 hx
    rw [List.length_take] at hk
    rw [List.getElem_take]
    have a1 := h2 i k hi' (by omega)
    have a2 := h3 i k hi' (by omega)
    simp [S.apartJ, a1, a2]
  · intro h
    have key : ∀ i (hi : i < js.length), S.jointOk L js[i] = true ∧ ∀ k (hk : k < i), S.apartJ (js[k]'(by omega)) js[i] = true := fun i hi => by
      have := h i (List.mem_range.2 hi)
      unfold S.lapAt at this
      rw [List.getElem?_eq_getElem hi] at this
      simp only [Bool.and_eq_true] at this
      refine ⟨this.1, fun k hk => ?_⟩
      have h2 := List.all_eq_true.1 this.2
      have hkt : k < (js.take i).length := by rw [List.length_take]; omega
      have := h2 (js.take i)[k] (List.getElem_mem hkt)
      rwa [List.getElem_take] at this
    refine lapsOk_of (fun j hj => ?_) ?_ ?_
    · obtain ⟨i, hi, rfl⟩ := List.mem_iff_getElem.1 hj
      exact ⟨(key i hi).1, rfl, rfl⟩
    · rw [nodup_iff]
      intro i k hi hk he
      have := (key i hi).2 k hk
      simp [S.apartJ, he] at this
    · rw [nodup_iff]
      intro i k hi hk he
      have := (key i hi).2 k hk
      simp [S.apartJ, he] at this
theorem look_eq {x : Dt} {td : Bool} (hj : x.js.length = x.jn) : S.look x td = (S.member x.m && S.laid (bars x.bs) x.rs && td && S.rule x.rule && decide (x.jn ≤ 1000) && (List.range x.jn).all (S.lapAt (S.mains (bars x.bs) x.rs) x.js)) := by
  unfold S.look
  rw [lapsOk_eq, hj]
set_option maxRecDepth 20000 in
set_option maxHeartbeats 4000000 in
theorem rlook_no (x : Dt) (ds : List Dm) (B : Nat) (w : World) (hB : B ≤ w.heap.size) (hA : DtAt w B x) (hD : DemsAt w B x.dA x.dn ds) (h : (S.member x.m && S.laid (bars x.bs) x.rs && S.dems ds && S.rule x.rule && decide (x.jn ≤ 1000)) = false) :
    Calls Tryz.prog 14 #[dtV x] w fun e w' => e = .returned (.bool false) ∧ Below w.heap.size w w' := by
  have HA := Lib.hid hA
  have HDA := Lib.hid hD
  have HM := Lib.hid (fun (W : World) (hw : B ≤ W.heap.size) (hh : DtAt W B x) => rmember_any x.m x.mA x.mn x.mc x.hA x.hn x.hc B W hw hh.sol hA.name)
  have HL := Lib.hid (fun (W : World) (hw : B ≤ W.heap.size) (hh : DtAt W B x) => rlaid_any x.bs x.rs x.bA x.bn x.bc x.rA x.rn x.rc B W hw hh.bars hh.runs)
  have HD := Lib.hid (fun (W : World) (hw : B ≤ W.heap.size) (hh : DemsAt W B x.dA x.dn ds) => rdems_any ds x.dA x.dn x.dc B W hw hh)
  have HR := Lib.hid (fun W => rvalid_any x.rule W)
  have hjm := hA.jmax
  clear hA hD
  generalize S.member x.m = t0 at *
  generalize S.laid (bars x.bs) x.rs = t1 at *
  generalize S.dems ds = t2 at *
  generalize S.rule x.rule = t3 at *
  have hcs : t0 = false ∨ (t0 = true ∧ t1 = false) ∨ (t0 = true ∧ t1 = true ∧ t2 = false) ∨ (t0 = true ∧ t1 = true ∧ t2 = true ∧ t3 = false) ∨ (t0 = true ∧ t1 = true ∧ t2 = true ∧ t3 = true ∧ 1000 < x.jn) := by
    cases t0 <;> cases t1 <;> cases t2 <;> cases t3 <;> simp at h ⊢
    omega
  clear h
  unfold memV at HM
  unfold ruleV at HR
  unfold dtV
  rcases hcs with rfl | ⟨rfl, rfl⟩ | ⟨rfl, rfl, rfl⟩ | ⟨rfl, rfl, rfl, rfl⟩ | ⟨rfl, rfl, rfl, rfl, h5⟩
  all_goals (
    go_enter Tryz.func14, Tryz.ntmps14
    go_wp2_with (first
      | (go_at_call 60; (with_reducible refine (HM.out _ (size_via hB (by repeat (first | exact Below.refl _ _ | assumption | refine ba_alloc ?_ _ | refine ba_drew ?_ | refine ba_drewN ?_ _ | refine ba_via (by assumption) ?_ | (refine ba_set ?_ ?_ _; rotate_left; (first | omega | (simp; omega) | simp))))) (HA.out.at_ hB (by repeat (first | exact Below.refl _ _ | assumption | refine ba_alloc ?_ _ | refine ba_drew ?_ | refine ba_drewN ?_ _ | refine ba_via (by assumption) ?_ | (refine ba_set ?_ ?_ _; rotate_left; (first | omega | (simp; omega) | simp)))))).mono ?_); rintro e w1 ⟨rfl, hbw1⟩; obtain ⟨hcw1, hfw1⟩ := bcell hbw1; have hzw1_0 : w.heap.size < w1.heap.size := lt_via hbw1 (by first | omega | (simp; done) | (simp; omega)))
      | (go_at_call 61; (with_reducible refine (HL.out _ (size_via hB (by repeat (first | exact Below.refl _ _ | assumption | refine ba_alloc ?_ _ | refine ba_drew ?_ | refine ba_drewN ?_ _ | refine ba_via (by assumption) ?_ | (refine ba_set ?_ ?_ _; rotate_left; (first | omega | (simp; omega) | simp))))) (HA.out.at_ hB (by repeat (first | exact Below.refl _ _ | assumption | refine ba_alloc ?_ _ | refine ba_drew ?_ | refine ba_drewN ?_ _ | refine ba_via (by assumption) ?_ | (refine ba_set ?_ ?_ _; rotate_left; (first | omega | (simp; omega) | simp)))))).mono ?_); rintro e w2 ⟨rfl, hbw2⟩; obtain ⟨hcw2, hfw2⟩ := bcell hbw2; have hzw2_0 : w.heap.size < w2.heap.size := lt_via hbw2 (by first | omega | (simp; done) | (simp; omega)))
      | (go_at_call 62; (with_reducible refine (HD.out _ (size_via hB (by repeat (first | exact Below.refl _ _ | assumption | refine ba_alloc ?_ _ | refine ba_drew ?_ | refine ba_drewN ?_ _ | refine ba_via (by assumption) ?_ | (refine ba_set ?_ ?_ _; rotate_left; (first | omega | (simp; omega) | simp))))) (HDA.out.at_ hB (by repeat (first | exact Below.refl _ _ | assumption | refine ba_alloc ?_ _ | refine ba_drew ?_ | refine ba_drewN ?_ _ | refine ba_via (by assumption) ?_ | (refine ba_set ?_ ?_ _; rotate_left; (first | omega | (simp; omega) | simp)))))).mono ?_); rintro e w3 ⟨rfl, hbw3⟩; obtain ⟨hcw3, hfw3⟩ := bcell hbw3; have hzw3_0 : w.heap.size < w3.heap.size := lt_via hbw3 (by first | omega | (simp; done) | (simp; omega)))
      | (go_at_call 63; (with_reducible refine (HR.out _).mono ?_); rintro e w4 ⟨rfl, hbw4⟩; obtain ⟨hcw4, hfw4⟩ := bcell hbw4; have hzw4_0 : w.heap.size < w4.heap.size := lt_via hbw4 (by first | omega | (simp; done) | (simp; omega))))
    go_ret
    exact ⟨rfl, (by repeat (first | exact Below.refl _ _ | assumption | refine ba_alloc ?_ _ | refine ba_drew ?_ | refine ba_drewN ?_ _ | refine ba_via (by assumption) ?_ | (refine ba_set ?_ ?_ _; rotate_left; (first | omega | (simp; omega) | simp))))⟩)
set_option maxRecDepth 20000 in
set_option maxHeartbeats 8000000 in
theorem rlook_in (x : Dt) (ds : List Dm) (B : Nat) (w : World) (hB : B ≤ w.heap.size) (hA : DtAt w B x) (hD : DemsAt w B x.dA x.dn ds) (h0 : S.member x.m = true) (h1 : S.laid (bars x.bs) x.rs = true) (h2 : S.dems ds = true) (h3 : S.rule x.rule = true) (h5 : x.jn ≤ 1000) :
    Calls Tryz.prog 14 #[dtV x] w fun e w' => e = .returned (.bool ((List.range x.jn).all (S.lapAt (S.mains (bars x.bs) x.rs) x.js))) ∧ Below w.heap.size w w' := by
  have HA := Lib.hid hA
  have HDA := Lib.hid hD
  have HM := Lib.hid (fun (W : World) (hw : B ≤ W.heap.size) (hh : DtAt W B x) => h0 ▸ rmember_any x.m x.mA x.mn x.mc x.hA x.hn x.hc B W hw hh.sol hA.name)
  have HL := Lib.hid (fun (W : World) (hw : B ≤ W.heap.size) (hh : DtAt W B x) => h1 ▸ rlaid_any x.bs x.rs x.bA x.bn x.bc x.rA x.rn x.rc B W hw hh.bars hh.runs)
  have HD := Lib.hid (fun (W : World) (hw : B ≤ W.heap.size) (hh : DemsAt W B x.dA x.dn ds) => h2 ▸ rdems_any ds x.dA x.dn x.dc B W hw hh)
  have HR := Lib.hid (fun W => h3 ▸ rvalid_any x.rule W)
  have HJ := Lib.hid (fun (j : Jn) (W : World) (hw : B ≤ W.heap.size) (hh : DtAt W B x) => rjoint_any x j B W hw hh h1)
  have hjl := hA.jlen
  have HAT := Lib.hid (fun (k : Nat) (hk : k < x.js.length) => show S.lapAt (S.mains (bars x.bs) x.rs) x.js k = (S.jointOk (S.mains (bars x.bs) x.rs) x.js[k] && (x.js.take k).all (fun i => S.apartJ i x.js[k])) from by unfold S.lapAt; rw [List.getElem?_eq_getElem hk])
  clear hA hD h0 h1 h2 h3
  generalize S.lapAt (S.mains (bars x.bs) x.rs) x.js = P at *
  unfold memV at HM
  unfold ruleV at HR
  unfold dtV at HJ
  unfold dtV
  generalize hjA : x.jA = jA at *
  have HjA := Lib.hid hjA
  clear hjA
  go_enter Tryz.func14, Tryz.ntmps14
  go_upto_region 3 with (first
    | (go_at_call 60; (with_reducible refine (HM.out _ (size_via hB (by repeat (first | exact Below.refl _ _ | assumption | refine ba_alloc ?_ _ | refine ba_drew ?_ | refine ba_drewN ?_ _ | refine ba_via (by assumption) ?_ | (refine ba_set ?_ ?_ _; rotate_left; (first | omega | (simp; omega) | simp))))) (HA.out.at_ hB (by repeat (first | exact Below.refl _ _ | assumption | refine ba_alloc ?_ _ | refine ba_drew ?_ | refine ba_drewN ?_ _ | refine ba_via (by assumption) ?_ | (refine ba_set ?_ ?_ _; rotate_left; (first | omega | (simp; omega) | simp)))))).mono ?_); rintro e w1 ⟨rfl, hbw1⟩; obtain ⟨hcw1, hfw1⟩ := bcell hbw1; have hzw1_0 : w.heap.size < w1.heap.size := lt_via hbw1 (by first | omega | (simp; done) | (simp; omega)))
    | (go_at_call 61; (with_reducible refine (HL.out _ (size_via hB (by repeat (first | exact Below.refl _ _ | assumption | refine ba_alloc ?_ _ | refine ba_drew ?_ | refine ba_drewN ?_ _ | refine ba_via (by assumption) ?_ | (refine ba_set ?_ ?_ _; rotate_left; (first | omega | (simp; omega) | simp))))) (HA.out.at_ hB (by repeat (first | exact Below.refl _ _ | assumption | refine ba_alloc ?_ _ | refine ba_drew ?_ | refine ba_drewN ?_ _ | refine ba_via (by assumption) ?_ | (refine ba_set ?_ ?_ _; rotate_left; (first | omega | (simp; omega) | simp)))))).mono ?_); rintro e w2 ⟨rfl, hbw2⟩; obtain ⟨hcw2, hfw2⟩ := bcell hbw2; have hzw2_0 : w.heap.size < w2.heap.size := lt_via hbw2 (by first | omega | (simp; done) | (simp; omega)))
    | (go_at_call 62; (with_reducible refine (HD.out _ (size_via hB (by repeat (first | exact Below.refl _ _ | assumption | refine ba_alloc ?_ _ | refine ba_drew ?_ | refine ba_drewN ?_ _ | refine ba_via (by assumption) ?_ | (refine ba_set ?_ ?_ _; rotate_left; (first | omega | (simp; omega) | simp))))) (HDA.out.at_ hB (by repeat (first | exact Below.refl _ _ | assumption | refine ba_alloc ?_ _ | refine ba_drew ?_ | refine ba_drewN ?_ _ | refine ba_via (by assumption) ?_ | (refine ba_set ?_ ?_ _; rotate_left; (first | omega | (simp; omega) | simp)))))).mono ?_); rintro e w3 ⟨rfl, hbw3⟩; obtain ⟨hcw3, hfw3⟩ := bcell hbw3; have hzw3_0 : w.heap.size < w3.heap.size := lt_via hbw3 (by first | omega | (simp; done) | (simp; omega)))
    | (go_at_call 63; (with_reducible refine (HR.out _).mono ?_); rintro e w4 ⟨rfl, hbw4⟩; obtain ⟨hcw4, hfw4⟩ := bcell hbw4; have hzw4_0 : w.heap.size < w4.heap.size := lt_via hbw4 (by first | omega | (simp; done) | (simp; omega))))
  have hDB := Blk.via (Blk.via (Blk.via (Blk.via (Blk.new w 34 #[.string x.m.name, .slice x.mA x.mn x.mc, .slice x.hA x.hn x.hc, .int .i64 x.m.cover, .int .i64 x.m.aggr, .int .i64 x.m.poker, .slice x.bA x.bn x.bc, .slice x.rA x.rn x.rc, .slice jA x.jn x.jc, .slice x.dA x.dn x.dc, .int .i64 x.rule.num, .int .i64 x.rule.den, .int .i64 x.rule.pnum, .int .i64 x.rule.pden, .int .i64 x.rule.bnum, .int .i64 x.rule.bden, .int .i64 x.rule.lnum, .int .i64 x.rule.lden, .int .i64 x.rule.least]) hbw1) hbw2) hbw3) hbw4
  have hbw : Below w.heap.size w w4 := (by repeat (first | exact Below.refl _ _ | assumption | refine ba_alloc ?_ _ | refine ba_drew ?_ | refine ba_drewN ?_ _ | refine ba_via (by assumption) ?_ | (refine ba_set ?_ ?_ _; rotate_left; (first | omega | (simp; omega) | simp))))
  clear hcw1 hfw1 hcw2 hfw2 hcw3 hfw3 hcw4 hfw4 HM HL HD HR
  clear hbw1 hbw2 hbw3 hbw4
  have HDB := Lib.hid hDB
  have d8 := hDB.cell 8
  have hDl := hDB.lt
  simp only [List.getElem?_toArray, List.getElem?_cons_zero, List.getElem?_cons_succ] at d8
  clear hDB
  go_wp2
  go_loopw [3] (fun i wr => ∃ k : Nat, k ≤ x.jn ∧ i = .int .i64 k ∧ Hid (∀ j, j < k → P j = true) ∧ Below w4.heap.size w4 wr) (fun i _ => x.jn - (intOf i).toNat)
  case atStart => exact ⟨0, Nat.zero_le _, rfl, Lib.hid (fun j hj => absurd hj (by omega)), Below.refl _ _⟩
  case round =>
    obtain ⟨k, hk, rfl, HNO, hbr⟩ := hrel
    have hbwr : Below w.heap.size w wr := hbw.trans (hbr.mono hbw.size)
    have hDr := HDB.out.via hbr
    have d8r := hDr.cell 8
    have hDrl := hDr.lt
    simp only [List.getElem?_toArray, List.getElem?_cons_zero, List.getElem?_cons_succ] at d8r
    have HDR := Lib.hid hDr
    clear hDr
    by_cases hlt : k < x.jn
    · have hkx : k < x.js.length := by omega
      have hki : (k : Int) < (x.jn : Int) := by omega
      have hJc := (HA.out.at_ hB hbwr).joints
      rw [HjA.out] at hJc
      obtain ⟨bJ, oJ, hje, hbJ, _⟩ := hJc.at_ (by rw [flat_len jnC 2 jnC_len]; omega)
      subst hje
      have hbJl : bJ < wr.heap.size := by have := hbwr.size; omega
      have c0 := hJc.row0 jnC_len hkx rfl
      have c1 := hJc.rowj jnC_len hkx 1 rfl
      have HJC := Lib.hid hJc
      have HJk := Lib.hid (HJ.out x.js[k])
      have HATk := Lib.hid (HAT.out k hkx)
      have HBAD := Lib.hid (fun (h : P k = false) => show (List.range x.jn).all P = false from by
        rw [List.all_eq_false]; exact ⟨k, List.mem_range.2 hlt, by simp [h]⟩)
      have HGO := Lib.hid (fun (h : P k = true) => show ∀ j, j < k + 1 → P j = true from fun j hj => by
        by_cases hjk : j = k
        · subst hjk; exact h
        · exact HNO.out j (by omega))
      clear hJc
      have hRG := (HDR.out).range
      have hRGd : ∀ W', Below wr.heap.size wr W' → W'.rangeAt w.heap.size 0 [.string x.m.name, .slice x.mA x.mn x.mc, .slice x.hA x.hn x.hc, .int .i64 x.m.cover, .int .i64 x.m.aggr, .int .i64 x.m.poker, .slice x.bA x.bn x.bc, .slice x.rA x.rn x.rc, .slice (some ⟨bJ, oJ, none⟩) x.jn x.jc, .slice x.dA x.dn x.dc, .int .i64 x.rule.num, .int .i64 x.rule.den, .int .i64 x.rule.pnum, .int .i64 x.rule.pden, .int .i64 x.rule.bnum, .int .i64 x.rule.bden, .int .i64 x.rule.lnum, .int .i64 x.rule.lden, .int .i64 x.rule.least] := fun W' hw => (HDR.out.via hw).range
      have HRGD := Lib.hid hRGd
      clear hRG hRGd
      cases hjo : S.jointOk (S.mains (bars x.bs) x.rs) x.js[k]
      all_goals (
        have HJO := Lib.hid hjo
        rw [hjo] at HJk
        clear hjo
        go_upto_region 6 with fail
        refine wp_region_mix 0 [0, 5] (by kernel_rfl) (by kernel_rfl) (of_decide_eq_true (by kernel_rfl)) ?_
        try simp only [wpSegs, List.take_succ_cons, List.take_zero, List.drop_succ_cons, List.drop_zero, List.take_nil, List.drop_nil]
        repeat (go_big_quiet_step (fail))
        refine wpQuiet_nil ?_
        show wpList _ _ _ _ _ _
        go_wp2_with ((refine wpList_load_mid rfl 34 (.tmp 1) rfl _ _ rfl _ _ (HRGD.out _ (by repeat (with_reducible first | exact Below.refl _ _ | assumption | refine ba_alloc ?_ _ | refine ba_drew ?_ | refine ba_drewN ?_ _ | refine ba_via (by assumption) ?_ | (refine ba_set ?_ ?_ _; rotate_left; (first | omega | (simp; omega) | simp))))) Tryz.underlying34 rfl (by kernel_rfl) ?_))
        refine seg_next (grow_to (by repeat (with_reducible first | exact Below.refl _ _ | assumption | refine ba_alloc ?_ _ | refine ba_drew ?_ | refine ba_drewN ?_ _ | refine ba_via (by assumption) ?_ | (refine ba_set ?_ ?_ _; rotate_left; (first | omega | (simp; omega) | simp))))) ?_
        try simp only [wpSegs, List.take_succ_cons, List.take_zero, List.drop_succ_cons, List.drop_zero, List.take_nil, List.drop_nil]
        repeat (go_big_quiet_step (fail))
        refine wpQuiet_nil ?_
        show wpList _ _ _ _ _ _
        go_wp2_with ((go_at_call 64; (with_reducible refine (HJk.out _ (size_via hB (by repeat (with_reducible first | exact Below.refl _ _ | assumption | refine ba_alloc ?_ _ | refine ba_drew ?_ | refine ba_drewN ?_ _ | refine ba_via (by assumption) ?_ | (refine ba_set ?_ ?_ _; rotate_left; (first | omega | (simp; omega) | simp))))) (HA.out.at_ hB (by repeat (with_reducible first | exact Below.refl _ _ | assumption | refine ba_alloc ?_ _ | refine ba_drew ?_ | refine ba_drewN ?_ _ | refine ba_via (by assumption) ?_ | (refine ba_set ?_ ?_ _; rotate_left; (first | omega | (simp; omega) | simp)))))).mono ?_); rintro e w6 ⟨rfl, hbw6⟩))
        refine seg_next (grow_to (by repeat (with_reducible first | exact Below.refl _ _ | assumption | refine ba_alloc ?_ _ | refine ba_drew ?_ | refine ba_drewN ?_ _ | refine ba_via (by assumption) ?_ | (refine ba_set ?_ ?_ _; rotate_left; (first | omega | (simp; omega) | simp))))) ?_
        try simp only [wpSegs, List.take_succ_cons, List.take_zero, List.drop_succ_cons, List.drop_zero, List.take_nil, List.drop_nil]
        repeat (go_big_quiet_step (fail))
        refine wpQuiet_nil ?_
        show wpList _ _ _ _ _ _
        have hb6 : Below wr.heap.size wr w6 := (by repeat (with_reducible first | exact Below.refl _ _ | assumption | refine ba_alloc ?_ _ | refine ba_drew ?_ | refine ba_drewN ?_ _ | refine ba_via (by assumption) ?_ | (refine ba_set ?_ ?_ _; rotate_left; (first | omega | (simp; omega) | simp)))))
      · have HF := Lib.hid (HBAD.out (by rw [HATk.out, HJO.out]; rfl))
        go_wp2
        go_ret
        exact ⟨ret_b HF.out.symm, hbwr.trans (hb6.mono hbwr.size)⟩
      · have HAY := Lib.hid (show P k = (x.js.take k).all (fun i => S.apartJ i x.js[k]) by rw [HATk.out, HJO.out]; rfl)
        have hb6w : Below w.heap.size w w6 := hbwr.trans (hb6.mono hbwr.size)
        have hs6 := hb6.size
        clear hbw6
        go_wp2
        generalize wr = wo at *
        go_loopw [4] (fun i wr => ∃ q : Nat, q ≤ k ∧ i = .int .i64 q ∧ Hid (∀ j (hj : j < k), j < q → S.apartJ (x.js[j]'(by omega)) x.js[k] = true) ∧ Below w6.heap.size w6 wr) (fun i _ => k - (intOf i).toNat)
        case atStart => exact ⟨0, Nat.zero_le _, rfl, Lib.hid (fun j _ hj => absurd hj (by omega)), Below.refl _ _⟩
        case round =>
          obtain ⟨q, hq, rfl, HNP, hbq⟩ := hrel
          have hbx : Below wo.heap.size wo wr := hb6.trans (hbq.mono hs6)
          by_cases hlq : q < k
          · have hqx : q < x.js.length := by omega
            have hqi : (q : Int) < (k : Int) := by omega
            have hqn : (q : Int) < (x.jn : Int) := by omega
            have hJq := HJC.out.below (hbx.mono (by have := hbwr.size; omega))
            have c0 := hJq.row0 jnC_len hkx rfl
            have c1 := hJq.rowj jnC_len hkx 1 rfl
            have g0 := hJq.row0 jnC_len hqx rfl
            have g1 := hJq.rowj jnC_len hqx 1 rfl
            have d8q := (HDR.out.via hbx).cell 8
            simp only [List.getElem?_toArray, List.getElem?_cons_zero, List.getElem?_cons_succ] at d8q
            have hDq : w.heap.size < wr.heap.size := (HDR.out.via hbx).lt
            have hbJq : bJ < wr.heap.size := by have := hbx.size; omega
            have HE := Lib.hid (show S.apartJ x.js[q] x.js[k] = (!(x.js[q].first == x.js[k].first) && !(x.js[q].second == x.js[k].second)) from rfl)
            have HBD := Lib.hid (fun (h : S.apartJ x.js[q] x.js[k] = false) => HBAD.out (by
              rw [HAY.out, List.all_eq_false]
              refine ⟨x.js[q], ?_, by simp [h]⟩
              have hqt : q < (x.js.take k).length := by rw [List.length_take]; omega
              have e : (x.js.take k)[q] = x.js[q] := List.getElem_take
              rw [← e]
              exact List.getElem_mem _))
            have HGD := Lib.hid (fun (h : S.apartJ x.js[q] x.js[k] = true) (j : Nat) (hj : j < k) (hjq : j < q + 1) => show S.apartJ (x.js[j]'(by omega)) x.js[k] = true from by
              by_cases hjq' : j = q
              · subst hjq'; exact h
              · exact HNP.out j hj (by omega))
            clear hJq
            generalize x.js[q] = z at *
            generalize x.js[k] = y at *
            cases e1 : (z.first == y.first)
            · cases e2 : (z.second == y.second)
              · have HG := Lib.hid (HGD.out (by rw [HE.out, e1, e2]; rfl))
                go_wp2
                refine wp_region_grow (by kernel_rfl) (by kernel_rfl) ?_
                repeat (go_big_quiet_step (fail))
                all_goals (refine wpQuiet_nil ?_; intro wg hbwg; obtain ⟨hcwg, hfwg⟩ := bcell hbwg)
                go_wp2
                go_roundw
                case rel => exact ⟨q + 1, by omega, by go_num, Lib.hid HG.out, hbq.trans (hbwg.mono hbq.size)⟩
                case measure => simp [intOf]; omega
              · have HG := Lib.hid (HBD.out (by rw [HE.out, e1, e2]; rfl))
                go_wp2
                refine wp_region_grow (by kernel_rfl) (by kernel_rfl) ?_
                repeat (go_big_quiet_step (fail))
                all_goals (refine wpQuiet_nil ?_; intro wg hbwg; obtain ⟨hcwg, hfwg⟩ := bcell hbwg)
                go_wp2
                go_ret
                exact ⟨ret_b HG.out.symm, hbwr.trans ((hbx.trans (hbwg.mono hbx.size)).mono hbwr.size)⟩
            · have HG := Lib.hid (HBD.out (by rw [HE.out, e1]; rfl))
              go_wp2
              refine wp_region_grow (by kernel_rfl) (by kernel_rfl) ?_
              repeat (go_big_quiet_step (fail))
              all_goals (refine wpQuiet_nil ?_; intro wg hbwg; obtain ⟨hcwg, hfwg⟩ := bcell hbwg)
              go_wp2
              go_ret
              exact ⟨ret_b HG.out.symm, hbwr.trans ((hbx.trans (hbwg.mono hbx.size)).mono hbwr.size)⟩
          · have HG := Lib.hid (HGO.out (by
              rw [HAY.out]
              exact all_yes (p := fun i => S.apartJ i x.js[k]) (fun j hj => by
                rw [List.length_take] at hj
                rw [List.getElem_take]
                exact HNP.out j (by omega) (by omega))))
            go_wp2
            go_roundw
            case rel => exact ⟨k + 1, by omega, by go_num, Lib.hid HG.out, hbr.trans (hbx.mono hbr.size)⟩
            case measure => simp [intOf]; omega
    · have HG := Lib.hid (show (List.range x.jn).all P = true from by
        rw [List.all_eq_true]
        exact fun j hj => HNO.out j (by have := List.mem_range.1 hj; omega))
      go_wp2
      go_ret
      exact ⟨ret_b HG.out.symm, hbwr⟩
/-- The reference's Valid of any detail. -/
theorem rlook_any (x : Dt) (ds : List Dm) (B : Nat) (w : World) (hB : B ≤ w.heap.size) (hA : DtAt w B x) (hD : DemsAt w B x.dA x.dn ds) :
    Calls Tryz.prog 14 #[dtV x] w fun e w' => e = .returned (.bool (S.look x (S.dems ds))) ∧ Below w.heap.size w w' := by
  rw [look_eq hA.jlen]
  cases hc : (S.member x.m && S.laid (bars x.bs) x.rs && S.dems ds && S.rule x.rule && decide (x.jn ≤ 1000))
  · rw [Bool.false_and]
    exact rlook_no x ds B w hB hA hD hc
  · rw [Bool.true_and]
    simp only [Bool.and_eq_true, decide_eq_true_eq] at hc
    obtain ⟨⟨⟨⟨h0, h1⟩, h2⟩, h3⟩, h5⟩ := hc
    exact rlook_in x ds B w hB hA hD h0 h1 h2 h3 h5
end Go.Proofs.YtffkmgjmlahfpaaGreat
set_option linter.unusedVariables false
set_option linter.unusedSimpArgs false
namespace Go.Proofs.YtffkmgjmlahfpaaGreat
open Go.RowKit
structure Fd where
  kind : Int
  name : ByteArray
abbrev fdC (f : Fd) : List Value := [.int .i64 f.kind, .string f.name]
theorem fdC_len (f : Fd) : (fdC f).length = 2 := rfl
theorem elemFd : Elem Tryz.prog 37 42 (.agg #[.int .i64 0, .string ⟨#[]⟩]) 2 24 := ⟨Tryz.underlying37, by kernel_rfl, rfl, by decide⟩
def S.lessI (a b : Int) : Int := if b < a then b else a
/-- What the overlap of two bars must be at least. -/
def S.wants (m : Mem) (r : Rule) (a b : Mn) : Int := lLength r (S.lessI a.size b.size) (S.poor m.boxes a.leg || S.poor m.boxes b.leg)
def S.shortL (m : Mem) (r : Rule) (a b : Mn) : Bool := decide (a.leg.hi.x - b.leg.lo.x < S.wants m r a b)
def S.farL (a b : Mn) : Bool := decide ((a.size + b.size + 50) * (a.size + b.size + 50) < S.square a.leg b.leg)
/-- The findings of one lap. -/
def S.lapFind (m : Mem) (r : Rule) (a b : Mn) : List Fd := (if S.shortL m r a b = true then [⟨1, a.mark⟩] else []) ++ (if S.farL a b = true then [⟨2, a.mark⟩] else [])
def S.lapF (m : Mem) (r : Rule) (L : List Mn) (j : Jn) : List Fd := match L[j.first.toNat]?, L[j.second.toNat]? with | some a, some b => S.lapFind m r a b | _, _ => []
def S.lapFinds (m : Mem) (r : Rule) (L : List Mn) (js : List Jn) : List Fd := js.flatMap (S.lapF m r L)
theorem lapFinds_succ (m : Mem) (r : Rule) (L : List Mn) (js : List Jn) {k : Nat} (hk : k < js.length) : S.lapFinds m r L (js.take (k + 1)) = S.lapFinds m r L (js.take k) ++ S.lapF m r L js[k] := by
  unfold S.lapFinds
  rw [List.take_succ_eq_append_getElem hk, List.flatMap_append]
  simp
theorem lapF_len (m : Mem) (r : Rule) (L : List Mn) (j : Jn) : (S.lapF m r L j).length ≤ 2 := by
  unfold S.lapF
  split
  · unfold S.lapFind
    split <;> split <;> simp
  · simp
theorem lapFinds_len (m : Mem) (r : Rule) (L : List Mn) (js : List Jn) : (S.lapFinds m r L js).length ≤ 2 * js.length := by
  induction js with
  | nil => simp [S.lapFinds]
  | cons j js ih =>
    have := lapF_len m r L j
    simp only [S.lapFinds, List.flatMap_cons, List.length_append, List.length_cons] at ih ⊢
    omega
/-- A lap of a valid detail: its bars, whose legs are boxes. -/
theorem look_pair {x : Dt} {td : Bool} (h : S.look x td = true) {k : Nat} (hk : k < x.js.length) :
    ∃ (i1 i2 : Nat) (a b : Mn), x.js[k] = ⟨i1, i2⟩ ∧ (S.mains (bars x.bs) x.rs)[i1]? = some a ∧ (S.mains (bars x.bs) x.rs)[i2]? = some b ∧ S.boxOk a.leg = true ∧ S.boxOk b.leg = true ∧ S.size a.size = true ∧ S.size b.size = true ∧ b.leg.lo.x ≤ a.leg.hi.x := by
  simp only [S.look, Bool.and_eq_true, decide_eq_true_eq] at h
  obtain ⟨⟨⟨⟨⟨_, hl⟩, _⟩, _⟩, _⟩, h6⟩ := h
  have hj := ((lapsOk_out h6).1 _ (List.getElem_mem hk)).1
  unfold S.jointOk at hj
  rw [Bool.and_eq_true] at hj
  obtain ⟨hin, hon⟩ := hj
  simp only [S.jointIn, Bool.and_eq_true, decide_eq_true_eq] at hin
  generalize x.js[k] = j at *
  obtain ⟨f, s⟩ := j
  obtain ⟨i1, h1⟩ : ∃ i : Nat, f = (i : Int) := ⟨f.toNat, by simp at hin; omega⟩
  obtain ⟨i2, h2⟩ : ∃ i : Nat, s = (i : Int) := ⟨s.toNat, by simp at hin; omega⟩
  subst h1 h2
  simp only [] at hin
  have g1 := List.getElem?_eq_getElem (l := S.mains (bars x.bs) x.rs) (i := i1) (by omega)
  have g2 := List.getElem?_eq_getElem (l := S.mains (bars x.bs) x.rs) (i := i2) (by omega)
  simp only [Int.toNat_natCast] at hon
  rw [g1, g2] at hon
  simp only [S.jointOn, Bool.and_eq_true, decide_eq_true_eq] at hon
  obtain ⟨s1, b1⟩ := mains_box hl g1
  obtain ⟨s2, b2⟩ := mains_box hl g2
  exact ⟨i1, i2, _, _, rfl, g1, g2, b1 hon.1.1.1.1, b2 hon.1.1.1.2, s1, s2, hon.2⟩
theorem lapF_pair {m : Mem} {r : Rule} {L : List Mn} {i1 i2 : Nat} {a b : Mn} (h1 : L[i1]? = some a) (h2 : L[i2]? = some b) : S.lapF m r L ⟨i1, i2⟩ = S.lapFind m r a b := by
  unfold S.lapF
  simp only [Int.toNat_natCast]
  rw [h1, h2]

set_option maxRecDepth 20000 in
set_option maxHeartbeats 8000000 in
theorem lcheck_yes (x : Dt) (td : Bool) (B : Nat) (w : World) (hB : B ≤ w.heap.size) (hA : DtAt w B x) (h : S.look x td = true)
    (hL : ∀ W, Below w.heap.size w W → Calls Tryz.prog 65 #[dtV x] W (GivesLook true (S.mains (bars x.bs) x.rs).length ((S.mains (bars x.bs) x.rs).flatMap mnC) W)) :
    Calls Tryz.prog 15 #[dtV x] w (GivesRow 42 2 (S.lapFinds x.m x.rule (S.mains (bars x.bs) x.rs) x.js).length ((S.lapFinds x.m x.rule (S.mains (bars x.bs) x.rs) x.js).flatMap fdC) 0 w) := by
  have HL := Lib.hid hL
  clear hL
  have HA := Lib.hid hA
  have HP := Lib.hid (fun (k : Nat) (hk : k < x.js.length) => look_pair h hk)
  have hlk := h
  simp only [S.look, Bool.and_eq_true, decide_eq_true_eq] at hlk
  obtain ⟨⟨⟨⟨⟨hmem, hlaid⟩, _⟩, hrule⟩, hj1000⟩, _⟩ := hlk
  have hlen : (S.mains (bars x.bs) x.rs).length ≤ 2000 := by
    have h2 := hlaid
    simp only [S.laid, Bool.and_eq_true] at h2
    have := mains_len h2.2 (by omega)
    omega
  have HPO := Lib.hid (fun (leg : Bx) (hl : S.boxOk leg = true) (W : World) (hw : B ≤ W.heap.size) (hh : DtAt W B x) => Poor_yes x.m leg x.mA x.mn x.mc x.hA x.hn x.hc B W hw hh.sol hh.name (by simp [S.poorOk, hmem, hl]))
  have HLL := Lib.hid (fun (d : Int) (hd : S.size d = true) (p : Bool) (W : World) => show Calls Tryz.prog 53 #[ruleV x.rule, .int .i64 d, .bool p] W fun e w' => e = .returned (.tuple #[.int .i64 (lLength x.rule d p), .int .i64 0]) ∧ Below W.heap.size W w' from by
    have := lLength_any x.rule d p W
    rw [sized_yes hrule hd] at this
    exact this)
  have hjl := hA.jlen
  have HJC := Lib.hid hA.joints
  clear h hmem hlaid hrule hA
  generalize S.mains (bars x.bs) x.rs = L at *
  unfold dtV at HL
  unfold dtV
  unfold ruleV at HLL
  unfold memV at HPO
  have hDB := (Blk.new w 34 #[.string x.m.name, .slice x.mA x.mn x.mc, .slice x.hA x.hn x.hc, .int .i64 x.m.cover, .int .i64 x.m.aggr, .int .i64 x.m.poker, .slice x.bA x.bn x.bc, .slice x.rA x.rn x.rc, .slice x.jA x.jn x.jc, .slice x.dA x.dn x.dc, .int .i64 x.rule.num, .int .i64 x.rule.den, .int .i64 x.rule.pnum, .int .i64 x.rule.pden, .int .i64 x.rule.bnum, .int .i64 x.rule.bden, .int .i64 x.rule.lnum, .int .i64 x.rule.lden, .int .i64 x.rule.least])
  have hRG := hDB.range
  go_enter Tryz.func15, Tryz.ntmps15
  go_upto_region 5 with (first
    | (refine wpList_load_mid rfl 34 (.tmp 1) rfl _ _ rfl _ _ hRG Tryz.underlying34 rfl (by kernel_rfl) ?_)
    | (go_at_call 65; (with_reducible refine (HL.out _ (by repeat (first | exact Below.refl _ _ | assumption | refine ba_alloc ?_ _ | refine ba_drew ?_ | refine ba_drewN ?_ _ | refine ba_via (by assumption) ?_ | (refine ba_set ?_ ?_ _; rotate_left; (first | omega | (simp; omega) | simp))))).mono ?_); rintro e w1 ⟨A1, c1', rfl, how1, hbw1⟩))
  have hbw : Below w.heap.size w w1 := (by repeat (first | exact Below.refl _ _ | assumption | refine ba_alloc ?_ _ | refine ba_drew ?_ | refine ba_drewN ?_ _ | refine ba_via (by assumption) ?_ | (refine ba_set ?_ ?_ _; rotate_left; (first | omega | (simp; omega) | simp))))
  have hD1 := hDB.via hbw1
  have d8 := hD1.cell 8
  simp only [List.getElem?_toArray, List.getElem?_cons_zero, List.getElem?_cons_succ] at d8
  have hDl := hD1.lt
  have hML := (own_cells how1 (by unfold maxLen; omega)).1
  clear hRG how1 HL hDB
  go_wp2
  have HRL := Lib.hid (fun (k : Nat) (hk : k < x.js.length) => lapFinds_succ x.m x.rule L x.js hk)
  have HFL := Lib.hid (fun (k : Nat) => show (S.lapFinds x.m x.rule L (x.js.take k)).length ≤ 2000 from by
    have h1 := lapFinds_len x.m x.rule L (x.js.take k)
    have h2 := List.length_take_le' k x.js
    omega)
  go_loopw [6, 28] (fun v i wr => ∃ (k : Nat) (A3 : Option Addr) (c3 : Nat), k ≤ x.jn ∧ i = .int .i64 k ∧ v = .slice A3 (S.lapFinds x.m x.rule L (x.js.take k)).length c3 ∧ Row w1 wr none w.heap.size 42 2 (.slice A3 (S.lapFinds x.m x.rule L (x.js.take k)).length c3) (S.lapFinds x.m x.rule L (x.js.take k)).length ((S.lapFinds x.m x.rule L (x.js.take k)).flatMap fdC) ∧ Exc [] w1 wr) (fun _ i _ => x.jn - (intOf i).toNat)
  case atStart => exact ⟨0, none, 0, Nat.zero_le _, rfl, rfl, Row.none_ _ _ _ _, Exc.refl _ _⟩
  case round =>
    obtain ⟨k, A3, c3, hk, rfl, rfl, hR, hX⟩ := hrel
    have hbx : Below w1.heap.size w1 wr := hX.below (Nat.le_refl _) (by simp)
    have hsx := hbx.size
    by_cases hlt : k < x.jn
    · have hkx : k < x.js.length := by omega
      have hki : (k : Int) < x.jn := by omega
      obtain ⟨i1, i2, a, b, hj, h1, h2, hoa, hob, hsa, hsb, hov⟩ := HP.out k hkx
      have HF := Lib.hid (show S.lapFinds x.m x.rule L (x.js.take (k + 1)) = S.lapFinds x.m x.rule L (x.js.take k) ++ S.lapFind x.m x.rule a b from by rw [HRL.out k hkx, hj, lapF_pair h1 h2])
      obtain ⟨hix, hia⟩ := List.getElem?_eq_some_iff.1 h1
      obtain ⟨hkb', hkb⟩ := List.getElem?_eq_some_iff.1 h2
      have hbwr : Below w.heap.size w wr := hbw.trans (hbx.mono hbw.size)
      have hJC := HJC.out.below (hbwr.mono hB)
      obtain ⟨bJ, oJ, hje, hbJ, _⟩ := hJC.at_ (by rw [flat_len jnC 2 jnC_len]; omega)
      rw [hje] at hJC
      have s0 := hJC.row0 jnC_len hkx rfl
      have s1 := hJC.rowj jnC_len hkx 1 rfl
      rw [hj] at s0 s1
      have hMr := hML.below hbx
      obtain ⟨bL, oL, rfl, hbL, _⟩ := hMr.at_ (by rw [flat_len mnC 9 mnC_len]; omega)
      have a0 := hMr.row0 mnC_len hix rfl
      have a1 := hMr.rowj mnC_len hix 1 rfl
      have a2 := hMr.rowj mnC_len hix 2 rfl
      have a3 := hMr.rowj mnC_len hix 3 rfl
      have a4 := hMr.rowj mnC_len hix 4 rfl
      have a5 := hMr.rowj mnC_len hix 5 rfl
      have a6 := hMr.rowj mnC_len hix 6 rfl
      have a7 := hMr.rowj mnC_len hix 7 rfl
      have a8 := hMr.rowj mnC_len hix 8 rfl
      have b0 := hMr.row0 mnC_len hkb' rfl
      have b1 := hMr.rowj mnC_len hkb' 1 rfl
      have b2 := hMr.rowj mnC_len hkb' 2 rfl
      have b3 := hMr.rowj mnC_len hkb' 3 rfl
      have b4 := hMr.rowj mnC_len hkb' 4 rfl
      have b5 := hMr.rowj mnC_len hkb' 5 rfl
      have b6 := hMr.rowj mnC_len hkb' 6 rfl
      have b7 := hMr.rowj mnC_len hkb' 7 rfl
      have b8 := hMr.rowj mnC_len hkb' 8 rfl
      rw [hia] at a0 a1 a2 a3 a4 a5 a6 a7 a8
      rw [hkb] at b0 b1 b2 b3 b4 b5 b6 b7 b8
      generalize x.jA = jA at *
      subst hje
      have d8r := (hbx.cell (p := ⟨w.heap.size, 8, none⟩) hDl).trans d8
      go_upto_region 8 with fail
      have hJ := Blk.new wr 124 #[.int .i64 i1, .int .i64 i2]
      have j0 := hJ.cell 0
      have j1 := hJ.cell 1
      simp only [List.getElem?_toArray, List.getElem?_cons_zero, List.getElem?_cons_succ] at j0 j1
      have hb0 : Below wr.heap.size wr (wr.alloc (.cells #[.int .i64 i1, .int .i64 i2] 124)) := ba_alloc (Below.refl _ _) _
      have hg0 := hJ.lt
      have hsz : (wr.alloc (.cells #[.int .i64 i1, .int .i64 i2] 124)).heap.size = wr.heap.size + 1 := by simp
      have hlb : bL < (wr.alloc (.cells #[.int .i64 i1, .int .i64 i2] 124)).heap.size := by omega
      have HR0 := Lib.hid (hR.alloc (.cells #[.int .i64 i1, .int .i64 i2] 124))
      have HX0 := Lib.hid (hX.alloc (.cells #[.int .i64 i1, .int .i64 i2] 124))
      have hlbr : bL < wr.heap.size := by omega
      replace a0 := (hb0.cell (p := ⟨bL, oL + i1 * 9, none⟩) hlbr).trans a0
      replace a1 := (hb0.cell (p := ⟨bL, oL + i1 * 9 + 1, none⟩) hlbr).trans a1
      replace a2 := (hb0.cell (p := ⟨bL, oL + i1 * 9 + 2, none⟩) hlbr).trans a2
      replace a3 := (hb0.cell (p := ⟨bL, oL + i1 * 9 + 3, none⟩) hlbr).trans a3
      replace a4 := (hb0.cell (p := ⟨bL, oL + i1 * 9 + 4, none⟩) hlbr).trans a4
      replace a5 := (hb0.cell (p := ⟨bL, oL + i1 * 9 + 5, none⟩) hlbr).trans a5
      replace a6 := (hb0.cell (p := ⟨bL, oL + i1 * 9 + 6, none⟩) hlbr).trans a6
      replace a7 := (hb0.cell (p := ⟨bL, oL + i1 * 9 + 7, none⟩) hlbr).trans a7
      replace a8 := (hb0.cell (p := ⟨bL, oL + i1 * 9 + 8, none⟩) hlbr).trans a8
      replace b0 := (hb0.cell (p := ⟨bL, oL + i2 * 9, none⟩) hlbr).trans b0
      replace b1 := (hb0.cell (p := ⟨bL, oL + i2 * 9 + 1, none⟩) hlbr).trans b1
      replace b2 := (hb0.cell (p := ⟨bL, oL + i2 * 9 + 2, none⟩) hlbr).trans b2
      replace b3 := (hb0.cell (p := ⟨bL, oL + i2 * 9 + 3, none⟩) hlbr).trans b3
      replace b4 := (hb0.cell (p := ⟨bL, oL + i2 * 9 + 4, none⟩) hlbr).trans b4
      replace b5 := (hb0.cell (p := ⟨bL, oL + i2 * 9 + 5, none⟩) hlbr).trans b5
      replace b6 := (hb0.cell (p := ⟨bL, oL + i2 * 9 + 6, none⟩) hlbr).trans b6
      replace b7 := (hb0.cell (p := ⟨bL, oL + i2 * 9 + 7, none⟩) hlbr).trans b7
      replace b8 := (hb0.cell (p := ⟨bL, oL + i2 * 9 + 8, none⟩) hlbr).trans b8
      have hDl0 : w.heap.size < (wr.alloc (.cells #[.int .i64 i1, .int .i64 i2] 124)).heap.size := by omega
      clear s0 s1
      generalize hgw : wr.heap.size = g at *
      generalize (wr.alloc (.cells #[.int .i64 i1, .int .i64 i2] 124)) = W0 at *
      have hkeep : ∀ W', Below W0.heap.size W0 W' → W'.cell? ⟨g, 0, none⟩ = some (.int .i64 i1) ∧ W'.cell? ⟨g, 1, none⟩ = some (.int .i64 i2) ∧ W'.cell? ⟨bL, oL + i1 * 9, none⟩ = some (.int .i64 a.leg.lo.x) ∧ W'.cell? ⟨bL, oL + i1 * 9 + 1, none⟩ = some (.int .i64 a.leg.lo.y) ∧ W'.cell? ⟨bL, oL + i1 * 9 + 2, none⟩ = some (.int .i64 a.leg.lo.z) ∧ W'.cell? ⟨bL, oL + i1 * 9 + 3, none⟩ = some (.int .i64 a.leg.hi.x) ∧ W'.cell? ⟨bL, oL + i1 * 9 + 4, none⟩ = some (.int .i64 a.leg.hi.y) ∧ W'.cell? ⟨bL, oL + i1 * 9 + 5, none⟩ = some (.int .i64 a.leg.hi.z) ∧ W'.cell? ⟨bL, oL + i1 * 9 + 6, none⟩ = some (.bool a.has) ∧ W'.cell? ⟨bL, oL + i1 * 9 + 7, none⟩ = some (.int .i64 a.size) ∧ W'.cell? ⟨bL, oL + i1 * 9 + 8, none⟩ = some (.string a.mark) ∧ W'.cell? ⟨bL, oL + i2 * 9, none⟩ = some (.int .i64 b.leg.lo.x) ∧ W'.cell? ⟨bL, oL + i2 * 9 + 1, none⟩ = some (.int .i64 b.leg.lo.y) ∧ W'.cell? ⟨bL, oL + i2 * 9 + 2, none⟩ = some (.int .i64 b.leg.lo.z) ∧ W'.cell? ⟨bL, oL + i2 * 9 + 3, none⟩ = some (.int .i64 b.leg.hi.x) ∧ W'.cell? ⟨bL, oL + i2 * 9 + 4, none⟩ = some (.int .i64 b.leg.hi.y) ∧ W'.cell? ⟨bL, oL + i2 * 9 + 5, none⟩ = some (.int .i64 b.leg.hi.z) ∧ W'.cell? ⟨bL, oL + i2 * 9 + 6, none⟩ = some (.bool b.has) ∧ W'.cell? ⟨bL, oL + i2 * 9 + 7, none⟩ = some (.int .i64 b.size) ∧ W'.cell? ⟨bL, oL + i2 * 9 + 8, none⟩ = some (.string b.mark) := fun W' h => ⟨(h.cell (p := ⟨g, 0, none⟩) hg0).trans j0, (h.cell (p := ⟨g, 1, none⟩) hg0).trans j1, (h.cell (p := ⟨bL, oL + i1 * 9, none⟩) hlb).trans a0, (h.cell (p := ⟨bL, oL + i1 * 9 + 1, none⟩) hlb).trans a1, (h.cell (p := ⟨bL, oL + i1 * 9 + 2, none⟩) hlb).trans a2, (h.cell (p := ⟨bL, oL + i1 * 9 + 3, none⟩) hlb).trans a3, (h.cell (p := ⟨bL, oL + i1 * 9 + 4, none⟩) hlb).trans a4, (h.cell (p := ⟨bL, oL + i1 * 9 + 5, none⟩) hlb).trans a5, (h.cell (p := ⟨bL, oL + i1 * 9 + 6, none⟩) hlb).trans a6, (h.cell (p := ⟨bL, oL + i1 * 9 + 7, none⟩) hlb).trans a7, (h.cell (p := ⟨bL, oL + i1 * 9 + 8, none⟩) hlb).trans a8, (h.cell (p := ⟨bL, oL + i2 * 9, none⟩) hlb).trans b0, (h.cell (p := ⟨bL, oL + i2 * 9 + 1, none⟩) hlb).trans b1, (h.cell (p := ⟨bL, oL + i2 * 9 + 2, none⟩) hlb).trans b2, (h.cell (p := ⟨bL, oL + i2 * 9 + 3, none⟩) hlb).trans b3, (h.cell (p := ⟨bL, oL + i2 * 9 + 4, none⟩) hlb).trans b4, (h.cell (p := ⟨bL, oL + i2 * 9 + 5, none⟩) hlb).trans b5, (h.cell (p := ⟨bL, oL + i2 * 9 + 6, none⟩) hlb).trans b6, (h.cell (p := ⟨bL, oL + i2 * 9 + 7, none⟩) hlb).trans b7, (h.cell (p := ⟨bL, oL + i2 * 9 + 8, none⟩) hlb).trans b8⟩
      have HSZ := Lib.hid hsz
      clear hsz
      go_cut [9, 10] from 32 to 41 (fun s9 s10 wx => ∃ g9 g10 : Nat, s9 = .pointer (some ⟨g9, 0, none⟩) ∧ s10 = .pointer (some ⟨g10, 0, none⟩) ∧ Blk wx g9 129 #[.int .i64 a.leg.lo.x, .int .i64 a.leg.lo.y, .int .i64 a.leg.lo.z, .int .i64 a.leg.hi.x, .int .i64 a.leg.hi.y, .int .i64 a.leg.hi.z, .bool a.has, .int .i64 a.size, .string a.mark] ∧ Blk wx g10 129 #[.int .i64 b.leg.lo.x, .int .i64 b.leg.lo.y, .int .i64 b.leg.lo.z, .int .i64 b.leg.hi.x, .int .i64 b.leg.hi.y, .int .i64 b.leg.hi.z, .bool b.has, .int .i64 b.size, .string b.mark] ∧ Below W0.heap.size W0 wx ∧ W0.heap.size ≤ g9 ∧ W0.heap.size ≤ g10)
      case first =>
        go_region_held3 (fun W' => W'.cell? ⟨g, 0, none⟩ = some (.int .i64 i1) ∧ W'.cell? ⟨g, 1, none⟩ = some (.int .i64 i2) ∧ W'.cell? ⟨bL, oL + i1 * 9, none⟩ = some (.int .i64 a.leg.lo.x) ∧ W'.cell? ⟨bL, oL + i1 * 9 + 1, none⟩ = some (.int .i64 a.leg.lo.y) ∧ W'.cell? ⟨bL, oL + i1 * 9 + 2, none⟩ = some (.int .i64 a.leg.lo.z) ∧ W'.cell? ⟨bL, oL + i1 * 9 + 3, none⟩ = some (.int .i64 a.leg.hi.x) ∧ W'.cell? ⟨bL, oL + i1 * 9 + 4, none⟩ = some (.int .i64 a.leg.hi.y) ∧ W'.cell? ⟨bL, oL + i1 * 9 + 5, none⟩ = some (.int .i64 a.leg.hi.z) ∧ W'.cell? ⟨bL, oL + i1 * 9 + 6, none⟩ = some (.bool a.has) ∧ W'.cell? ⟨bL, oL + i1 * 9 + 7, none⟩ = some (.int .i64 a.size) ∧ W'.cell? ⟨bL, oL + i1 * 9 + 8, none⟩ = some (.string a.mark) ∧ W'.cell? ⟨bL, oL + i2 * 9, none⟩ = some (.int .i64 b.leg.lo.x) ∧ W'.cell? ⟨bL, oL + i2 * 9 + 1, none⟩ = some (.int .i64 b.leg.lo.y) ∧ W'.cell? ⟨bL, oL + i2 * 9 + 2, none⟩ = some (.int .i64 b.leg.lo.z) ∧ W'.cell? ⟨bL, oL + i2 * 9 + 3, none⟩ = some (.int .i64 b.leg.hi.x) ∧ W'.cell? ⟨bL, oL + i2 * 9 + 4, none⟩ = some (.int .i64 b.leg.hi.y) ∧ W'.cell? ⟨bL, oL + i2 * 9 + 5, none⟩ = some (.int .i64 b.leg.hi.z) ∧ W'.cell? ⟨bL, oL + i2 * 9 + 6, none⟩ = some (.bool b.has) ∧ W'.cell? ⟨bL, oL + i2 * 9 + 7, none⟩ = some (.int .i64 b.size) ∧ W'.cell? ⟨bL, oL + i2 * 9 + 8, none⟩ = some (.string b.mark)) (first | exact hkeep _ (by repeat (with_reducible first | exact Below.refl _ _ | assumption | refine ba_alloc ?_ _ | refine ba_drew ?_ | refine ba_drewN ?_ _ | refine ba_via (by assumption) ?_ | (refine ba_set ?_ ?_ _; rotate_left; (first | omega | (simp; omega) | simp))))) (fail)
        all_goals (
          go_wp2_with fail
          go_meet
          exact ⟨_, _, rfl, rfl, (by repeat (with_reducible first | (refine Blk.newN ?_ _ _; first | rfl | (simp; done) | (simp [World.setCell]; done)) | refine Blk.set9 ?_ _ _ _ _ _ _ _ _ _ | (refine Blk.far9 ?_ ?_ _ _ _ _ _ _ _ _ _; rotate_left; omega) | refine Blk.alloc ?_ _ | refine Blk.drew ?_ | refine Blk.via ?_ (by assumption) | (refine BlkE.newN ?_ _ _ _ _ _ _ _ _ _ _; first | rfl | (simp; done) | (simp [World.setCell]; done)) | (refine BlkE.far9 ?_ ?_ _ _ _ _ _ _ _ _ _; rotate_left; omega) | refine BlkE.alloc ?_ _ | refine BlkE.drew ?_ | refine BlkE.via ?_ (by assumption))), (by repeat (with_reducible first | (refine Blk.newN ?_ _ _; first | rfl | (simp; done) | (simp [World.setCell]; done)) | refine Blk.set9 ?_ _ _ _ _ _ _ _ _ _ | (refine Blk.far9 ?_ ?_ _ _ _ _ _ _ _ _ _; rotate_left; omega) | refine Blk.alloc ?_ _ | refine Blk.drew ?_ | refine Blk.via ?_ (by assumption) | (refine BlkE.newN ?_ _ _ _ _ _ _ _ _ _ _; first | rfl | (simp; done) | (simp [World.setCell]; done)) | (refine BlkE.far9 ?_ ?_ _ _ _ _ _ _ _ _ _; rotate_left; omega) | refine BlkE.alloc ?_ _ | refine BlkE.drew ?_ | refine BlkE.via ?_ (by assumption))), (by repeat (with_reducible first | exact Below.refl _ _ | assumption | refine ba_alloc ?_ _ | refine ba_drew ?_ | refine ba_drewN ?_ _ | refine ba_via (by assumption) ?_ | (refine ba_set ?_ ?_ _; rotate_left; (first | omega | (simp; omega) | simp)))), (by first | omega | (simp; done) | (simp; omega)), (by first | omega | (simp; done) | (simp; omega))⟩)
      case rest =>
        obtain ⟨g9, g10, rfl, rfl, hP, hQ, hbc, hn9, hn10⟩ := hcut
        clear hkeep j0 j1 a0 a1 a2 a3 a4 a5 a6 a7 a8 b0 b1 b2 b3 b4 b5 b6 b7 b8
        have p0 := hP.cell 0
        have q0 := hQ.cell 0
        have p1 := hP.cell 1
        have q1 := hQ.cell 1
        have p2 := hP.cell 2
        have q2 := hQ.cell 2
        have p3 := hP.cell 3
        have q3 := hQ.cell 3
        have p4 := hP.cell 4
        have q4 := hQ.cell 4
        have p5 := hP.cell 5
        have q5 := hQ.cell 5
        have p6 := hP.cell 6
        have q6 := hQ.cell 6
        have p7 := hP.cell 7
        have q7 := hQ.cell 7
        have p8 := hP.cell 8
        have q8 := hQ.cell 8
        have hb0' : Below wr.heap.size wr W0 := by rw [hgw]; exact hb0
        have hDc := hD1.via (ba_via hbc (ba_via hb0' hbx))
        have d0 := hDc.cell 0
        have d1 := hDc.cell 1
        have d2 := hDc.cell 2
        have d3 := hDc.cell 3
        have d4 := hDc.cell 4
        have d5 := hDc.cell 5
        have d10 := hDc.cell 10
        have d11 := hDc.cell 11
        have d12 := hDc.cell 12
        have d13 := hDc.cell 13
        have d14 := hDc.cell 14
        have d15 := hDc.cell 15
        have d16 := hDc.cell 16
        have d17 := hDc.cell 17
        have d18 := hDc.cell 18
        simp only [List.getElem?_toArray, List.getElem?_cons_zero, List.getElem?_cons_succ] at p0 q0 p1 q1 p2 q2 p3 q3 p4 q4 p5 q5 p6 q6 p7 q7 p8 q8 d0 d1 d2 d3 d4 d5 d10 d11 d12 d13 d14 d15 d16 d17 d18
        have ltP := hP.lt
        have ltQ := hQ.lt
        have hdl := hDc.lt
        have hbwc : Below w.heap.size w wc := ba_via hbc (ba_via hb0' hbwr)
        have HPa := Lib.hid (fun (W : World) (hw : B ≤ W.heap.size) (hh : DtAt W B x) => HPO.out a.leg hoa W hw hh)
        have HPb := Lib.hid (fun (W : World) (hw : B ≤ W.heap.size) (hh : DtAt W B x) => HPO.out b.leg hob W hw hh)
        have HN := Lib.hid (show S.wants x.m x.rule a b = lLength x.rule (S.lessI a.size b.size) (S.poor x.m.boxes a.leg || S.poor x.m.boxes b.leg) from rfl)
        have HLa := Lib.hid (fun (p : Bool) (W : World) => HLL.out a.size hsa p W)
        have HLb := Lib.hid (fun (p : Bool) (W : World) => HLL.out b.size hsb p W)
        unfold boxV at HPa HPb
        have HSH := Lib.hid (show S.shortL x.m x.rule a b = decide (a.leg.hi.x - b.leg.lo.x < S.wants x.m x.rule a b) from rfl)
        generalize S.poor x.m.boxes a.leg = t1 at *
        generalize S.poor x.m.boxes b.leg = t2 at *
        generalize S.wants x.m x.rule a b = N at *
        go_upto_region 15 with (first
          | (go_at_call 66; (with_reducible refine (HPa.out _ (size_via hB (by repeat (with_reducible first | exact Below.refl _ _ | assumption | refine ba_alloc ?_ _ | refine ba_drew ?_ | refine ba_drewN ?_ _ | refine ba_via (by assumption) ?_ | (refine ba_set ?_ ?_ _; rotate_left; (first | omega | (simp; omega) | simp))))) (HA.out.at_ hB (by repeat (with_reducible first | exact Below.refl _ _ | assumption | refine ba_alloc ?_ _ | refine ba_drew ?_ | refine ba_drewN ?_ _ | refine ba_via (by assumption) ?_ | (refine ba_set ?_ ?_ _; rotate_left; (first | omega | (simp; omega) | simp)))))).mono ?_); rintro e w5 ⟨rfl, hbw5⟩; obtain ⟨hcw5, hfw5⟩ := bcell hbw5; have hk5a : w.heap.size < w5.heap.size := lt_via hbw5 hdl; have hk5b : g9 < w5.heap.size := lt_via hbw5 ltP; have hk5c : g10 < w5.heap.size := lt_via hbw5 ltQ)
          | (go_at_call 66; (with_reducible refine (HPb.out _ (size_via hB (by repeat (with_reducible first | exact Below.refl _ _ | assumption | refine ba_alloc ?_ _ | refine ba_drew ?_ | refine ba_drewN ?_ _ | refine ba_via (by assumption) ?_ | (refine ba_set ?_ ?_ _; rotate_left; (first | omega | (simp; omega) | simp))))) (HA.out.at_ hB (by repeat (with_reducible first | exact Below.refl _ _ | assumption | refine ba_alloc ?_ _ | refine ba_drew ?_ | refine ba_drewN ?_ _ | refine ba_via (by assumption) ?_ | (refine ba_set ?_ ?_ _; rotate_left; (first | omega | (simp; omega) | simp)))))).mono ?_); rintro e w6 ⟨rfl, hbw6⟩; obtain ⟨hcw6, hfw6⟩ := bcell hbw6; have hk6a : w.heap.size < w6.heap.size := lt_via hbw6 hk5a; have hk6b : g9 < w6.heap.size := lt_via hbw6 hk5b; have hk6c : g10 < w6.heap.size := lt_via hbw6 hk5c))
        have hbc6 : Below wc.heap.size wc w6 := ba_via hbw6 hbw5
        go_cut [12, 14] from 64 to 78 (fun s12 s14 wx => s12 = .int .i64 0 ∧ s14 = .int .i64 N ∧ Below w6.heap.size w6 wx)
        case first =>
          have hl : S.lessI a.size b.size = if b.size < a.size then b.size else a.size := rfl
          by_cases hsl : b.size < a.size
          · rw [if_pos hsl] at hl
            rw [hl] at HN
            have HLX := HLb
            clear HLa HLb hl
            cases t1
            all_goals (
              go_wp2_with (go_at_call 53; (with_reducible refine (HLX.out _ _).mono ?_); rintro e w7 ⟨rfl, hbw7⟩)
              go_meet
              exact ⟨rfl, (by rw [HN.out]; rfl), hbw7⟩)
          · rw [if_neg hsl] at hl
            rw [hl] at HN
            have HLX := HLa
            clear HLa HLb hl
            cases t1
            all_goals (
              go_wp2_with (go_at_call 53; (with_reducible refine (HLX.out _ _).mono ?_); rintro e w7 ⟨rfl, hbw7⟩)
              go_meet
              exact ⟨rfl, (by rw [HN.out]; rfl), hbw7⟩)
        case rest =>
          obtain ⟨rfl, rfl, hbc3⟩ := hcut
          have hbc2 := ba_via hbc3 hbc6
          clear p0 q0 p1 q1 p2 q2 p3 q3 p4 q4 p5 q5 p6 q6 p7 q7 p8 q8 d0 d1 d2 d3 d4 d5 d10 d11 d12 d13 d14 d15 d16 d17 d18 HPa HPb HLa HLb HN ltP ltQ hcw5 hcw6 hfw5 hfw6
          have hP2 := hP.via hbc2
          have hQ2 := hQ.via hbc2
          have hJ2 := (hJ.via hbc).via hbc2
          have ltJ := hJ2.lt
          have j0 := hJ2.cell 0
          have j1 := hJ2.cell 1
          simp only [List.getElem?_toArray, List.getElem?_cons_zero, List.getElem?_cons_succ] at j0 j1
          have hbw1c : Below w1.heap.size w1 wc := ba_via hbc2 (ba_via hbc (ba_via hb0' hbx))
          have HOV := Lib.hid (fun (W : World) (hw : Below w1.heap.size w1 W) => overlap_in L i1 i2 a b (some ⟨bL, oL, none⟩) L.length c1' w1.heap.size W rfl (by omega) hw.size (hML.below hw) h1 h2)
          have hRc := (HR0.out.via hbc).via hbc2
          have hXc : Exc [] w1 wc := Exc.via hbc2 (Exc.via hbc HX0.out)
          have ha' := boxOk_x hoa
          have hb' := boxOk_x hob
          have e1 : IntKind.i64.wrap (a.leg.hi.x - b.leg.lo.x) = a.leg.hi.x - b.leg.lo.x := IntWalk.i64_in _ (by omega)
          have hfl := HFL.out k
          have hown : ∀ g', W0.heap.size ≤ g' → (Value.slice A3 (S.lapFinds x.m x.rule L (x.js.take k)).length c3).ownBlock ≠ some g' := fun g' hg' he => by
            have := (hR.own.lt g' he).2
            have hz := HSZ.out
            omega
          have hFl : S.lapFind x.m x.rule a b = (if S.shortL x.m x.rule a b = true then [⟨1, a.mark⟩] else []) ++ (if S.farL a b = true then [⟨2, a.mark⟩] else []) := rfl
          obtain ⟨F1, hF1⟩ : ∃ F1, F1 = S.lapFinds x.m x.rule L (x.js.take k) ++ (if S.shortL x.m x.rule a b = true then [⟨1, a.mark⟩] else []) := ⟨_, rfl⟩
          have HF2 := Lib.hid (show S.lapFinds x.m x.rule L (x.js.take (k + 1)) = F1 ++ (if S.farL a b = true then [⟨2, a.mark⟩] else []) from by rw [HF.out, hFl, hF1, List.append_assoc])
          rw [HSH.out] at hF1
          have HF1 := Lib.hid hF1
          have hf1l : F1.length ≤ (S.lapFinds x.m x.rule L (x.js.take k)).length + 1 := by
            rw [hF1, List.length_append]
            split <;> simp
          clear hF1 hFl HF HFL HRL HP
          generalize S.lapFinds x.m x.rule L (x.js.take k) = F at *
          go_upto_if 91 with (go_at_call 67; (with_reducible refine (HOV.out _ (by repeat (with_reducible first | exact Below.refl _ _ | assumption | refine ba_alloc ?_ _ | refine ba_drew ?_ | refine ba_drewN ?_ _ | refine ba_via (by assumption) ?_ | (refine ba_set ?_ ?_ _; rotate_left; (first | omega | (simp; omega) | simp))))).mono ?_); rintro e w8 ⟨rfl, hbw8⟩)
          have hW5 : Below wc.heap.size wc (w8.alloc (.cells #[.int .i64 b.leg.lo.x, .int .i64 a.leg.hi.x] 45)) := ba_alloc hbw8 _
          generalize (w8.alloc (.cells #[.int .i64 b.leg.lo.x, .int .i64 a.leg.hi.x] 45)) = W5 at *
          clear hbw8
          have hP5 := hP2.via hW5
          have hQ5 := hQ2.via hW5
          have p8 := hP5.cell 8
          have ltP := hP5.lt
          have ltQ := hQ5.lt
          simp only [List.getElem?_toArray, List.getElem?_cons_zero, List.getElem?_cons_succ] at p8
          have hR5 := hRc.via hW5
          have hX5 : Exc [] w1 W5 := Exc.via hW5 hXc
          go_cut [6] from 82 to 97 (fun s6 wx => ∃ (A5 : Option Addr) (c5 : Nat), s6 = .slice A5 F1.length c5 ∧ Row w1 wx none w.heap.size 42 2 (.slice A5 F1.length c5) F1.length (F1.flatMap fdC) ∧ Exc [] w1 wx ∧ Blk wx g9 129 #[.int .i64 a.leg.lo.x, .int .i64 a.leg.lo.y, .int .i64 a.leg.lo.z, .int .i64 a.leg.hi.x, .int .i64 a.leg.hi.y, .int .i64 a.leg.hi.z, .bool a.has, .int .i64 a.size, .string a.mark] ∧ Blk wx g10 129 #[.int .i64 b.leg.lo.x, .int .i64 b.leg.lo.y, .int .i64 b.leg.lo.z, .int .i64 b.leg.hi.x, .int .i64 b.leg.hi.y, .int .i64 b.leg.hi.z, .bool b.has, .int .i64 b.size, .string b.mark])
          case first =>
            by_cases hc : a.leg.hi.x - b.leg.lo.x < N
            · go_wp2_with (at_builtin; refine wpList_push rfl (.tmp 92) (.tmp 96) _ rfl elemFd (hR5.alloc _) (hX5.alloc _) (by simp) hbw.size rfl W5.heap.size 1 1 [.int .i64 1, .string a.mark] rfl rfl ?_ (by simp [Value.oneCell']) (by unfold maxLen; omega) (by omega) ?_; (· intro j u hu; have := (Cells.newRow W5 #[.int .i64 1, .string a.mark] 42 (0, 0)).get (k := j) (v := u) hu; simpa using this); intro v' w' hR' hX' hO')
              obtain ⟨A5, c5, rfl, _, _, _⟩ := own_form hR'.own (by unfold maxLen; omega)
              go_meet
              have hF1 : F1 = F ++ [⟨1, a.mark⟩] := by rw [HF1.out, if_pos (by simpa using hc)]
              refine ⟨A5, c5, by rw [hF1]; simp, by rw [hF1]; simpa using hR', hX', ?_, ?_⟩
              · exact (hO' g9 (by simp; omega) (hown g9 hn9)).trans (hP5.alloc _)
              · exact (hO' g10 (by simp; omega) (hown g10 hn10)).trans (hQ5.alloc _)
            · go_wp2
              go_meet
              have hF1 : F1 = F := by rw [HF1.out, if_neg (by simpa using hc)]; simp
              rw [hF1]
              exact ⟨A3, c3, rfl, hR5, hX5, hP5, hQ5⟩
          case rest =>
            obtain ⟨A5, c5, rfl, hR5, hX5, hP5, hQ5⟩ := hcut
            clear hP2 hQ2 hJ2 ltJ j0 j1 HOV hRc hXc ha' hb' e1 HF1 HSH
            have p0 := hP5.cell 0
            have q0 := hQ5.cell 0
            have p1 := hP5.cell 1
            have q1 := hQ5.cell 1
            have p2 := hP5.cell 2
            have q2 := hQ5.cell 2
            have p3 := hP5.cell 3
            have q3 := hQ5.cell 3
            have p4 := hP5.cell 4
            have q4 := hQ5.cell 4
            have p5 := hP5.cell 5
            have q5 := hQ5.cell 5
            have p6 := hP5.cell 6
            have q6 := hQ5.cell 6
            have p7 := hP5.cell 7
            have q7 := hQ5.cell 7
            have p8 := hP5.cell 8
            have q8 := hQ5.cell 8
            simp only [List.getElem?_toArray, List.getElem?_cons_zero, List.getElem?_cons_succ] at p0 q0 p1 q1 p2 q2 p3 q3 p4 q4 p5 q5 p6 q6 p7 q7 p8 q8
            have ltP := hP5.lt
            have ltQ := hQ5.lt
            have HSQ := Lib.hid (fun (W : World) => Square_yes a.leg b.leg W hoa hob)
            have ha40 := size_bd hsa
            have hb40 := size_bd hsb
            obtain ⟨D, hD⟩ : ∃ D, D = a.size + b.size + 50 := ⟨_, rfl⟩
            obtain ⟨DD, hDD⟩ : ∃ DD, DD = D * D := ⟨_, rfl⟩
            have hDD2 : DD ≤ 200 * 200 := by rw [hDD]; exact Int.mul_le_mul (by omega) (by omega) (by omega) (by omega)
            have hDD0 : 0 ≤ DD := by rw [hDD]; exact Int.mul_nonneg (by omega) (by omega)
            have e2 : IntKind.i64.wrap (a.size + b.size) = a.size + b.size := IntWalk.i64_in _ (by omega)
            have e3 : IntKind.i64.wrap (a.size + b.size + 50) = D := by rw [hD]; exact IntWalk.i64_in _ (by omega)
            have e4 : IntKind.i64.wrap (D * D) = DD := by rw [← hDD]; exact IntWalk.i64_in _ (by omega)
            have HFA := Lib.hid (show S.farL a b = decide (DD < S.square a.leg b.leg) from by rw [hDD, hD]; rfl)
            clear hD hDD hDD2 hDD0 ha40 hb40
            generalize S.square a.leg b.leg = sq at *
            unfold boxV at HSQ
            by_cases hc2 : DD < sq
            · have HF3 := Lib.hid (show S.lapFinds x.m x.rule L (x.js.take (k + 1)) = F1 ++ [⟨2, a.mark⟩] from by rw [HF2.out, HFA.out, if_pos (by simpa using hc2)])
              clear HF2 HFA
              go_wp2_with (first
                | (go_at_call 68; (with_reducible refine (HSQ.out _).mono ?_); rintro e w9 ⟨rfl, hbw9⟩; obtain ⟨hcw9, hfw9⟩ := bcell hbw9; have hk9a : g9 < w9.heap.size := lt_via hbw9 ltP; have hk9b : g10 < w9.heap.size := lt_via hbw9 ltQ; have hR9 := hR5.via hbw9; have hX9 : Exc [] w1 w9 := Exc.via hbw9 hX5)
                | (at_builtin; refine wpList_push rfl (.tmp 120) (.tmp 124) _ rfl elemFd (hR9.alloc _) (hX9.alloc _) (by simp) hbw.size rfl w9.heap.size 1 1 [.int .i64 2, .string a.mark] rfl rfl ?_ (by simp [Value.oneCell']) (by unfold maxLen; omega) (by omega) ?_; (· intro j u hu; have := (Cells.newRow w9 #[.int .i64 2, .string a.mark] 42 (0, 0)).get (k := j) (v := u) hu; simpa using this); intro v' w' hR' hX' hO'))
              obtain ⟨A6, c6, rfl, _, _, _⟩ := own_form hR'.own (by unfold maxLen; omega)
              go_roundw
              case rel =>
                refine ⟨k + 1, A6, c6, by omega, by go_num, ?_, ?_, hX'⟩
                · rw [HF3.out]; simp
                · rw [HF3.out]; simpa using hR'
              case measure => simp [intOf]; omega
            · have HF3 := Lib.hid (show S.lapFinds x.m x.rule L (x.js.take (k + 1)) = F1 from by rw [HF2.out, HFA.out, if_neg (by simpa using hc2)]; simp)
              clear HF2 HFA
              go_wp2_with (go_at_call 68; (with_reducible refine (HSQ.out _).mono ?_); rintro e w9 ⟨rfl, hbw9⟩; obtain ⟨hcw9, hfw9⟩ := bcell hbw9; have hk9a : g9 < w9.heap.size := lt_via hbw9 ltP; have hk9b : g10 < w9.heap.size := lt_via hbw9 ltQ; have hR9 := hR5.via hbw9; have hX9 : Exc [] w1 w9 := Exc.via hbw9 hX5)
              go_roundw
              case rel =>
                refine ⟨k + 1, A5, c5, by omega, by go_num, ?_, ?_, hX9⟩
                · rw [HF3.out]
                · rw [HF3.out]; exact hR9
              case measure => simp [intOf]; omega
    · have hek : k = x.jn := by omega
      subst hek
      go_wp2
      go_ret2
      have ht : x.js.take x.jn = x.js := List.take_of_length_le (by omega)
      rw [ht] at hR ⊢
      exact ⟨A3, c3, rfl, hR.own, ba_via hbx hbw⟩
end Go.Proofs.YtffkmgjmlahfpaaGreat
