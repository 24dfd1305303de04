/- Contracts of the reference for layer 15: axis, Valid, Unit, cross, Plus, times, Image, Near. The reference's rule on runs is the program's (no walk). Contracts of the reference for layers 14 and 16: Find, Valid; times, twice, near, Count. -/
import Derived.Test.YtffkmgjmlahfpaaGreatFrameD
import Derived.Test.YtffkmgjmlahfpaaGreatStag
import Derived.Test.YtffkmgjmlahfpaaGreatMainA
import Derived.Test.YtffkmgjmlahfpaaGreatLook
import Derived.Test.YtffkmgjmlahfpaaGreatZB
set_option linter.unusedVariables false
set_option linter.unusedSimpArgs false
namespace Go.Proofs.YtffkmgjmlahfpaaGreat
open Go.RowKit
def S.padd (a b : Pt) : Pt := ⟨a.x + b.x, a.y + b.y, a.z + b.z⟩
def S.times (n : Int) (p : Pt) : Pt := ⟨n * p.x, n * p.y, n * p.z⟩
theorem raxis_any (n : Int) (w : World) : Calls Tryz.prog 232 #[.int .i64 n] w fun e w' => e = .returned (.bool (S.isAxis n)) ∧ w = w' := by
  have H := Lib.hid (show S.isAxis n = ((n != 0) && decide (-3 ≤ n) && decide (n ≤ 3)) from rfl)
  generalize hu : (n != 0) = u at H
  have hu' := Lib.hid hu
  go_enter Tryz.func232, Tryz.ntmps232
  go_wp2
  all_goals (go_ret; refine ⟨ret_b ?_, rfl⟩; rw [H.out]; have := hu'.out; simp_all; try omega)
theorem rturn_any (x y : Int) (w : World) : Calls Tryz.prog 175 #[turnV x y] w fun e w' => e = .returned (.bool (S.turn x y)) ∧ Below w.heap.size w w' := by
  have H := Lib.hid (show S.turn x y = (S.isAxis x && S.isAxis y && (x != y) && (x != -y)) from rfl)
  have HX := Lib.hid (fun w => raxis_any x w)
  have HY := Lib.hid (fun w => raxis_any y w)
  unfold turnV
  by_cases hb : S.isAxis y = true
  · have hy : -3 ≤ y ∧ y ≤ 3 := by
      simp only [S.isAxis, Bool.and_eq_true, decide_eq_true_eq] at hb
      omega
    have hn : IntKind.i64.wrap (0 - y) = -y := by rw [IntWalk.i64_in _ (by omega)]; omega
    rw [hb] at HY H
    clear hb
    generalize S.isAxis x = a at *
    cases a
    all_goals (
      go_enter Tryz.func175, Tryz.ntmps175
      go_wp2_with (first
        | (go_at_call 232; (with_reducible refine (HX.out _).mono ?_); rintro e w' ⟨rfl, rfl⟩)
        | (go_at_call 232; (with_reducible refine (HY.out _).mono ?_); rintro e w' ⟨rfl, rfl⟩))
      all_goals (go_ret; refine ⟨ret_b ?_, (by repeat (first | exact Below.refl _ _ | assumption | refine ba_alloc ?_ _ | refine ba_drew ?_ | refine ba_drewN ?_ _ | refine ba_via (by assumption) ?_ | (refine ba_set ?_ ?_ _; rotate_left; (first | omega | (simp; omega) | simp))))⟩; rw [H.out]; simp_all))
  · have hb' : S.isAxis y = false := by simpa using hb
    rw [hb'] at HY H
    clear hb hb'
    generalize S.isAxis x = a at *
    cases a
    all_goals (
      go_enter Tryz.func175, Tryz.ntmps175
      go_wp2_with (first
        | (go_at_call 232; (with_reducible refine (HX.out _).mono ?_); rintro e w' ⟨rfl, rfl⟩)
        | (go_at_call 232; (with_reducible refine (HY.out _).mono ?_); rintro e w' ⟨rfl, rfl⟩))
      all_goals (go_ret; refine ⟨ret_b ?_, (by repeat (first | exact Below.refl _ _ | assumption | refine ba_alloc ?_ _ | refine ba_drew ?_ | refine ba_drewN ?_ _ | refine ba_via (by assumption) ?_ | (refine ba_set ?_ ?_ _; rotate_left; (first | omega | (simp; omega) | simp))))⟩; rw [H.out]; simp_all))
theorem runit_pos (n : Int) (h : n = 1 ∨ n = 2 ∨ n = 3) (w : World) : Calls Tryz.prog 266 #[.int .i64 n] w fun e w' => e = .returned (ptV (S.unit n)) ∧ Below w.heap.size w w' := by
  have u1 : S.unit 1 = ⟨1, 0, 0⟩ := rfl
  have u2 : S.unit 2 = ⟨0, 1, 0⟩ := rfl
  have u3 : S.unit 3 = ⟨0, 0, 1⟩ := rfl
  rcases h with rfl | rfl | rfl
  all_goals (
    go_enter Tryz.func266, Tryz.ntmps266
    go_wp2
    (first | rw [u1] | rw [u2] | rw [u3])
    (first
      | exact bodyPost_ret (v := ptV ⟨1, 0, 0⟩) (by simp [results, Tryz.results266, go_sem, *]) rfl ⟨rfl, (by repeat (first | exact Below.refl _ _ | assumption | refine ba_alloc ?_ _ | refine ba_drew ?_ | refine ba_drewN ?_ _ | refine ba_via (by assumption) ?_ | (refine ba_set ?_ ?_ _; rotate_left; (first | omega | (simp; omega) | simp))))⟩
      | exact bodyPost_ret (v := ptV ⟨0, 1, 0⟩) (by simp [results, Tryz.results266, go_sem, *]) rfl ⟨rfl, (by repeat (first | exact Below.refl _ _ | assumption | refine ba_alloc ?_ _ | refine ba_drew ?_ | refine ba_drewN ?_ _ | refine ba_via (by assumption) ?_ | (refine ba_set ?_ ?_ _; rotate_left; (first | omega | (simp; omega) | simp))))⟩
      | exact bodyPost_ret (v := ptV ⟨0, 0, 1⟩) (by simp [results, Tryz.results266, go_sem, *]) rfl ⟨rfl, (by repeat (first | exact Below.refl _ _ | assumption | refine ba_alloc ?_ _ | refine ba_drew ?_ | refine ba_drewN ?_ _ | refine ba_via (by assumption) ?_ | (refine ba_set ?_ ?_ _; rotate_left; (first | omega | (simp; omega) | simp))))⟩))
set_option maxHeartbeats 1000000 in
theorem runit_any (n : Int) (h : S.isAxis n = true) (w : World) : Calls Tryz.prog 266 #[.int .i64 n] w fun e w' => e = .returned (ptV (S.unit n)) ∧ Below w.heap.size w w' := by
  have h' : (n = 1 ∨ n = 2 ∨ n = 3) ∨ n = -1 ∨ n = -2 ∨ n = -3 := by
    simp only [S.isAxis, Bool.and_eq_true, decide_eq_true_eq, bne_iff_ne] at h
    omega
  have u1 : S.unit 1 = ⟨1, 0, 0⟩ := rfl
  have u2 : S.unit 2 = ⟨0, 1, 0⟩ := rfl
  have u3 : S.unit 3 = ⟨0, 0, 1⟩ := rfl
  have u4 : S.unit (-1) = ⟨-1, 0, 0⟩ := rfl
  have u5 : S.unit (-2) = ⟨0, -1, 0⟩ := rfl
  have u6 : S.unit (-3) = ⟨0, 0, -1⟩ := rfl
  have H1 := Lib.hid (fun w => u1 ▸ runit_pos 1 (by omega) w)
  have H2 := Lib.hid (fun w => u2 ▸ runit_pos 2 (by omega) w)
  have H3 := Lib.hid (fun w => u3 ▸ runit_pos 3 (by omega) w)
  unfold ptV at H1 H2 H3
  simp only [] at H1 H2 H3
  rcases h' with h1 | rfl | rfl | rfl
  · exact runit_pos n h1 w
  · rw [u4]
    go_enter Tryz.func266, Tryz.ntmps266
    go_wp2_with (go_at_call 266; (with_reducible refine (H1.out _).mono ?_); rintro e w1 ⟨rfl, hbw1⟩; obtain ⟨hcw1, hfw1⟩ := bcell hbw1; have hzw1_0 : w.heap.size < w1.heap.size := lt_via hbw1 (by first | omega | (simp; done) | (simp; omega)))
    exact bodyPost_ret (v := ptV ⟨-1, 0, 0⟩) (by simp [results, Tryz.results266, go_sem, *]) rfl ⟨rfl, (by repeat (first | exact Below.refl _ _ | assumption | refine ba_alloc ?_ _ | refine ba_drew ?_ | refine ba_drewN ?_ _ | refine ba_via (by assumption) ?_ | (refine ba_set ?_ ?_ _; rotate_left; (first | omega | (simp; omega) | simp))))⟩
  · rw [u5]
    go_enter Tryz.func266, Tryz.ntmps266
    go_wp2_with (go_at_call 266; (with_reducible refine (H2.out _).mono ?_); rintro e w1 ⟨rfl, hbw1⟩; obtain ⟨hcw1, hfw1⟩ := bcell hbw1; have hzw1_0 : w.heap.size < w1.heap.size := lt_via hbw1 (by first | omega | (simp; done) | (simp; omega)))
    exact bodyPost_ret (v := ptV ⟨0, -1, 0⟩) (by simp [results, Tryz.results266, go_sem, *]) rfl ⟨rfl, (by repeat (first | exact Below.refl _ _ | assumption | refine ba_alloc ?_ _ | refine ba_drew ?_ | refine ba_drewN ?_ _ | refine ba_via (by assumption) ?_ | (refine ba_set ?_ ?_ _; rotate_left; (first | omega | (simp; omega) | simp))))⟩
  · rw [u6]
    go_enter Tryz.func266, Tryz.ntmps266
    go_wp2_with (go_at_call 266; (with_reducible refine (H3.out _).mono ?_); rintro e w1 ⟨rfl, hbw1⟩; obtain ⟨hcw1, hfw1⟩ := bcell hbw1; have hzw1_0 : w.heap.size < w1.heap.size := lt_via hbw1 (by first | omega | (simp; done) | (simp; omega)))
    exact bodyPost_ret (v := ptV ⟨0, 0, -1⟩) (by simp [results, Tryz.results266, go_sem, *]) rfl ⟨rfl, (by repeat (first | exact Below.refl _ _ | assumption | refine ba_alloc ?_ _ | refine ba_drew ?_ | refine ba_drewN ?_ _ | refine ba_via (by assumption) ?_ | (refine ba_set ?_ ?_ _; rotate_left; (first | omega | (simp; omega) | simp))))⟩
theorem rcross_any (a b : Pt) (ha : S.near1 a 1 = true) (hb : S.near1 b 1 = true) (w : World) : Calls Tryz.prog 268 #[ptV a, ptV b] w fun e w' => e = .returned (ptV (S.cross a b)) ∧ Below w.heap.size w w' := by
  simp only [S.near1, Bool.and_eq_true, decide_eq_true_eq] at ha hb
  have hm : ∀ u v : Int, -1 ≤ u ∧ u ≤ 1 → -1 ≤ v ∧ v ≤ 1 → -1 ≤ u * v ∧ u * v ≤ 1 := fun u v hu hv => by
    have h1 : u = -1 ∨ u = 0 ∨ u = 1 := by omega
    rcases h1 with rfl | rfl | rfl <;> omega
  have p0 := hm a.y b.z (by omega) (by omega)
  have p1 := hm a.z b.y (by omega) (by omega)
  have p2 := hm a.z b.x (by omega) (by omega)
  have p3 := hm a.x b.z (by omega) (by omega)
  have p4 := hm a.x b.y (by omega) (by omega)
  have p5 := hm a.y b.x (by omega) (by omega)
  clear hm
  have x0 : (S.cross a b).x = a.y * b.z - a.z * b.y := rfl
  have x1 : (S.cross a b).y = a.z * b.x - a.x * b.z := rfl
  have x2 : (S.cross a b).z = a.x * b.y - a.y * b.x := rfl
  unfold ptV
  go_enter Tryz.func268, Tryz.ntmps268
  go_wp2
  exact bodyPost_ret (v := .agg #[.int .i64 (S.cross a b).x, .int .i64 (S.cross a b).y, .int .i64 (S.cross a b).z]) (by simp [results, Tryz.results268, go_sem, *]) rfl ⟨rfl, (by repeat (first | exact Below.refl _ _ | assumption | refine ba_alloc ?_ _ | refine ba_drew ?_ | refine ba_drewN ?_ _ | refine ba_via (by assumption) ?_ | (refine ba_set ?_ ?_ _; rotate_left; (first | omega | (simp; omega) | simp))))⟩
theorem rplus_any (a b : Pt) (h : S.near1 (S.padd a b) 1000000000000 = true) (w : World) : Calls Tryz.prog 235 #[ptV a, ptV b] w fun e w' => e = .returned (ptV (S.padd a b)) ∧ Below w.heap.size w w' := by
  obtain ⟨hx, hy, hz⟩ := near1_out h
  clear h
  have x0 : (S.padd a b).x = a.x + b.x := rfl
  have x1 : (S.padd a b).y = a.y + b.y := rfl
  have x2 : (S.padd a b).z = a.z + b.z := rfl
  rw [x0] at hx
  rw [x1] at hy
  rw [x2] at hz
  unfold ptV
  go_enter Tryz.func235, Tryz.ntmps235
  go_wp2
  exact bodyPost_ret (v := .agg #[.int .i64 (S.padd a b).x, .int .i64 (S.padd a b).y, .int .i64 (S.padd a b).z]) (by simp [results, Tryz.results235, go_sem, *]) rfl ⟨rfl, (by repeat (first | exact Below.refl _ _ | assumption | refine ba_alloc ?_ _ | refine ba_drew ?_ | refine ba_drewN ?_ _ | refine ba_via (by assumption) ?_ | (refine ba_set ?_ ?_ _; rotate_left; (first | omega | (simp; omega) | simp))))⟩
theorem rtimes_any (n : Int) (p : Pt) (h : S.near1 (S.times n p) 1000000000000 = true) (w : World) : Calls Tryz.prog 267 #[.int .i64 n, ptV p] w fun e w' => e = .returned (ptV (S.times n p)) ∧ Below w.heap.size w w' := by
  obtain ⟨hx, hy, hz⟩ := near1_out h
  clear h
  have x0 : (S.times n p).x = n * p.x := rfl
  have x1 : (S.times n p).y = n * p.y := rfl
  have x2 : (S.times n p).z = n * p.z := rfl
  rw [x0] at hx
  rw [x1] at hy
  rw [x2] at hz
  unfold ptV
  go_enter Tryz.func267, Tryz.ntmps267
  go_wp2
  exact bodyPost_ret (v := .agg #[.int .i64 (S.times n p).x, .int .i64 (S.times n p).y, .int .i64 (S.times n p).z]) (by simp [results, Tryz.results267, go_sem, *]) rfl ⟨rfl, (by repeat (first | exact Below.refl _ _ | assumption | refine ba_alloc ?_ _ | refine ba_drew ?_ | refine ba_drewN ?_ _ | refine ba_via (by assumption) ?_ | (refine ba_set ?_ ?_ _; rotate_left; (first | omega | (simp; omega) | simp))))⟩
theorem rwithin_any (n : Int) (w : World) :
    Calls Tryz.prog 233 #[.int .i64 n] w fun e w' => e = .returned (.bool (S.place n)) ∧ w = w' := by
  have H := Lib.hid (show S.place n = (decide (-1048576 ≤ n) && decide (n ≤ 1048576)) from rfl)
  go_enter Tryz.func233, Tryz.ntmps233
  go_wp2
  all_goals (go_ret; exact ⟨ret_b (by rw [H.out, Bool.eq_iff_iff]; all_goals (first | (simp; done) | (simp; omega))), rfl⟩)
theorem rnear1_any (p : Pt) (w : World) :
    Calls Tryz.prog 176 #[ptV p] w fun e w' => e = .returned (.bool (S.near1 p 1048576)) ∧ Below w.heap.size w w' := by
  have H := Lib.hid (show S.near1 p 1048576 = (S.place p.x && S.place p.y && S.place p.z) by simp [S.near1, S.place, Bool.and_assoc])
  have H0 := Lib.hid (fun w => rwithin_any p.x w)
  have H1 := Lib.hid (fun w => rwithin_any p.y w)
  have H2 := Lib.hid (fun w => rwithin_any p.z w)
  generalize S.place p.x = t0 at *
  generalize S.place p.y = t1 at *
  generalize S.place p.z = t2 at *
  unfold ptV
  cases t0 <;> cases t1
  all_goals (
    go_enter Tryz.func176, Tryz.ntmps176
    go_wp2_with (first
      | (go_at_call 233; (with_reducible refine (H0.out _).mono ?_); rintro e w' ⟨rfl, rfl⟩)
      | (go_at_call 233; (with_reducible refine (H1.out _).mono ?_); rintro e w' ⟨rfl, rfl⟩)
      | (go_at_call 233; (with_reducible refine (H2.out _).mono ?_); rintro e w' ⟨rfl, rfl⟩))
    all_goals (go_ret; refine ⟨ret_b ?_, (by repeat (first | exact Below.refl _ _ | assumption | refine ba_alloc ?_ _ | refine ba_drew ?_ | refine ba_drewN ?_ _ | refine ba_via (by assumption) ?_ | (refine ba_set ?_ ?_ _; rotate_left; (first | omega | (simp; omega) | simp))))⟩; rw [H.out]; simp))
theorem rimage_eq (x y : Int) (p : Pt) : S.padd (S.times p.x (S.unit x)) (S.padd (S.times p.y (S.unit y)) (S.times p.z (S.cross (S.unit x) (S.unit y)))) = S.image x y p := by
  rw [show S.image x y p = ⟨(S.unit x).x * p.x + (S.unit y).x * p.y + (S.cross (S.unit x) (S.unit y)).x * p.z, (S.unit x).y * p.x + (S.unit y).y * p.y + (S.cross (S.unit x) (S.unit y)).y * p.z, (S.unit x).z * p.x + (S.unit y).z * p.y + (S.cross (S.unit x) (S.unit y)).z * p.z⟩ from rfl]
  simp only [S.padd, S.times, Int.mul_comm, Int.add_assoc]
theorem near1_mono0 {p : Pt} {a b : Int} (h : S.near1 p a = true) (hab : a ≤ b) : S.near1 p b = true := by
  simp only [S.near1, Bool.and_eq_true, decide_eq_true_eq] at h ⊢
  omega
theorem times_near {n m : Int} {p : Pt} (hn : -m ≤ n ∧ n ≤ m) (hp : S.near1 p 1 = true) : S.near1 (S.times n p) m = true := by
  obtain ⟨hx, hy, hz⟩ := near1_out hp
  have ax := mul_near hx hn
  have ay := mul_near hy hn
  have az := mul_near hz hn
  rw [Int.mul_comm] at ax ay az
  rw [show S.times n p = ⟨n * p.x, n * p.y, n * p.z⟩ from rfl]
  simp only [S.near1, Bool.and_eq_true, decide_eq_true_eq]
  generalize n * p.x = u1 at *
  generalize n * p.y = u2 at *
  generalize n * p.z = u3 at *
  omega
theorem padd_near {a b : Pt} {m k : Int} (ha : S.near1 a m = true) (hb : S.near1 b k = true) : S.near1 (S.padd a b) (m + k) = true := by
  obtain ⟨hx, hy, hz⟩ := near1_out ha
  obtain ⟨gx, gy, gz⟩ := near1_out hb
  rw [show S.padd a b = ⟨a.x + b.x, a.y + b.y, a.z + b.z⟩ from rfl]
  simp only [S.near1, Bool.and_eq_true, decide_eq_true_eq]
  omega
set_option maxRecDepth 20000 in
set_option maxHeartbeats 4000000 in
theorem rimage_any (x y : Int) (h : S.turn x y = true) (p : Pt) (hp : S.near1 p 1048576 = true) (w : World) : Calls Tryz.prog 237 #[turnV x y, ptV p] w fun e w' => e = .returned (ptV (S.image x y p)) ∧ Below w.heap.size w w' := by
  obtain ⟨hax, hay⟩ := turn_axes h
  obtain ⟨px, py, pz⟩ := near1_out hp
  have hn1 := times_near px (unit_near hax)
  have hn2 := times_near py (unit_near hay)
  have hn3 := times_near pz (cross_near h)
  have hn4 := padd_near hn2 hn3
  have hn5 := padd_near hn1 hn4
  have HUX := Lib.hid (fun w => runit_any x hax w)
  have HUY := Lib.hid (fun w => runit_any y hay w)
  have HC := Lib.hid (fun w => rcross_any (S.unit x) (S.unit y) (unit_near hax) (unit_near hay) w)
  have HT1 := Lib.hid (fun w => rtimes_any p.x (S.unit x) (near1_mono0 hn1 (by omega)) w)
  have HT2 := Lib.hid (fun w => rtimes_any p.y (S.unit y) (near1_mono0 hn2 (by omega)) w)
  have HT3 := Lib.hid (fun w => rtimes_any p.z (S.cross (S.unit x) (S.unit y)) (near1_mono0 hn3 (by omega)) w)
  have HP1 := Lib.hid (fun w => rplus_any (S.times p.y (S.unit y)) (S.times p.z (S.cross (S.unit x) (S.unit y))) (near1_mono0 hn4 (by omega)) w)
  have HP2 := Lib.hid (fun w => rplus_any (S.times p.x (S.unit x)) _ (near1_mono0 hn5 (by omega)) w)
  have HE := Lib.hid (rimage_eq x y p)
  clear h hp hax hay hn1 hn2 hn3 hn4 hn5 px py pz
  rw [← HE.out]
  clear HE
  generalize S.padd (S.times p.x (S.unit x)) (S.padd (S.times p.y (S.unit y)) (S.times p.z (S.cross (S.unit x) (S.unit y)))) = R at *
  generalize S.padd (S.times p.y (S.unit y)) (S.times p.z (S.cross (S.unit x) (S.unit y))) = P1 at *
  generalize S.times p.z (S.cross (S.unit x) (S.unit y)) = T3 at *
  generalize S.times p.y (S.unit y) = T2 at *
  generalize S.times p.x (S.unit x) = T1 at *
  generalize S.cross (S.unit x) (S.unit y) = C at *
  generalize S.unit x = U at *
  generalize S.unit y = V at *
  unfold ptV at HUX HUY HC HT1 HT2 HT3 HP1 HP2
  unfold turnV ptV
  go_enter Tryz.func237, Tryz.ntmps237
  go_wp2_with (first
    | (go_at_call 266; (with_reducible refine (HUX.out _).mono ?_); rintro e w1 ⟨rfl, hbw1⟩; obtain ⟨hcw1, hfw1⟩ := bcell hbw1; have hzw1_0 : w.heap.size < w1.heap.size := lt_via hbw1 (by first | omega | (simp; done) | (simp; omega)); have hzw1_1 : w.heap.size + 1 < w1.heap.size := lt_via hbw1 (by first | omega | (simp; done) | (simp; omega)); have hzw1_2 : w.heap.size + 2 < w1.heap.size := lt_via hbw1 (by first | omega | (simp; done) | (simp; omega)))
    | (go_at_call 266; (with_reducible refine (HUY.out _).mono ?_); rintro e w2 ⟨rfl, hbw2⟩; obtain ⟨hcw2, hfw2⟩ := bcell hbw2; have hzw2_0 : w.heap.size < w2.heap.size := lt_via hbw2 (by first | omega | (simp; done) | (simp; omega)); have hzw2_1 : w.heap.size + 1 < w2.heap.size := lt_via hbw2 (by first | omega | (simp; done) | (simp; omega)); have hzw2_2 : w.heap.size + 2 < w2.heap.size := lt_via hbw2 (by first | omega | (simp; done) | (simp; omega)); have hyw2_0 : w1.heap.size < w2.heap.size := lt_via hbw2 (by first | omega | (simp; done) | (simp; omega))))
  have hbel : Below w.heap.size w w2 := (by repeat (first | exact Below.refl _ _ | assumption | refine ba_alloc ?_ _ | refine ba_drew ?_ | refine ba_drewN ?_ _ | refine ba_via (by assumption) ?_ | (refine ba_set ?_ ?_ _; rotate_left; (first | omega | (simp; omega) | simp))))
  refine wp_region_grow_tail 16 (by kernel_rfl) (by kernel_rfl) ?_
  simp only [List.take_succ_cons, List.take_zero, List.drop_succ_cons, List.drop_zero]
  repeat (go_big_quiet_step ((first
    | (go_at_call 267; with_reducible exact grow_of (HT1.out _))
    | (go_at_call 267; with_reducible exact grow_of (HT2.out _))
    | (go_at_call 267; with_reducible exact grow_of (HT3.out _))
    | (go_at_call 268; with_reducible exact grow_of (HC.out _))
    | (go_at_call 235; with_reducible exact grow_of (HP1.out _))
    | (go_at_call 235; with_reducible exact grow_of (HP2.out _)))))
  all_goals (refine wpQuiet_nil ?_; intro wg hbwg; obtain ⟨hcwg, hfwg⟩ := bcell hbwg; have hzwg_0 : w.heap.size < wg.heap.size := lt_via hbwg (by first | omega | (simp; done) | (simp; omega)); have hzwg_1 : w.heap.size + 1 < wg.heap.size := lt_via hbwg (by first | omega | (simp; done) | (simp; omega)); have hzwg_2 : w.heap.size + 2 < wg.heap.size := lt_via hbwg (by first | omega | (simp; done) | (simp; omega)))
  go_wp2
  exact bodyPost_ret (v := .agg #[.int .i64 R.x, .int .i64 R.y, .int .i64 R.z]) (by simp [results, Tryz.results237, go_sem, *]) rfl ⟨rfl, (by repeat (first | exact Below.refl _ _ | assumption | refine ba_alloc ?_ _ | refine ba_drew ?_ | refine ba_drewN ?_ _ | refine ba_via (by assumption) ?_ | (refine ba_set ?_ ?_ _; rotate_left; (first | omega | (simp; omega) | simp))))⟩
end Go.Proofs.YtffkmgjmlahfpaaGreat
set_option linter.unusedVariables false
set_option linter.unusedSimpArgs false
namespace Go.Proofs.YtffkmgjmlahfpaaGreat
open Go.RowKit
/-- Whether a run is right, as the reference says it. -/
def S.rrun (l : List Bar) (r : Rn) : Bool := S.rightHead l r && S.rightStep r && (match S.barAt l r.mark with | some b => S.near (S.laidPath b r 0) 1048576 && S.near (S.laidPath b r (r.count - 1).toNat) 1048576 | none => false)
theorem placed_zero (x y : Int) (q a s : Pt) (k : Int) : S.plus (S.plus (S.placed x y ⟨0, 0, 0⟩ q) a 1) s k = S.placed x y (S.plus a s k) q := by
  rw [show S.placed x y ⟨0, 0, 0⟩ q = ⟨0 + (S.image x y q).x, 0 + (S.image x y q).y, 0 + (S.image x y q).z⟩ from rfl,
    show S.placed x y (S.plus a s k) q = ⟨a.x + k * s.x + (S.image x y q).x, a.y + k * s.y + (S.image x y q).y, a.z + k * s.z + (S.image x y q).z⟩ from rfl]
  simp only [S.plus, Pt.mk.injEq]
  omega
theorem plus_zero (p s : Pt) : S.plus p s 0 = p := by
  simp [S.plus]
theorem laid_pts {b : Bar} {r : Rn} (ht : S.turn r.tx r.ty = true) (h : S.bar b = true) (k : Nat) : (S.turned b r).all (S.ptOk r k) = S.near (S.laidPath b r k) 1048576 := by
  rw [turned_eq ht h]
  unfold S.near S.laidPath
  rw [List.all_map, List.all_map]
  congr 1
  funext q
  show S.near1 (S.laidPt r k (S.placed r.tx r.ty ⟨0, 0, 0⟩ q)) 1048576 = S.near1 (S.placed r.tx r.ty (S.plus r.at_ r.step k) q) 1048576
  congr 1
  unfold S.laidPt
  split
  · exact placed_zero _ _ _ _ _ _
  · have e : ((k : Nat) : Int) = 0 := by omega
    rw [e, ← placed_zero, plus_zero]
theorem rrun_eq {l : List Bar} {r : Rn} (hs : S.sched l = true) : S.rrun l r = S.right l r := by
  unfold S.rrun S.right
  cases hh : S.rightHead l r
  · rfl
  · obtain ⟨⟨h0, h1, h2⟩, h3, h4⟩ := rightHead_out hh
    cases hb : S.barAt l r.mark with
    | none => rfl
    | some b =>
      obtain ⟨k, hk⟩ : ∃ k : Nat, S.index l r.mark = (k : Int) := ⟨(S.index l r.mark).toNat, by omega⟩
      have hg : l[k]? = some b := by
        unfold S.barAt at hb
        rw [hk] at hb
        simpa using hb
      have hv := (sched_bar hs hg).1
      have e1 : (r.count - 1) = (((r.count - 1).toNat : Nat) : Int) := by omega
      have e2 := laid_pts h1 hv (r.count - 1).toNat
      rw [← e1] at e2
      have e3 := laid_pts h1 hv 0
      simp only [S.rightPts]
      rw [e2]
      rw [show (0 : Int) = ((0 : Nat) : Int) from rfl, e3]
def S.sumTo (rs : List Rn) (k : Nat) : Int := (rs.take k).foldl (fun s r => s + r.count) 0
theorem sumTo_succ (rs : List Rn) {k : Nat} (hk : k < rs.length) : S.sumTo rs (k + 1) = S.sumTo rs k + rs[k].count := by
  unfold S.sumTo
  rw [List.take_succ_eq_append_getElem hk, List.foldl_append]
  rfl
theorem sumTo_zero (rs : List Rn) : S.sumTo rs 0 = 0 := rfl
theorem sumTo_mono {rs : List Rn} (h : ∀ k (hk : k < rs.length), 0 ≤ rs[k].count) : ∀ {k m : Nat}, k ≤ m → m ≤ rs.length → S.sumTo rs k ≤ S.sumTo rs m := by
  intro k m hkm
  induction m with
  | zero => intro _; obtain rfl : k = 0 := by omega
            exact Int.le_refl _
  | succ m ih =>
    intro hm
    by_cases e : k = m + 1
    · subst e; exact Int.le_refl _
    · have := ih (by omega) (by omega)
      have h1 := h m (by omega)
      rw [sumTo_succ rs (by omega)]
      omega
def S.sumAll (rs : List Rn) : Int := S.sumTo rs rs.length
theorem foldl_count (rs : List Rn) : ∀ a : Int, rs.foldl (fun s r => s + r.count) a = a + rs.foldl (fun s r => s + r.count) 0 := by
  induction rs with
  | nil => intro a; simp
  | cons r rs ih => intro a; simp only [List.foldl_cons]; rw [ih (a + r.count), ih (0 + r.count)]; omega
theorem sumAll_cons (r : Rn) (rs : List Rn) : S.sumAll (r :: rs) = r.count + S.sumAll rs := by
  unfold S.sumAll S.sumTo
  rw [List.take_length, List.take_length, List.foldl_cons, foldl_count]
  omega
theorem runsOk_iff {bs : List Bar} : ∀ {rs : List Rn} {rest : Int}, 0 ≤ rest → S.runsOk bs rest rs = (rs.all (S.right bs) && decide (S.sumAll rs ≤ rest)) := by
  intro rs
  induction rs with
  | nil => intro rest h; simp [S.runsOk, S.sumAll, S.sumTo, h]
  | cons r rs ih =>
    intro rest h
    rw [show S.runsOk bs rest (r :: rs) = (S.right bs r && decide (r.count ≤ rest) && S.runsOk bs (rest - r.count) rs) from rfl, List.all_cons, sumAll_cons]
    cases hr : S.right bs r
    · rfl
    · have hc := right_count hr
      by_cases h1 : r.count ≤ rest
      · rw [ih (by omega), decide_eq_true h1]
        cases ha : rs.all (S.right bs)
        · rfl
        · simp only [Bool.true_and]
          rw [Bool.eq_iff_iff]
          simp only [decide_eq_true_eq]
          omega
      · rw [decide_eq_false h1]
        cases ha : rs.all (S.right bs)
        · rfl
        · have hpos : 0 ≤ S.sumAll rs := by
            have := sumTo_mono (rs := rs) (fun k hk => by
              rw [List.all_eq_true] at ha
              have := right_count (ha _ (List.getElem_mem hk))
              omega) (Nat.zero_le rs.length) (Nat.le_refl _)
            rwa [sumTo_zero] at this
          simp only [Bool.true_and, Bool.and_true, Bool.false_and]
          symm
          exact decide_eq_false (by omega)
/-- Where laid bar i stands: run k, and j in it. -/
structure Stands (bs : List Bar) (rs : List Rn) (i : Nat) (k j : Nat) (k0 : Nat) (b : Bar) : Prop where
  lt : k < rs.length
  ok : RunOk bs rs[k] k0 b
  sum : (i : Int) = S.sumTo rs k + j
  inr : (j : Int) < rs[k].count
  get : (S.mains bs rs)[i]? = some (S.mnOf b.size b.mark (S.mainLeg (S.laidPath b rs[k] j)))
theorem mains_sum {bs : List Bar} {rs : List Rn} (hs : S.sched bs = true) (h : ∀ r, r ∈ rs → S.right bs r = true) : ∀ {k : Nat}, k ≤ rs.length → ((S.mains bs (rs.take k)).length : Int) = S.sumTo rs k := by
  intro k
  induction k with
  | zero => intro _; simp [S.mains, sumTo_zero]
  | succ k ih =>
    intro hk
    have hk' : k < rs.length := by omega
    obtain ⟨k0, b, ho⟩ := right_ok hs (h _ (List.getElem_mem hk'))
    have := ih (by omega)
    have hc := ho.count
    rw [mains_snoc bs rs hk' ho.at_, List.length_append, mainsOf_len, sumTo_succ rs hk']
    omega
theorem stands_of {bs : List Bar} {rs : List Rn} (h : S.laid bs rs = true) {i : Nat} (hi : i < (S.mains bs rs).length) : ∃ k j k0 b, Stands bs rs i k j k0 b := by
  simp only [S.laid, Bool.and_eq_true, decide_eq_true_eq] at h
  obtain ⟨⟨hs, hl⟩, hr⟩ := h
  have hin : ∀ r, r ∈ rs → S.right bs r = true := fun r hr' => runs_in hr hr'
  have key : ∀ m, m ≤ rs.length → i < (S.mains bs (rs.take m)).length → ∃ k j k0 b, ∃ hk : k < rs.length, k < m ∧ RunOk bs rs[k] k0 b ∧ (i : Int) = S.sumTo rs k + (j : Nat) ∧ ((j : Nat) : Int) < rs[k].count ∧ (S.mains bs (rs.take m))[i]? = some (S.mnOf b.size b.mark (S.mainLeg (S.laidPath b rs[k] j))) := by
    intro m
    induction m with
    | zero => intro _ h0; simp [S.mains] at h0
    | succ m ih =>
      intro hm h0
      have hm' : m < rs.length := by omega
      obtain ⟨k0, b, ho⟩ := right_ok hs (hin _ (List.getElem_mem hm'))
      have e := mains_snoc bs rs hm' ho.at_
      have hsum := mains_sum hs hin (k := m) (by omega)
      by_cases hlt : i < (S.mains bs (rs.take m)).length
      · obtain ⟨k, j, k1, b1, hk, hkm, h1, h2, h3, h4⟩ := ih (by omega) hlt
        refine ⟨k, j, k1, b1, hk, by omega, h1, h2, h3, ?_⟩
        rw [e, List.getElem?_append_left hlt, h4]
      · rw [e, List.length_append, mainsOf_len] at h0
        have hc := ho.count
        refine ⟨m, i - (S.mains bs (rs.take m)).length, k0, b, hm', by omega, ho, by omega, by omega, ?_⟩
        rw [e, List.getElem?_append_right (by omega)]
        unfold S.mainsOf
        rw [List.getElem?_map, List.getElem?_range (by omega)]
        rfl
  obtain ⟨k, j, k0, b, hk, _, h1, h2, h3, h4⟩ := key rs.length (Nat.le_refl _) (by rwa [List.take_length])
  rw [List.take_length] at h4
  exact ⟨k, j, k0, b, hk, h1, h2, h3, h4⟩
end Go.Proofs.YtffkmgjmlahfpaaGreat
set_option linter.unusedVariables false
set_option linter.unusedSimpArgs false
namespace Go.Proofs.YtffkmgjmlahfpaaGreat
open Go.RowKit
theorem rtimes16_any (p : Pt) (n : Int) (h : S.near1 (S.times n p) 1000000000000 = true) (w : World) : Calls Tryz.prog 236 #[ptV p, .int .i64 n] w fun e w' => e = .returned (ptV (S.times n p)) ∧ Below w.heap.size w w' := by
  obtain ⟨hx, hy, hz⟩ := near1_out h
  clear h
  have x0 : (S.times n p).x = p.x * n := Int.mul_comm _ _
  have x1 : (S.times n p).y = p.y * n := Int.mul_comm _ _
  have x2 : (S.times n p).z = p.z * n := Int.mul_comm _ _
  rw [x0] at hx
  rw [x1] at hy
  rw [x2] at hz
  unfold ptV
  go_enter Tryz.func236, Tryz.ntmps236
  go_wp2
  exact bodyPost_ret (v := .agg #[.int .i64 (S.times n p).x, .int .i64 (S.times n p).y, .int .i64 (S.times n p).z]) (by simp [results, Tryz.results236, go_sem, *]) rfl ⟨rfl, (by repeat (first | exact Below.refl _ _ | assumption | refine ba_alloc ?_ _ | refine ba_drew ?_ | refine ba_drewN ?_ _ | refine ba_via (by assumption) ?_ | (refine ba_set ?_ ?_ _; rotate_left; (first | omega | (simp; omega) | simp))))⟩
set_option maxHeartbeats 1000000 in
theorem rtwice_any (p : Pt) (w : World) : Calls Tryz.prog 177 #[ptV p] w fun e w' => e = .returned (.bool (S.near1 p 2097152)) ∧ Below w.heap.size w w' := by
  have H := Lib.hid (show ∀ t : Bool, (t = true ↔ (-2097152 ≤ p.x ∧ p.x ≤ 2097152) ∧ (-2097152 ≤ p.y ∧ p.y ≤ 2097152) ∧ (-2097152 ≤ p.z ∧ p.z ≤ 2097152)) → t = S.near1 p 2097152 from fun t ht => by
    rw [Bool.eq_iff_iff, ht]
    simp only [S.near1, Bool.and_eq_true, decide_eq_true_eq]
    constructor <;> (intro h; omega))
  unfold ptV
  go_enter Tryz.func177, Tryz.ntmps177
  go_wp2
  all_goals (go_ret; exact ⟨ret_b (H.out _ (by simp only [decide_eq_true_eq, decide_eq_false_iff_not, Bool.false_eq_true, true_iff, false_iff] at *; omega)), (by repeat (first | exact Below.refl _ _ | assumption | refine ba_alloc ?_ _ | refine ba_drew ?_ | refine ba_drewN ?_ _ | refine ba_via (by assumption) ?_ | (refine ba_set ?_ ?_ _; rotate_left; (first | omega | (simp; omega) | simp))))⟩)
theorem rnearL_any (l : List Pt) (A : Option Addr) (n c : Nat) (B : Nat) (w : World) (hn : l.length = n) (hm : n ≤ 9223372036854775807) (hB : B ≤ w.heap.size) (hs : Cells w B A (l.flatMap ptC)) :
    Calls Tryz.prog 178 #[.slice A n c] w fun e w' => e = .returned (.bool (S.near l 1048576)) ∧ Below w.heap.size w w' := by
  have HN := Lib.hid hn
  clear hn
  go_enter Tryz.func178, Tryz.ntmps178
  go_wp2
  go_loopw [3] (fun i wr => ∃ k : Nat, k ≤ n ∧ i = .int .i64 k ∧ Hid (∀ j (h : j < l.length), j < k → S.near1 l[j] 1048576 = true) ∧ Below w.heap.size w wr) (fun i _ => n - (intOf i).toNat)
  case atStart => exact ⟨0, Nat.zero_le _, rfl, Lib.hid fun j _ hj => absurd hj (by omega), Below.refl _ _⟩
  case round =>
    obtain ⟨k, hk, rfl, HNO, hbr⟩ := hrel
    by_cases hlt : k < n
    · have hki : (k : Int) < (n : Int) := by omega
      have hkx : k < l.length := by have := HN.out; omega
      have hs' := hs.below (hbr.mono hB)
      obtain ⟨b, o, rfl, _, _⟩ := hs'.at_ (by rw [flat_len ptC 3 ptC_len]; omega)
      obtain ⟨c0, c1, c2⟩ := hs'.pts (List.getElem?_eq_getElem hkx)
      have HT := Lib.hid (rnear1_any l[k])
      have HX := Lib.hid (fun h => near_bad (m := 1048576) hkx h)
      unfold ptV at HT
      generalize hq : S.near1 l[k] 1048576 = q at *
      have HQ := Lib.hid hq
      clear hq hs'
      cases q
      · go_wp2_with (go_at_call 176; (with_reducible refine (HT.out _).mono ?_); rintro e w1 ⟨rfl, hbw1⟩; obtain ⟨hcw1, hfw1⟩ := bcell hbw1)
        go_ret
        exact ⟨ret_b (HX.out trivial).symm, ba_via hbw1 hbr⟩
      · go_wp2_with (go_at_call 176; (with_reducible refine (HT.out _).mono ?_); rintro e w1 ⟨rfl, hbw1⟩; obtain ⟨hcw1, hfw1⟩ := bcell hbw1)
        go_roundw
        case rel =>
          refine ⟨k + 1, by omega, by go_num, Lib.hid fun j hj hjk => ?_, ba_via hbw1 hbr⟩
          by_cases hjk' : j = k
          · subst hjk'; exact HQ.out
          · exact HNO.out j hj (by omega)
        case measure => simp [intOf]; omega
    · have HX := Lib.hid (near_all (m := 1048576) (l := l) fun j hj => HNO.out j hj (by have := HN.out; omega))
      go_wp2
      go_ret
      exact ⟨ret_b HX.out.symm, hbr⟩
theorem rfind14_any (l : List BarR) (m : ByteArray) (A : Option Addr) (n c : Nat) (B : Nat) (w : World) (hB : B ≤ w.heap.size) (hA : BarsAt w B A n l) :
    Calls Tryz.prog 162 #[.slice A n c, .string m] w fun e w' => e = .returned (.int .i64 (S.index (bars l) m)) ∧ Below w.heap.size w w' := by
  have HN := Lib.hid (show (bars l).length = n by simpa using hA.len)
  have hm := hA.max
  have hs := hA.cells
  clear hA
  go_enter Tryz.func162, Tryz.ntmps162
  go_wp2
  go_loopw [5] (fun i wr => ∃ k : Nat, k ≤ n ∧ i = .int .i64 k ∧ Hid (∀ j (h : j < (bars l).length), j < k → S.isMark m (bars l)[j] = false) ∧ Below w.heap.size w wr) (fun i _ => n - (intOf i).toNat)
  case atStart => exact ⟨0, Nat.zero_le _, rfl, Lib.hid fun j _ hj => absurd hj (by omega), Below.refl _ _⟩
  case round =>
    obtain ⟨k, hk, rfl, HNO, hbr⟩ := hrel
    by_cases hlt : k < n
    · have hki : (k : Int) < (n : Int) := by omega
      have hkx : k < (bars l).length := by have := HN.out; omega
      have hkl : k < l.length := by simpa using hkx
      have hs' := hs.below (hbr.mono hB)
      obtain ⟨b, o, rfl, _, _⟩ := hs'.at_ (by rw [flat_len barC 5 barC_len]; omega)
      have c0 := hs'.row0 barC_len hkl rfl
      have HE := Lib.hid (show S.isMark m (bars l)[k] = (l[k].b.mark.toList == m.toList) by simp [S.isMark])
      have HX := Lib.hid (fun hx => idxf_hit (p := S.isMark m) hkx hx HNO.out)
      generalize hq : S.isMark m (bars l)[k] = q at *
      have HQ := Lib.hid hq
      clear hq hs'
      generalize hmk : l[k].b.mark = mk at *
      have HMK := Lib.hid hmk
      clear hmk
      by_cases hx : (mk.toList == m.toList) = true
      · have hq : q = true := HE.out.trans hx
        subst hq
        go_wp2
        go_ret
        exact ⟨ret_i (HX.out trivial).symm, hbr⟩
      · have hx' : (mk.toList == m.toList) = false := by simpa using hx
        have hq : q = false := HE.out.trans hx'
        subst hq
        clear hx
        go_wp2
        go_roundw
        case rel =>
          refine ⟨k + 1, by omega, by go_num, Lib.hid fun j hj hjk => ?_, hbr⟩
          by_cases hjk' : j = k
          · subst hjk'; exact HQ.out
          · exact HNO.out j hj (by omega)
        case measure => simp [intOf]; omega
    · have HX := Lib.hid (idxf_miss (p := S.isMark m) (xs := bars l) fun j hj => HNO.out j hj (by have := HN.out; omega))
      go_wp2
      go_ret
      exact ⟨ret_i HX.out.symm, hbr⟩
theorem rcount16_any (rs : List Rn) (A : Option Addr) (n c : Nat) (B : Nat) (w : World) (hB : B ≤ w.heap.size) (hR : RunsAt w B A n rs) (h60 : n ≤ 60) (hc : ∀ k (hk : k < rs.length), 0 ≤ rs[k].count ∧ rs[k].count ≤ 1000) :
    Calls Tryz.prog 94 #[.slice A n c] w fun e w' => e = .returned (.int .i64 (S.sumAll rs)) ∧ w = w' := by
  have HN := Lib.hid hR.len
  have HS := Lib.hid hR.cells
  have HB : ∀ k, k ≤ rs.length → 0 ≤ S.sumTo rs k ∧ S.sumTo rs k ≤ 1000 * (k : Int) := by
    intro k
    induction k with
    | zero => intro _; rw [sumTo_zero]; omega
    | succ k ih =>
      intro hk
      have h1 := ih (by omega)
      have h2 := hc k (by omega)
      rw [sumTo_succ rs (by omega)]
      omega
  have HBD := Lib.hid HB
  clear HB hR
  have HC := Lib.hid hc
  clear hc
  go_enter Tryz.func94, Tryz.ntmps94
  go_wp2
  go_loop [3, 4] (fun s i => ∃ k : Nat, k ≤ n ∧ i = .int .i64 k ∧ s = .int .i64 (S.sumTo rs k)) (fun _ i => n - (intOf i).toNat)
  case atStart => exact ⟨0, Nat.zero_le _, rfl, rfl⟩
  case round =>
    obtain ⟨k, hk, rfl, rfl⟩ := hrel
    have hl := HN.out
    by_cases hlt : k < n
    · have hki : (k : Int) < (n : Int) := by omega
      have hkx : k < rs.length := by omega
      have hs' := HS.out
      obtain ⟨b, o, rfl, _, _⟩ := hs'.at_ (by rw [flat_len rnC 10 rnC_len]; omega)
      have c9 := hs'.rowj rnC_len hkx 9 rfl
      have h1 := HBD.out k (by omega)
      have h2 := HC.out k hkx
      have HT := Lib.hid (sumTo_succ rs hkx)
      clear hs' hl
      generalize S.sumTo rs k = s at *
      generalize rs[k].count = q at *
      have e1 : IntKind.i64.wrap (s + q) = s + q := IntWalk.i64_in _ (by omega)
      go_wp2
      go_round
      case rel => exact ⟨k + 1, by omega, by go_num, by rw [HT.out]⟩
      case measure => simp [intOf]; omega
    · have he : k = rs.length := by omega
      have HE := Lib.hid (show S.sumTo rs k = S.sumAll rs by rw [he]; rfl)
      clear hl he
      go_wp2
      go_ret
      exact ⟨ret_i HE.out, rfl⟩
end Go.Proofs.YtffkmgjmlahfpaaGreat
