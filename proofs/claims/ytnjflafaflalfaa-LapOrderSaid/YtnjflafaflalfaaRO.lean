/- Contracts: frame.axis, Valid, unit, cross, columns. -/
import Derived.Test.YtnjflafaflalfaaRows
import Derived.Test.YtnjflafaflalfaaRM
import Derived.Test.YtnjflafaflalfaaRN
set_option linter.unusedVariables false
set_option linter.unusedSimpArgs false
namespace Go.Proofs.Ytnjflafaflalfaa
open Go.RowKit
namespace S
def isAxis (n : Int) : Bool := (n != 0) && decide (-3 ≤ n) && decide (n ≤ 3)
def turn (x y : Int) : Bool := isAxis x && isAxis y && (x != y) && (x != -y)
def one (n k : Int) : Int := if n = k then 1 else if n = -k then -1 else 0
def unit (n : Int) : Pt := ⟨one n 1, one n 2, one n 3⟩
def cross (a b : Pt) : Pt := ⟨a.y * b.z - a.z * b.y, a.z * b.x - a.x * b.z, a.x * b.y - a.y * b.x⟩
def image (x y : Int) (p : Pt) : Pt :=
  let a := unit x; let b := unit y; let c := cross (unit x) (unit y)
  ⟨a.x * p.x + b.x * p.y + c.x * p.z, a.y * p.x + b.y * p.y + c.y * p.z, a.z * p.x + b.z * p.y + c.z * p.z⟩
def plus (p s : Pt) (k : Int) : Pt := ⟨p.x + k * s.x, p.y + k * s.y, p.z + k * s.z⟩
def placed (x y : Int) (at_ p : Pt) : Pt := let q := image x y p; ⟨at_.x + q.x, at_.y + q.y, at_.z + q.z⟩
def near1 (p : Pt) (m : Int) : Bool := decide (-m ≤ p.x) && decide (p.x ≤ m) && decide (-m ≤ p.y) && decide (p.y ≤ m) && decide (-m ≤ p.z) && decide (p.z ≤ m)
end S
abbrev ptV (p : Pt) : Value := .agg #[.int .i64 p.x, .int .i64 p.y, .int .i64 p.z]
abbrev turnV (x y : Int) : Value := .agg #[.int .i64 x, .int .i64 y]
theorem axis_any (n : Int) (w : World) : Calls Try.prog 77 #[.int .i64 n] w fun e w' => e = .returned (.bool (S.isAxis n)) ∧ w = w' := by
  have H := Lib.hid (show S.isAxis n = ((n != 0) && decide (-3 ≤ n) && decide (n ≤ 3)) from rfl)
  generalize hu : (n != 0) = u at H
  have hu' := Lib.hid hu
  go_enter Try.func77, Try.ntmps77
  go_wp2
  all_goals (go_ret; refine ⟨ret_b ?_, rfl⟩; rw [H.out]; have := hu'.out; simp_all; try omega)
theorem fvalid_any (x y : Int) (w : World) : Calls Try.prog 58 #[turnV x y] w fun e w' => e = .returned (.bool (S.turn x y)) ∧ Below w.heap.size w w' := by
  have H := Lib.hid (show S.turn x y = (S.isAxis x && S.isAxis y && (x != y) && (x != -y)) from rfl)
  have HX := Lib.hid (fun w => axis_any x w)
  have HY := Lib.hid (fun w => axis_any y w)
  unfold turnV
  by_cases hb : S.isAxis y = true
  · have hy : -3 ≤ y ∧ y ≤ 3 := by
      simp only [S.isAxis, Bool.and_eq_true, decide_eq_true_eq] at hb
      omega
    rw [hb] at HY H
    clear hb
    generalize S.isAxis x = a at *
    cases a
    all_goals (
      go_enter Try.func58, Try.ntmps58
      go_wp2_with (first
        | (go_at_call 77; (with_reducible refine (HX.out _).mono ?_); rintro e w' ⟨rfl, rfl⟩)
        | (go_at_call 77; (with_reducible refine (HY.out _).mono ?_); rintro e w' ⟨rfl, rfl⟩))
      all_goals (go_ret; refine ⟨ret_b ?_, bel⟩; rw [H.out]; simp_all))
  · have hb' : S.isAxis y = false := by simpa using hb
    rw [hb'] at HY H
    clear hb hb'
    generalize S.isAxis x = a at *
    cases a
    all_goals (
      go_enter Try.func58, Try.ntmps58
      go_wp2_with (first
        | (go_at_call 77; (with_reducible refine (HX.out _).mono ?_); rintro e w' ⟨rfl, rfl⟩)
        | (go_at_call 77; (with_reducible refine (HY.out _).mono ?_); rintro e w' ⟨rfl, rfl⟩))
      all_goals (go_ret; refine ⟨ret_b ?_, bel⟩; rw [H.out]; simp_all))
theorem unit_any (n : Int) (h : S.isAxis n = true) (w : World) : Calls Try.prog 84 #[.int .i64 n] w fun e w' => e = .returned (ptV (S.unit n)) ∧ Below w.heap.size w w' := by
  have h' : n = 1 ∨ n = 2 ∨ n = 3 ∨ n = -1 ∨ n = -2 ∨ n = -3 := by
    simp only [S.isAxis, Bool.and_eq_true, decide_eq_true_eq, bne_iff_ne] at h
    omega
  have u1 : S.unit 1 = ⟨1, 0, 0⟩ := rfl
  have u2 : S.unit 2 = ⟨0, 1, 0⟩ := rfl
  have u3 : S.unit 3 = ⟨0, 0, 1⟩ := rfl
  have u4 : S.unit (-1) = ⟨-1, 0, 0⟩ := rfl
  have u5 : S.unit (-2) = ⟨0, -1, 0⟩ := rfl
  have u6 : S.unit (-3) = ⟨0, 0, -1⟩ := rfl
  rcases h' with rfl | rfl | rfl | rfl | rfl | rfl
  all_goals (
    go_enter Try.func84, Try.ntmps84
    go_wp2
    (first | rw [u1] | rw [u2] | rw [u3] | rw [u4] | rw [u5] | rw [u6])
    (first
      | exact bodyPost_ret (v := ptV ⟨1, 0, 0⟩) (by simp [results, Try.results84, go_sem, *]) rfl ⟨rfl, bel⟩
      | exact bodyPost_ret (v := ptV ⟨0, 1, 0⟩) (by simp [results, Try.results84, go_sem, *]) rfl ⟨rfl, bel⟩
      | exact bodyPost_ret (v := ptV ⟨0, 0, 1⟩) (by simp [results, Try.results84, go_sem, *]) rfl ⟨rfl, bel⟩
      | exact bodyPost_ret (v := ptV ⟨-1, 0, 0⟩) (by simp [results, Try.results84, go_sem, *]) rfl ⟨rfl, bel⟩
      | exact bodyPost_ret (v := ptV ⟨0, -1, 0⟩) (by simp [results, Try.results84, go_sem, *]) rfl ⟨rfl, bel⟩
      | exact bodyPost_ret (v := ptV ⟨0, 0, -1⟩) (by simp [results, Try.results84, go_sem, *]) rfl ⟨rfl, bel⟩))
theorem cross_any (a b : Pt) (ha : S.near1 a 1 = true) (hb : S.near1 b 1 = true) (w : World) : Calls Try.prog 85 #[ptV a, ptV b] w fun e w' => e = .returned (ptV (S.cross a b)) ∧ Below w.heap.size w w' := by
  simp only [S.near1, Bool.and_eq_true, decide_eq_true_eq] at ha hb
  have hm : ∀ u v : Int, -1 ≤ u ∧ u ≤ 1 → -1 ≤ v ∧ v ≤ 1 → -1 ≤ u * v ∧ u * v ≤ 1 := fun u v hu hv => by
    have h1 : u = -1 ∨ u = 0 ∨ u = 1 := by omega
    rcases h1 with rfl | rfl | rfl <;> omega
  have p0 := hm a.y b.z (by omega) (by omega)
  have p1 := hm a.z b.y (by omega) (by omega)
  have p2 := hm a.z b.x (by omega) (by omega)
  have p3 := hm a.x b.z (by omega) (by omega)
  have p4 := hm a.x b.y (by omega) (by omega)
  have p5 := hm a.y b.x (by omega) (by omega)
  clear hm
  have x0 : (S.cross a b).x = a.y * b.z - a.z * b.y := rfl
  have x1 : (S.cross a b).y = a.z * b.x - a.x * b.z := rfl
  have x2 : (S.cross a b).z = a.x * b.y - a.y * b.x := rfl
  unfold ptV
  go_enter Try.func85, Try.ntmps85
  go_wp2
  exact bodyPost_ret (v := .agg #[.int .i64 (S.cross a b).x, .int .i64 (S.cross a b).y, .int .i64 (S.cross a b).z]) (by simp [results, Try.results85, go_sem, *]) rfl ⟨rfl, bel⟩
end Go.Proofs.Ytnjflafaflalfaa
