/- Lemmas. -/
import Derived.Test.YtffkmgjmlahfpaaGreatRows
import Derived.WalkKit
import Derived.ProofKit
import Derived.Lib.Hide
import Derived.BigQuiet
import Derived.Handy
import Derived.StillTail
import Derived.Maps.AppendAt
import Derived.BigRegion
import Derived.Deep.CutRange
import Derived.Deep.RegionHeld3
import Derived.Test.YtffkmgjmlahfpaaGreatYB
import Derived.Test.YtffkmgjmlahfpaaGreatYA
import Derived.Test.YtffkmgjmlahfpaaGreatYC
import Derived.Test.YtffkmgjmlahfpaaGreatYM
import Derived.Test.YtffkmgjmlahfpaaGreatYE
import Derived.Test.YtffkmgjmlahfpaaGreatYD
import Derived.Test.YtffkmgjmlahfpaaGreatYJ
import Derived.Test.YtffkmgjmlahfpaaGreatYI
import Derived.Test.YtffkmgjmlahfpaaGreatYG
import Derived.Test.YtffkmgjmlahfpaaGreatYF
import Derived.Test.YtffkmgjmlahfpaaGreatYH
import Derived.Test.YtffkmgjmlahfpaaGreatYK
import Derived.Test.YtffkmgjmlahfpaaGreatYN
import Derived.Test.YtffkmgjmlahfpaaGreatYT
import Derived.Test.YtffkmgjmlahfpaaGreatYP
import Derived.Test.YtffkmgjmlahfpaaGreatYR
import Derived.Test.YtffkmgjmlahfpaaGreatYS
set_option linter.unusedVariables false
set_option linter.unusedSimpArgs false
namespace Go.Proofs.YtffkmgjmlahfpaaGreat
namespace S
end S
theorem has_of {xs : List Int} {x : Int} {k : Nat} (hk : k < xs.length) (h : xs[k] = x) : S.has xs x = true := by
  have : x ∈ xs := h ▸ List.getElem_mem hk
  simp [S.has, this]
theorem has_not {xs : List Int} {x : Int} (h : ∀ j, j < xs.length → xs[j]? ≠ some x) : S.has xs x = false := by
  have : x ∉ xs := fun hx => by
    obtain ⟨j, hj, rfl⟩ := List.mem_iff_getElem.1 hx
    exact h j hj (List.getElem?_eq_getElem hj)
  simp [S.has, this]
end Go.Proofs.YtffkmgjmlahfpaaGreat
namespace Go.Proofs.YtffkmgjmlahfpaaGreat
open Go.RowKit

theorem rsizes_any (w : World) :
    Calls Tryz.prog 264 #[] w fun e w' => e = .returned (.slice (some ⟨w.heap.size, 0, none⟩) 9 9) ∧ w.alloc (.cells (i64s S.sizes).toArray 3) = w' := by
  go_enter Tryz.func264, Tryz.ntmps264
  go_wp2
  go_ret
  exact ⟨rfl, rfl⟩

theorem rsize_any (d : Int) (w : World) :
    Calls Tryz.prog 230 #[.int .i64 d] w fun e w' => e = .returned (.bool (S.size d)) ∧ Below w.heap.size w w' := by
  have hs : Cells (w.alloc (.cells (i64s S.sizes).toArray 3)) (w.heap.size + 1) (some ⟨w.heap.size, 0, none⟩) (i64s S.sizes) := by simpa using Cells.new w (i64s S.sizes).toArray 3 (0, 0)
  have hl : S.sizes.length = 9 := rfl
  go_enter Tryz.func230, Tryz.ntmps230
  go_wp2_with (go_at_call 264; refine (rsizes_any _).mono ?_; rintro e w' ⟨rfl, rfl⟩)
  go_loop [4] (fun i => ∃ k : Nat, k ≤ 9 ∧ i = .int .i64 k ∧ ∀ j, j < k → S.sizes[j]? ≠ some d) (fun i => 9 - (intOf i).toNat)
  case atStart => exact ⟨0, Nat.zero_le _, rfl, fun j hj => absurd hj (by omega)⟩
  case round =>
    obtain ⟨k, hk, rfl, hno⟩ := hrel
    have HNO := Lib.hid hno
    clear hno
    by_cases hlt : k < 9
    · have hkx : k < S.sizes.length := by omega
      have hck := hs.get (i64s_get hkx)
      rw [Nat.zero_add] at hck
      by_cases hx : S.sizes[k] = d
      · have hb : (S.sizes[k] == d) = true := by simp [hx]
        have HX := Lib.hid hx
        clear hx
        go_wp2
        go_ret
        exact ⟨ret_b (has_of hkx HX.out).symm, by go_grown⟩
      · have hb : (S.sizes[k] == d) = false := by simpa using hx
        have HX := Lib.hid hx
        clear hx
        go_wp2
        go_round
        case rel =>
          refine ⟨k + 1, by omega, by go_num, fun j hj => ?_⟩
          by_cases hjk : j = k
          · subst hjk; rw [List.getElem?_eq_getElem hkx]; simpa using HX.out
          · exact HNO.out j (by omega)
        case measure => simp [intOf]; omega
    · go_wp2
      go_ret
      exact ⟨ret_b (has_not (xs := S.sizes) (fun j hj => HNO.out j (by omega))).symm, by go_grown⟩
end Go.Proofs.YtffkmgjmlahfpaaGreat
namespace Go.Proofs.YtffkmgjmlahfpaaGreat
open Go.RowKit
def S.padd (a b : Pt) : Pt := ⟨a.x + b.x, a.y + b.y, a.z + b.z⟩
def S.times (n : Int) (p : Pt) : Pt := ⟨n * p.x, n * p.y, n * p.z⟩
theorem raxis_any (n : Int) (w : World) : Calls Tryz.prog 232 #[.int .i64 n] w fun e w' => e = .returned (.bool (S.isAxis n)) ∧ w = w' := by
  have H := Lib.hid (show S.isAxis n = ((n != 0) && decide (-3 ≤ n) && decide (n ≤ 3)) from rfl)
  generalize hu : (n != 0) = u at H
  have hu' := Lib.hid hu
  go_enter Tryz.func232, Tryz.ntmps232
  go_wp2
  all_goals (go_ret; refine ⟨ret_b ?_, rfl⟩; rw [H.out]; have := hu'.out; simp_all; try omega)
theorem rturn_any (x y : Int) (w : World) : Calls Tryz.prog 175 #[turnV x y] w fun e w' => e = .returned (.bool (S.turn x y)) ∧ Below w.heap.size w w' := by
  have H := Lib.hid (show S.turn x y = (S.isAxis x && S.isAxis y && (x != y) && (x != -y)) from rfl)
  have HX := Lib.hid (fun w => raxis_any x w)
  have HY := Lib.hid (fun w => raxis_any y w)
  unfold turnV
  by_cases hb : S.isAxis y = true
  · have hy : -3 ≤ y ∧ y ≤ 3 := by
      simp only [S.isAxis, Bool.and_eq_true, decide_eq_true_eq] at hb
      omega
    have hn : IntKind.i64.wrap (0 - y) = -y := by rw [IntWalk.i64_in _ (by omega)]; omega
    rw [hb] at HY H
    clear hb
    generalize S.isAxis x = a at *
    cases a
    all_goals (
      go_enter Tryz.func175, Tryz.ntmps175
      go_wp2_with (first
        | (go_at_call 232; (with_reducible refine (HX.out _).mono ?_); rintro e w' ⟨rfl, rfl⟩)
        | (go_at_call 232; (with_reducible refine (HY.out _).mono ?_); rintro e w' ⟨rfl, rfl⟩))
      all_goals (go_ret; refine ⟨ret_b ?_, bel⟩; rw [H.out]; simp_all))
  · have hb' : S.isAxis y = false := by simpa using hb
    rw [hb'] at HY H
    clear hb hb'
    generalize S.isAxis x = a at *
    cases a
    all_goals (
      go_enter Tryz.func175, Tryz.ntmps175
      go_wp2_with (first
        | (go_at_call 232; (with_reducible refine (HX.out _).mono ?_); rintro e w' ⟨rfl, rfl⟩)
        | (go_at_call 232; (with_reducible refine (HY.out _).mono ?_); rintro e w' ⟨rfl, rfl⟩))
      all_goals (go_ret; refine ⟨ret_b ?_, bel⟩; rw [H.out]; simp_all))
theorem runit_pos (n : Int) (h : n = 1 ∨ n = 2 ∨ n = 3) (w : World) : Calls Tryz.prog 266 #[.int .i64 n] w fun e w' => e = .returned (ptV (S.unit n)) ∧ Below w.heap.size w w' := by
  have u1 : S.unit 1 = ⟨1, 0, 0⟩ := rfl
  have u2 : S.unit 2 = ⟨0, 1, 0⟩ := rfl
  have u3 : S.unit 3 = ⟨0, 0, 1⟩ := rfl
  rcases h with rfl | rfl | rfl
  all_goals (
    go_enter Tryz.func266, Tryz.ntmps266
    go_wp2
    (first | rw [u1] | rw [u2] | rw [u3])
    (first
      | exact bodyPost_ret (v := ptV ⟨1, 0, 0⟩) (by simp [results, Tryz.results266, go_sem, *]) rfl ⟨rfl, bel⟩
      | exact bodyPost_ret (v := ptV ⟨0, 1, 0⟩) (by simp [results, Tryz.results266, go_sem, *]) rfl ⟨rfl, bel⟩
      | exact bodyPost_ret (v := ptV ⟨0, 0, 1⟩) (by simp [results, Tryz.results266, go_sem, *]) rfl ⟨rfl, bel⟩))
set_option maxHeartbeats 1000000 in
theorem runit_any (n : Int) (h : S.isAxis n = true) (w : World) : Calls Tryz.prog 266 #[.int .i64 n] w fun e w' => e = .returned (ptV (S.unit n)) ∧ Below w.heap.size w w' := by
  have h' : (n = 1 ∨ n = 2 ∨ n = 3) ∨ n = -1 ∨ n = -2 ∨ n = -3 := by
    simp only [S.isAxis, Bool.and_eq_true, decide_eq_true_eq, bne_iff_ne] at h
    omega
  have u1 : S.unit 1 = ⟨1, 0, 0⟩ := rfl
  have u2 : S.unit 2 = ⟨0, 1, 0⟩ := rfl
  have u3 : S.unit 3 = ⟨0, 0, 1⟩ := rfl
  have u4 : S.unit (-1) = ⟨-1, 0, 0⟩ := rfl
  have u5 : S.unit (-2) = ⟨0, -1, 0⟩ := rfl
  have u6 : S.unit (-3) = ⟨0, 0, -1⟩ := rfl
  have H1 := Lib.hid (fun w => u1 ▸ runit_pos 1 (by omega) w)
  have H2 := Lib.hid (fun w => u2 ▸ runit_pos 2 (by omega) w)
  have H3 := Lib.hid (fun w => u3 ▸ runit_pos 3 (by omega) w)
  unfold ptV at H1 H2 H3
  simp only [] at H1 H2 H3
  rcases h' with h1 | rfl | rfl | rfl
  · exact runit_pos n h1 w
  · rw [u4]
    go_enter Tryz.func266, Tryz.ntmps266
    go_wp2_with (go_at_call 266; (with_reducible refine (H1.out _).mono ?_); rintro e w1 ⟨rfl, hbw1⟩; obtain ⟨hcw1, hfw1⟩ := bcell hbw1; have hzw1_0 : w.heap.size < w1.heap.size := lt_via hbw1 (by first | omega | (simp; done) | (simp; omega)))
    exact bodyPost_ret (v := ptV ⟨-1, 0, 0⟩) (by simp [results, Tryz.results266, go_sem, *]) rfl ⟨rfl, bel⟩
  · rw [u5]
    go_enter Tryz.func266, Tryz.ntmps266
    go_wp2_with (go_at_call 266; (with_reducible refine (H2.out _).mono ?_); rintro e w1 ⟨rfl, hbw1⟩; obtain ⟨hcw1, hfw1⟩ := bcell hbw1; have hzw1_0 : w.heap.size < w1.heap.size := lt_via hbw1 (by first | omega | (simp; done) | (simp; omega)))
    exact bodyPost_ret (v := ptV ⟨0, -1, 0⟩) (by simp [results, Tryz.results266, go_sem, *]) rfl ⟨rfl, bel⟩
  · rw [u6]
    go_enter Tryz.func266, Tryz.ntmps266
    go_wp2_with (go_at_call 266; (with_reducible refine (H3.out _).mono ?_); rintro e w1 ⟨rfl, hbw1⟩; obtain ⟨hcw1, hfw1⟩ := bcell hbw1; have hzw1_0 : w.heap.size < w1.heap.size := lt_via hbw1 (by first | omega | (simp; done) | (simp; omega)))
    exact bodyPost_ret (v := ptV ⟨0, 0, -1⟩) (by simp [results, Tryz.results266, go_sem, *]) rfl ⟨rfl, bel⟩
theorem rcross_any (a b : Pt) (ha : S.near1 a 1 = true) (hb : S.near1 b 1 = true) (w : World) : Calls Tryz.prog 268 #[ptV a, ptV b] w fun e w' => e = .returned (ptV (S.cross a b)) ∧ Below w.heap.size w w' := by
  simp only [S.near1, Bool.and_eq_true, decide_eq_true_eq] at ha hb
  have hm : ∀ u v : Int, -1 ≤ u ∧ u ≤ 1 → -1 ≤ v ∧ v ≤ 1 → -1 ≤ u * v ∧ u * v ≤ 1 := fun u v hu hv => by
    have h1 : u = -1 ∨ u = 0 ∨ u = 1 := by omega
    rcases h1 with rfl | rfl | rfl <;> omega
  have p0 := hm a.y b.z (by omega) (by omega)
  have p1 := hm a.z b.y (by omega) (by omega)
  have p2 := hm a.z b.x (by omega) (by omega)
  have p3 := hm a.x b.z (by omega) (by omega)
  have p4 := hm a.x b.y (by omega) (by omega)
  have p5 := hm a.y b.x (by omega) (by omega)
  clear hm
  have x0 : (S.cross a b).x = a.y * b.z - a.z * b.y := rfl
  have x1 : (S.cross a b).y = a.z * b.x - a.x * b.z := rfl
  have x2 : (S.cross a b).z = a.x * b.y - a.y * b.x := rfl
  unfold ptV
  go_enter Tryz.func268, Tryz.ntmps268
  go_wp2
  exact bodyPost_ret (v := .agg #[.int .i64 (S.cross a b).x, .int .i64 (S.cross a b).y, .int .i64 (S.cross a b).z]) (by simp [results, Tryz.results268, go_sem, *]) rfl ⟨rfl, bel⟩
theorem rplus_any (a b : Pt) (h : S.near1 (S.padd a b) 1000000000000 = true) (w : World) : Calls Tryz.prog 235 #[ptV a, ptV b] w fun e w' => e = .returned (ptV (S.padd a b)) ∧ Below w.heap.size w w' := by
  obtain ⟨hx, hy, hz⟩ := near1_out h
  clear h
  have x0 : (S.padd a b).x = a.x + b.x := rfl
  have x1 : (S.padd a b).y = a.y + b.y := rfl
  have x2 : (S.padd a b).z = a.z + b.z := rfl
  rw [x0] at hx
  rw [x1] at hy
  rw [x2] at hz
  unfold ptV
  go_enter Tryz.func235, Tryz.ntmps235
  go_wp2
  exact bodyPost_ret (v := .agg #[.int .i64 (S.padd a b).x, .int .i64 (S.padd a b).y, .int .i64 (S.padd a b).z]) (by simp [results, Tryz.results235, go_sem, *]) rfl ⟨rfl, bel⟩
theorem rtimes_any (n : Int) (p : Pt) (h : S.near1 (S.times n p) 1000000000000 = true) (w : World) : Calls Tryz.prog 267 #[.int .i64 n, ptV p] w fun e w' => e = .returned (ptV (S.times n p)) ∧ Below w.heap.size w w' := by
  obtain ⟨hx, hy, hz⟩ := near1_out h
  clear h
  have x0 : (S.times n p).x = n * p.x := rfl
  have x1 : (S.times n p).y = n * p.y := rfl
  have x2 : (S.times n p).z = n * p.z := rfl
  rw [x0] at hx
  rw [x1] at hy
  rw [x2] at hz
  unfold ptV
  go_enter Tryz.func267, Tryz.ntmps267
  go_wp2
  exact bodyPost_ret (v := .agg #[.int .i64 (S.times n p).x, .int .i64 (S.times n p).y, .int .i64 (S.times n p).z]) (by simp [results, Tryz.results267, go_sem, *]) rfl ⟨rfl, bel⟩
theorem rimage_eq (x y : Int) (p : Pt) : S.padd (S.times p.x (S.unit x)) (S.padd (S.times p.y (S.unit y)) (S.times p.z (S.cross (S.unit x) (S.unit y)))) = S.image x y p := by
  rw [show S.image x y p = ⟨(S.unit x).x * p.x + (S.unit y).x * p.y + (S.cross (S.unit x) (S.unit y)).x * p.z, (S.unit x).y * p.x + (S.unit y).y * p.y + (S.cross (S.unit x) (S.unit y)).y * p.z, (S.unit x).z * p.x + (S.unit y).z * p.y + (S.cross (S.unit x) (S.unit y)).z * p.z⟩ from rfl]
  simp only [S.padd, S.times, Int.mul_comm, Int.add_assoc]
theorem near1_mono0 {p : Pt} {a b : Int} (h : S.near1 p a = true) (hab : a ≤ b) : S.near1 p b = true := by
  simp only [S.near1, Bool.and_eq_true, decide_eq_true_eq] at h ⊢
  omega
theorem times_near {n m : Int} {p : Pt} (hn : -m ≤ n ∧ n ≤ m) (hp : S.near1 p 1 = true) : S.near1 (S.times n p) m = true := by
  obtain ⟨hx, hy, hz⟩ := near1_out hp
  have ax := mul_near hx hn
  have ay := mul_near hy hn
  have az := mul_near hz hn
  rw [Int.mul_comm] at ax ay az
  rw [show S.times n p = ⟨n * p.x, n * p.y, n * p.z⟩ from rfl]
  simp only [S.near1, Bool.and_eq_true, decide_eq_true_eq]
  generalize n * p.x = u1 at *
  generalize n * p.y = u2 at *
  generalize n * p.z = u3 at *
  omega
theorem padd_near {a b : Pt} {m k : Int} (ha : S.near1 a m = true) (hb : S.near1 b k = true) : S.near1 (S.padd a b) (m + k) = true := by
  obtain ⟨hx, hy, hz⟩ := near1_out ha
  obtain ⟨gx, gy, gz⟩ := near1_out hb
  rw [show S.padd a b = ⟨a.x + b.x, a.y + b.y, a.z + b.z⟩ from rfl]
  simp only [S.near1, Bool.and_eq_true, decide_eq_true_eq]
  omega
set_option maxRecDepth 20000 in
set_option maxHeartbeats 4000000 in
theorem rimage_any (x y : Int) (h : S.turn x y = true) (p : Pt) (hp : S.near1 p 1048576 = true) (w : World) : Calls Tryz.prog 237 #[turnV x y, ptV p] w fun e w' => e = .returned (ptV (S.image x y p)) ∧ Below w.heap.size w w' := by
  obtain ⟨hax, hay⟩ := turn_axes h
  obtain ⟨px, py, pz⟩ := near1_out hp
  have hn1 := times_near px (unit_near hax)
  have hn2 := times_near py (unit_near hay)
  have hn3 := times_near pz (cross_near h)
  have hn4 := padd_near hn2 hn3
  have hn5 := padd_near hn1 hn4
  have HUX := Lib.hid (fun w => runit_any x hax w)
  have HUY := Lib.hid (fun w => runit_any y hay w)
  have HC := Lib.hid (fun w => rcross_any (S.unit x) (S.unit y) (unit_near hax) (unit_near hay) w)
  have HT1 := Lib.hid (fun w => rtimes_any p.x (S.unit x) (near1_mono0 hn1 (by omega)) w)
  have HT2 := Lib.hid (fun w => rtimes_any p.y (S.unit y) (near1_mono0 hn2 (by omega)) w)
  have HT3 := Lib.hid (fun w => rtimes_any p.z (S.cross (S.unit x) (S.unit y)) (near1_mono0 hn3 (by omega)) w)
  have HP1 := Lib.hid (fun w => rplus_any (S.times p.y (S.unit y)) (S.times p.z (S.cross (S.unit x) (S.unit y))) (near1_mono0 hn4 (by omega)) w)
  have HP2 := Lib.hid (fun w => rplus_any (S.times p.x (S.unit x)) _ (near1_mono0 hn5 (by omega)) w)
  have HE := Lib.hid (rimage_eq x y p)
  clear h hp hax hay hn1 hn2 hn3 hn4 hn5 px py pz
  rw [← HE.out]
  clear HE
  generalize S.padd (S.times p.x (S.unit x)) (S.padd (S.times p.y (S.unit y)) (S.times p.z (S.cross (S.unit x) (S.unit y)))) = R at *
  generalize S.padd (S.times p.y (S.unit y)) (S.times p.z (S.cross (S.unit x) (S.unit y))) = P1 at *
  generalize S.times p.z (S.cross (S.unit x) (S.unit y)) = T3 at *
  generalize S.times p.y (S.unit y) = T2 at *
  generalize S.times p.x (S.unit x) = T1 at *
  generalize S.cross (S.unit x) (S.unit y) = C at *
  generalize S.unit x = U at *
  generalize S.unit y = V at *
  unfold ptV at HUX HUY HC HT1 HT2 HT3 HP1 HP2
  unfold turnV ptV
  go_enter Tryz.func237, Tryz.ntmps237
  go_wp2_with (first
    | (go_at_call 266; (with_reducible refine (HUX.out _).mono ?_); rintro e w1 ⟨rfl, hbw1⟩; obtain ⟨hcw1, hfw1⟩ := bcell hbw1; have hzw1_0 : w.heap.size < w1.heap.size := lt_via hbw1 (by first | omega | (simp; done) | (simp; omega)); have hzw1_1 : w.heap.size + 1 < w1.heap.size := lt_via hbw1 (by first | omega | (simp; done) | (simp; omega)); have hzw1_2 : w.heap.size + 2 < w1.heap.size := lt_via hbw1 (by first | omega | (simp; done) | (simp; omega)))
    | (go_at_call 266; (with_reducible refine (HUY.out _).mono ?_); rintro e w2 ⟨rfl, hbw2⟩; obtain ⟨hcw2, hfw2⟩ := bcell hbw2; have hzw2_0 : w.heap.size < w2.heap.size := lt_via hbw2 (by first | omega | (simp; done) | (simp; omega)); have hzw2_1 : w.heap.size + 1 < w2.heap.size := lt_via hbw2 (by first | omega | (simp; done) | (simp; omega)); have hzw2_2 : w.heap.size + 2 < w2.heap.size := lt_via hbw2 (by first | omega | (simp; done) | (simp; omega)); have hyw2_0 : w1.heap.size < w2.heap.size := lt_via hbw2 (by first | omega | (simp; done) | (simp; omega))))
  have hbel : Below w.heap.size w w2 := bel
  refine wp_region_grow_tail 16 (by kernel_rfl) (by kernel_rfl) ?_
  simp only [List.take_succ_cons, List.take_zero, List.drop_succ_cons, List.drop_zero]
  repeat (go_big_quiet_step ((first
    | (go_at_call 267; with_reducible exact grow_of (HT1.out _))
    | (go_at_call 267; with_reducible exact grow_of (HT2.out _))
    | (go_at_call 267; with_reducible exact grow_of (HT3.out _))
    | (go_at_call 268; with_reducible exact grow_of (HC.out _))
    | (go_at_call 235; with_reducible exact grow_of (HP1.out _))
    | (go_at_call 235; with_reducible exact grow_of (HP2.out _)))))
  all_goals (refine wpQuiet_nil ?_; intro wg hbwg; obtain ⟨hcwg, hfwg⟩ := bcell hbwg; have hzwg_0 : w.heap.size < wg.heap.size := lt_via hbwg (by first | omega | (simp; done) | (simp; omega)); have hzwg_1 : w.heap.size + 1 < wg.heap.size := lt_via hbwg (by first | omega | (simp; done) | (simp; omega)); have hzwg_2 : w.heap.size + 2 < wg.heap.size := lt_via hbwg (by first | omega | (simp; done) | (simp; omega)))
  go_wp2
  exact bodyPost_ret (v := .agg #[.int .i64 R.x, .int .i64 R.y, .int .i64 R.z]) (by simp [results, Tryz.results237, go_sem, *]) rfl ⟨rfl, bel⟩
end Go.Proofs.YtffkmgjmlahfpaaGreat
namespace Go.Proofs.YtffkmgjmlahfpaaGreat
open Go.RowKit
theorem rletter_any (c : Int) (w : World) (h0 : 0 ≤ c) (h1 : c ≤ 255) : Calls Tryz.prog 171 #[.int .u8 c] w fun e w' => e = .returned (.bool (S.letter c)) ∧ w = w' := by
  have H := Lib.hid (show S.letter c = (decide (97 ≤ c) && decide (c ≤ 122) || decide (65 ≤ c) && decide (c ≤ 90)) from rfl)
  go_enter Tryz.func171, Tryz.ntmps171
  go_wp2
  all_goals (go_ret; exact ⟨ret_b (by rw [H.out, Bool.eq_iff_iff]; simp; omega), rfl⟩)
theorem rdigit_any (c : Int) (w : World) (h0 : 0 ≤ c) (h1 : c ≤ 255) : Calls Tryz.prog 229 #[.int .u8 c] w fun e w' => e = .returned (.bool (S.digit c)) ∧ w = w' := by
  have H := Lib.hid (show S.digit c = (decide (48 ≤ c) && decide (c ≤ 57)) from rfl)
  go_enter Tryz.func229, Tryz.ntmps229
  go_wp2
  all_goals (go_ret; exact ⟨ret_b (by rw [H.out, Bool.eq_iff_iff]; simp; omega), rfl⟩)
set_option maxHeartbeats 1000000 in
theorem rword_any (s : ByteArray) (w : World) (hs : s.size ≤ 9223372036854775807) : Calls Tryz.prog 172 #[.string s, .int .i64 0] w fun e w' => e = .returned (.int .i64 (S.wordl s.data.toList : Nat)) ∧ w = w' := by
  go_enter Tryz.func172, Tryz.ntmps172
  go_wp2
  go_loop [1] (fun i => ∃ k : Nat, k ≤ s.size ∧ i = .int .i64 k ∧ Hid (∀ j c, j < k → s.data.toList[j]? = some c → S.wordc c.toNat = true)) (fun i => s.size - (intOf i).toNat)
  case atStart => exact ⟨0, Nat.zero_le _, rfl, Lib.hid fun j c hj => absurd hj (by omega)⟩
  case round =>
    obtain ⟨k, hk, rfl, HNO⟩ := hrel
    by_cases hlt : k < s.size
    · have hb := byte_bd s[k]
      have hget : s.data.toList[k]? = some s[k] := by simp [hlt]; rfl
      have HG := Lib.hid hget
      clear hget
      cases hl : S.letter s[k].toNat <;> cases hd : S.digit s[k].toNat <;> cases hu : ((s[k].toNat : Int) == 95)
      all_goals
        go_wp2_with (first
          | (go_at_call 171; (with_reducible refine (rletter_any _ _ hb.1 hb.2).mono ?_); rintro e w' ⟨rfl, rfl⟩)
          | (go_at_call 229; (with_reducible refine (rdigit_any _ _ hb.1 hb.2).mono ?_); rintro e w' ⟨rfl, rfl⟩))
        first
          | (go_ret
             exact ⟨ret_i (by rw [wordl_stop (k := k) HNO.out (by simp; omega) (.inr ⟨_, HG.out, by simp [S.wordc, hl, hd, hu]⟩)]), rfl⟩)
          | (go_round
             case rel => exact ⟨k + 1, by omega, by go_num, Lib.hid (wordl_more HNO.out HG.out (by simp [S.wordc, hl, hd, hu]))⟩
             case measure => simp [intOf]; omega)
    · go_wp2
      go_ret
      exact ⟨ret_i (by rw [wordl_stop (k := k) HNO.out (by simp; omega) (.inl (by simp; omega))]), rfl⟩
set_option maxHeartbeats 1000000 in
theorem risname_any (s : ByteArray) (w : World) (hs : s.size ≤ 9223372036854775807) : Calls Tryz.prog 112 #[.string s] w fun e w' => e = .returned (.bool (S.isName s)) ∧ w = w' := by
  have H := Lib.hid (show S.isName s = (!(s.size == 0) && decide (s.size ≤ 20) && S.letter ((s.data.toList.headD 0).toNat) && S.wordl s.data.toList == s.size) from rfl)
  have hwl := wordl_le s.data.toList
  rw [show s.data.toList.length = s.size from rfl] at hwl
  by_cases h0 : s.size = 0
  · have he : s.toList = [] := by rw [Go.ByteArray.toList_eq]; exact List.eq_nil_of_length_eq_zero h0
    have he2 : s.toList.isEmpty = true := by rw [he]; rfl
    have hz : ((s.size : Int) == 0) = true := beq_iff_eq.2 (by omega)
    have H0 := Lib.hid h0
    clear h0
    go_enter Tryz.func112, Tryz.ntmps112
    go_wp2
    go_ret
    exact ⟨ret_b (by rw [H.out, H0.out]; simp), rfl⟩
  · have hlt : 0 < s.size := by omega
    have he2 : s.toList.isEmpty = false := by
      rw [Go.ByteArray.toList_eq]
      cases hl : s.data.toList with
      | nil => exact absurd (congrArg List.length hl) h0
      | cons x l => rfl
    have hz : ((s.size : Int) == 0) = false := beq_eq_false_iff_ne.2 (by omega)
    have hb := byte_bd s[0]
    have hh : s.data.toList.headD 0 = s[0] := by
      have hg : s.data.toList[0]? = some s[0] := by simp [hlt]; rfl
      cases hl : s.data.toList with
      | nil => rw [hl] at hg; simp at hg
      | cons x l => rw [hl] at hg; simp at hg; simpa using hg
    have HH := Lib.hid hh
    have H0 := Lib.hid h0
    clear h0 hh
    by_cases h20 : s.size ≤ 20
    · have h20' : decide ((s.size : Int) ≤ 20) = true := by simp; omega
      have h20'' : decide ((20 : Int) < s.size) = false := by simp; omega
      cases hl : S.letter s[0].toNat
      · go_enter Tryz.func112, Tryz.ntmps112
        go_wp2_with (go_at_call 171; (with_reducible refine (rletter_any _ _ hb.1 hb.2).mono ?_); rintro e w' ⟨rfl, rfl⟩)
        go_ret
        exact ⟨ret_b (by rw [H.out, HH.out, hl]; simp), rfl⟩
      · cases hw : (S.wordl s.data.toList == s.size)
        · have hw2 : (((S.wordl s.data.toList : Nat) : Int) == (s.size : Int)) = false := by simp at hw ⊢; omega
          go_enter Tryz.func112, Tryz.ntmps112
          go_wp2_with (first
            | (go_at_call 171; (with_reducible refine (rletter_any _ _ hb.1 hb.2).mono ?_); rintro e w' ⟨rfl, rfl⟩)
            | (go_at_call 172; (with_reducible refine (rword_any s _ hs).mono ?_); rintro e w' ⟨rfl, rfl⟩))
          go_ret
          exact ⟨ret_b (by rw [H.out, HH.out, hl, hw]; simp), rfl⟩
        · have hw2 : (((S.wordl s.data.toList : Nat) : Int) == (s.size : Int)) = true := by simp at hw ⊢; omega
          go_enter Tryz.func112, Tryz.ntmps112
          go_wp2_with (first
            | (go_at_call 171; (with_reducible refine (rletter_any _ _ hb.1 hb.2).mono ?_); rintro e w' ⟨rfl, rfl⟩)
            | (go_at_call 172; (with_reducible refine (rword_any s _ hs).mono ?_); rintro e w' ⟨rfl, rfl⟩))
          go_ret
          exact ⟨ret_b (by rw [H.out, HH.out, hl, hw]; simp [H0.out, h20]), rfl⟩
    · have h20' : decide ((s.size : Int) ≤ 20) = false := by simp; omega
      have h20'' : decide ((20 : Int) < s.size) = true := by simp; omega
      go_enter Tryz.func112, Tryz.ntmps112
      go_wp2
      go_ret
      exact ⟨ret_b (by rw [H.out]; simp [h20]), rfl⟩
end Go.Proofs.YtffkmgjmlahfpaaGreat
namespace Go.Proofs.YtffkmgjmlahfpaaGreat
open Go.RowKit
theorem rdims_any (code : Int) (w : World) :
    Calls Tryz.prog 231 #[.int .i64 code] w fun e w' => e = .returned (.int .i64 (S.dimsOf code)) ∧ Below w.heap.size w w' := by
  have H := Lib.hid (show ∀ n : Int, (n = if code = 0 then 1 else if code = 11 then 2 else if code = 21 then 3 else if code = 26 then 3 else if code = 31 then 3 else if code = 41 then 5 else if code = 51 then 3 else if code = 98 then 3 else 0) → n = S.dimsOf code from fun n h => h)
  go_enter Tryz.func231, Tryz.ntmps231
  go_wp2
  all_goals (go_ret; exact ⟨ret_i (H.out _ (by simp only [beq_iff_eq, beq_eq_false_iff_ne, ne_eq] at *; repeat' (split <;> try omega))), bel⟩)
end Go.Proofs.YtffkmgjmlahfpaaGreat
namespace Go.Proofs.YtffkmgjmlahfpaaGreat
open Go.RowKit
set_option maxHeartbeats 1000000 in
theorem rvalid_no0 (b : Bar) (A : Option Addr) (n c : Nat) (w : World) (hn : b.dims.length = n) (hm : n ≤ 9223372036854775807) (hmk : b.mark.size ≤ 9223372036854775807)  (f : S.isName b.mark = false) :
    Calls Tryz.prog 174 #[barV b A n c] w fun e w' => e = .returned (.bool (S.bar b)) ∧ Below w.heap.size w w' := by
  have H := Lib.hid (show S.bar b = false by simp [S.bar, S.barHead, f])
  clear hn
  unfold barV
  go_enter Tryz.func174, Tryz.ntmps174
  go_wp2
  refine wp_region_grow (by kernel_rfl) (by kernel_rfl) ?_
  repeat (go_big_quiet_step ((first | (go_at_call 112; exact grow_of_eq (risname_any b.mark _ hmk)) | (go_at_call 230; exact grow_of (rsize_any b.size _)) | (go_at_call 231; exact grow_of (rdims_any b.code _)))))
  all_goals (refine wpQuiet_nil ?_; intro w1 hbw1; obtain ⟨hcw1, hfw1⟩ := bcell hbw1; have hzw1_0 : w.heap.size < w1.heap.size := lt_via hbw1 (by first | omega | (simp; done) | (simp; omega)))
  go_wp2
  go_ret
  exact ⟨ret_b H.out.symm, bel⟩
set_option maxHeartbeats 1000000 in
theorem rvalid_no1 (b : Bar) (A : Option Addr) (n c : Nat) (w : World) (hn : b.dims.length = n) (hm : n ≤ 9223372036854775807) (hmk : b.mark.size ≤ 9223372036854775807) (g0 : S.isName b.mark = true) (f : S.size b.size = false) :
    Calls Tryz.prog 174 #[barV b A n c] w fun e w' => e = .returned (.bool (S.bar b)) ∧ Below w.heap.size w w' := by
  have H := Lib.hid (show S.bar b = false by simp [S.bar, S.barHead, f])
  clear hn
  unfold barV
  go_enter Tryz.func174, Tryz.ntmps174
  go_wp2
  refine wp_region_grow (by kernel_rfl) (by kernel_rfl) ?_
  repeat (go_big_quiet_step ((first | (go_at_call 112; exact grow_of_eq (risname_any b.mark _ hmk)) | (go_at_call 230; exact grow_of (rsize_any b.size _)) | (go_at_call 231; exact grow_of (rdims_any b.code _)))))
  all_goals (refine wpQuiet_nil ?_; intro w1 hbw1; obtain ⟨hcw1, hfw1⟩ := bcell hbw1; have hzw1_0 : w.heap.size < w1.heap.size := lt_via hbw1 (by first | omega | (simp; done) | (simp; omega)))
  go_wp2
  go_ret
  exact ⟨ret_b H.out.symm, bel⟩
set_option maxHeartbeats 1000000 in
theorem rvalid_no2 (b : Bar) (A : Option Addr) (n c : Nat) (w : World) (hn : b.dims.length = n) (hm : n ≤ 9223372036854775807) (hmk : b.mark.size ≤ 9223372036854775807) (g0 : S.isName b.mark = true) (g1 : S.size b.size = true) (f : b.count < 1) :
    Calls Tryz.prog 174 #[barV b A n c] w fun e w' => e = .returned (.bool (S.bar b)) ∧ Below w.heap.size w w' := by
  have H := Lib.hid (show S.bar b = false by (have hd : decide (1 ≤ b.count) = false := by simp; omega); simp [S.bar, S.barHead, hd])
  have q2 : decide (b.count < 1) = true := by simp; omega
  clear hn
  unfold barV
  go_enter Tryz.func174, Tryz.ntmps174
  go_wp2
  refine wp_region_grow (by kernel_rfl) (by kernel_rfl) ?_
  repeat (go_big_quiet_step ((first | (go_at_call 112; exact grow_of_eq (risname_any b.mark _ hmk)) | (go_at_call 230; exact grow_of (rsize_any b.size _)) | (go_at_call 231; exact grow_of (rdims_any b.code _)))))
  all_goals (refine wpQuiet_nil ?_; intro w1 hbw1; obtain ⟨hcw1, hfw1⟩ := bcell hbw1; have hzw1_0 : w.heap.size < w1.heap.size := lt_via hbw1 (by first | omega | (simp; done) | (simp; omega)))
  go_wp2
  go_ret
  exact ⟨ret_b H.out.symm, bel⟩
set_option maxHeartbeats 1000000 in
theorem rvalid_no3 (b : Bar) (A : Option Addr) (n c : Nat) (w : World) (hn : b.dims.length = n) (hm : n ≤ 9223372036854775807) (hmk : b.mark.size ≤ 9223372036854775807) (g0 : S.isName b.mark = true) (g1 : S.size b.size = true) (g2 : 1 ≤ b.count) (f : 1000 < b.count) :
    Calls Tryz.prog 174 #[barV b A n c] w fun e w' => e = .returned (.bool (S.bar b)) ∧ Below w.heap.size w w' := by
  have H := Lib.hid (show S.bar b = false by (have hd : decide (b.count ≤ 1000) = false := by simp; omega); simp [S.bar, S.barHead, hd])
  have q2 : decide (b.count < 1) = false := by simp; omega
  have q3 : decide (1000 < b.count) = true := by simp; omega
  clear hn
  unfold barV
  go_enter Tryz.func174, Tryz.ntmps174
  go_wp2
  refine wp_region_grow (by kernel_rfl) (by kernel_rfl) ?_
  repeat (go_big_quiet_step ((first | (go_at_call 112; exact grow_of_eq (risname_any b.mark _ hmk)) | (go_at_call 230; exact grow_of (rsize_any b.size _)) | (go_at_call 231; exact grow_of (rdims_any b.code _)))))
  all_goals (refine wpQuiet_nil ?_; intro w1 hbw1; obtain ⟨hcw1, hfw1⟩ := bcell hbw1; have hzw1_0 : w.heap.size < w1.heap.size := lt_via hbw1 (by first | omega | (simp; done) | (simp; omega)))
  go_wp2
  go_ret
  exact ⟨ret_b H.out.symm, bel⟩
set_option maxHeartbeats 1000000 in
theorem rvalid_no4 (b : Bar) (A : Option Addr) (n c : Nat) (w : World) (hn : b.dims.length = n) (hm : n ≤ 9223372036854775807) (hmk : b.mark.size ≤ 9223372036854775807) (g0 : S.isName b.mark = true) (g1 : S.size b.size = true) (g2 : 1 ≤ b.count) (g3 : b.count ≤ 1000) (f : (S.dimsOf b.code == 0) = true) :
    Calls Tryz.prog 174 #[barV b A n c] w fun e w' => e = .returned (.bool (S.bar b)) ∧ Below w.heap.size w w' := by
  have H := Lib.hid (show S.bar b = false by simp [S.bar, S.barHead, f])
  have q2 : decide (b.count < 1) = false := by simp; omega
  have q3 : decide (1000 < b.count) = false := by simp; omega
  clear hn
  unfold barV
  go_enter Tryz.func174, Tryz.ntmps174
  go_wp2
  refine wp_region_grow (by kernel_rfl) (by kernel_rfl) ?_
  repeat (go_big_quiet_step ((first | (go_at_call 112; exact grow_of_eq (risname_any b.mark _ hmk)) | (go_at_call 230; exact grow_of (rsize_any b.size _)) | (go_at_call 231; exact grow_of (rdims_any b.code _)))))
  all_goals (refine wpQuiet_nil ?_; intro w1 hbw1; obtain ⟨hcw1, hfw1⟩ := bcell hbw1; have hzw1_0 : w.heap.size < w1.heap.size := lt_via hbw1 (by first | omega | (simp; done) | (simp; omega)))
  go_wp2
  go_ret
  exact ⟨ret_b H.out.symm, bel⟩
set_option maxHeartbeats 1000000 in
theorem rvalid_no5 (b : Bar) (A : Option Addr) (n c : Nat) (w : World) (hn : b.dims.length = n) (hm : n ≤ 9223372036854775807) (hmk : b.mark.size ≤ 9223372036854775807) (g0 : S.isName b.mark = true) (g1 : S.size b.size = true) (g2 : 1 ≤ b.count) (g3 : b.count ≤ 1000) (g4 : (S.dimsOf b.code == 0) = false) (f : ((n : Int) == S.dimsOf b.code) = false) :
    Calls Tryz.prog 174 #[barV b A n c] w fun e w' => e = .returned (.bool (S.bar b)) ∧ Below w.heap.size w w' := by
  have f' : ((n : Int) != S.dimsOf b.code) = true := by simp [bne, f]
  have H := Lib.hid (show S.bar b = false by unfold S.bar S.barHead; rw [hn, f]; simp)
  have q2 : decide (b.count < 1) = false := by simp; omega
  have q3 : decide (1000 < b.count) = false := by simp; omega
  clear hn
  unfold barV
  go_enter Tryz.func174, Tryz.ntmps174
  go_wp2
  refine wp_region_grow (by kernel_rfl) (by kernel_rfl) ?_
  repeat (go_big_quiet_step ((first | (go_at_call 112; exact grow_of_eq (risname_any b.mark _ hmk)) | (go_at_call 230; exact grow_of (rsize_any b.size _)) | (go_at_call 231; exact grow_of (rdims_any b.code _)))))
  all_goals (refine wpQuiet_nil ?_; intro w1 hbw1; obtain ⟨hcw1, hfw1⟩ := bcell hbw1; have hzw1_0 : w.heap.size < w1.heap.size := lt_via hbw1 (by first | omega | (simp; done) | (simp; omega)))
  go_wp2
  go_ret
  exact ⟨ret_b H.out.symm, bel⟩
set_option maxHeartbeats 2000000 in
theorem rvalid_in (b : Bar) (A : Option Addr) (n c : Nat) (B : Nat) (w : World) (hB : B ≤ w.heap.size) (hA : BarAt w B A n b) (hh : S.barHead b = true) :
    Calls Tryz.prog 174 #[barV b A n c] w fun e w' => e = .returned (.bool (S.bar b)) ∧ Below w.heap.size w w' := by
  have hmk := hA.mark
  have hm := hA.max
  have hs := hA.cells
  have HN := Lib.hid hA.len
  have HK := Lib.hid (show S.bar b = S.dimsOk b.dims by simp [S.bar, hh])
  have hh' := hh
  unfold S.barHead at hh'
  rw [hA.len] at hh'
  simp only [Bool.and_eq_true, decide_eq_true_eq, Bool.not_eq_true'] at hh'
  obtain ⟨⟨⟨⟨⟨h0, h1⟩, h2⟩, h3⟩, h4⟩, h5⟩ := hh'
  have h5' : ((n : Int) != S.dimsOf b.code) = false := by simp [bne, h5]
  have q2 : decide (b.count < 1) = false := by simp; omega
  have q3 : decide (1000 < b.count) = false := by simp; omega
  have hn5 : n ≤ 5 := by have := (dimsOf_bd b.code).2; simp at h5; omega
  clear hh hA
  unfold barV
  go_enter Tryz.func174, Tryz.ntmps174
  go_wp2
  refine wp_region_grow (by kernel_rfl) (by kernel_rfl) ?_
  repeat (go_big_quiet_step ((first | (go_at_call 112; exact grow_of_eq (risname_any b.mark _ hmk)) | (go_at_call 230; exact grow_of (rsize_any b.size _)) | (go_at_call 231; exact grow_of (rdims_any b.code _)))))
  all_goals (refine wpQuiet_nil ?_; intro w1 hbw1; obtain ⟨hcw1, hfw1⟩ := bcell hbw1; have hzw1_0 : w.heap.size < w1.heap.size := lt_via hbw1 (by first | omega | (simp; done) | (simp; omega)))
  go_wp2
  have hbw : Below w.heap.size w w1 := bel
  have hs2 := hs.below (hbw.mono hB)
  go_loop [3, 4] (fun r i => ∃ k : Nat, k ≤ n ∧ i = .int .i64 k ∧ r = .int .i64 (S.sum (b.dims.take k)) ∧ 0 ≤ S.sum (b.dims.take k) ∧ S.sum (b.dims.take k) ≤ 1048576 * (k : Int) ∧ Hid (∀ j (hj : j < b.dims.length), j < k → 1 ≤ b.dims[j])) (fun _ i => n - (intOf i).toNat)
  case atStart => exact ⟨0, Nat.zero_le _, rfl, rfl, by simp [S.sum], by simp [S.sum], Lib.hid fun j hj hk => absurd hk (by omega)⟩
  case round =>
    obtain ⟨k, hk, rfl, rfl, hs0, hs1, HNO⟩ := hrel
    by_cases hlt : k < n
    · have hkx : k < b.dims.length := by have := HN.out; omega
      obtain ⟨bb, o, rfl, _, hc⟩ := hs2.at_ (by simp; omega)
      have hck := hc k _ (i64s_get hkx)
      clear hc
      by_cases hbad : b.dims[k] < 1 ∨ 1048576 < b.dims[k]
      · have HB := Lib.hid (dims_no hkx (by omega))
        rcases hbad with h1 | h1
        all_goals
          go_wp2
          go_ret
          exact ⟨ret_b (by rw [HK.out, HB.out]), hbw⟩
      · obtain ⟨hb1', hb2'⟩ : 1 ≤ b.dims[k] ∧ b.dims[k] ≤ 1048576 := by omega
        have ht := sum_snoc (b.dims.take k) b.dims[k]
        rw [← List.take_succ_eq_append_getElem hkx] at ht
        have HT := Lib.hid ht
        clear ht hbad
        go_wp2
        go_round
        case rel =>
          refine ⟨_, _, _, ?_, rfl, rfl, rfl⟩
          refine ⟨k + 1, by omega, by go_num, vint (by rw [HT.out]), by rw [HT.out]; omega, by rw [HT.out]; omega, Lib.hid fun j hj hjk => ?_⟩
          by_cases hjk' : j = k
          · subst hjk'; omega
          · exact HNO.out j hj (by omega)
        case measure => simp [intOf]; omega
    · have he : b.dims.take k = b.dims := List.take_of_length_le (by have := HN.out; omega)
      have hall : ∀ x, x ∈ b.dims → 1 ≤ x := fun x hx => by
        obtain ⟨j, hj, rfl⟩ := List.mem_iff_getElem.1 hx
        exact HNO.out j hj (by have := HN.out; omega)
      have HE := Lib.hid (show S.dimsOk b.dims = decide (S.sum b.dims ≤ 262144) by rw [Bool.eq_iff_iff, dimsOk_iff]; simp; exact fun _ => hall)
      rw [he] at hs1
      go_wp2
      go_ret
      exact ⟨ret_b (by rw [HK.out, HE.out]), hbw⟩
theorem rvalid12_any (b : Bar) (A : Option Addr) (n c : Nat) (B : Nat) (w : World) (hB : B ≤ w.heap.size) (hA : BarAt w B A n b) :
    Calls Tryz.prog 174 #[barV b A n c] w fun e w' => e = .returned (.bool (S.bar b)) ∧ Below w.heap.size w w' := by
  cases g0 : S.isName b.mark
  · exact rvalid_no0 b A n c w hA.len hA.max hA.mark g0
  · cases g1 : S.size b.size
    · exact rvalid_no1 b A n c w hA.len hA.max hA.mark g0 g1
    · by_cases g2 : 1 ≤ b.count
      · by_cases g3 : b.count ≤ 1000
        · cases g4 : (S.dimsOf b.code == 0)
          · cases g5 : ((n : Int) == S.dimsOf b.code)
            · exact rvalid_no5 b A n c w hA.len hA.max hA.mark g0 g1 g2 g3 g4 g5
            · refine rvalid_in b A n c B w hB hA ?_
              unfold S.barHead
              rw [hA.len, g4, g0, g1, g5]
              simp [g2, g3]
          · exact rvalid_no4 b A n c w hA.len hA.max hA.mark g0 g1 g2 g3 g4
        · exact rvalid_no3 b A n c w hA.len hA.max hA.mark g0 g1 g2 (by omega)
      · exact rvalid_no2 b A n c w hA.len hA.max hA.mark g0 g1 (by omega)
end Go.Proofs.YtffkmgjmlahfpaaGreat
namespace Go.Proofs.YtffkmgjmlahfpaaGreat
open Go.RowKit
theorem lens_get (b : Bar) (h : S.bar b = true) {k : Nat} (hk : k < (S.legsOf b.code).length) : ∃ n, (i64s (S.legLens b))[k]? = some (.int .i64 n) ∧ (S.legLens b)[k]? = some n ∧ 1 ≤ n ∧ n ≤ 262144 ∧ S.ptAt b (k + 1) = S.step (S.ptAt b k) (S.legsOf b.code)[k].2 n := by
  have hd : S.dimsOk b.dims = true := by simp only [S.bar, Bool.and_eq_true] at h; exact h.2
  have hl := bar_head h
  have h1 := legs_dim b.code hk
  have h2 : (S.legsOf b.code)[k].1 < b.dims.length := by omega
  have h3 := dim_bd hd h2
  have e : (S.legLens b)[k]? = some b.dims[(S.legsOf b.code)[k].1] := by
    simp [S.legLens, List.getElem?_eq_getElem hk, List.getD_eq_getElem?_getD, List.getElem?_eq_getElem h2]
  exact ⟨_, by simp [e], e, h3.1, h3.2, ptAt_succ b hk h2⟩
end Go.Proofs.YtffkmgjmlahfpaaGreat
namespace Go.Proofs.YtffkmgjmlahfpaaGreat
open Go.RowKit
def S.moves (b : Bar) : List Pt := (S.legsOf b.code).map fun l => S.step ⟨0, 0, 0⟩ l.2 (b.dims.getD l.1 0)
theorem moves_len (b : Bar) : (S.moves b).length = (S.legsOf b.code).length := by simp [S.moves]
def GivesPts (l : List Pt) (w : World) (e : Ending) (w' : World) : Prop :=
  ∃ A, e = .returned (.slice A l.length l.length) ∧ Cells w' w'.heap.size A (l.flatMap ptC) ∧ Below w.heap.size w w' ∧ w.heap.size < w'.heap.size
set_option maxRecDepth 100000 in
set_option maxHeartbeats 2000000 in
theorem rmoves_0 (mk : ByteArray) (sz ct : Int) (d0 : Int) (A : Option Addr) (c : Nat) (B : Nat) (w : World) (hB : B ≤ w.heap.size) (hA : BarAt w B A 1 ⟨mk, sz, ct, 0, [d0]⟩) (hd : 1 ≤ d0 ∧ d0 ≤ 262144) :
    Calls Tryz.prog 265 #[barV ⟨mk, sz, ct, 0, [d0]⟩ A 1 c] w (GivesPts (S.moves ⟨mk, sz, ct, 0, [d0]⟩) w) := by
  have hmv : S.moves ⟨mk, sz, ct, 0, [d0]⟩ = [⟨d0, 0, 0⟩] := by simp [S.moves, S.legsOf, S.step]
  obtain ⟨bd, od, rfl, hbd, hcd⟩ := hA.cells.at_ (by simp)
  have g0 := hcd 0 (.int .i64 d0) rfl
  simp only [Nat.add_zero] at g0
  rw [hmv]
  clear hcd hA hmv
  have hn0 : bd < w.heap.size := by omega
  unfold barV
  go_enter Tryz.func265, Tryz.ntmps265
  go_wp2
  go_ret
  refine ⟨some ⟨w.heap.size + 1, 0, none⟩, rfl, ?_, bel, by simp; omega⟩
  simpa using Cells.newRow (w.alloc (.cells #[.string mk, .int .i64 sz, .int .i64 ct, .int .i64 0, .slice (some ⟨bd, od, none⟩) 1 c] 158)) #[.int .i64 (d0), .int .i64 (0), .int .i64 (0)] 87 (0, 0)
set_option maxRecDepth 100000 in
set_option maxHeartbeats 2000000 in
theorem rmoves_11 (mk : ByteArray) (sz ct : Int) (d0 d1 : Int) (A : Option Addr) (c : Nat) (B : Nat) (w : World) (hB : B ≤ w.heap.size) (hA : BarAt w B A 2 ⟨mk, sz, ct, 11, [d0, d1]⟩) (hd : 1 ≤ d0 ∧ d0 ≤ 262144 ∧ 1 ≤ d1 ∧ d1 ≤ 262144) :
    Calls Tryz.prog 265 #[barV ⟨mk, sz, ct, 11, [d0, d1]⟩ A 2 c] w (GivesPts (S.moves ⟨mk, sz, ct, 11, [d0, d1]⟩) w) := by
  have hmv : S.moves ⟨mk, sz, ct, 11, [d0, d1]⟩ = [⟨d0, 0, 0⟩, ⟨0, d1, 0⟩] := by simp [S.moves, S.legsOf, S.step]
  obtain ⟨bd, od, rfl, hbd, hcd⟩ := hA.cells.at_ (by simp)
  have g0 := hcd 0 (.int .i64 d0) rfl
  have g1 := hcd 1 (.int .i64 d1) rfl
  simp only [Nat.add_zero] at g0
  rw [hmv]
  clear hcd hA hmv
  have hn0 : bd < w.heap.size := by omega
  unfold barV
  go_enter Tryz.func265, Tryz.ntmps265
  go_wp2
  refine wp_region_grow_tail 8 (by kernel_rfl) (by kernel_rfl) ?_
  simp only [List.take_succ_cons, List.take_zero, List.drop_succ_cons, List.drop_zero]
  repeat (go_big_quiet_step (fail))
  all_goals (refine wpQuiet_nil ?_; intro wg hbwg; obtain ⟨hcwg, hfwg⟩ := bcell hbwg; have hzwg_0 : w.heap.size < wg.heap.size := lt_via hbwg (by first | omega | (simp; done) | (simp; omega)))
  go_wp2
  go_ret
  refine ⟨some ⟨wg.heap.size, 0, none⟩, rfl, ?_, bel, by simp; omega⟩
  simpa using Cells.newRow wg #[.int .i64 (d0), .int .i64 (0), .int .i64 (0), .int .i64 (0), .int .i64 (d1), .int .i64 (0)] 87 (0, 0)
set_option maxRecDepth 100000 in
set_option maxHeartbeats 2000000 in
theorem rmoves_21 (mk : ByteArray) (sz ct : Int) (d0 d1 d2 : Int) (A : Option Addr) (c : Nat) (B : Nat) (w : World) (hB : B ≤ w.heap.size) (hA : BarAt w B A 3 ⟨mk, sz, ct, 21, [d0, d1, d2]⟩) (hd : 1 ≤ d0 ∧ d0 ≤ 262144 ∧ 1 ≤ d1 ∧ d1 ≤ 262144 ∧ 1 ≤ d2 ∧ d2 ≤ 262144) :
    Calls Tryz.prog 265 #[barV ⟨mk, sz, ct, 21, [d0, d1, d2]⟩ A 3 c] w (GivesPts (S.moves ⟨mk, sz, ct, 21, [d0, d1, d2]⟩) w) := by
  have hmv : S.moves ⟨mk, sz, ct, 21, [d0, d1, d2]⟩ = [⟨0, -d0, 0⟩, ⟨d1, 0, 0⟩, ⟨0, d2, 0⟩] := by simp [S.moves, S.legsOf, S.step]
  obtain ⟨bd, od, rfl, hbd, hcd⟩ := hA.cells.at_ (by simp)
  have g0 := hcd 0 (.int .i64 d0) rfl
  have g1 := hcd 1 (.int .i64 d1) rfl
  have g2 := hcd 2 (.int .i64 d2) rfl
  simp only [Nat.add_zero] at g0
  rw [hmv]
  clear hcd hA hmv
  have hn0 : bd < w.heap.size := by omega
  have hw0 : IntKind.i64.wrap (-d0) = -d0 := IntWalk.i64_in _ (by omega)
  unfold barV
  go_enter Tryz.func265, Tryz.ntmps265
  go_wp2
  refine wp_region_grow_tail 13 (by kernel_rfl) (by kernel_rfl) ?_
  simp only [List.take_succ_cons, List.take_zero, List.drop_succ_cons, List.drop_zero]
  repeat (go_big_quiet_step (fail))
  all_goals (refine wpQuiet_nil ?_; intro wg hbwg; obtain ⟨hcwg, hfwg⟩ := bcell hbwg; have hzwg_0 : w.heap.size < wg.heap.size := lt_via hbwg (by first | omega | (simp; done) | (simp; omega)))
  go_wp2
  go_ret
  refine ⟨some ⟨wg.heap.size, 0, none⟩, rfl, ?_, bel, by simp; omega⟩
  simpa using Cells.newRow wg #[.int .i64 (0), .int .i64 (-d0), .int .i64 (0), .int .i64 (d1), .int .i64 (0), .int .i64 (0), .int .i64 (0), .int .i64 (d2), .int .i64 (0)] 87 (0, 0)
set_option maxRecDepth 100000 in
set_option maxHeartbeats 2000000 in
theorem rmoves_26 (mk : ByteArray) (sz ct : Int) (d0 d1 d2 : Int) (A : Option Addr) (c : Nat) (B : Nat) (w : World) (hB : B ≤ w.heap.size) (hA : BarAt w B A 3 ⟨mk, sz, ct, 26, [d0, d1, d2]⟩) (hd : 1 ≤ d0 ∧ d0 ≤ 262144 ∧ 1 ≤ d1 ∧ d1 ≤ 262144 ∧ 1 ≤ d2 ∧ d2 ≤ 262144) :
    Calls Tryz.prog 265 #[barV ⟨mk, sz, ct, 26, [d0, d1, d2]⟩ A 3 c] w (GivesPts (S.moves ⟨mk, sz, ct, 26, [d0, d1, d2]⟩) w) := by
  have hmv : S.moves ⟨mk, sz, ct, 26, [d0, d1, d2]⟩ = [⟨d0, 0, 0⟩, ⟨0, d1, 0⟩, ⟨d2, 0, 0⟩] := by simp [S.moves, S.legsOf, S.step]
  obtain ⟨bd, od, rfl, hbd, hcd⟩ := hA.cells.at_ (by simp)
  have g0 := hcd 0 (.int .i64 d0) rfl
  have g1 := hcd 1 (.int .i64 d1) rfl
  have g2 := hcd 2 (.int .i64 d2) rfl
  simp only [Nat.add_zero] at g0
  rw [hmv]
  clear hcd hA hmv
  have hn0 : bd < w.heap.size := by omega
  unfold barV
  go_enter Tryz.func265, Tryz.ntmps265
  go_wp2
  refine wp_region_grow_tail 12 (by kernel_rfl) (by kernel_rfl) ?_
  simp only [List.take_succ_cons, List.take_zero, List.drop_succ_cons, List.drop_zero]
  repeat (go_big_quiet_step (fail))
  all_goals (refine wpQuiet_nil ?_; intro wg hbwg; obtain ⟨hcwg, hfwg⟩ := bcell hbwg; have hzwg_0 : w.heap.size < wg.heap.size := lt_via hbwg (by first | omega | (simp; done) | (simp; omega)))
  go_wp2
  go_ret
  refine ⟨some ⟨wg.heap.size, 0, none⟩, rfl, ?_, bel, by simp; omega⟩
  simpa using Cells.newRow wg #[.int .i64 (d0), .int .i64 (0), .int .i64 (0), .int .i64 (0), .int .i64 (d1), .int .i64 (0), .int .i64 (d2), .int .i64 (0), .int .i64 (0)] 87 (0, 0)
set_option maxRecDepth 100000 in
set_option maxHeartbeats 2000000 in
theorem rmoves_31 (mk : ByteArray) (sz ct : Int) (d0 d1 d2 : Int) (A : Option Addr) (c : Nat) (B : Nat) (w : World) (hB : B ≤ w.heap.size) (hA : BarAt w B A 3 ⟨mk, sz, ct, 31, [d0, d1, d2]⟩) (hd : 1 ≤ d0 ∧ d0 ≤ 262144 ∧ 1 ≤ d1 ∧ d1 ≤ 262144 ∧ 1 ≤ d2 ∧ d2 ≤ 262144) :
    Calls Tryz.prog 265 #[barV ⟨mk, sz, ct, 31, [d0, d1, d2]⟩ A 3 c] w (GivesPts (S.moves ⟨mk, sz, ct, 31, [d0, d1, d2]⟩) w) := by
  have hmv : S.moves ⟨mk, sz, ct, 31, [d0, d1, d2]⟩ = [⟨d0, 0, 0⟩, ⟨0, d1, 0⟩, ⟨0, 0, d2⟩] := by simp [S.moves, S.legsOf, S.step]
  obtain ⟨bd, od, rfl, hbd, hcd⟩ := hA.cells.at_ (by simp)
  have g0 := hcd 0 (.int .i64 d0) rfl
  have g1 := hcd 1 (.int .i64 d1) rfl
  have g2 := hcd 2 (.int .i64 d2) rfl
  simp only [Nat.add_zero] at g0
  rw [hmv]
  clear hcd hA hmv
  have hn0 : bd < w.heap.size := by omega
  unfold barV
  go_enter Tryz.func265, Tryz.ntmps265
  go_wp2
  refine wp_region_grow_tail 12 (by kernel_rfl) (by kernel_rfl) ?_
  simp only [List.take_succ_cons, List.take_zero, List.drop_succ_cons, List.drop_zero]
  repeat (go_big_quiet_step (fail))
  all_goals (refine wpQuiet_nil ?_; intro wg hbwg; obtain ⟨hcwg, hfwg⟩ := bcell hbwg; have hzwg_0 : w.heap.size < wg.heap.size := lt_via hbwg (by first | omega | (simp; done) | (simp; omega)))
  go_wp2
  go_ret
  refine ⟨some ⟨wg.heap.size, 0, none⟩, rfl, ?_, bel, by simp; omega⟩
  simpa using Cells.newRow wg #[.int .i64 (d0), .int .i64 (0), .int .i64 (0), .int .i64 (0), .int .i64 (d1), .int .i64 (0), .int .i64 (0), .int .i64 (0), .int .i64 (d2)] 87 (0, 0)
set_option maxRecDepth 100000 in
set_option maxHeartbeats 2000000 in
theorem rmoves_41 (mk : ByteArray) (sz ct : Int) (d0 d1 d2 d3 d4 : Int) (A : Option Addr) (c : Nat) (B : Nat) (w : World) (hB : B ≤ w.heap.size) (hA : BarAt w B A 5 ⟨mk, sz, ct, 41, [d0, d1, d2, d3, d4]⟩) (hd : 1 ≤ d0 ∧ d0 ≤ 262144 ∧ 1 ≤ d1 ∧ d1 ≤ 262144 ∧ 1 ≤ d2 ∧ d2 ≤ 262144 ∧ 1 ≤ d3 ∧ d3 ≤ 262144 ∧ 1 ≤ d4 ∧ d4 ≤ 262144) :
    Calls Tryz.prog 265 #[barV ⟨mk, sz, ct, 41, [d0, d1, d2, d3, d4]⟩ A 5 c] w (GivesPts (S.moves ⟨mk, sz, ct, 41, [d0, d1, d2, d3, d4]⟩) w) := by
  have hmv : S.moves ⟨mk, sz, ct, 41, [d0, d1, d2, d3, d4]⟩ = [⟨d0, 0, 0⟩, ⟨0, d1, 0⟩, ⟨d2, 0, 0⟩, ⟨0, -d3, 0⟩, ⟨d4, 0, 0⟩] := by simp [S.moves, S.legsOf, S.step]
  obtain ⟨bd, od, rfl, hbd, hcd⟩ := hA.cells.at_ (by simp)
  have g0 := hcd 0 (.int .i64 d0) rfl
  have g1 := hcd 1 (.int .i64 d1) rfl
  have g2 := hcd 2 (.int .i64 d2) rfl
  have g3 := hcd 3 (.int .i64 d3) rfl
  have g4 := hcd 4 (.int .i64 d4) rfl
  simp only [Nat.add_zero] at g0
  rw [hmv]
  clear hcd hA hmv
  have hn0 : bd < w.heap.size := by omega
  have hw0 : IntKind.i64.wrap (-d3) = -d3 := IntWalk.i64_in _ (by omega)
  unfold barV
  go_enter Tryz.func265, Tryz.ntmps265
  go_wp2
  refine wp_region_grow_tail 21 (by kernel_rfl) (by kernel_rfl) ?_
  simp only [List.take_succ_cons, List.take_zero, List.drop_succ_cons, List.drop_zero]
  repeat (go_big_quiet_step (fail))
  all_goals (refine wpQuiet_nil ?_; intro wg hbwg; obtain ⟨hcwg, hfwg⟩ := bcell hbwg; have hzwg_0 : w.heap.size < wg.heap.size := lt_via hbwg (by first | omega | (simp; done) | (simp; omega)))
  go_wp2
  go_ret
  refine ⟨some ⟨wg.heap.size, 0, none⟩, rfl, ?_, bel, by simp; omega⟩
  simpa using Cells.newRow wg #[.int .i64 (d0), .int .i64 (0), .int .i64 (0), .int .i64 (0), .int .i64 (d1), .int .i64 (0), .int .i64 (d2), .int .i64 (0), .int .i64 (0), .int .i64 (0), .int .i64 (-d3), .int .i64 (0), .int .i64 (d4), .int .i64 (0), .int .i64 (0)] 87 (0, 0)
set_option maxRecDepth 100000 in
set_option maxHeartbeats 2000000 in
theorem rmoves_51 (mk : ByteArray) (sz ct : Int) (d0 d1 d2 : Int) (A : Option Addr) (c : Nat) (B : Nat) (w : World) (hB : B ≤ w.heap.size) (hA : BarAt w B A 3 ⟨mk, sz, ct, 51, [d0, d1, d2]⟩) (hd : 1 ≤ d0 ∧ d0 ≤ 262144 ∧ 1 ≤ d1 ∧ d1 ≤ 262144 ∧ 1 ≤ d2 ∧ d2 ≤ 262144) :
    Calls Tryz.prog 265 #[barV ⟨mk, sz, ct, 51, [d0, d1, d2]⟩ A 3 c] w (GivesPts (S.moves ⟨mk, sz, ct, 51, [d0, d1, d2]⟩) w) := by
  have hmv : S.moves ⟨mk, sz, ct, 51, [d0, d1, d2]⟩ = [⟨0, -d2, 0⟩, ⟨d0, 0, 0⟩, ⟨0, d1, 0⟩, ⟨-d0, 0, 0⟩, ⟨0, -d1, 0⟩, ⟨d2, 0, 0⟩] := by simp [S.moves, S.legsOf, S.step]
  obtain ⟨bd, od, rfl, hbd, hcd⟩ := hA.cells.at_ (by simp)
  have g0 := hcd 0 (.int .i64 d0) rfl
  have g1 := hcd 1 (.int .i64 d1) rfl
  have g2 := hcd 2 (.int .i64 d2) rfl
  simp only [Nat.add_zero] at g0
  rw [hmv]
  clear hcd hA hmv
  have hn0 : bd < w.heap.size := by omega
  have hw0 : IntKind.i64.wrap (-d2) = -d2 := IntWalk.i64_in _ (by omega)
  have hw1 : IntKind.i64.wrap (-d0) = -d0 := IntWalk.i64_in _ (by omega)
  have hw2 : IntKind.i64.wrap (-d1) = -d1 := IntWalk.i64_in _ (by omega)
  unfold barV
  go_enter Tryz.func265, Tryz.ntmps265
  go_wp2
  refine wp_region_grow_tail 27 (by kernel_rfl) (by kernel_rfl) ?_
  simp only [List.take_succ_cons, List.take_zero, List.drop_succ_cons, List.drop_zero]
  repeat (go_big_quiet_step (fail))
  all_goals (refine wpQuiet_nil ?_; intro wg hbwg; obtain ⟨hcwg, hfwg⟩ := bcell hbwg; have hzwg_0 : w.heap.size < wg.heap.size := lt_via hbwg (by first | omega | (simp; done) | (simp; omega)))
  go_wp2
  go_ret
  refine ⟨some ⟨wg.heap.size, 0, none⟩, rfl, ?_, bel, by simp; omega⟩
  simpa using Cells.newRow wg #[.int .i64 (0), .int .i64 (-d2), .int .i64 (0), .int .i64 (d0), .int .i64 (0), .int .i64 (0), .int .i64 (0), .int .i64 (d1), .int .i64 (0), .int .i64 (-d0), .int .i64 (0), .int .i64 (0), .int .i64 (0), .int .i64 (-d1), .int .i64 (0), .int .i64 (d2), .int .i64 (0), .int .i64 (0)] 87 (0, 0)
set_option maxRecDepth 100000 in
set_option maxHeartbeats 2000000 in
theorem rmoves_98 (mk : ByteArray) (sz ct : Int) (d0 d1 d2 : Int) (A : Option Addr) (c : Nat) (B : Nat) (w : World) (hB : B ≤ w.heap.size) (hA : BarAt w B A 3 ⟨mk, sz, ct, 98, [d0, d1, d2]⟩) (hd : 1 ≤ d0 ∧ d0 ≤ 262144 ∧ 1 ≤ d1 ∧ d1 ≤ 262144 ∧ 1 ≤ d2 ∧ d2 ≤ 262144) :
    Calls Tryz.prog 265 #[barV ⟨mk, sz, ct, 98, [d0, d1, d2]⟩ A 3 c] w (GivesPts (S.moves ⟨mk, sz, ct, 98, [d0, d1, d2]⟩) w) := by
  have hmv : S.moves ⟨mk, sz, ct, 98, [d0, d1, d2]⟩ = [⟨0, 0, d0⟩, ⟨0, -d1, 0⟩, ⟨d2, 0, 0⟩, ⟨0, d1, 0⟩, ⟨0, 0, d0⟩] := by simp [S.moves, S.legsOf, S.step]
  obtain ⟨bd, od, rfl, hbd, hcd⟩ := hA.cells.at_ (by simp)
  have g0 := hcd 0 (.int .i64 d0) rfl
  have g1 := hcd 1 (.int .i64 d1) rfl
  have g2 := hcd 2 (.int .i64 d2) rfl
  simp only [Nat.add_zero] at g0
  rw [hmv]
  clear hcd hA hmv
  have hn0 : bd < w.heap.size := by omega
  have hw0 : IntKind.i64.wrap (-d1) = -d1 := IntWalk.i64_in _ (by omega)
  unfold barV
  go_enter Tryz.func265, Tryz.ntmps265
  go_wp2
  refine wp_region_grow_tail 21 (by kernel_rfl) (by kernel_rfl) ?_
  simp only [List.take_succ_cons, List.take_zero, List.drop_succ_cons, List.drop_zero]
  repeat (go_big_quiet_step (fail))
  all_goals (refine wpQuiet_nil ?_; intro wg hbwg; obtain ⟨hcwg, hfwg⟩ := bcell hbwg; have hzwg_0 : w.heap.size < wg.heap.size := lt_via hbwg (by first | omega | (simp; done) | (simp; omega)))
  go_wp2
  go_ret
  refine ⟨some ⟨wg.heap.size, 0, none⟩, rfl, ?_, bel, by simp; omega⟩
  simpa using Cells.newRow wg #[.int .i64 (0), .int .i64 (0), .int .i64 (d0), .int .i64 (0), .int .i64 (-d1), .int .i64 (0), .int .i64 (d2), .int .i64 (0), .int .i64 (0), .int .i64 (0), .int .i64 (d1), .int .i64 (0), .int .i64 (0), .int .i64 (0), .int .i64 (d0)] 87 (0, 0)
theorem rmoves_any (b : Bar) (A : Option Addr) (n c : Nat) (B : Nat) (w : World) (hB : B ≤ w.heap.size) (hA : BarAt w B A n b) (h : S.bar b = true) :
    Calls Tryz.prog 265 #[barV b A n c] w (GivesPts (S.moves b) w) := by
  obtain rfl := hA.len
  obtain ⟨mk, sz, ct, cd, ds⟩ := b
  rcases bar_codes h with ⟨hc, a, e, h1, h2⟩ | ⟨hc, a, a2, e, h1, h2, h3⟩ | ⟨hc, a, a2, a3, e, h1, h2, h3, h4⟩ | ⟨hc, a, a2, a3, a4, a5, e, h1, h2, h3, h4, h5, h6⟩
  · simp only [] at hc e
    subst hc e
    exact rmoves_0 mk sz ct a A c B w hB hA (by omega)
  · simp only [] at hc e
    subst hc e
    exact rmoves_11 mk sz ct a a2 A c B w hB hA (by omega)
  · simp only [] at hc e
    rcases hc with hc | hc | hc | hc | hc <;> subst hc e
    · exact rmoves_21 mk sz ct a a2 a3 A c B w hB hA (by omega)
    · exact rmoves_26 mk sz ct a a2 a3 A c B w hB hA (by omega)
    · exact rmoves_31 mk sz ct a a2 a3 A c B w hB hA (by omega)
    · exact rmoves_51 mk sz ct a a2 a3 A c B w hB hA (by omega)
    · exact rmoves_98 mk sz ct a a2 a3 A c B w hB hA (by omega)
  · simp only [] at hc e
    subst hc e
    exact rmoves_41 mk sz ct a a2 a3 a4 a5 A c B w hB hA (by omega)
def S.abs (n : Int) : Int := if n < 0 then 0 - n else n
end Go.Proofs.YtffkmgjmlahfpaaGreat
namespace Go.Proofs.YtffkmgjmlahfpaaGreat
open Go.RowKit
section
variable {P : Program} {ops : Array Oper} {md : Region.Mode} {C : World → Prop} {n : Nat}
def sink1B (md : Region.Mode) (ops : Array Oper) (n : Nat) : Bool :=
  (List.range n).all fun i => decide (i < 1) || (List.range (n + 1)).any fun j => decide (i < j) && Region.waitsFor md ops j i
theorem tail_waits1 {listed : Array Bool} (hs : sink1B md ops n = true) (hc : Region.chainB md ops n = true) (hn : n < ops.size) (inv : HeadInv md ops n listed) :
    ∀ (d i : Nat), n - i = d → 1 ≤ i → i < n → listed.getD i true = false → ∀ t, n ≤ t → t ∉ Region.ready md ops listed := by
  intro d
  induction d using Nat.strongRecOn with
  | _ d ih =>
    intro i hd h1i hi hun t ht hr
    obtain ⟨_, ot, hot, hall⟩ := mem_ready.1 hr
    have htlt : t < ops.size := (Array.getElem?_eq_some_iff.1 hot).1
    by_cases htn : t = n
    · subst htn
      have h1 := List.all_eq_true.1 hs i (List.mem_range.2 hi)
      simp only [Bool.or_eq_true, decide_eq_true_eq] at h1
      replace h1 := h1.resolve_left (by omega)
      obtain ⟨j, hj, hj2⟩ := List.any_eq_true.1 h1
      simp only [Bool.and_eq_true, decide_eq_true_eq] at hj2
      obtain ⟨oj, hoj, e, he, hb, hon⟩ := Region.waitsFor_spec hj2.2
      have hjle : j ≤ t := by have := List.mem_range.1 hj; omega
      by_cases hjt : j = t
      · subst hjt
        have : oj = ot := Option.some.inj (hoj.symm.trans hot)
        subst this
        have h2 := hall e he hb
        rw [hon, getD_both hun] at h2
        cases h2
      · cases hl : listed.getD j false with
        | true =>
          have h2 := inv.closed j oj hoj hl e he hb
          rw [hon, getD_both hun] at h2
          cases h2
        | false =>
          have hjs : j < listed.size := by rw [inv.size]; omega
          exact ih (t - j) (by omega) j rfl (by omega) (by omega) (getD_in hjs hl) t (Nat.le_refl _) hr
    · have h1 := List.all_eq_true.1 hc t (List.mem_range.2 htlt)
      simp only [Bool.or_eq_true, decide_eq_true_eq] at h1
      rcases h1 with h1 | h1
      · omega
      · obtain ⟨o', ho', e, he, hb, hon⟩ := Region.waitsFor_spec h1
        have : o' = ot := Option.some.inj (ho'.symm.trans hot)
        subst this
        have h2 := hall e he hb
        rw [hon, getD_both (inv.tail (t - 1) (by omega) (by omega))] at h2
        cases h2
theorem headQ_first1 {i : Nat} {oi : Oper} {v : Value} {L : Array Bool → Act → Prop} (hi : ops[i]? = some oi) (hsel : ∀ (j : Nat) (o : Oper) cs b, ops[j]? = some o → o.op ≠ .select cs b)
    (hs : sink1B md ops n = true) (hc : Region.chainB md ops n = true) (hn : n < ops.size) (h1i : 1 ≤ i) (hin : i < n) (hdone : ∀ listed a, L listed a → ∀ j, j ∈ Region.ready md ops listed → n ≤ j) :
    ∀ (f : Nat) (listed : Array Bool) (a : Act), HeadInv md ops n listed →
      (∀ j oj, ops[j]? = some oj → j ≠ i → listed.getD j true = false → (∀ e ∈ oj.after, Region.binds md e = true → e.on ≠ i) → oi.apart ops oj = true) →
      i ∈ Region.ready md ops listed → YieldsIn P ops C oi v a → headQ P md ops C n L f (listed.setIfInBounds i true) (a.put oi.dst v) → headQ P md ops C n L (f + 1) listed a := by
  intro f
  induction f with
  | zero =>
    intro listed a inv _ hr hy H
    refine ⟨fun h => by rw [h] at hr; exact absurd hr (by simp), fun j hj => ?_⟩
    have hjn : j < n := Nat.lt_of_not_le fun h => tail_waits1 hs hc hn inv _ i rfl h1i hin (mem_ready.1 hr).1 j h hj
    refine ⟨hjn, ?_⟩
    by_cases hji : j = i
    · subst hji
      exact hy.qOp hi H
    · exact absurd (hdone _ _ H j (ready_mono hj hji)) (by omega)
  | succ f ih =>
    intro listed a inv hfree hr hy H
    refine ⟨fun h => by rw [h] at hr; exact absurd hr (by simp), fun j hj => ?_⟩
    have hjn : j < n := Nat.lt_of_not_le fun h => tail_waits1 hs hc hn inv _ i rfl h1i hin (mem_ready.1 hr).1 j h hj
    refine ⟨hjn, ?_⟩
    by_cases hji : j = i
    · subst hji
      exact hy.qOp hi H
    · obtain ⟨hjun, oj, hoj, hall⟩ := mem_ready.1 hj
      have hnot : ∀ e ∈ oj.after, Region.binds md e = true → e.on ≠ i := fun e he hb heq => by
        have h1 := hall e he hb
        rw [heq, getD_both (mem_ready.1 hr).1] at h1
        exact absurd h1 (by simp)
      have h2 := qOp_put hoj (hfree j oj hoj hji hjun hnot) (fun cs b => hsel i oi cs b hi) (fun cs b => hsel j oj cs b hoj) hy (H.2 j (ready_mono hj hji)).2
      refine qOp_mono (fun a' h3 => ih (listed.setIfInBounds j true) a' (inv.set hj hjn) (fun k ok hk hki hun hno => ?_) (ready_mono hr (Ne.symm hji)) h3.1 ?_) h2
      · refine hfree k ok hk hki ?_ hno
        by_cases hjk : j = k
        · subst hjk
          exact hjun
        · rwa [getD_set_ne true hjk] at hun
      · rw [Array.setIfInBounds_comm _ _ hji]
        exact h3.2
theorem headQ_lex1 {g : Nat} {Lq : Act → Prop} (hsel : Region.noSelect ops = true) (hs : sink1B md ops n = true) (hc : Region.chainB md ops n = true) (hn : n < ops.size) :
    ∀ (l : List Oper) (k : Nat) (listed : Array Bool) (a : Act), 1 ≤ k → (∀ j, j < l.length → l[j]? = ops[k + j]?) → k + l.length = n → HeadInv md ops n listed →
    Region.lexHead md ops g l.length k listed = true → wpQuiet P ops C Lq l a →
    headQ P md ops C n (fun listed' a' => Region.seqB md ops g n listed' = true ∧ Lq a') l.length listed a := by
  intro l
  induction l with
  | nil =>
    intro k listed a _ _ hk _ hB h
    obtain rfl : k = n := by simpa using hk
    exact ⟨by simpa [Region.lexHead] using hB, h⟩
  | cons o l ih =>
    intro k listed a hk1 hl hk inv hB h
    have h0 : ops[k]? = some o := by simpa using (hl 0 (by simp)).symm
    simp only [List.length_cons, Region.lexHead, Bool.and_eq_true] at hB
    simp only [List.length_cons] at hk
    have hr' : k ∈ Region.ready md ops listed := by simpa using hB.1.1
    have hst : qOp P ops C k (wpQuiet P ops C Lq l) a := by
      unfold qOp
      simp only [h0]
      exact h
    obtain ⟨v, hy, hK⟩ := yieldsIn_of_qOp h0 hst
    refine headQ_first1 h0 (Region.noSelect_spec hsel) hs hc hn hk1 (by omega) (fun listed' a' hL => seqB_ready hL.1) l.length listed a inv (Region.free_spec h0 hB.1.2) hr' hy ?_
    refine ih (k + 1) _ _ (by omega) (fun j hj => ?_) (by omega) (inv.set hr' (by omega)) hB.2 hK
    have := hl (j + 1) (by simp; omega)
    simpa [Nat.add_assoc, Nat.add_comm 1 j] using this
end
def lexTail1B (md : Region.Mode) (ops : Array Oper) (n : Nat) : Bool :=
  Region.noSelect ops && decide (1 ≤ n) && decide (n < ops.size) && sink1B md ops n && Region.chainB md ops n && Region.free md ops (Array.replicate ops.size false) 0 && (Region.ready md ops (Array.replicate ops.size false)).contains 0 &&
    Region.lexHead md ops (ops.size - n) (n - 1) 1 ((Array.replicate ops.size false).setIfInBounds 0 true)
theorem wp_region_grow_tail1 {P : Program} {id : Nat} {Q : Exit → Act → World → Prop} {a : Act} {w : World} {o : Oper} {l : List Oper} {v : Value} (m : Nat) (hm : P.follows .mixedOrders = true) (hB : lexTail1B .any (o :: l).toArray m = true)
    (hQ : ∀ c a w, Q (.panic c) (a.put o.dst v) w → Q (.panic c) a w) (hy : Yields P (o :: l).toArray o v a)
    (h : wpQuiet P (o :: l).toArray (fun w' => ∃ g, w' = grow w g) (fun a' => ∀ w', Below w.heap.size w w' → wpList P (o :: l).toArray Q ((o :: l).drop m) a' w') (((o :: l).take m).drop 1) (a.put o.dst v)) : (Code.region id (o :: l).toArray true).wp P Q a w := by
  simp only [lexTail1B, Bool.and_eq_true, decide_eq_true_eq] at hB
  obtain ⟨⟨⟨⟨⟨⟨⟨hsel, h1⟩, hn⟩, hs⟩, hc⟩, hfr⟩, hrd⟩, hlex⟩ := hB
  have hn' : m < l.length + 1 := by simpa using hn
  have htl : (((o :: l).take m).drop 1).length = m - 1 := by simp; omega
  have hdl : ((o :: l).drop m).length = (o :: l).toArray.size - m := by simp
  have h00 : (o :: l).toArray[0]? = some o := by simp
  have inv0 : HeadInv .any (o :: l).toArray m (Array.replicate (o :: l).toArray.size false) :=
    ⟨by simp, fun j oj _ hl => by rw [getD_replicate_false] at hl; exact absurd hl (by simp), fun t _ ht => getD_in (by simpa using ht) (getD_replicate_false _ _)⟩
  have inv1 := inv0.set (i := 0) (by simpa using hrd) (by omega)
  have H := headQ_lex1 (C := fun w' => ∃ g, w' = grow w g) (md := .any) (g := (o :: l).toArray.size - m) hsel hs hc hn (((o :: l).take m).drop 1) 1 _ (a.put o.dst v) (Nat.le_refl _) (fun j hj => by
    have hj' : j < m - 1 := by rw [htl] at hj; exact hj
    rw [List.getElem?_drop, List.getElem?_take_of_lt (by omega)]; simp) (by rw [htl]; omega) inv1 (by rw [htl]; exact hlex) h
  refine wp_region_any hm ?_
  have h3 := headQ_any (Q' := Q) (g := (o :: l).toArray.size - m) (fun listed a' w' hw' hL => by
    obtain ⟨g, rfl⟩ := hw'
    have := wpAny_of_seq (md := .any) (Q' := Q) ((o :: l).drop m) m listed a' (grow w g) (fun j => by simp [List.getElem?_drop]) (by rw [hdl]; exact hL.1) (hL.2 _ (grow_below w g))
    rwa [hdl] at this) _ _ _ w.drew ⟨w.drew, (grow_eq (Below.drew (Below.refl _ _))).symm⟩ H
  have h4 := wpAny_take (Q := Q) h00 hsel hfr hrd hQ hy h3
  rw [htl, show m - 1 + ((o :: l).toArray.size - m) + 1 = (o :: l).toArray.size by omega] at h4
  exact h4
end Go.Proofs.YtffkmgjmlahfpaaGreat
namespace Go.Proofs.YtffkmgjmlahfpaaGreat
open Go.RowKit
namespace S
def join1 (a b : Bx) (k : Nat) : Bx := ⟨setc a.lo k (mn (co a.lo k) (co b.lo k)), setc a.hi k (mx (co a.hi k) (co b.hi k))⟩
def joinK (a b : Bx) : Nat → Bx
  | 0 => a
  | k + 1 => join1 (joinK a b k) b k
end S
theorem joinK_3 (a b : Bx) : S.joinK a b 3 = S.join a b := by
  simp [S.joinK, S.join1, S.setc, S.co, S.join, S.mn, S.mx]
set_option maxRecDepth 100000 in
set_option maxHeartbeats 4000000 in
theorem rbhull_yes (A : Option Addr) (n c : Nat) (xs : List Bx) (x0 : Bx) (B : Nat) (w : World) (hn : xs.length = n) (hm : n ≤ 1000000) (hB : B ≤ w.heap.size) (hs : Cells w B A (xs.flatMap boxC)) (h0 : xs[0]? = some x0) :
    Calls Tryz.prog 192 #[.slice A n c] w fun e w' => e = .returned (boxV (S.hull x0 xs)) ∧ Below w.heap.size w w' := by
  have hn0 : 0 < n := by have := (List.getElem?_eq_some_iff.1 h0).1; omega
  have hni : (0 : Int) < (n : Int) := by omega
  have HN := Lib.hid hn
  have HS := Lib.hid hs
  have H0 := Lib.hid h0
  obtain ⟨b, o, rfl, hb, _⟩ := hs.at_ (by rw [flat_len boxC 6 boxC_len]; omega)
  obtain ⟨c0, c1, c2, c3, c4, c5⟩ := hs.boxes h0
  simp only [Nat.zero_mul, Nat.add_zero] at c0 c1 c2 c3 c4 c5
  have hbw : b < w.heap.size := by omega
  clear hn hs h0
  go_enter Tryz.func192, Tryz.ntmps192
  go_wp2
  have hW : Below w.heap.size w ((w.alloc (.cells #[.int .i64 0, .int .i64 0, .int .i64 0, .int .i64 0, .int .i64 0, .int .i64 0] 89)).alloc (.cells #[.int .i64 x0.lo.x, .int .i64 x0.lo.y, .int .i64 x0.lo.z, .int .i64 x0.hi.x, .int .i64 x0.hi.y, .int .i64 x0.hi.z] 89)) := bel
  have hK0 : Blk ((w.alloc (.cells #[.int .i64 0, .int .i64 0, .int .i64 0, .int .i64 0, .int .i64 0, .int .i64 0] 89)).alloc (.cells #[.int .i64 x0.lo.x, .int .i64 x0.lo.y, .int .i64 x0.lo.z, .int .i64 x0.hi.x, .int .i64 x0.hi.y, .int .i64 x0.hi.z] 89)) (w.heap.size + 1) 89 #[.int .i64 x0.lo.x, .int .i64 x0.lo.y, .int .i64 x0.lo.z, .int .i64 x0.hi.x, .int .i64 x0.hi.y, .int .i64 x0.hi.z] := by simpa using Blk.new (w.alloc (.cells #[.int .i64 0, .int .i64 0, .int .i64 0, .int .i64 0, .int .i64 0, .int .i64 0] 89)) 89 #[.int .i64 x0.lo.x, .int .i64 x0.lo.y, .int .i64 x0.lo.z, .int .i64 x0.hi.x, .int .i64 x0.hi.y, .int .i64 x0.hi.z]
  have hR0 : Blk ((w.alloc (.cells #[.int .i64 0, .int .i64 0, .int .i64 0, .int .i64 0, .int .i64 0, .int .i64 0] 89)).alloc (.cells #[.int .i64 x0.lo.x, .int .i64 x0.lo.y, .int .i64 x0.lo.z, .int .i64 x0.hi.x, .int .i64 x0.hi.y, .int .i64 x0.hi.z] 89)) w.heap.size 89 #[.int .i64 0, .int .i64 0, .int .i64 0, .int .i64 0, .int .i64 0, .int .i64 0] := (Blk.new w _ _).alloc _
  have hzW : ((w.alloc (.cells #[.int .i64 0, .int .i64 0, .int .i64 0, .int .i64 0, .int .i64 0, .int .i64 0] 89)).alloc (.cells #[.int .i64 x0.lo.x, .int .i64 x0.lo.y, .int .i64 x0.lo.z, .int .i64 x0.hi.x, .int .i64 x0.hi.y, .int .i64 x0.hi.z] 89)).heap.size = w.heap.size + 1 + 1 := by simp
  have hC1 := HS.out.below (hW.mono hB)
  have HR0 := Lib.hid hR0
  clear c0 c1 c2 c3 c4 c5 hR0
  generalize (w.alloc (.cells #[.int .i64 0, .int .i64 0, .int .i64 0, .int .i64 0, .int .i64 0, .int .i64 0] 89)).alloc (.cells #[.int .i64 x0.lo.x, .int .i64 x0.lo.y, .int .i64 x0.lo.z, .int .i64 x0.hi.x, .int .i64 x0.hi.y, .int .i64 x0.hi.z] 89) = W1 at *
  go_loopw [4] (fun i wr => ∃ k : Nat, 1 ≤ k ∧ k ≤ n ∧ i = .int .i64 k ∧ Blk wr (w.heap.size + 1) 89 #[.int .i64 (S.hull x0 (xs.take k)).lo.x, .int .i64 (S.hull x0 (xs.take k)).lo.y, .int .i64 (S.hull x0 (xs.take k)).lo.z, .int .i64 (S.hull x0 (xs.take k)).hi.x, .int .i64 (S.hull x0 (xs.take k)).hi.y, .int .i64 (S.hull x0 (xs.take k)).hi.z] ∧ Exc [w.heap.size + 1] W1 wr) (fun i _ => n - (intOf i).toNat)
  case atStart =>
    refine ⟨1, Nat.le_refl _, by omega, rfl, ?_, Exc.refl _ _⟩
    have e1 : S.hull x0 (xs.take 1) = x0 := by
      have hx : xs.take 1 = [x0] := by
        have h0 := H0.out
        cases xs with
        | nil => simp at h0
        | cons y l => simp at h0; simp [h0]
      rw [hx]; simp [S.hull, S.join]
    rw [e1]; exact hK0
  case round =>
    obtain ⟨k, hk1, hk, rfl, hK, hX⟩ := hrel
    by_cases hlt : k < n
    · have hkx : k < xs.length := by have := HN.out; omega
      have HT := Lib.hid (show S.hull x0 (xs.take (k + 1)) = S.joinK (S.hull x0 (xs.take k)) xs[k] 3 by rw [List.take_succ_eq_append_getElem hkx, hull_snoc, joinK_3])
      have HG := Lib.hid (List.getElem?_eq_getElem hkx)
      generalize S.hull x0 (xs.take k) = Hk at *
      generalize xs[k] = X at *
      have hki : (k : Int) < (n : Int) := by omega
      have hXo := hX
      go_wp2
      go_loopw [5] (fun i wr => ∃ m : Nat, m ≤ 3 ∧ i = .int .i64 m ∧ Blk wr (w.heap.size + 1) 89 #[.int .i64 (S.joinK Hk X m).lo.x, .int .i64 (S.joinK Hk X m).lo.y, .int .i64 (S.joinK Hk X m).lo.z, .int .i64 (S.joinK Hk X m).hi.x, .int .i64 (S.joinK Hk X m).hi.y, .int .i64 (S.joinK Hk X m).hi.z] ∧ Exc [w.heap.size + 1] W1 wr) (fun i _ => 3 - (intOf i).toNat)
      case atStart => exact ⟨0, by omega, rfl, hK, hXo⟩
      case round =>
        obtain ⟨m, hm3, rfl, hM, hY⟩ := hrel
        have HM := Lib.hid hM
        have hsz := hY.size
        by_cases hlm : m < 3
        · have hmi : (m : Int) < 3 := by omega
          have HJ := Lib.hid (show S.joinK Hk X (m + 1) = S.join1 (S.joinK Hk X m) X m from rfl)
          obtain ⟨c0, c1, c2, c3, c4, c5⟩ := (hC1.below (hY.below (by have := hW.size; omega) (by intro x hx; simp at hx; omega))).boxes HG.out
          have hbr : b < wr.heap.size := by omega
          generalize S.joinK Hk X m = O at *
          have hgr := hM.lt
          have k0 := hM.cell 0
          have k1 := hM.cell 1
          have k2 := hM.cell 2
          have k3 := hM.cell 3
          have k4 := hM.cell 4
          have k5 := hM.cell 5
          have fk0 := hM.frozen 0
          have fk1 := hM.frozen 1
          have fk2 := hM.frozen 2
          have fk3 := hM.frozen 3
          have fk4 := hM.frozen 4
          have fk5 := hM.frozen 5
          simp only [List.getElem?_toArray, List.getElem?_cons_zero, List.getElem?_cons_succ] at k0 k1 k2 k3 k4 k5
          have HCL := Lib.hid (fun w => coord_any O.lo m hlm w)
          have HCH := Lib.hid (fun w => coord_any O.hi m hlm w)
          have HXL := Lib.hid (fun w => coord_any X.lo m hlm w)
          have HXH := Lib.hid (fun w => coord_any X.hi m hlm w)
          have HWL := Lib.hid (fun n w => with_any O.lo m n hlm w)
          have HWH := Lib.hid (fun n w => with_any O.hi m n hlm w)
          unfold ptVal at HCL HCH HXL HXH HWL HWH
          go_wp2
          obtain ⟨P, hP⟩ : ∃ P, P = S.setc O.lo m (S.mn (S.co O.lo m) (S.co X.lo m)) := ⟨_, rfl⟩
          obtain ⟨Q, hQ⟩ : ∃ P, P = S.setc O.hi m (S.mx (S.co O.hi m) (S.co X.hi m)) := ⟨_, rfl⟩
          have HJ2 := Lib.hid (show S.join1 O X m = ⟨P, Q⟩ by rw [hP, hQ]; rfl)
          refine wp_region_grow_tail 17 (by kernel_rfl) (by kernel_rfl) ?_
          simp only [List.take_succ_cons, List.take_zero, List.drop_succ_cons, List.drop_zero]
          repeat (go_big_quiet_step ((first | (go_at_call 180; with_reducible exact grow_of (HCL.out _)) | (go_at_call 180; with_reducible exact grow_of (HXL.out _)) | (go_at_call 251; with_reducible exact grow_of (HWL.out _ _)))))
          all_goals (refine wpQuiet_nil ?_; intro wg hbwg; obtain ⟨hcwg, hfwg⟩ := bcell hbwg)
          go_wp2
          all_goals (
            first
              | (have e : S.setc O.lo m (S.co X.lo m) = P := (by rw [hP, S.mn, if_pos (by omega)])
                 rw [e])
              | (have e : S.setc O.lo m (S.co O.lo m) = P := (by rw [hP, S.mn, if_neg (by omega)])
                 rw [e])
            have hM1 : Blk (((wg.setCell ⟨w.heap.size + 1, 0, none⟩ (.int .i64 P.x)).setCell ⟨w.heap.size + 1, 1, none⟩ (.int .i64 P.y)).setCell ⟨w.heap.size + 1, 2, none⟩ (.int .i64 P.z)) (w.heap.size + 1) 89 #[.int .i64 P.x, .int .i64 P.y, .int .i64 P.z, .int .i64 O.hi.x, .int .i64 O.hi.y, .int .i64 O.hi.z] := by
              have h6 := (((HM.out.via hbwg).set 0 (.int .i64 P.x)).set 1 (.int .i64 P.y)).set 2 (.int .i64 P.z)
              simp only [List.setIfInBounds_toArray, List.set_cons_zero, List.set_cons_succ] at h6
              exact h6
            have hY1 : Exc [w.heap.size + 1] W1 (((wg.setCell ⟨w.heap.size + 1, 0, none⟩ (.int .i64 P.x)).setCell ⟨w.heap.size + 1, 1, none⟩ (.int .i64 P.y)).setCell ⟨w.heap.size + 1, 2, none⟩ (.int .i64 P.z)) := (((Exc.via hbwg hY).set (.inl (by simp)) _).set (.inl (by simp)) _).set (.inl (by simp)) _
            clear hcwg hfwg
            clear c0 c1 c2 c3 c4 c5 k0 k1 k2 k3 k4 k5 fk0 fk1 fk2 fk3 fk4 fk5 hgr hM hbr
            clear hbwg
            generalize (((wg.setCell ⟨w.heap.size + 1, 0, none⟩ (.int .i64 P.x)).setCell ⟨w.heap.size + 1, 1, none⟩ (.int .i64 P.y)).setCell ⟨w.heap.size + 1, 2, none⟩ (.int .i64 P.z)) = W2 at *
            obtain ⟨c0, c1, c2, c3, c4, c5⟩ := (hC1.below (hY1.below (by have := hW.size; omega) (by intro x hx; simp at hx; omega))).boxes HG.out
            have hsz1 := hY1.size
            have hbr : b < W2.heap.size := by omega
            have hgr := hM1.lt
            have k0 := hM1.cell 0
            have k1 := hM1.cell 1
            have k2 := hM1.cell 2
            have k3 := hM1.cell 3
            have k4 := hM1.cell 4
            have k5 := hM1.cell 5
            have fk0 := hM1.frozen 0
            have fk1 := hM1.frozen 1
            have fk2 := hM1.frozen 2
            have fk3 := hM1.frozen 3
            have fk4 := hM1.frozen 4
            have fk5 := hM1.frozen 5
            simp only [List.getElem?_toArray, List.getElem?_cons_zero, List.getElem?_cons_succ] at k0 k1 k2 k3 k4 k5
            have HM1 := Lib.hid hM1
            refine wp_region_grow_tail 17 (by kernel_rfl) (by kernel_rfl) ?_
            simp only [List.take_succ_cons, List.take_zero, List.drop_succ_cons, List.drop_zero]
            repeat (go_big_quiet_step ((first | (go_at_call 180; with_reducible exact grow_of (HCH.out _)) | (go_at_call 180; with_reducible exact grow_of (HXH.out _)) | (go_at_call 251; with_reducible exact grow_of (HWH.out _ _)))))
            all_goals (refine wpQuiet_nil ?_; intro wh hbwh; obtain ⟨hcwh, hfwh⟩ := bcell hbwh)
            go_wp2)
          all_goals (
            first
              | (have e : S.setc O.hi m (if S.co O.hi m < S.co X.hi m then S.co X.hi m else S.co O.hi m) = Q := hQ.symm
                 rw [e])
              | (have e : S.setc O.hi m (S.co X.hi m) = Q := (by rw [hQ, S.mx, if_pos (by omega)])
                 rw [e])
              | (have e : S.setc O.hi m (S.co O.hi m) = Q := (by rw [hQ, S.mx, if_neg (by omega)])
                 rw [e])
            have hM2 : Blk (((wh.setCell ⟨w.heap.size + 1, 3, none⟩ (.int .i64 Q.x)).setCell ⟨w.heap.size + 1, 4, none⟩ (.int .i64 Q.y)).setCell ⟨w.heap.size + 1, 5, none⟩ (.int .i64 Q.z)) (w.heap.size + 1) 89 #[.int .i64 P.x, .int .i64 P.y, .int .i64 P.z, .int .i64 Q.x, .int .i64 Q.y, .int .i64 Q.z] := by
              have h6 := (((HM1.out.via hbwh).set 3 (.int .i64 Q.x)).set 4 (.int .i64 Q.y)).set 5 (.int .i64 Q.z)
              simp only [List.setIfInBounds_toArray, List.set_cons_zero, List.set_cons_succ] at h6
              exact h6
            have hY2 : Exc [w.heap.size + 1] W1 (((wh.setCell ⟨w.heap.size + 1, 3, none⟩ (.int .i64 Q.x)).setCell ⟨w.heap.size + 1, 4, none⟩ (.int .i64 Q.y)).setCell ⟨w.heap.size + 1, 5, none⟩ (.int .i64 Q.z)) := (((Exc.via hbwh hY1).set (.inl (by simp)) _).set (.inl (by simp)) _).set (.inl (by simp)) _
            clear hcwh hfwh
            go_roundw
            case rel =>
              refine ⟨m + 1, by omega, by go_num, ?_, hY2⟩
              rw [HJ.out, HJ2.out]
              exact hM2
            case measure => simp [intOf]; omega)
        · have he : m = 3 := by omega
          subst he
          go_wp2
          go_roundw
          case rel =>
            refine ⟨k + 1, by omega, by omega, by go_num, ?_, hY⟩
            rw [HT.out]
            exact HM.out
          case measure => simp [intOf]; omega
    · have he : k = n := by omega
      subst he
      have ht : xs.take k = xs := List.take_of_length_le (by have := HN.out; omega)
      rw [ht] at hK
      have hsz := hX.size
      have hgr := hK.lt
      generalize hH : S.hull x0 xs = Hk at *
      have HH := Lib.hid hH
      clear hH
      have hRr := (hX.block w.heap.size (by omega) (by simp)).trans HR0.out
      have hRr : Blk wr w.heap.size 89 #[.int .i64 0, .int .i64 0, .int .i64 0, .int .i64 0, .int .i64 0, .int .i64 0] := hRr
      have k0 := hK.cell 0
      have f0 := hK.frozen 0
      have z0 := hRr.cell 0
      have y0 := hRr.frozen 0
      have k1 := hK.cell 1
      have f1 := hK.frozen 1
      have z1 := hRr.cell 1
      have y1 := hRr.frozen 1
      have k2 := hK.cell 2
      have f2 := hK.frozen 2
      have z2 := hRr.cell 2
      have y2 := hRr.frozen 2
      have k3 := hK.cell 3
      have f3 := hK.frozen 3
      have z3 := hRr.cell 3
      have y3 := hRr.frozen 3
      have k4 := hK.cell 4
      have f4 := hK.frozen 4
      have z4 := hRr.cell 4
      have y4 := hRr.frozen 4
      have k5 := hK.cell 5
      have f5 := hK.frozen 5
      have z5 := hRr.cell 5
      have y5 := hRr.frozen 5
      simp only [List.getElem?_toArray, List.getElem?_cons_zero, List.getElem?_cons_succ] at z0 z1 z2 z3 z4 z5 k0 k1 k2 k3 k4 k5
      have hrl := hRr.lt
      have hbel : Below w.heap.size w wr := hW.trans (hX.below (by omega) (by intro x hx; simp at hx; omega))
      clear hRr
      go_wp2
      exact bodyPost_ret (v := boxV Hk) (by simp [results, Tryz.results192, go_sem, *]) rfl ⟨by rw [HH.out], ((((((hbel.setCell (Nat.le_refl _) _).setCell (Nat.le_refl _) _).setCell (Nat.le_refl _) _).setCell (Nat.le_refl _) _).setCell (Nat.le_refl _) _).setCell (Nat.le_refl _) _)⟩
end Go.Proofs.YtffkmgjmlahfpaaGreat
