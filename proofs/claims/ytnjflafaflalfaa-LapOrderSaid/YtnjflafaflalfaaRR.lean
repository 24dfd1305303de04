/- Contracts: frame.image, placed. -/
import Derived.Test.YtnjflafaflalfaaRQ
set_option linter.unusedVariables false
set_option linter.unusedSimpArgs false
namespace Go.Proofs.Ytnjflafaflalfaa
open Go.RowKit
theorem mul_near {c q m : Int} (hc : -1 ≤ c ∧ c ≤ 1) (hq : -m ≤ q ∧ q ≤ m) : -m ≤ c * q ∧ c * q ≤ m := by
  have h1 : c = -1 ∨ c = 0 ∨ c = 1 := by omega
  rcases h1 with rfl | rfl | rfl <;> omega
theorem near1_out {p : Pt} {m : Int} (h : S.near1 p m = true) : (-m ≤ p.x ∧ p.x ≤ m) ∧ (-m ≤ p.y ∧ p.y ≤ m) ∧ (-m ≤ p.z ∧ p.z ≤ m) := by
  simp only [S.near1, Bool.and_eq_true, decide_eq_true_eq] at h
  omega
theorem image_near {x y : Int} {p : Pt} {m : Int} (h : S.turn x y = true) (hp : S.near1 p m = true) : S.near1 (S.image x y p) (3 * m) = true := by
  have hm := fun (c q : Int) (hc : -1 ≤ c ∧ c ≤ 1) (hq : -m ≤ q ∧ q ≤ m) => mul_near hc hq
  obtain ⟨ax, ay, az⟩ := near1_out (unit_near (turn_axes h).1)
  obtain ⟨bx, by', bz⟩ := near1_out (unit_near (turn_axes h).2)
  obtain ⟨cx, cy, cz⟩ := near1_out (cross_near h)
  obtain ⟨px, py, pz⟩ := near1_out hp
  have m0 := hm _ _ ax px
  have m1 := hm _ _ bx py
  have m2 := hm _ _ cx pz
  have m3 := hm _ _ ay px
  have m4 := hm _ _ by' py
  have m5 := hm _ _ cy pz
  have m6 := hm _ _ az px
  have m7 := hm _ _ bz py
  have m8 := hm _ _ cz pz
  rw [show S.image x y p = ⟨(S.unit x).x * p.x + (S.unit y).x * p.y + (S.cross (S.unit x) (S.unit y)).x * p.z, (S.unit x).y * p.x + (S.unit y).y * p.y + (S.cross (S.unit x) (S.unit y)).y * p.z, (S.unit x).z * p.x + (S.unit y).z * p.y + (S.cross (S.unit x) (S.unit y)).z * p.z⟩ from rfl]
  simp only [S.near1, Bool.and_eq_true, decide_eq_true_eq]
  refine ⟨⟨⟨⟨⟨?_, ?_⟩, ?_⟩, ?_⟩, ?_⟩, ?_⟩ <;> omega
set_option maxHeartbeats 4000000 in
theorem image_any (x y : Int) (h : S.turn x y = true) (p : Pt) (hp : S.near1 p 1048576 = true) (w : World) : Calls Try.prog 81 #[turnV x y, ptV p] w fun e w' => e = .returned (ptV (S.image x y p)) ∧ Below w.heap.size w w' := by
  have hm := fun (c q : Int) (hc : -1 ≤ c ∧ c ≤ 1) (hq : -1048576 ≤ q ∧ q ≤ 1048576) => mul_near hc hq
  obtain ⟨ax, ay, az⟩ := near1_out (unit_near (turn_axes h).1)
  obtain ⟨bx, by', bz⟩ := near1_out (unit_near (turn_axes h).2)
  obtain ⟨cx, cy, cz⟩ := near1_out (cross_near h)
  obtain ⟨px, py, pz⟩ := near1_out hp
  have HC := Lib.hid (fun w => columns_any x y h w)
  have HI := Lib.hid (show S.image x y p = ⟨(S.unit x).x * p.x + (S.unit y).x * p.y + (S.cross (S.unit x) (S.unit y)).x * p.z, (S.unit x).y * p.x + (S.unit y).y * p.y + (S.cross (S.unit x) (S.unit y)).y * p.z, (S.unit x).z * p.x + (S.unit y).z * p.y + (S.cross (S.unit x) (S.unit y)).z * p.z⟩ from rfl)
  clear h hp
  unfold colV at HC
  generalize S.cross (S.unit x) (S.unit y) = c at *
  generalize S.unit x = a at *
  generalize S.unit y = b at *
  have m0 := hm _ _ ax px
  have m1 := hm _ _ bx py
  have m2 := hm _ _ cx pz
  have m3 := hm _ _ ay px
  have m4 := hm _ _ by' py
  have m5 := hm _ _ cy pz
  have m6 := hm _ _ az px
  have m7 := hm _ _ bz py
  have m8 := hm _ _ cz pz
  have e0 : IntKind.i64.wrap (a.x * p.x) = a.x * p.x := IntWalk.i64_in _ (by omega)
  have e1 : IntKind.i64.wrap (b.x * p.y) = b.x * p.y := IntWalk.i64_in _ (by omega)
  have e2 : IntKind.i64.wrap (c.x * p.z) = c.x * p.z := IntWalk.i64_in _ (by omega)
  have e3 : IntKind.i64.wrap (a.y * p.x) = a.y * p.x := IntWalk.i64_in _ (by omega)
  have e4 : IntKind.i64.wrap (b.y * p.y) = b.y * p.y := IntWalk.i64_in _ (by omega)
  have e5 : IntKind.i64.wrap (c.y * p.z) = c.y * p.z := IntWalk.i64_in _ (by omega)
  have e6 : IntKind.i64.wrap (a.z * p.x) = a.z * p.x := IntWalk.i64_in _ (by omega)
  have e7 : IntKind.i64.wrap (b.z * p.y) = b.z * p.y := IntWalk.i64_in _ (by omega)
  have e8 : IntKind.i64.wrap (c.z * p.z) = c.z * p.z := IntWalk.i64_in _ (by omega)
  have f0 : IntKind.i64.wrap (a.x * p.x + b.x * p.y) = a.x * p.x + b.x * p.y := IntWalk.i64_in _ (by omega)
  have f1 : IntKind.i64.wrap (a.y * p.x + b.y * p.y) = a.y * p.x + b.y * p.y := IntWalk.i64_in _ (by omega)
  have f2 : IntKind.i64.wrap (a.z * p.x + b.z * p.y) = a.z * p.x + b.z * p.y := IntWalk.i64_in _ (by omega)
  have g0 : IntKind.i64.wrap (a.x * p.x + b.x * p.y + c.x * p.z) = a.x * p.x + b.x * p.y + c.x * p.z := IntWalk.i64_in _ (by omega)
  have g1 : IntKind.i64.wrap (a.y * p.x + b.y * p.y + c.y * p.z) = a.y * p.x + b.y * p.y + c.y * p.z := IntWalk.i64_in _ (by omega)
  have g2 : IntKind.i64.wrap (a.z * p.x + b.z * p.y + c.z * p.z) = a.z * p.x + b.z * p.y + c.z * p.z := IntWalk.i64_in _ (by omega)
  clear hm ax ay az bx by' bz cx cy cz px py pz m0 m1 m2 m3 m4 m5 m6 m7 m8
  unfold turnV ptV
  go_enter Try.func81, Try.ntmps81
  go_wp2_with (go_at_call 83; (with_reducible refine (HC.out _).mono ?_); rintro e w1 ⟨rfl, hbw1⟩; obtain ⟨hcw1, hfw1⟩ := bcell hbw1; have hzw1_0 : w.heap.size < w1.heap.size := lt_via hbw1 (by first | omega | (simp; done) | (simp; omega)); have hzw1_1 : w.heap.size + 1 < w1.heap.size := lt_via hbw1 (by first | omega | (simp; done) | (simp; omega)); have hzw1_2 : w.heap.size + 2 < w1.heap.size := lt_via hbw1 (by first | omega | (simp; done) | (simp; omega)))
  refine wp_loop_rounds 4 ?_
  rw [rounds_succ]
  go_wp2
  refine wp_region_grow_tail 25 (by kernel_rfl) (by kernel_rfl) ?_
  simp only [List.take_succ_cons, List.take_zero, List.drop_succ_cons, List.drop_zero]
  repeat (go_big_quiet_step (fail))
  all_goals (refine wpQuiet_nil ?_; intro wg0 hbwg0; obtain ⟨hcwg0, hfwg0⟩ := bcell hbwg0; have hzwg0_0 : w.heap.size < wg0.heap.size := lt_via hbwg0 (by first | omega | (simp; done) | (simp; omega)); have hzwg0_1 : w.heap.size + 1 < wg0.heap.size := lt_via hbwg0 (by first | omega | (simp; done) | (simp; omega)); have hzwg0_2 : w.heap.size + 2 < wg0.heap.size := lt_via hbwg0 (by first | omega | (simp; done) | (simp; omega)))
  have hv0_0 : w1.heap.size < wg0.heap.size := lt_via hbwg0 (by first | omega | (simp; done) | (simp; omega))
  have hv0_1 : w1.heap.size + 1 < wg0.heap.size := lt_via hbwg0 (by first | omega | (simp; done) | (simp; omega))
  go_wp2
  rw [rounds_succ]
  go_wp2
  refine wp_region_grow_tail 25 (by kernel_rfl) (by kernel_rfl) ?_
  simp only [List.take_succ_cons, List.take_zero, List.drop_succ_cons, List.drop_zero]
  repeat (go_big_quiet_step (fail))
  all_goals (refine wpQuiet_nil ?_; intro wg1 hbwg1; obtain ⟨hcwg1, hfwg1⟩ := bcell hbwg1; have hzwg1_0 : w.heap.size < wg1.heap.size := lt_via hbwg1 (by first | omega | (simp; done) | (simp; omega)); have hzwg1_1 : w.heap.size + 1 < wg1.heap.size := lt_via hbwg1 (by first | omega | (simp; done) | (simp; omega)); have hzwg1_2 : w.heap.size + 2 < wg1.heap.size := lt_via hbwg1 (by first | omega | (simp; done) | (simp; omega)))
  have hv1_0 : w1.heap.size < wg1.heap.size := lt_via hbwg1 (by first | omega | (simp; done) | (simp; omega))
  have hv1_1 : w1.heap.size + 1 < wg1.heap.size := lt_via hbwg1 (by first | omega | (simp; done) | (simp; omega))
  go_wp2
  rw [rounds_succ]
  go_wp2
  refine wp_region_grow_tail 25 (by kernel_rfl) (by kernel_rfl) ?_
  simp only [List.take_succ_cons, List.take_zero, List.drop_succ_cons, List.drop_zero]
  repeat (go_big_quiet_step (fail))
  all_goals (refine wpQuiet_nil ?_; intro wg2 hbwg2; obtain ⟨hcwg2, hfwg2⟩ := bcell hbwg2; have hzwg2_0 : w.heap.size < wg2.heap.size := lt_via hbwg2 (by first | omega | (simp; done) | (simp; omega)); have hzwg2_1 : w.heap.size + 1 < wg2.heap.size := lt_via hbwg2 (by first | omega | (simp; done) | (simp; omega)); have hzwg2_2 : w.heap.size + 2 < wg2.heap.size := lt_via hbwg2 (by first | omega | (simp; done) | (simp; omega)))
  have hv2_0 : w1.heap.size < wg2.heap.size := lt_via hbwg2 (by first | omega | (simp; done) | (simp; omega))
  have hv2_1 : w1.heap.size + 1 < wg2.heap.size := lt_via hbwg2 (by first | omega | (simp; done) | (simp; omega))
  go_wp2
  rw [rounds_succ]
  go_wp2
  exact bodyPost_ret (v := .agg #[.int .i64 (a.x * p.x + b.x * p.y + c.x * p.z), .int .i64 (a.y * p.x + b.y * p.y + c.y * p.z), .int .i64 (a.z * p.x + b.z * p.y + c.z * p.z)]) (by simp [results, Try.results81, go_sem, *]) rfl ⟨by rw [HI.out], bel⟩
theorem placed_any (x y : Int) (h : S.turn x y = true) (o p : Pt) (ho : S.near1 o 1048576 = true) (hp : S.near1 p 1048576 = true) (w : World) : Calls Try.prog 69 #[turnV x y, ptV o, ptV p] w fun e w' => e = .returned (ptV (S.placed x y o p)) ∧ Below w.heap.size w w' := by
  obtain ⟨qx, qy, qz⟩ := near1_out (image_near h hp)
  obtain ⟨ox, oy, oz⟩ := near1_out ho
  have HM := Lib.hid (fun w => image_any x y h p hp w)
  have HP := Lib.hid (show S.placed x y o p = ⟨o.x + (S.image x y p).x, o.y + (S.image x y p).y, o.z + (S.image x y p).z⟩ from rfl)
  clear h hp ho
  generalize S.image x y p = q at *
  have e0 : IntKind.i64.wrap (o.x + q.x) = o.x + q.x := IntWalk.i64_in _ (by omega)
  have e1 : IntKind.i64.wrap (o.y + q.y) = o.y + q.y := IntWalk.i64_in _ (by omega)
  have e2 : IntKind.i64.wrap (o.z + q.z) = o.z + q.z := IntWalk.i64_in _ (by omega)
  unfold turnV ptV
  unfold turnV ptV at HM
  go_enter Try.func69, Try.ntmps69
  go_wp2_with (go_at_call 81; (with_reducible refine (HM.out _).mono ?_); rintro e w1 ⟨rfl, hbw1⟩; obtain ⟨hcw1, hfw1⟩ := bcell hbw1; have hzw1_0 : w.heap.size < w1.heap.size := lt_via hbw1 (by first | omega | (simp; done) | (simp; omega)); have hzw1_1 : w.heap.size + 1 < w1.heap.size := lt_via hbw1 (by first | omega | (simp; done) | (simp; omega)); have hzw1_2 : w.heap.size + 2 < w1.heap.size := lt_via hbw1 (by first | omega | (simp; done) | (simp; omega)); have hzw1_3 : w.heap.size + 3 < w1.heap.size := lt_via hbw1 (by first | omega | (simp; done) | (simp; omega)))
  exact bodyPost_ret (v := .agg #[.int .i64 (o.x + q.x), .int .i64 (o.y + q.y), .int .i64 (o.z + q.z)]) (by simp [results, Try.results69, go_sem, *]) rfl ⟨by rw [HP.out], bel⟩
theorem plus_any (p s : Pt) (k : Int) (hp : S.near1 p 4398046511104 = true) (hs : S.near1 s 4194304 = true) (hk : 0 ≤ k ∧ k ≤ 1000000) (w : World) : Calls Try.prog 61 #[ptV p, ptV s, .int .i64 k] w fun e w' => e = .returned (ptV (S.plus p s k)) ∧ Below w.heap.size w w' := by
  obtain ⟨px, py, pz⟩ := near1_out hp
  obtain ⟨sx, sy, sz⟩ := near1_out hs
  have hm : ∀ q : Int, -4194304 ≤ q ∧ q ≤ 4194304 → -4194304000000 ≤ k * q ∧ k * q ≤ 4194304000000 := fun q hq => by
    have h1 : k * q ≤ k * 4194304 := Int.mul_le_mul_of_nonneg_left hq.2 hk.1
    have h2 : k * (-4194304) ≤ k * q := Int.mul_le_mul_of_nonneg_left hq.1 hk.1
    omega
  have m0 := hm _ sx
  have m1 := hm _ sy
  have m2 := hm _ sz
  have e0 : IntKind.i64.wrap (k * s.x) = k * s.x := IntWalk.i64_in _ (by omega)
  have e1 : IntKind.i64.wrap (k * s.y) = k * s.y := IntWalk.i64_in _ (by omega)
  have e2 : IntKind.i64.wrap (k * s.z) = k * s.z := IntWalk.i64_in _ (by omega)
  have f0 : IntKind.i64.wrap (p.x + k * s.x) = p.x + k * s.x := IntWalk.i64_in _ (by omega)
  have f1 : IntKind.i64.wrap (p.y + k * s.y) = p.y + k * s.y := IntWalk.i64_in _ (by omega)
  have f2 : IntKind.i64.wrap (p.z + k * s.z) = p.z + k * s.z := IntWalk.i64_in _ (by omega)
  have x0 : S.plus p s k = ⟨p.x + k * s.x, p.y + k * s.y, p.z + k * s.z⟩ := rfl
  unfold ptV
  rw [x0]
  go_enter Try.func61, Try.ntmps61
  go_wp2
  exact bodyPost_ret (v := .agg #[.int .i64 (p.x + k * s.x), .int .i64 (p.y + k * s.y), .int .i64 (p.z + k * s.z)]) (by simp [results, Try.results61, go_sem, *]) rfl ⟨rfl, bel⟩
def S.lmn (a b : Int) : Int := if b < a then b else a
def S.lmx (a b : Int) : Int := if a < b then b else a
theorem lmax3 (x y z : Int) (W : World) : Sem.run Try.prog (Builtin.max_ #[3, 3, 3] 3 #[.int .i64 x, .int .i64 y, .int .i64 z]) W = .ok (.int .i64 (S.lmx (S.lmx x y) z)) W := by
  simp [Builtin.max_, go_sem, List.foldlM, Builtin.max2, S.lmx]
  rfl
theorem lmin3 (x y z : Int) (W : World) : Sem.run Try.prog (Builtin.min_ #[3, 3, 3] 3 #[.int .i64 x, .int .i64 y, .int .i64 z]) W = .ok (.int .i64 (S.lmn (S.lmn x y) z)) W := by
  simp [Builtin.min_, go_sem, List.foldlM, Builtin.min2, S.lmn]
  rfl
theorem lmx3_le {x y z m : Int} : S.lmx (S.lmx x y) z ≤ m ↔ x ≤ m ∧ y ≤ m ∧ z ≤ m := by
  unfold S.lmx; split <;> split <;> omega
theorem le_lmn3 {x y z m : Int} : m ≤ S.lmn (S.lmn x y) z ↔ m ≤ x ∧ m ≤ y ∧ m ≤ z := by
  unfold S.lmn; split <;> split <;> omega
theorem isplace_any (p : Pt) (m : Int) (hm : 0 ≤ m ∧ m ≤ 1000000000000) (w : World) : Calls Try.prog 59 #[ptV p, .int .i64 m] w fun e w' => e = .returned (.bool (S.near1 p m)) ∧ Below w.heap.size w w' := by
  have H := Lib.hid (show S.near1 p m = (decide (-m ≤ S.lmn (S.lmn p.x p.y) p.z) && decide (S.lmx (S.lmx p.x p.y) p.z ≤ m)) from by
    rw [Bool.eq_iff_iff]
    simp only [S.near1, Bool.and_eq_true, decide_eq_true_eq, lmx3_le, le_lmn3]
    omega)
  have hMx := lmax3 p.x p.y p.z
  have hMn := lmin3 p.x p.y p.z
  generalize S.lmx (S.lmx p.x p.y) p.z = M at *
  generalize S.lmn (S.lmn p.x p.y) p.z = N at *
  unfold ptV
  by_cases h1 : -m ≤ N
  · go_enter Try.func59, Try.ntmps59
    go_wp2
    go_ret
    exact ⟨ret_b (by rw [H.out]; simp [h1]), bel⟩
  · go_enter Try.func59, Try.ntmps59
    go_wp2
    go_ret
    exact ⟨ret_b (by rw [H.out]; exact Eq.symm (Bool.and_eq_false_imp.mpr (fun h => absurd (of_decide_eq_true h) (by omega)))), bel⟩
end Go.Proofs.Ytnjflafaflalfaa
