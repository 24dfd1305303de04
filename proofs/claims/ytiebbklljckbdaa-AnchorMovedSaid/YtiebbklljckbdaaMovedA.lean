/- Contracts: the law's functions that move a box. -/
import Derived.Test.YtiebbklljckbdaaSpecMove
set_option linter.unusedVariables false
set_option linter.unusedSimpArgs false
namespace Go.Proofs.Ytiebbklljckbdaa
open Go.RowKit
/-- A point whose coordinates are small. -/
def Small (p : Pt) : Prop := (-1048576 ≤ p.x ∧ p.x ≤ 1048576) ∧ (-1048576 ≤ p.y ∧ p.y ≤ 1048576) ∧ (-1048576 ≤ p.z ∧ p.z ≤ 1048576)
theorem small_lo {b : Bx} (h : S.boxOk b = true) : Small b.lo := by have := boxOk_iff.1 h; unfold Small; omega
theorem small_hi {b : Bx} (h : S.boxOk b = true) : Small b.hi := by have := boxOk_iff.1 h; unfold Small; omega
theorem shift1_any (p d : Pt) (g : Nat) (w : World) (hp : Small p) (hd : Small d) (hg : Blk w g 50 #[.int .i64 d.x, .int .i64 d.y, .int .i64 d.z]) :
    Calls Try.prog 65 #[ptVal p, .pointer (some ⟨g, 0, none⟩)] w fun e w' => e = .returned (ptVal (S.gS d p)) ∧ Below w.heap.size w w' := by
  unfold Small at hp hd
  have x0 := hg.cell 0
  have x1 := hg.cell 1
  have x2 := hg.cell 2
  simp only [List.getElem?_toArray, List.getElem?_cons_zero, List.getElem?_cons_succ] at x0 x1 x2
  have hl := hg.lt
  have e1 : IntKind.i64.wrap (p.x + d.x) = p.x + d.x := IntWalk.i64_in _ (by omega)
  have e2 : IntKind.i64.wrap (p.y + d.y) = p.y + d.y := IntWalk.i64_in _ (by omega)
  have e3 : IntKind.i64.wrap (p.z + d.z) = p.z + d.z := IntWalk.i64_in _ (by omega)
  clear hg
  unfold ptVal
  go_enter Try.func65, Try.ntmps65
  go_wp2
  exact bodyPost_ret (v := .agg #[.int .i64 (p.x + d.x), .int .i64 (p.y + d.y), .int .i64 (p.z + d.z)]) (by simp [results, Try.results65, go_sem, *]) rfl ⟨rfl, (by repeat (first | exact Below.refl _ _ | assumption | refine ba_alloc ?_ _ | refine ba_drew ?_ | refine ba_drewN ?_ _ | refine ba_via (by assumption) ?_ | (refine ba_set ?_ ?_ _; rotate_left; (first | omega | (simp; omega) | simp))))⟩
set_option maxHeartbeats 1000000 in
theorem shift_any (b : Bx) (d : Pt) (w : World) (hb : S.boxOk b = true) (hd : Small d) :
    Calls Try.prog 31 #[boxV b, ptVal d] w fun e w' => e = .returned (boxV (S.shift d b)) ∧ Below w.heap.size w w' := by
  have HL := Lib.hid (fun (w : World) hg => shift1_any b.lo d (w.heap.size + 1) w (small_lo hb) hd hg)
  have HLO := Lib.hid (fun (g : Nat) (w : World) hg => shift1_any b.lo d g w (small_lo hb) hd hg)
  have HHI := Lib.hid (fun (g : Nat) (w : World) hg => shift1_any b.hi d g w (small_hi hb) hd hg)
  have hF := Try.call65
  clear hb hd
  unfold ptVal at HLO HHI
  unfold ptVal boxV
  go_enter Try.func31, Try.ntmps31
  go_wp2
  have hP : Blk (((w.alloc (.cells #[.int .i64 b.lo.x, .int .i64 b.lo.y, .int .i64 b.lo.z, .int .i64 b.hi.x, .int .i64 b.hi.y, .int .i64 b.hi.z] 52)).alloc (.cells #[.int .i64 d.x, .int .i64 d.y, .int .i64 d.z] 50)).alloc (.cells #[.int .i64 0, .int .i64 0, .int .i64 0, .int .i64 0, .int .i64 0, .int .i64 0] 52)) (w.heap.size + 1) 50 #[.int .i64 d.x, .int .i64 d.y, .int .i64 d.z] := by
    simpa using (Blk.new (w.alloc (.cells #[.int .i64 b.lo.x, .int .i64 b.lo.y, .int .i64 b.lo.z, .int .i64 b.hi.x, .int .i64 b.hi.y, .int .i64 b.hi.z] 52)) 50 #[.int .i64 d.x, .int .i64 d.y, .int .i64 d.z]).alloc (.cells #[.int .i64 0, .int .i64 0, .int .i64 0, .int .i64 0, .int .i64 0, .int .i64 0] 52)
  have HP := Lib.hid hP
  clear hP
  refine wp_region_grow_tail 9 (by kernel_rfl) (by kernel_rfl) ?_
  simp only [List.take_succ_cons, List.take_zero, List.drop_succ_cons, List.drop_zero]
  repeat (go_big_quiet_step ((first
    | (go_at_call 65; with_reducible exact grow_of (HLO.out _ _ (HP.out.via (grow_below _ _))))
    | (go_at_call 65; with_reducible exact grow_of (HHI.out _ _ (HP.out.via (grow_below _ _)))))))
  all_goals (refine wpQuiet_nil ?_; intro wg hbwg; obtain ⟨hcwg, hfwg⟩ := bcell hbwg; have hzwg_0 : w.heap.size < wg.heap.size := lt_via hbwg (by first | omega | (simp; done) | (simp; omega)); have hzwg_1 : w.heap.size + 1 < wg.heap.size := lt_via hbwg (by first | omega | (simp; done) | (simp; omega)); have hzwg_2 : w.heap.size + 2 < wg.heap.size := lt_via hbwg (by first | omega | (simp; done) | (simp; omega)))
  go_wp2
  have hbel : Below w.heap.size w wg := (by repeat (first | exact Below.refl _ _ | assumption | refine ba_alloc ?_ _ | refine ba_drew ?_ | refine ba_drewN ?_ _ | refine ba_via (by assumption) ?_ | (refine ba_set ?_ ?_ _; rotate_left; (first | omega | (simp; omega) | simp))))
  have z0 : w.heap.size ≤ w.heap.size + 1 + 1 := by omega
  exact bodyPost_ret (v := .agg #[.int .i64 (S.gS d b.lo).x, .int .i64 (S.gS d b.lo).y, .int .i64 (S.gS d b.lo).z, .int .i64 (S.gS d b.hi).x, .int .i64 (S.gS d b.hi).y, .int .i64 (S.gS d b.hi).z]) (by simp [results, Try.results31, go_sem, *]) rfl ⟨rfl, ((((((hbel.setCell z0 _).setCell z0 _).setCell z0 _).setCell z0 _).setCell z0 _).setCell z0 _)⟩
/-- What a function value of one valid box makes of it: f, and memory of its own at most. -/
def MovesB (w : World) (F : Nat) (cap : Array Value) (f : Bx → Bx) : Prop :=
  ∀ (x : Bx) (w' : World), S.boxOk x = true → Below w.heap.size w w' → Calls Try.prog F (#[boxV x] ++ cap) w' fun e w'' => e = .returned (boxV (f x)) ∧ Below w'.heap.size w' w''
set_option maxHeartbeats 1000000 in
theorem moved2_any (b : Bx) (d : Pt) (g : Nat) (w : World) (hb : S.boxOk b = true) (hd : Small d) (hg : Blk w g 50 #[.int .i64 d.x, .int .i64 d.y, .int .i64 d.z]) :
    Calls Try.prog 30 #[boxV b, .pointer (some ⟨g, 0, none⟩)] w fun e w' => e = .returned (boxV (S.shift d b)) ∧ Below w.heap.size w w' := by
  have HS := Lib.hid (fun w => shift_any b d w hb hd)
  have x0 := hg.cell 0
  have x1 := hg.cell 1
  have x2 := hg.cell 2
  simp only [List.getElem?_toArray, List.getElem?_cons_zero, List.getElem?_cons_succ] at x0 x1 x2
  have hl := hg.lt
  have hl1 : g < w.heap.size + 1 := by omega
  have hl2 : g < w.heap.size + 1 + 1 := by omega
  clear hg hb hd
  generalize S.shift d b = X at *
  unfold ptVal boxV at HS
  unfold boxV
  go_enter Try.func30, Try.ntmps30
  go_wp2_with (go_at_call 31; (with_reducible refine (HS.out _).mono ?_); rintro e w1 ⟨rfl, hbw1⟩; obtain ⟨hcw1, hfw1⟩ := bcell hbw1; have hzw1_0 : w.heap.size < w1.heap.size := lt_via hbw1 (by first | omega | (simp; done) | (simp; omega)); have hzw1_1 : w.heap.size + 1 < w1.heap.size := lt_via hbw1 (by first | omega | (simp; done) | (simp; omega)))
  have hbel : Below w.heap.size w w1 := (by repeat (first | exact Below.refl _ _ | assumption | refine ba_alloc ?_ _ | refine ba_drew ?_ | refine ba_drewN ?_ _ | refine ba_via (by assumption) ?_ | (refine ba_set ?_ ?_ _; rotate_left; (first | omega | (simp; omega) | simp))))
  have z0 : w.heap.size ≤ w.heap.size + 1 := by omega
  exact bodyPost_ret (v := .agg #[.int .i64 X.lo.x, .int .i64 X.lo.y, .int .i64 X.lo.z, .int .i64 X.hi.x, .int .i64 X.hi.y, .int .i64 X.hi.z]) (by simp [results, Try.results30, go_sem, *]) rfl ⟨rfl, ((((((hbel.setCell z0 _).setCell z0 _).setCell z0 _).setCell z0 _).setCell z0 _).setCell z0 _)⟩
theorem moved3_any (b : Bx) (w : World) (hb : S.boxOk b = true) :
    Calls Try.prog 32 #[boxV b] w fun e w' => e = .returned (boxV (S.mirY b)) ∧ Below w.heap.size w w' := by
  have hbd := boxOk_iff.1 hb
  have e1 : IntKind.i64.wrap (-b.hi.y) = -b.hi.y := IntWalk.i64_in _ (by omega)
  have e2 : IntKind.i64.wrap (-b.lo.y) = -b.lo.y := IntWalk.i64_in _ (by omega)
  unfold boxV
  go_enter Try.func32, Try.ntmps32
  go_wp2
  exact bodyPost_ret (v := .agg #[.int .i64 b.lo.x, .int .i64 (-b.hi.y), .int .i64 b.lo.z, .int .i64 b.hi.x, .int .i64 (-b.lo.y), .int .i64 b.hi.z]) (by simp [results, Try.results32, go_sem, *]) rfl ⟨rfl, (by repeat (first | exact Below.refl _ _ | assumption | refine ba_alloc ?_ _ | refine ba_drew ?_ | refine ba_drewN ?_ _ | refine ba_via (by assumption) ?_ | (refine ba_set ?_ ?_ _; rotate_left; (first | omega | (simp; omega) | simp))))⟩
theorem moves_shift (d : Pt) (g : Nat) (w : World) (hd : Small d) (hg : Blk w g 50 #[.int .i64 d.x, .int .i64 d.y, .int .i64 d.z]) : MovesB w 30 #[.pointer (some ⟨g, 0, none⟩)] (S.shift d) :=
  fun x w' hx hb => moved2_any x d g w' hx hd (hg.via hb)
theorem moves_mirY (w : World) : MovesB w 32 #[] S.mirY := fun x w' hx _ => moved3_any x w' hx
end Go.Proofs.Ytiebbklljckbdaa
