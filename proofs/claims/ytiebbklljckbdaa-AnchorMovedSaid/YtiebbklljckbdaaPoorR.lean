/- Contracts: the hull of a solid and poor bond in the reference; what large is. -/
import Derived.Test.YtiebbklljckbdaaPoorA
import Derived.Test.YtiebbklljckbdaaRSolidA
import Derived.Test.YtiebbklljckbdaaRHull
import Derived.Test.YtiebbklljckbdaaBar
set_option linter.unusedVariables false
set_option linter.unusedSimpArgs false
namespace Go.Proofs.Ytiebbklljckbdaa
open Go.RowKit
set_option maxHeartbeats 1000000 in
theorem rshull_yes (A : Option Addr) (n c : Nat) (A' : Option Addr) (n' c' : Nat) (xs hs : List Bx) (x0 : Bx) (B : Nat) (w : World) (hB : B ≤ w.heap.size) (hA : SolAt w B A n A' n' xs hs) (hn : n ≤ 1000000) (h0 : xs[0]? = some x0) :
    Calls Try.prog 53 #[solV A n c A' n' c'] w fun e w' => e = .returned (boxV (S.hull x0 xs)) ∧ Below w.heap.size w w' := by
  have HA := Lib.hid hA
  have HH := Lib.hid (fun (W : World) (hw : B ≤ W.heap.size) (hh : Cells W B A (xs.flatMap boxC)) => rbhull_yes A n c xs x0 B W HA.out.len hn hw hh h0)
  clear hA
  generalize S.hull x0 xs = X at *
  unfold solV
  go_enter Try.func53, Try.ntmps53
  go_wp2_with (go_at_call 85; (with_reducible refine (HH.out _ (size_via hB (by repeat (first | exact Below.refl _ _ | assumption | refine ba_alloc ?_ _ | refine ba_drew ?_ | refine ba_drewN ?_ _ | refine ba_via (by assumption) ?_ | (refine ba_set ?_ ?_ _; rotate_left; (first | omega | (simp; omega) | simp))))) (SolAt.at_ HA.out hB (by repeat (first | exact Below.refl _ _ | assumption | refine ba_alloc ?_ _ | refine ba_drew ?_ | refine ba_drewN ?_ _ | refine ba_via (by assumption) ?_ | (refine ba_set ?_ ?_ _; rotate_left; (first | omega | (simp; omega) | simp))))).cells).mono ?_); rintro e w2 ⟨rfl, hbw2⟩; obtain ⟨hcw2, hfw2⟩ := bcell hbw2; have hzw2_0 : w.heap.size < w2.heap.size := lt_via hbw2 (by first | omega | (simp; done) | (simp; omega)); have hzw2_1 : w.heap.size + 1 < w2.heap.size := lt_via hbw2 (by first | omega | (simp; done) | (simp; omega)))
  have hbel : Below w.heap.size w w2 := (by repeat (first | exact Below.refl _ _ | assumption | refine ba_alloc ?_ _ | refine ba_drew ?_ | refine ba_drewN ?_ _ | refine ba_via (by assumption) ?_ | (refine ba_set ?_ ?_ _; rotate_left; (first | omega | (simp; omega) | simp))))
  have hRs : Blk w2 (w.heap.size + 1) 52 #[.int .i64 0, .int .i64 0, .int .i64 0, .int .i64 0, .int .i64 0, .int .i64 0] := Blk.via (by simpa using Blk.new (w.alloc (.cells #[.slice A n c, .slice A' n' c'] 46)) 52 #[.int .i64 0, .int .i64 0, .int .i64 0, .int .i64 0, .int .i64 0, .int .i64 0]) hbw2
  have z0 := hRs.cell 0
  have z1 := hRs.cell 1
  have z2 := hRs.cell 2
  have z3 := hRs.cell 3
  have z4 := hRs.cell 4
  have z5 := hRs.cell 5
  simp only [List.getElem?_toArray, List.getElem?_cons_zero, List.getElem?_cons_succ] at z0 z1 z2 z3 z4 z5
  exact bodyPost_ret (v := boxV X) (by simp [results, Try.results53, go_sem, *]) rfl ⟨rfl, ((((((hbel.setCell (Nat.le_succ _) _).setCell (Nat.le_succ _) _).setCell (Nat.le_succ _) _).setCell (Nat.le_succ _) _).setCell (Nat.le_succ _) _).setCell (Nat.le_succ _) _)⟩
theorem rpoor_yes (m : Mem) (leg : Bx) (A : Option Addr) (n c : Nat) (A' : Option Addr) (n' c' : Nat) (B : Nat) (w : World) (hB : B ≤ w.heap.size) (hA : SolAt w B A n A' n' m.boxes m.holes) (h : S.solid m.boxes m.holes = true) (hl : S.boxOk leg = true) :
    Calls Try.prog 25 #[memV m A n c A' n' c', boxV leg] w fun e w' => e = .returned (.bool (S.poor m.boxes leg)) ∧ Below w.heap.size w w' := by
  have HA := Lib.hid hA
  have hn20 : n ≤ 20 := by
    have h1 := hA.len
    simp only [S.solid, Bool.and_eq_true, decide_eq_true_eq] at h
    omega
  obtain ⟨hok, hlen⟩ := solid_ok h
  have h0 : m.boxes[0]? = some (m.boxes.headD ⟨⟨0, 0, 0⟩, ⟨0, 0, 0⟩⟩) := by
    cases hb : m.boxes with
    | nil => rw [hb] at hlen; simp at hlen
    | cons x l => rfl
  have hz := boxOk_z hl
  have hin := hull_lo_in (m.boxes.headD ⟨⟨0, 0, 0⟩, ⟨0, 0, 0⟩⟩) m.boxes (by have := boxOk_z (boxes_ok hok _ (List.mem_of_getElem? h0)); omega) (fun b hb => by have := boxOk_z (boxes_ok hok b hb); omega)
  have HP := Lib.hid (show S.poor m.boxes leg = decide (250 < leg.lo.z - (S.hull (m.boxes.headD ⟨⟨0, 0, 0⟩, ⟨0, 0, 0⟩⟩) m.boxes).lo.z) from rfl)
  have HH := Lib.hid (fun (W : World) (hw : B ≤ W.heap.size) (hh : SolAt W B A n A' n' m.boxes m.holes) => rshull_yes A n c A' n' c' m.boxes m.holes _ B W hw hh (by omega) h0)
  clear hA
  generalize S.hull (m.boxes.headD ⟨⟨0, 0, 0⟩, ⟨0, 0, 0⟩⟩) m.boxes = X at *
  have e1 : IntKind.i64.wrap (leg.lo.z - X.lo.z) = leg.lo.z - X.lo.z := IntWalk.i64_in _ (by omega)
  unfold boxV at HH
  have f0 : ∀ W, (Instr.field 52 (.agg #[.int .i64 X.lo.x, .int .i64 X.lo.y, .int .i64 X.lo.z, .int .i64 X.hi.x, .int .i64 X.hi.y, .int .i64 X.hi.z]) 0).run Try.prog W = .ok (.agg #[.int .i64 X.lo.x, .int .i64 X.lo.y, .int .i64 X.lo.z]) W := fun _ => by kernel_rfl
  have f1 : ∀ W, (Instr.field 50 (.agg #[.int .i64 X.lo.x, .int .i64 X.lo.y, .int .i64 X.lo.z]) 2).run Try.prog W = .ok (.int .i64 X.lo.z) W := fun _ => by kernel_rfl
  unfold memV boxV
  go_enter Try.func25, Try.ntmps25
  go_wp2
  refine wp_region_grow (by kernel_rfl) (by kernel_rfl) ?_
  repeat (go_big_quiet_step ((go_at_call 53; exact grow_of (HH.out _ (size_via hB (ba_via (grow_below _ _) (by repeat (first | exact Below.refl _ _ | assumption | refine ba_alloc ?_ _ | refine ba_drew ?_ | refine ba_drewN ?_ _ | refine ba_via (by assumption) ?_ | (refine ba_set ?_ ?_ _; rotate_left; (first | omega | (simp; omega) | simp)))))) (SolAt.at_ HA.out hB (ba_via (grow_below _ _) (by repeat (first | exact Below.refl _ _ | assumption | refine ba_alloc ?_ _ | refine ba_drew ?_ | refine ba_drewN ?_ _ | refine ba_via (by assumption) ?_ | (refine ba_set ?_ ?_ _; rotate_left; (first | omega | (simp; omega) | simp))))))))))
  all_goals (refine wpQuiet_nil ?_; intro wg hbwg; obtain ⟨hcwg, hfwg⟩ := bcell hbwg; have hzwg_0 : w.heap.size < wg.heap.size := lt_via hbwg (by first | omega | (simp; done) | (simp; omega)); have hzwg_1 : w.heap.size + 1 < wg.heap.size := lt_via hbwg (by first | omega | (simp; done) | (simp; omega)))
  go_wp2
  go_ret
  exact ⟨ret_b HP.out.symm, (by repeat (first | exact Below.refl _ _ | assumption | refine ba_alloc ?_ _ | refine ba_drew ?_ | refine ba_drewN ?_ _ | refine ba_via (by assumption) ?_ | (refine ba_set ?_ ?_ _; rotate_left; (first | omega | (simp; omega) | simp))))⟩
def S.big (m : Mem) : Bool := decide (60 < m.name.size) || decide (25 < m.boxes.length) || decide (25 < m.holes.length)
def S.large (m : Mem) (b : Bar) (k : Nat) : Bool := S.big m || !S.short b || decide (12 < k)
set_option maxHeartbeats 1000000 in
theorem large_any (m : Mem) (A : Option Addr) (n c : Nat) (A' : Option Addr) (n' c' : Nat) (b : Bar) (D : Option Addr) (dn dc : Nat) (L : Option Addr) (k kc : Nat) (w : World)
    (hl : m.boxes.length = n) (hl' : m.holes.length = n') (hn : n ≤ 9223372036854775807) (hn' : n' ≤ 9223372036854775807) (hk : m.name.size ≤ 9223372036854775807) (hd : b.dims.length = dn) (hdm : dn ≤ 9223372036854775807) (hbm : b.mark.size ≤ 9223372036854775807) (hkm : k ≤ 9223372036854775807) :
    Calls Try.prog 20 #[memV m A n c A' n' c', barV b D dn dc, .slice L k kc] w fun e w' => e = .returned (.bool (S.large m b k)) ∧ Below w.heap.size w w' := by
  have H := Lib.hid (show S.large m b k = ((decide (60 < m.name.size) || decide (25 < n) || decide (25 < n')) || !S.short b || decide (12 < k)) by unfold S.large S.big; rw [hl, hl'])
  have HS := Lib.hid (fun w => short_any b D dn dc w hd hdm hbm)
  clear hl hl' hd
  generalize S.short b = t at *
  unfold memV barV
  cases t
  all_goals (
    go_enter Try.func20, Try.ntmps20
    go_wp2_with (go_at_call 44; (with_reducible refine (HS.out _).mono ?_); rintro e w1 ⟨rfl, hbw1⟩; obtain ⟨hcw1, hfw1⟩ := bcell hbw1; have hzw1_0 : w.heap.size < w1.heap.size := lt_via hbw1 (by first | omega | (simp; done) | (simp; omega)); have hzw1_1 : w.heap.size + 1 < w1.heap.size := lt_via hbw1 (by first | omega | (simp; done) | (simp; omega)))
    all_goals (go_ret; exact ⟨ret_b (by rw [H.out, Bool.eq_iff_iff]; all_goals (first | (simp; done) | (simp; omega))), (by repeat (first | exact Below.refl _ _ | assumption | refine ba_alloc ?_ _ | refine ba_drew ?_ | refine ba_drewN ?_ _ | refine ba_via (by assumption) ?_ | (refine ba_set ?_ ?_ _; rotate_left; (first | omega | (simp; omega) | simp))))⟩))
end Go.Proofs.Ytiebbklljckbdaa
