/- Contract of the reference: Bent. -/
import Derived.Test.YtiebbklljckbdaaEndsA
set_option linter.unusedVariables false
set_option linter.unusedSimpArgs false
namespace Go.Proofs.Ytiebbklljckbdaa
open Go.RowKit
abbrev S.pbox (p : Pt) : Bx := ⟨p, p⟩
def S.touch (xs : List Bx) (j : Nat) (p : Pt) : Bool := S.cont (xs.getD j S.zbox) (S.pbox p)
/-- The end p of leg k is bent. -/
def S.bent (xs : List Bx) (k : Nat) (p : Pt) : Bool := (decide (0 < k) && S.touch xs (k - 1) p) || (decide (k + 1 < xs.length) && S.touch xs (k + 1) p)
set_option maxRecDepth 100000 in
set_option maxHeartbeats 4000000 in
theorem rbent_00 (A : Option Addr) (n c : Nat) (xs : List Bx) (p : Pt) (B : Nat) (w : World) (hn : xs.length = n) (hm : n ≤ 1000000) (hB : B ≤ w.heap.size) (hs : Cells w B A (xs.flatMap boxC)) (h1 : n = 1) :
    Calls Try.prog 64 #[.slice A n c, .int .i64 0, ptVal p] w fun e w' => e = .returned (.bool (S.bent xs 0 p)) ∧ Below w.heap.size w w' := by
  have H := Lib.hid (show S.bent xs 0 p = false by simp [S.bent, hn, h1])
  have hni : ¬ (0 : Int) + 1 < n := by omega
  have hni2 : ¬ (1 : Int) < n := by omega
  unfold ptVal
  go_enter Try.func64, Try.ntmps64
  go_wp2
  refine wp_region_grow (by kernel_rfl) (by kernel_rfl) ?_
  repeat (go_big_quiet_step (fail))
  all_goals (refine wpQuiet_nil ?_; intro wg hbwg; obtain ⟨hcwg, hfwg⟩ := bcell hbwg)
  go_wp2
  go_ret
  exact ⟨ret_b H.out.symm, (by repeat (first | exact Below.refl _ _ | assumption | refine ba_alloc ?_ _ | refine ba_drew ?_ | refine ba_drewN ?_ _ | refine ba_via (by assumption) ?_ | (refine ba_set ?_ ?_ _; rotate_left; (first | omega | (simp; omega) | simp))))⟩
set_option maxRecDepth 100000 in
set_option maxHeartbeats 4000000 in
theorem rbent_01 (A : Option Addr) (n c : Nat) (xs : List Bx) (p : Pt) (B : Nat) (w : World) (hn : xs.length = n) (hm : n ≤ 1000000) (hB : B ≤ w.heap.size) (hs : Cells w B A (xs.flatMap boxC)) (h1 : 1 < n) :
    Calls Try.prog 64 #[.slice A n c, .int .i64 0, ptVal p] w fun e w' => e = .returned (.bool (S.bent xs 0 p)) ∧ Below w.heap.size w w' := by
  have H := Lib.hid (show S.bent xs 0 p = S.touch xs 1 p by simp [S.bent, hn, h1])
  have hni2 : (1 : Int) < n := by omega
  have hk1 : 1 < xs.length := by omega
  have HC := Lib.hid (fun w => rcontains_any (xs.getD 1 S.zbox) (S.pbox p) w (Int.le_refl _) (Int.le_refl _) (Int.le_refl _))
  obtain ⟨b, o, rfl, hb, _⟩ := hs.at_ (by rw [flat_len boxC 6 boxC_len]; omega)
  obtain ⟨c0, c1, c2, c3, c4, c5⟩ := hs.boxes (List.getElem?_eq_getElem hk1)
  simp only [Nat.one_mul, Nat.add_assoc, Nat.reduceAdd] at c0 c1 c2 c3 c4 c5
  rw [show xs.getD 1 S.zbox = xs[1] by simp [List.getD_eq_getElem?_getD, hk1]] at HC
  unfold S.touch at H
  rw [show xs.getD 1 S.zbox = xs[1] by simp [List.getD_eq_getElem?_getD, hk1]] at H
  generalize S.cont xs[1] (S.pbox p) = t at *
  generalize xs[1] = X at *
  have hbw : b < w.heap.size := by omega
  have hbw2 : b < w.heap.size + 1 + 1 := by omega
  unfold ptVal
  unfold boxV at HC
  cases t
  all_goals (
    go_enter Try.func64, Try.ntmps64
    go_wp2
    refine wp_region_grow (by kernel_rfl) (by kernel_rfl) ?_
    repeat (go_big_quiet_step ((go_at_call 93; exact grow_of (HC.out _))))
    all_goals (refine wpQuiet_nil ?_; intro wg hbwg; obtain ⟨hcwg, hfwg⟩ := bcell hbwg)
    go_wp2
    go_ret
    exact ⟨ret_b H.out.symm, (by repeat (first | exact Below.refl _ _ | assumption | refine ba_alloc ?_ _ | refine ba_drew ?_ | refine ba_drewN ?_ _ | refine ba_via (by assumption) ?_ | (refine ba_set ?_ ?_ _; rotate_left; (first | omega | (simp; omega) | simp))))⟩)
set_option maxRecDepth 100000 in
set_option maxHeartbeats 4000000 in
theorem rbent_10 (A : Option Addr) (n c k : Nat) (xs : List Bx) (p : Pt) (B : Nat) (w : World) (hn : xs.length = n) (hm : n ≤ 1000000) (hB : B ≤ w.heap.size) (hs : Cells w B A (xs.flatMap boxC)) (h0 : 0 < k) (hk : k < n) (h1 : ¬ k + 1 < n) :
    Calls Try.prog 64 #[.slice A n c, .int .i64 k, ptVal p] w fun e w' => e = .returned (.bool (S.bent xs k p)) ∧ Below w.heap.size w w' := by
  have hH : S.bent xs k p = S.touch xs (k - 1) p := by simp [S.bent, hn, h1, h0]
  obtain ⟨j, hj⟩ : ∃ j, j = k - 1 := ⟨_, rfl⟩
  obtain ⟨q, hq⟩ : ∃ q, q = k + 1 := ⟨_, rfl⟩
  have e1 : (k : Int) - 1 = (j : Int) := by omega
  have e2 : (k : Int) + 1 = (q : Int) := by omega
  have e3 : IntKind.i64.wrap (j : Int) = (j : Int) := IntWalk.i64_in _ (by omega)
  have e4 : IntKind.i64.wrap (q : Int) = (q : Int) := IntWalk.i64_in _ (by omega)
  have g1 : (0 : Int) < (k : Int) := by omega
  have g2 : ¬ (q : Int) < (n : Int) := by omega
  have hqd : decide (q < n) = false := by simp; omega
  have g3 : (j : Int) < (n : Int) := by omega
  have hj1 : j < n := by omega
  have hjx : j < xs.length := by omega
  rw [← hj] at hH
  have HC := Lib.hid (fun w => rcontains_any (xs.getD j S.zbox) (S.pbox p) w (Int.le_refl _) (Int.le_refl _) (Int.le_refl _))
  obtain ⟨b, o, rfl, hb, _⟩ := hs.at_ (by rw [flat_len boxC 6 boxC_len]; omega)
  obtain ⟨c0, c1, c2, c3, c4, c5⟩ := hs.boxes (List.getElem?_eq_getElem hjx)
  unfold S.touch at hH
  rw [show xs.getD j S.zbox = xs[j] by simp [List.getD_eq_getElem?_getD, hjx]] at HC hH
  have H := Lib.hid hH
  clear hH hj hq
  generalize S.cont xs[j] (S.pbox p) = t at *
  generalize xs[j] = X at *
  have hbw : b < w.heap.size := by omega
  have hbw2 : b < w.heap.size + 1 + 1 := by omega
  unfold ptVal
  unfold boxV at HC
  cases t
  all_goals (
    go_enter Try.func64, Try.ntmps64
    go_wp2
    refine wp_region_grow (by kernel_rfl) (by kernel_rfl) ?_
    repeat (go_big_quiet_step ((go_at_call 93; exact grow_of (HC.out _))))
    all_goals (refine wpQuiet_nil ?_; intro wg hbwg; obtain ⟨hcwg, hfwg⟩ := bcell hbwg)
    go_wp2
    go_ret
    exact ⟨ret_b H.out.symm, (by repeat (first | exact Below.refl _ _ | assumption | refine ba_alloc ?_ _ | refine ba_drew ?_ | refine ba_drewN ?_ _ | refine ba_via (by assumption) ?_ | (refine ba_set ?_ ?_ _; rotate_left; (first | omega | (simp; omega) | simp))))⟩)
set_option maxRecDepth 100000 in
set_option maxHeartbeats 4000000 in
theorem rbent_11 (A : Option Addr) (n c k : Nat) (xs : List Bx) (p : Pt) (B : Nat) (w : World) (hn : xs.length = n) (hm : n ≤ 1000000) (hB : B ≤ w.heap.size) (hs : Cells w B A (xs.flatMap boxC)) (h0 : 0 < k) (h1 : k + 1 < n) :
    Calls Try.prog 64 #[.slice A n c, .int .i64 k, ptVal p] w fun e w' => e = .returned (.bool (S.bent xs k p)) ∧ Below w.heap.size w w' := by
  have hH : S.bent xs k p = (S.touch xs (k - 1) p || S.touch xs (k + 1) p) := by simp [S.bent, hn, h1, h0]
  obtain ⟨j, hj⟩ : ∃ j, j = k - 1 := ⟨_, rfl⟩
  obtain ⟨q, hq⟩ : ∃ q, q = k + 1 := ⟨_, rfl⟩
  have e1 : (k : Int) - 1 = (j : Int) := by omega
  obtain ⟨z, hz⟩ : ∃ z : Int, z = (q : Int) := ⟨_, rfl⟩
  have e2 : (k : Int) + 1 = z := by omega
  have e5 : z.toNat = q := by omega
  have e3 : IntKind.i64.wrap (j : Int) = (j : Int) := IntWalk.i64_in _ (by omega)
  have e4 : IntKind.i64.wrap z = z := IntWalk.i64_in _ (by omega)
  have g1 : (0 : Int) < (k : Int) := by omega
  have g2 : z < (n : Int) := by omega
  have g4 : 0 ≤ z := by omega
  have g3 : (j : Int) < (n : Int) := by omega
  have hj1 : j < n := by omega
  have hq1 : q < n := by omega
  have hjx : j < xs.length := by omega
  have hqx : q < xs.length := by omega
  rw [← hj, ← hq] at hH
  have HC := Lib.hid (fun w => rcontains_any (xs.getD j S.zbox) (S.pbox p) w (Int.le_refl _) (Int.le_refl _) (Int.le_refl _))
  have HD := Lib.hid (fun w => rcontains_any (xs.getD q S.zbox) (S.pbox p) w (Int.le_refl _) (Int.le_refl _) (Int.le_refl _))
  obtain ⟨b, o, rfl, hb, _⟩ := hs.at_ (by rw [flat_len boxC 6 boxC_len]; omega)
  obtain ⟨c0, c1, c2, c3, c4, c5⟩ := hs.boxes (List.getElem?_eq_getElem hjx)
  obtain ⟨d0, d1, d2, d3, d4, d5⟩ := hs.boxes (List.getElem?_eq_getElem hqx)
  unfold S.touch at hH
  rw [show xs.getD j S.zbox = xs[j] by simp [List.getD_eq_getElem?_getD, hjx]] at HC hH
  rw [show xs.getD q S.zbox = xs[q] by simp [List.getD_eq_getElem?_getD, hqx]] at HD hH
  have H := Lib.hid hH
  clear hH hj hq hz
  generalize S.cont xs[j] (S.pbox p) = t at *
  generalize S.cont xs[q] (S.pbox p) = u at *
  generalize xs[j] = X at *
  generalize xs[q] = Y at *
  have hbw : b < w.heap.size := by omega
  have hbw2 : b < w.heap.size + 1 + 1 := by omega
  unfold ptVal
  unfold boxV at HC HD
  cases t <;> cases u
  all_goals (
    go_enter Try.func64, Try.ntmps64
    go_wp2
    refine wp_region_grow (by kernel_rfl) (by kernel_rfl) ?_
    repeat (go_big_quiet_step ((first | (go_at_call 93; with_reducible exact grow_of (HC.out _)) | (go_at_call 93; with_reducible exact grow_of (HD.out _)))))
    all_goals (refine wpQuiet_nil ?_; intro wg hbwg; obtain ⟨hcwg, hfwg⟩ := bcell hbwg)
    go_wp2
    go_ret
    exact ⟨ret_b H.out.symm, (by repeat (first | exact Below.refl _ _ | assumption | refine ba_alloc ?_ _ | refine ba_drew ?_ | refine ba_drewN ?_ _ | refine ba_via (by assumption) ?_ | (refine ba_set ?_ ?_ _; rotate_left; (first | omega | (simp; omega) | simp))))⟩)
theorem rbent_any (A : Option Addr) (n c k : Nat) (xs : List Bx) (p : Pt) (B : Nat) (w : World) (hn : xs.length = n) (hm : n ≤ 1000000) (hB : B ≤ w.heap.size) (hs : Cells w B A (xs.flatMap boxC)) (hk : k < n) :
    Calls Try.prog 64 #[.slice A n c, .int .i64 k, ptVal p] w fun e w' => e = .returned (.bool (S.bent xs k p)) ∧ Below w.heap.size w w' := by
  by_cases h0 : 0 < k
  · by_cases h1 : k + 1 < n
    · exact rbent_11 A n c k xs p B w hn hm hB hs h0 h1
    · exact rbent_10 A n c k xs p B w hn hm hB hs h0 hk h1
  · obtain rfl : k = 0 := by omega
    by_cases h1 : 1 < n
    · exact rbent_01 A n c xs p B w hn hm hB hs h1
    · exact rbent_00 A n c xs p B w hn hm hB hs (by omega)
end Go.Proofs.Ytiebbklljckbdaa
