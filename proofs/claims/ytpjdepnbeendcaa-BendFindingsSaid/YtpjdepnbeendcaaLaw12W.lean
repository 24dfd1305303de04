/- The walk of ShapeWalks. -/
import Derived.Test.YtpjdepnbeendcaaLaw12A
import Derived.Test.YtpjdepnbeendcaaSpecWalks
set_option linter.unusedVariables false
set_option linter.unusedSimpArgs false
namespace Go.Proofs.Ytpjdepnbeendcaa
open Go.RowKit
abbrev ptV (p : Pt) : Value := .agg #[.int .i64 p.x, .int .i64 p.y, .int .i64 p.z]
theorem BarAt.at_ {w w' : World} {B : Nat} {A : Option Addr} {n : Nat} {b : Bar} (h : BarAt w B A n b) (hB : B ≤ w.heap.size) (hb : Below w.heap.size w w') : BarAt w' B A n b := h.below (hb.mono hB)
theorem along_step (p q : Pt) (way : Nat) (n : Int) (w : World) (hq : q = S.step p way n) (hw : way = 120 ∨ way = 88 ∨ way = 121 ∨ way = 89 ∨ way = 122) (hp : Within p 8000000) (h1 : 1 ≤ n) (h2 : n ≤ 262144) :
    Calls Try.prog 22 #[.agg #[.int .i64 p.x, .int .i64 p.y, .int .i64 p.z], .agg #[.int .i64 q.x, .int .i64 q.y, .int .i64 q.z]] w fun e w' => e = .returned (.tuple #[.int .i64 (S.axis way), .int .i64 n]) ∧ Below w.heap.size w w' := by
  unfold Within at hp
  subst hq
  rcases hw with rfl | rfl | rfl | rfl | rfl
  · exact along_x _ _ _ _ _ _ n w (by omega) (by omega) (by omega) (by simp [S.step]; omega) (by simp [S.step]) (by simp [S.step]) h1 (by omega)
  · exact along_x _ _ _ _ _ _ n w (by omega) (by omega) (by omega) (by simp [S.step]; omega) (by simp [S.step]) (by simp [S.step]) h1 (by omega)
  · exact along_y _ _ _ _ _ _ n w (by omega) (by omega) (by omega) (by simp [S.step]; omega) (by simp [S.step]) (by simp [S.step]) h1 (by omega)
  · exact along_y _ _ _ _ _ _ n w (by omega) (by omega) (by omega) (by simp [S.step]; omega) (by simp [S.step]) (by simp [S.step]) h1 (by omega)
  · exact along_z _ _ _ _ _ _ n w (by omega) (by omega) (by omega) (by simp [S.step]; omega) (by simp [S.step]) (by simp [S.step]) h1 (by omega)
theorem lens_get (b : Bar) (h : S.bar b = true) {k : Nat} (hk : k < (S.legsOf b.code).length) : ∃ n, (i64s (S.legLens b))[k]? = some (.int .i64 n) ∧ (S.legLens b)[k]? = some n ∧ 1 ≤ n ∧ n ≤ 262144 ∧ S.ptAt b (k + 1) = S.step (S.ptAt b k) (S.legsOf b.code)[k].2 n := by
  have hd : S.dimsOk b.dims = true := by simp only [S.bar, Bool.and_eq_true] at h; exact h.2
  have hl := bar_head h
  have h1 := legs_dim b.code hk
  have h2 : (S.legsOf b.code)[k].1 < b.dims.length := by omega
  have h3 := dim_bd hd h2
  have e : (S.legLens b)[k]? = some b.dims[(S.legsOf b.code)[k].1] := by
    simp [S.legLens, List.getElem?_eq_getElem hk, List.getD_eq_getElem?_getD, List.getElem?_eq_getElem h2]
  exact ⟨_, by simp [e], e, h3.1, h3.2, ptAt_succ b hk h2⟩
theorem sum_take_snoc {l : List Int} {k : Nat} {n : Int} (h : l[k]? = some n) : S.sum (l.take (k + 1)) = S.sum (l.take k) + n := by
  obtain ⟨hk, rfl⟩ := List.getElem?_eq_some_iff.1 h
  rw [List.take_succ_eq_append_getElem hk, sum_snoc]
theorem path_get (b : Bar) {k : Nat} (hk : k ≤ (S.legsOf b.code).length) : (S.path b)[k]? = some (S.ptAt b k) := by
  simp [S.path, S.pathTo, Nat.lt_succ_of_le hk]
theorem path_length (b : Bar) : (S.path b).length = (S.legsOf b.code).length + 1 := by simp [S.path, S.pathTo]
theorem Cells.pts {w : World} {B bb o : Nat} {l : List Pt} (h : Cells w B (some ⟨bb, o, none⟩) (l.flatMap ptC)) {k : Nat} {p : Pt} (hk : l[k]? = some p) :
    w.cell? ⟨bb, o + k * 3, none⟩ = some (.int .i64 p.x) ∧ w.cell? ⟨bb, o + k * 3 + 1, none⟩ = some (.int .i64 p.y) ∧ w.cell? ⟨bb, o + k * 3 + 2, none⟩ = some (.int .i64 p.z) := by
  obtain ⟨hk', rfl⟩ := List.getElem?_eq_some_iff.1 hk
  exact ⟨h.row0 ptC_len hk' rfl, h.rowj ptC_len hk' 1 rfl, h.rowj ptC_len hk' 2 rfl⟩
theorem legs_yesL (b : Bar) (A : Option Addr) (n c : Nat) (B : Nat) (w : World) (L : Nat) (hL : (S.legsOf b.code).length = L) (hB : B ≤ w.heap.size) (hA : BarAt w B A n b) (h : S.bar b = true) :
    Calls Try.prog 19 #[barV b A n c] w (GivesRow 3 1 L (i64s (S.legLens b)) 0 w) := hL ▸ legs_yes b A n c B w hB hA h
theorem path_yesL (b : Bar) (A : Option Addr) (n c : Nat) (B : Nat) (w : World) (L : Nat) (hL : (S.legsOf b.code).length = L) (hB : B ≤ w.heap.size) (hA : BarAt w B A n b) (h : S.bar b = true) :
    Calls Try.prog 20 #[barV b A n c] w (GivesRow 34 3 (L + 1) ((S.path b).flatMap ptC) 0 w) := hL ▸ path_yes b A n c B w hB hA h
theorem walks_long (b : Bar) (A : Option Addr) (n c : Nat) (B : Nat) (w : World) (hB : B ≤ w.heap.size) (hA : BarAt w B A n b) (hs : S.short b = false) :
    Calls Try.prog 3 #[barV b A n c] w fun e w' => e = .returned (.bool true) ∧ Below w.heap.size w w' := by
  have hln := hA.len
  have hmx := hA.max
  have hmk := hA.mark
  unfold barV
  go_enter Try.func3, Try.ntmps3
  go_wp2_with (first
    | (go_at_call 17; (with_reducible refine (awake12_any _).mono ?_); rintro e w1 ⟨rfl, hbw1⟩; obtain ⟨hcw1, hfw1⟩ := bcell hbw1; have hzw1_0 : w.heap.size < w1.heap.size := lt_via hbw1 (by first | omega | (simp; done) | (simp; omega)))
    | (go_at_call 18; (with_reducible refine (short_any b A n c _ hln hmx hmk).mono ?_); rintro e w2 ⟨rfl, hbw2⟩; obtain ⟨hcw2, hfw2⟩ := bcell hbw2; have hzw2_0 : w.heap.size < w2.heap.size := lt_via hbw2 (by first | omega | (simp; done) | (simp; omega))))
  go_ret
  exact ⟨rfl, (by repeat (first | exact Below.refl _ _ | assumption | refine ba_alloc ?_ _ | refine ba_drew ?_ | refine ba_drewN ?_ _ | refine ba_via (by assumption) ?_ | (refine ba_set ?_ ?_ _; rotate_left; (first | omega | (simp; omega) | simp))))⟩
set_option maxHeartbeats 2000000 in
theorem walks_no (b : Bar) (A : Option Addr) (n c : Nat) (B : Nat) (w : World) (hB : B ≤ w.heap.size) (hA : BarAt w B A n b) (hs : S.short b = true) (h : S.bar b = false) :
    Calls Try.prog 3 #[barV b A n c] w fun e w' => e = .returned (.bool true) ∧ Below w.heap.size w w' := by
  have hln := hA.len
  have hmx := hA.max
  have hmk := hA.mark
  have HA := Lib.hid hA
  clear hA
  unfold barV
  go_enter Try.func3, Try.ntmps3
  go_wp2_with (first
    | (go_at_call 17; (with_reducible refine (awake12_any _).mono ?_); rintro e w1 ⟨rfl, hbw1⟩; obtain ⟨hcw1, hfw1⟩ := bcell hbw1; have hzw1_0 : w.heap.size < w1.heap.size := lt_via hbw1 (by first | omega | (simp; done) | (simp; omega)))
    | (go_at_call 18; (with_reducible refine (short_any b A n c _ hln hmx hmk).mono ?_); rintro e w2 ⟨rfl, hbw2⟩; obtain ⟨hcw2, hfw2⟩ := bcell hbw2; have hzw2_0 : w.heap.size < w2.heap.size := lt_via hbw2 (by first | omega | (simp; done) | (simp; omega)))
    | (go_at_call 19; (with_reducible refine (legs_no b A n c B _ (by omega) (BarAt.at_ HA.out hB (by repeat (first | exact Below.refl _ _ | assumption | refine ba_alloc ?_ _ | refine ba_drew ?_ | refine ba_drewN ?_ _ | refine ba_via (by assumption) ?_ | (refine ba_set ?_ ?_ _; rotate_left; (first | omega | (simp; omega) | simp))))) h).mono ?_); rintro e w3 ⟨Aw3, cw3, rfl, how3, hbw3⟩; obtain ⟨hcw3, hfw3⟩ := bcell hbw3; have hzw3_0 : w.heap.size < w3.heap.size := lt_via hbw3 (by first | omega | (simp; done) | (simp; omega)))
    | (go_at_call 20; (with_reducible refine (path_no b A n c B _ (by omega) (BarAt.at_ HA.out hB (by repeat (first | exact Below.refl _ _ | assumption | refine ba_alloc ?_ _ | refine ba_drew ?_ | refine ba_drewN ?_ _ | refine ba_via (by assumption) ?_ | (refine ba_set ?_ ?_ _; rotate_left; (first | omega | (simp; omega) | simp))))) h).mono ?_); rintro e w4 ⟨Aw4, cw4, rfl, how4, hbw4⟩; obtain ⟨hcw4, hfw4⟩ := bcell hbw4; have hzw4_0 : w.heap.size < w4.heap.size := lt_via hbw4 (by first | omega | (simp; done) | (simp; omega)))
    | (go_at_call 21; (with_reducible refine (valid_any b A n c B _ (by omega) (BarAt.at_ HA.out hB (by repeat (first | exact Below.refl _ _ | assumption | refine ba_alloc ?_ _ | refine ba_drew ?_ | refine ba_drewN ?_ _ | refine ba_via (by assumption) ?_ | (refine ba_set ?_ ?_ _; rotate_left; (first | omega | (simp; omega) | simp)))))).mono ?_); rintro e w5 ⟨rfl, hbw5⟩; obtain ⟨hcw5, hfw5⟩ := bcell hbw5; have hzw5_0 : w.heap.size < w5.heap.size := lt_via hbw5 (by first | omega | (simp; done) | (simp; omega))))
  go_ret
  exact ⟨rfl, (by repeat (first | exact Below.refl _ _ | assumption | refine ba_alloc ?_ _ | refine ba_drew ?_ | refine ba_drewN ?_ _ | refine ba_via (by assumption) ?_ | (refine ba_set ?_ ?_ _; rotate_left; (first | omega | (simp; omega) | simp))))⟩
end Go.Proofs.Ytpjdepnbeendcaa
