/- How the legs of a path turn, and how long they are together (no program in sight). Legs of a bar: where they lie, their lengths. Contracts: the moves of the reference for layer 12, one for each code ( -/
import Derived.BigRegion
import Derived.Test.YtffkmgjmlahfpaaGreatPH
import Derived.Test.YtffkmgjmlahfpaaGreatPF
import Derived.Test.YtffkmgjmlahfpaaGreatPE
import Derived.Test.YtffkmgjmlahfpaaGreatPJ
set_option linter.unusedVariables false
set_option linter.unusedSimpArgs false
namespace Go.Proofs.YtffkmgjmlahfpaaGreat
namespace S
def axis (way : Nat) : Int := if way = 120 then 1 else if way = 88 then 1 else if way = 121 then 2 else if way = 89 then 2 else if way = 122 then 3 else 0
end S
theorem dimsOf_codes {c : Int} (h : S.dimsOf c ≠ 0) : c = 0 ∨ c = 11 ∨ c = 21 ∨ c = 26 ∨ c = 31 ∨ c = 41 ∨ c = 51 ∨ c = 98 := by
  unfold S.dimsOf at h
  repeat' (split at h <;> try omega)
theorem lst1 {α : Type} {l : List α} (h : l.length = 1) : ∃ a, l = [a] := by match l, h with | [a], _ => exact ⟨a, rfl⟩
theorem lst2 {α : Type} {l : List α} (h : l.length = 2) : ∃ a b, l = [a, b] := by match l, h with | [a, b], _ => exact ⟨a, b, rfl⟩
theorem lst3 {α : Type} {l : List α} (h : l.length = 3) : ∃ a b c, l = [a, b, c] := by match l, h with | [a, b, c], _ => exact ⟨a, b, c, rfl⟩
theorem lst5 {α : Type} {l : List α} (h : l.length = 5) : ∃ a b c d e, l = [a, b, c, d, e] := by match l, h with | [a, b, c, d, e], _ => exact ⟨a, b, c, d, e, rfl⟩
theorem bar_codes {b : Bar} (h : S.bar b = true) :
    (b.code = 0 ∧ ∃ a, b.dims = [a] ∧ 1 ≤ a ∧ a ≤ 262144) ∨ (b.code = 11 ∧ ∃ a c, b.dims = [a, c] ∧ 1 ≤ a ∧ 1 ≤ c ∧ a + c ≤ 262144) ∨
    ((b.code = 21 ∨ b.code = 26 ∨ b.code = 31 ∨ b.code = 51 ∨ b.code = 98) ∧ ∃ a c d, b.dims = [a, c, d] ∧ 1 ≤ a ∧ 1 ≤ c ∧ 1 ≤ d ∧ a + c + d ≤ 262144) ∨
    (b.code = 41 ∧ ∃ a c d e f, b.dims = [a, c, d, e, f] ∧ 1 ≤ a ∧ 1 ≤ c ∧ 1 ≤ d ∧ 1 ≤ e ∧ 1 ≤ f ∧ a + c + d + e + f ≤ 262144) := by
  have hl := bar_head h
  have h0 : S.dimsOf b.code ≠ 0 := by
    intro h1
    simp [S.bar, S.barHead, h1] at h
  have hd : S.dimsOk b.dims = true := by simp only [S.bar, Bool.and_eq_true] at h; exact h.2
  obtain ⟨h1, h2⟩ := dimsOk_iff.1 hd
  rcases dimsOf_codes h0 with c | c | c | c | c | c | c | c
  · rw [c, show S.dimsOf 0 = 1 from rfl] at hl
    obtain ⟨a, e⟩ := lst1 (show b.dims.length = 1 by omega)
    rw [e] at h1 h2
    have := h1 a (by simp)
    simp [S.sum] at h2
    exact .inl ⟨c, a, e, by omega, by omega⟩
  · rw [c, show S.dimsOf 11 = 2 from rfl] at hl
    obtain ⟨a, a2, e⟩ := lst2 (show b.dims.length = 2 by omega)
    rw [e] at h1 h2
    have g1 := h1 a (by simp)
    have g2 := h1 a2 (by simp)
    simp [S.sum] at h2
    exact .inr (.inl ⟨c, a, a2, e, by omega, by omega, by omega⟩)
  case' inr.inr.inr.inr.inr.inl =>
    rw [c, show S.dimsOf 41 = 5 from rfl] at hl
    obtain ⟨a, a2, a3, a4, a5, e⟩ := lst5 (show b.dims.length = 5 by omega)
    rw [e] at h1 h2
    have g1 := h1 a (by simp)
    have g2 := h1 a2 (by simp)
    have g3 := h1 a3 (by simp)
    have g4 := h1 a4 (by simp)
    have g5 := h1 a5 (by simp)
    simp [S.sum] at h2
    exact .inr (.inr (.inr ⟨c, a, a2, a3, a4, a5, e, by omega, by omega, by omega, by omega, by omega, by omega⟩))
  all_goals
    have hl3 : S.dimsOf b.code = 3 := by rw [c]; rfl
    obtain ⟨a, a2, a3, e⟩ := lst3 (show b.dims.length = 3 by omega)
    rw [e] at h1 h2
    have g1 := h1 a (by simp)
    have g2 := h1 a2 (by simp)
    have g3 := h1 a3 (by simp)
    simp [S.sum] at h2
    exact .inr (.inr (.inl ⟨by omega, a, a2, a3, e, by omega, by omega, by omega, by omega⟩))
theorem legs_sum {b : Bar} (h : S.bar b = true) : S.sum (S.legLens b) ≤ 524288 ∧ 1 ≤ (S.legsOf b.code).length := by
  rcases bar_codes h with ⟨c, a, e, h1, h2⟩ | ⟨c, a, a2, e, h1, h2, h3⟩ | ⟨c, a, a2, a3, e, h1, h2, h3, h4⟩ | ⟨c, a, a2, a3, a4, a5, e, h1, h2, h3, h4, h5, h6⟩
  · simp [S.legLens, c, e, S.legsOf, S.sum]; omega
  · simp [S.legLens, c, e, S.legsOf, S.sum]; omega
  · rcases c with c | c | c | c | c <;> (simp [S.legLens, c, e, S.legsOf, S.sum]; omega)
  · simp [S.legLens, c, e, S.legsOf, S.sum]; omega
theorem lens_pos {b : Bar} (h : S.bar b = true) : ∀ x, x ∈ S.legLens b → 1 ≤ x := by
  intro x hx
  have hd : S.dimsOk b.dims = true := by simp only [S.bar, Bool.and_eq_true] at h; exact h.2
  have hl := bar_head h
  simp only [S.legLens, List.mem_map] at hx
  obtain ⟨l, hm, rfl⟩ := hx
  obtain ⟨j, hj, rfl⟩ := List.mem_iff_getElem.1 hm
  have h1 := legs_dim b.code hj
  have h2 : (S.legsOf b.code)[j].1 < b.dims.length := by omega
  rw [List.getD_eq_getElem?_getD, List.getElem?_eq_getElem h2]
  exact (dim_bd hd h2).1
end Go.Proofs.YtffkmgjmlahfpaaGreat
namespace Go.Proofs.YtffkmgjmlahfpaaGreat
open Go.RowKit
theorem BarAt.at_ {w w' : World} {B : Nat} {A : Option Addr} {n : Nat} {b : Bar} (h : BarAt w B A n b) (hB : B ≤ w.heap.size) (hb : Below w.heap.size w w') : BarAt w' B A n b := h.below (hb.mono hB)
theorem lens_get (b : Bar) (h : S.bar b = true) {k : Nat} (hk : k < (S.legsOf b.code).length) : ∃ n, (i64s (S.legLens b))[k]? = some (.int .i64 n) ∧ (S.legLens b)[k]? = some n ∧ 1 ≤ n ∧ n ≤ 262144 ∧ S.ptAt b (k + 1) = S.step (S.ptAt b k) (S.legsOf b.code)[k].2 n := by
  have hd : S.dimsOk b.dims = true := by simp only [S.bar, Bool.and_eq_true] at h; exact h.2
  have hl := bar_head h
  have h1 := legs_dim b.code hk
  have h2 : (S.legsOf b.code)[k].1 < b.dims.length := by omega
  have h3 := dim_bd hd h2
  have e : (S.legLens b)[k]? = some b.dims[(S.legsOf b.code)[k].1] := by
    simp [S.legLens, List.getElem?_eq_getElem hk, List.getD_eq_getElem?_getD, List.getElem?_eq_getElem h2]
  exact ⟨_, by simp [e], e, h3.1, h3.2, ptAt_succ b hk h2⟩
theorem Cells.pts {w : World} {B bb o : Nat} {l : List Pt} (h : Cells w B (some ⟨bb, o, none⟩) (l.flatMap ptC)) {k : Nat} {p : Pt} (hk : l[k]? = some p) :
    w.cell? ⟨bb, o + k * 3, none⟩ = some (.int .i64 p.x) ∧ w.cell? ⟨bb, o + k * 3 + 1, none⟩ = some (.int .i64 p.y) ∧ w.cell? ⟨bb, o + k * 3 + 2, none⟩ = some (.int .i64 p.z) := by
  obtain ⟨hk', rfl⟩ := List.getElem?_eq_some_iff.1 hk
  exact ⟨h.row0 ptC_len hk' rfl, h.rowj ptC_len hk' 1 rfl, h.rowj ptC_len hk' 2 rfl⟩
end Go.Proofs.YtffkmgjmlahfpaaGreat
namespace Go.Proofs.YtffkmgjmlahfpaaGreat
open Go.RowKit
def S.moves (b : Bar) : List Pt := (S.legsOf b.code).map fun l => S.step ⟨0, 0, 0⟩ l.2 (b.dims.getD l.1 0)
theorem moves_len (b : Bar) : (S.moves b).length = (S.legsOf b.code).length := by simp [S.moves]
def GivesPts (l : List Pt) (w : World) (e : Ending) (w' : World) : Prop :=
  ∃ A, e = .returned (.slice A l.length l.length) ∧ Cells w' w'.heap.size A (l.flatMap ptC) ∧ Below w.heap.size w w' ∧ w.heap.size < w'.heap.size
set_option maxRecDepth 100000 in
set_option maxHeartbeats 2000000 in
theorem rmoves_0 (mk : ByteArray) (sz ct : Int) (d0 : Int) (A : Option Addr) (c : Nat) (B : Nat) (w : World) (hB : B ≤ w.heap.size) (hA : BarAt w B A 1 ⟨mk, sz, ct, 0, [d0]⟩) (hd : 1 ≤ d0 ∧ d0 ≤ 262144) :
    Calls Tryz.prog 265 #[barV ⟨mk, sz, ct, 0, [d0]⟩ A 1 c] w (GivesPts (S.moves ⟨mk, sz, ct, 0, [d0]⟩) w) := by
  have hmv : S.moves ⟨mk, sz, ct, 0, [d0]⟩ = [⟨d0, 0, 0⟩] := by simp [S.moves, S.legsOf, S.step]
  obtain ⟨bd, od, rfl, hbd, hcd⟩ := hA.cells.at_ (by simp)
  have g0 := hcd 0 (.int .i64 d0) rfl
  simp only [Nat.add_zero] at g0
  rw [hmv]
  clear hcd hA hmv
  have hn0 : bd < w.heap.size := by omega
  unfold barV
  go_enter Tryz.func265, Tryz.ntmps265
  go_wp2
  go_ret
  refine ⟨some ⟨w.heap.size + 1, 0, none⟩, rfl, ?_, bel, by simp; omega⟩
  simpa using Cells.newRow (w.alloc (.cells #[.string mk, .int .i64 sz, .int .i64 ct, .int .i64 0, .slice (some ⟨bd, od, none⟩) 1 c] 158)) #[.int .i64 (d0), .int .i64 (0), .int .i64 (0)] 87 (0, 0)
set_option maxRecDepth 100000 in
set_option maxHeartbeats 2000000 in
theorem rmoves_11 (mk : ByteArray) (sz ct : Int) (d0 d1 : Int) (A : Option Addr) (c : Nat) (B : Nat) (w : World) (hB : B ≤ w.heap.size) (hA : BarAt w B A 2 ⟨mk, sz, ct, 11, [d0, d1]⟩) (hd : 1 ≤ d0 ∧ d0 ≤ 262144 ∧ 1 ≤ d1 ∧ d1 ≤ 262144) :
    Calls Tryz.prog 265 #[barV ⟨mk, sz, ct, 11, [d0, d1]⟩ A 2 c] w (GivesPts (S.moves ⟨mk, sz, ct, 11, [d0, d1]⟩) w) := by
  have hmv : S.moves ⟨mk, sz, ct, 11, [d0, d1]⟩ = [⟨d0, 0, 0⟩, ⟨0, d1, 0⟩] := by simp [S.moves, S.legsOf, S.step]
  obtain ⟨bd, od, rfl, hbd, hcd⟩ := hA.cells.at_ (by simp)
  have g0 := hcd 0 (.int .i64 d0) rfl
  have g1 := hcd 1 (.int .i64 d1) rfl
  simp only [Nat.add_zero] at g0
  rw [hmv]
  clear hcd hA hmv
  have hn0 : bd < w.heap.size := by omega
  unfold barV
  go_enter Tryz.func265, Tryz.ntmps265
  go_wp2
  refine wp_region_grow_tail 8 (by kernel_rfl) (by kernel_rfl) ?_
  simp only [List.take_succ_cons, List.take_zero, List.drop_succ_cons, List.drop_zero]
  repeat (go_big_quiet_step (fail))
  all_goals (refine wpQuiet_nil ?_; intro wg hbwg; obtain ⟨hcwg, hfwg⟩ := bcell hbwg; have hzwg_0 : w.heap.size < wg.heap.size := lt_via hbwg (by first | omega | (simp; done) | (simp; omega)))
  go_wp2
  go_ret
  refine ⟨some ⟨wg.heap.size, 0, none⟩, rfl, ?_, bel, by simp; omega⟩
  simpa using Cells.newRow wg #[.int .i64 (d0), .int .i64 (0), .int .i64 (0), .int .i64 (0), .int .i64 (d1), .int .i64 (0)] 87 (0, 0)
set_option maxRecDepth 100000 in
set_option maxHeartbeats 2000000 in
theorem rmoves_21 (mk : ByteArray) (sz ct : Int) (d0 d1 d2 : Int) (A : Option Addr) (c : Nat) (B : Nat) (w : World) (hB : B ≤ w.heap.size) (hA : BarAt w B A 3 ⟨mk, sz, ct, 21, [d0, d1, d2]⟩) (hd : 1 ≤ d0 ∧ d0 ≤ 262144 ∧ 1 ≤ d1 ∧ d1 ≤ 262144 ∧ 1 ≤ d2 ∧ d2 ≤ 262144) :
    Calls Tryz.prog 265 #[barV ⟨mk, sz, ct, 21, [d0, d1, d2]⟩ A 3 c] w (GivesPts (S.moves ⟨mk, sz, ct, 21, [d0, d1, d2]⟩) w) := by
  have hmv : S.moves ⟨mk, sz, ct, 21, [d0, d1, d2]⟩ = [⟨0, -d0, 0⟩, ⟨d1, 0, 0⟩, ⟨0, d2, 0⟩] := by simp [S.moves, S.legsOf, S.step]
  obtain ⟨bd, od, rfl, hbd, hcd⟩ := hA.cells.at_ (by simp)
  have g0 := hcd 0 (.int .i64 d0) rfl
  have g1 := hcd 1 (.int .i64 d1) rfl
  have g2 := hcd 2 (.int .i64 d2) rfl
  simp only [Nat.add_zero] at g0
  rw [hmv]
  clear hcd hA hmv
  have hn0 : bd < w.heap.size := by omega
  have hw0 : IntKind.i64.wrap (-d0) = -d0 := IntWalk.i64_in _ (by omega)
  unfold barV
  go_enter Tryz.func265, Tryz.ntmps265
  go_wp2
  refine wp_region_grow_tail 13 (by kernel_rfl) (by kernel_rfl) ?_
  simp only [List.take_succ_cons, List.take_zero, List.drop_succ_cons, List.drop_zero]
  repeat (go_big_quiet_step (fail))
  all_goals (refine wpQuiet_nil ?_; intro wg hbwg; obtain ⟨hcwg, hfwg⟩ := bcell hbwg; have hzwg_0 : w.heap.size < wg.heap.size := lt_via hbwg (by first | omega | (simp; done) | (simp; omega)))
  go_wp2
  go_ret
  refine ⟨some ⟨wg.heap.size, 0, none⟩, rfl, ?_, bel, by simp; omega⟩
  simpa using Cells.newRow wg #[.int .i64 (0), .int .i64 (-d0), .int .i64 (0), .int .i64 (d1), .int .i64 (0), .int .i64 (0), .int .i64 (0), .int .i64 (d2), .int .i64 (0)] 87 (0, 0)
set_option maxRecDepth 100000 in
set_option maxHeartbeats 2000000 in
theorem rmoves_26 (mk : ByteArray) (sz ct : Int) (d0 d1 d2 : Int) (A : Option Addr) (c : Nat) (B : Nat) (w : World) (hB : B ≤ w.heap.size) (hA : BarAt w B A 3 ⟨mk, sz, ct, 26, [d0, d1, d2]⟩) (hd : 1 ≤ d0 ∧ d0 ≤ 262144 ∧ 1 ≤ d1 ∧ d1 ≤ 262144 ∧ 1 ≤ d2 ∧ d2 ≤ 262144) :
    Calls Tryz.prog 265 #[barV ⟨mk, sz, ct, 26, [d0, d1, d2]⟩ A 3 c] w (GivesPts (S.moves ⟨mk, sz, ct, 26, [d0, d1, d2]⟩) w) := by
  have hmv : S.moves ⟨mk, sz, ct, 26, [d0, d1, d2]⟩ = [⟨d0, 0, 0⟩, ⟨0, d1, 0⟩, ⟨d2, 0, 0⟩] := by simp [S.moves, S.legsOf, S.step]
  obtain ⟨bd, od, rfl, hbd, hcd⟩ := hA.cells.at_ (by simp)
  have g0 := hcd 0 (.int .i64 d0) rfl
  have g1 := hcd 1 (.int .i64 d1) rfl
  have g2 := hcd 2 (.int .i64 d2) rfl
  simp only [Nat.add_zero] at g0
  rw [hmv]
  clear hcd hA hmv
  have hn0 : bd < w.heap.size := by omega
  unfold barV
  go_enter Tryz.func265, Tryz.ntmps265
  go_wp2
  refine wp_region_grow_tail 12 (by kernel_rfl) (by kernel_rfl) ?_
  simp only [List.take_succ_cons, List.take_zero, List.drop_succ_cons, List.drop_zero]
  repeat (go_big_quiet_step (fail))
  all_goals (refine wpQuiet_nil ?_; intro wg hbwg; obtain ⟨hcwg, hfwg⟩ := bcell hbwg; have hzwg_0 : w.heap.size < wg.heap.size := lt_via hbwg (by first | omega | (simp; done) | (simp; omega)))
  go_wp2
  go_ret
  refine ⟨some ⟨wg.heap.size, 0, none⟩, rfl, ?_, bel, by simp; omega⟩
  simpa using Cells.newRow wg #[.int .i64 (d0), .int .i64 (0), .int .i64 (0), .int .i64 (0), .int .i64 (d1), .int .i64 (0), .int .i64 (d2), .int .i64 (0), .int .i64 (0)] 87 (0, 0)
set_option maxRecDepth 100000 in
set_option maxHeartbeats 2000000 in
theorem rmoves_31 (mk : ByteArray) (sz ct : Int) (d0 d1 d2 : Int) (A : Option Addr) (c : Nat) (B : Nat) (w : World) (hB : B ≤ w.heap.size) (hA : BarAt w B A 3 ⟨mk, sz, ct, 31, [d0, d1, d2]⟩) (hd : 1 ≤ d0 ∧ d0 ≤ 262144 ∧ 1 ≤ d1 ∧ d1 ≤ 262144 ∧ 1 ≤ d2 ∧ d2 ≤ 262144) :
    Calls Tryz.prog 265 #[barV ⟨mk, sz, ct, 31, [d0, d1, d2]⟩ A 3 c] w (GivesPts (S.moves ⟨mk, sz, ct, 31, [d0, d1, d2]⟩) w) := by
  have hmv : S.moves ⟨mk, sz, ct, 31, [d0, d1, d2]⟩ = [⟨d0, 0, 0⟩, ⟨0, d1, 0⟩, ⟨0, 0, d2⟩] := by simp [S.moves, S.legsOf, S.step]
  obtain ⟨bd, od, rfl, hbd, hcd⟩ := hA.cells.at_ (by simp)
  have g0 := hcd 0 (.int .i64 d0) rfl
  have g1 := hcd 1 (.int .i64 d1) rfl
  have g2 := hcd 2 (.int .i64 d2) rfl
  simp only [Nat.add_zero] at g0
  rw [hmv]
  clear hcd hA hmv
  have hn0 : bd < w.heap.size := by omega
  unfold barV
  go_enter Tryz.func265, Tryz.ntmps265
  go_wp2
  refine wp_region_grow_tail 12 (by kernel_rfl) (by kernel_rfl) ?_
  simp only [List.take_succ_cons, List.take_zero, List.drop_succ_cons, List.drop_zero]
  repeat (go_big_quiet_step (fail))
  all_goals (refine wpQuiet_nil ?_; intro wg hbwg; obtain ⟨hcwg, hfwg⟩ := bcell hbwg; have hzwg_0 : w.heap.size < wg.heap.size := lt_via hbwg (by first | omega | (simp; done) | (simp; omega)))
  go_wp2
  go_ret
  refine ⟨some ⟨wg.heap.size, 0, none⟩, rfl, ?_, bel, by simp; omega⟩
  simpa using Cells.newRow wg #[.int .i64 (d0), .int .i64 (0), .int .i64 (0), .int .i64 (0), .int .i64 (d1), .int .i64 (0), .int .i64 (0), .int .i64 (0), .int .i64 (d2)] 87 (0, 0)
set_option maxRecDepth 100000 in
set_option maxHeartbeats 2000000 in
theorem rmoves_41 (mk : ByteArray) (sz ct : Int) (d0 d1 d2 d3 d4 : Int) (A : Option Addr) (c : Nat) (B : Nat) (w : World) (hB : B ≤ w.heap.size) (hA : BarAt w B A 5 ⟨mk, sz, ct, 41, [d0, d1, d2, d3, d4]⟩) (hd : 1 ≤ d0 ∧ d0 ≤ 262144 ∧ 1 ≤ d1 ∧ d1 ≤ 262144 ∧ 1 ≤ d2 ∧ d2 ≤ 262144 ∧ 1 ≤ d3 ∧ d3 ≤ 262144 ∧ 1 ≤ d4 ∧ d4 ≤ 262144) :
    Calls Tryz.prog 265 #[barV ⟨mk, sz, ct, 41, [d0, d1, d2, d3, d4]⟩ A 5 c] w (GivesPts (S.moves ⟨mk, sz, ct, 41, [d0, d1, d2, d3, d4]⟩) w) := by
  have hmv : S.moves ⟨mk, sz, ct, 41, [d0, d1, d2, d3, d4]⟩ = [⟨d0, 0, 0⟩, ⟨0, d1, 0⟩, ⟨d2, 0, 0⟩, ⟨0, -d3, 0⟩, ⟨d4, 0, 0⟩] := by simp [S.moves, S.legsOf, S.step]
  obtain ⟨bd, od, rfl, hbd, hcd⟩ := hA.cells.at_ (by simp)
  have g0 := hcd 0 (.int .i64 d0) rfl
  have g1 := hcd 1 (.int .i64 d1) rfl
  have g2 := hcd 2 (.int .i64 d2) rfl
  have g3 := hcd 3 (.int .i64 d3) rfl
  have g4 := hcd 4 (.int .i64 d4) rfl
  simp only [Nat.add_zero] at g0
  rw [hmv]
  clear hcd hA hmv
  have hn0 : bd < w.heap.size := by omega
  have hw0 : IntKind.i64.wrap (-d3) = -d3 := IntWalk.i64_in _ (by omega)
  unfold barV
  go_enter Tryz.func265, Tryz.ntmps265
  go_wp2
  refine wp_region_grow_tail 21 (by kernel_rfl) (by kernel_rfl) ?_
  simp only [List.take_succ_cons, List.take_zero, List.drop_succ_cons, List.drop_zero]
  repeat (go_big_quiet_step (fail))
  all_goals (refine wpQuiet_nil ?_; intro wg hbwg; obtain ⟨hcwg, hfwg⟩ := bcell hbwg; have hzwg_0 : w.heap.size < wg.heap.size := lt_via hbwg (by first | omega | (simp; done) | (simp; omega)))
  go_wp2
  go_ret
  refine ⟨some ⟨wg.heap.size, 0, none⟩, rfl, ?_, bel, by simp; omega⟩
  simpa using Cells.newRow wg #[.int .i64 (d0), .int .i64 (0), .int .i64 (0), .int .i64 (0), .int .i64 (d1), .int .i64 (0), .int .i64 (d2), .int .i64 (0), .int .i64 (0), .int .i64 (0), .int .i64 (-d3), .int .i64 (0), .int .i64 (d4), .int .i64 (0), .int .i64 (0)] 87 (0, 0)
set_option maxRecDepth 100000 in
set_option maxHeartbeats 2000000 in
theorem rmoves_51 (mk : ByteArray) (sz ct : Int) (d0 d1 d2 : Int) (A : Option Addr) (c : Nat) (B : Nat) (w : World) (hB : B ≤ w.heap.size) (hA : BarAt w B A 3 ⟨mk, sz, ct, 51, [d0, d1, d2]⟩) (hd : 1 ≤ d0 ∧ d0 ≤ 262144 ∧ 1 ≤ d1 ∧ d1 ≤ 262144 ∧ 1 ≤ d2 ∧ d2 ≤ 262144) :
    Calls Tryz.prog 265 #[barV ⟨mk, sz, ct, 51, [d0, d1, d2]⟩ A 3 c] w (GivesPts (S.moves ⟨mk, sz, ct, 51, [d0, d1, d2]⟩) w) := by
  have hmv : S.moves ⟨mk, sz, ct, 51, [d0, d1, d2]⟩ = [⟨0, -d2, 0⟩, ⟨d0, 0, 0⟩, ⟨0, d1, 0⟩, ⟨-d0, 0, 0⟩, ⟨0, -d1, 0⟩, ⟨d2, 0, 0⟩] := by simp [S.moves, S.legsOf, S.step]
  obtain ⟨bd, od, rfl, hbd, hcd⟩ := hA.cells.at_ (by simp)
  have g0 := hcd 0 (.int .i64 d0) rfl
  have g1 := hcd 1 (.int .i64 d1) rfl
  have g2 := hcd 2 (.int .i64 d2) rfl
  simp only [Nat.add_zero] at g0
  rw [hmv]
  clear hcd hA hmv
  have hn0 : bd < w.heap.size := by omega
  have hw0 : IntKind.i64.wrap (-d2) = -d2 := IntWalk.i64_in _ (by omega)
  have hw1 : IntKind.i64.wrap (-d0) = -d0 := IntWalk.i64_in _ (by omega)
  have hw2 : IntKind.i64.wrap (-d1) = -d1 := IntWalk.i64_in _ (by omega)
  unfold barV
  go_enter Tryz.func265, Tryz.ntmps265
  go_wp2
  refine wp_region_grow_tail 27 (by kernel_rfl) (by kernel_rfl) ?_
  simp only [List.take_succ_cons, List.take_zero, List.drop_succ_cons, List.drop_zero]
  repeat (go_big_quiet_step (fail))
  all_goals (refine wpQuiet_nil ?_; intro wg hbwg; obtain ⟨hcwg, hfwg⟩ := bcell hbwg; have hzwg_0 : w.heap.size < wg.heap.size := lt_via hbwg (by first | omega | (simp; done) | (simp; omega)))
  go_wp2
  go_ret
  refine ⟨some ⟨wg.heap.size, 0, none⟩, rfl, ?_, bel, by simp; omega⟩
  simpa using Cells.newRow wg #[.int .i64 (0), .int .i64 (-d2), .int .i64 (0), .int .i64 (d0), .int .i64 (0), .int .i64 (0), .int .i64 (0), .int .i64 (d1), .int .i64 (0), .int .i64 (-d0), .int .i64 (0), .int .i64 (0), .int .i64 (0), .int .i64 (-d1), .int .i64 (0), .int .i64 (d2), .int .i64 (0), .int .i64 (0)] 87 (0, 0)
set_option maxRecDepth 100000 in
set_option maxHeartbeats 2000000 in
theorem rmoves_98 (mk : ByteArray) (sz ct : Int) (d0 d1 d2 : Int) (A : Option Addr) (c : Nat) (B : Nat) (w : World) (hB : B ≤ w.heap.size) (hA : BarAt w B A 3 ⟨mk, sz, ct, 98, [d0, d1, d2]⟩) (hd : 1 ≤ d0 ∧ d0 ≤ 262144 ∧ 1 ≤ d1 ∧ d1 ≤ 262144 ∧ 1 ≤ d2 ∧ d2 ≤ 262144) :
    Calls Tryz.prog 265 #[barV ⟨mk, sz, ct, 98, [d0, d1, d2]⟩ A 3 c] w (GivesPts (S.moves ⟨mk, sz, ct, 98, [d0, d1, d2]⟩) w) := by
  have hmv : S.moves ⟨mk, sz, ct, 98, [d0, d1, d2]⟩ = [⟨0, 0, d0⟩, ⟨0, -d1, 0⟩, ⟨d2, 0, 0⟩, ⟨0, d1, 0⟩, ⟨0, 0, d0⟩] := by simp [S.moves, S.legsOf, S.step]
  obtain ⟨bd, od, rfl, hbd, hcd⟩ := hA.cells.at_ (by simp)
  have g0 := hcd 0 (.int .i64 d0) rfl
  have g1 := hcd 1 (.int .i64 d1) rfl
  have g2 := hcd 2 (.int .i64 d2) rfl
  simp only [Nat.add_zero] at g0
  rw [hmv]
  clear hcd hA hmv
  have hn0 : bd < w.heap.size := by omega
  have hw0 : IntKind.i64.wrap (-d1) = -d1 := IntWalk.i64_in _ (by omega)
  unfold barV
  go_enter Tryz.func265, Tryz.ntmps265
  go_wp2
  refine wp_region_grow_tail 21 (by kernel_rfl) (by kernel_rfl) ?_
  simp only [List.take_succ_cons, List.take_zero, List.drop_succ_cons, List.drop_zero]
  repeat (go_big_quiet_step (fail))
  all_goals (refine wpQuiet_nil ?_; intro wg hbwg; obtain ⟨hcwg, hfwg⟩ := bcell hbwg; have hzwg_0 : w.heap.size < wg.heap.size := lt_via hbwg (by first | omega | (simp; done) | (simp; omega)))
  go_wp2
  go_ret
  refine ⟨some ⟨wg.heap.size, 0, none⟩, rfl, ?_, bel, by simp; omega⟩
  simpa using Cells.newRow wg #[.int .i64 (0), .int .i64 (0), .int .i64 (d0), .int .i64 (0), .int .i64 (-d1), .int .i64 (0), .int .i64 (d2), .int .i64 (0), .int .i64 (0), .int .i64 (0), .int .i64 (d1), .int .i64 (0), .int .i64 (0), .int .i64 (0), .int .i64 (d0)] 87 (0, 0)
theorem rmoves_any (b : Bar) (A : Option Addr) (n c : Nat) (B : Nat) (w : World) (hB : B ≤ w.heap.size) (hA : BarAt w B A n b) (h : S.bar b = true) :
    Calls Tryz.prog 265 #[barV b A n c] w (GivesPts (S.moves b) w) := by
  obtain rfl := hA.len
  obtain ⟨mk, sz, ct, cd, ds⟩ := b
  rcases bar_codes h with ⟨hc, a, e, h1, h2⟩ | ⟨hc, a, a2, e, h1, h2, h3⟩ | ⟨hc, a, a2, a3, e, h1, h2, h3, h4⟩ | ⟨hc, a, a2, a3, a4, a5, e, h1, h2, h3, h4, h5, h6⟩
  · simp only [] at hc e
    subst hc e
    exact rmoves_0 mk sz ct a A c B w hB hA (by omega)
  · simp only [] at hc e
    subst hc e
    exact rmoves_11 mk sz ct a a2 A c B w hB hA (by omega)
  · simp only [] at hc e
    rcases hc with hc | hc | hc | hc | hc <;> subst hc e
    · exact rmoves_21 mk sz ct a a2 a3 A c B w hB hA (by omega)
    · exact rmoves_26 mk sz ct a a2 a3 A c B w hB hA (by omega)
    · exact rmoves_31 mk sz ct a a2 a3 A c B w hB hA (by omega)
    · exact rmoves_51 mk sz ct a a2 a3 A c B w hB hA (by omega)
    · exact rmoves_98 mk sz ct a a2 a3 A c B w hB hA (by omega)
  · simp only [] at hc e
    subst hc e
    exact rmoves_41 mk sz ct a a2 a3 a4 a5 A c B w hB hA (by omega)
def S.abs (n : Int) : Int := if n < 0 then 0 - n else n
end Go.Proofs.YtffkmgjmlahfpaaGreat
namespace Go.Proofs.YtffkmgjmlahfpaaGreat
open Go.RowKit
def S.ptBox (p : Pt) : Bx := ⟨p, p⟩
theorem join_self (p : Pt) : S.join (S.ptBox p) (S.ptBox p) = S.ptBox p := by simp [S.join, S.ptBox]
theorem hull_one (p : Pt) : S.hull (S.ptBox p) [S.ptBox p] = S.ptBox p := join_self p
set_option maxRecDepth 100000 in
set_option maxHeartbeats 2000000 in
theorem rhull_any (A : Option Addr) (n c : Nat) (ps : List Pt) (p0 : Pt) (B : Nat) (w : World) (hn : ps.length = n) (hm : n ≤ 1000000) (hB : B ≤ w.heap.size) (hs : Cells w B A (ps.flatMap ptC)) (h0 : ps[0]? = some p0) :
    Calls Tryz.prog 157 #[.slice A n c] w fun e w' => e = .returned (boxV (S.hull (S.ptBox p0) (ps.map S.ptBox))) ∧ Below w.heap.size w w' := by
  have hn0 : 0 < n := by have := (List.getElem?_eq_some_iff.1 h0).1; omega
  have hni : (0 : Int) < (n : Int) := by omega
  have HN := Lib.hid hn
  have HS := Lib.hid hs
  have hh1 : (ps.map S.ptBox).take 1 = [S.ptBox p0] := by
    obtain ⟨x, l, rfl⟩ : ∃ x l, ps = x :: l := by cases ps with
      | nil => simp at h0
      | cons x l => exact ⟨x, l, rfl⟩
    simp at h0
    subst h0
    simp
  have HH1 := Lib.hid hh1
  obtain ⟨b, o, rfl, hb, _⟩ := hs.at_ (by rw [flat_len ptC 3 ptC_len]; omega)
  obtain ⟨c0, c1, c2⟩ := hs.pts h0
  simp only [Nat.zero_mul, Nat.add_zero] at c0 c1 c2
  have hbw : b < w.heap.size := by omega
  clear hn hs h0 hh1
  go_enter Tryz.func157, Tryz.ntmps157
  go_wp2
  go_region
  go_wp2
  have hW : Below w.heap.size w ((w.alloc (.cells #[.int .i64 0, .int .i64 0, .int .i64 0, .int .i64 0, .int .i64 0, .int .i64 0] 89)).alloc (.cells #[.int .i64 p0.x, .int .i64 p0.y, .int .i64 p0.z, .int .i64 p0.x, .int .i64 p0.y, .int .i64 p0.z] 89)).drew := bel
  have hK0 : Blk ((w.alloc (.cells #[.int .i64 0, .int .i64 0, .int .i64 0, .int .i64 0, .int .i64 0, .int .i64 0] 89)).alloc (.cells #[.int .i64 p0.x, .int .i64 p0.y, .int .i64 p0.z, .int .i64 p0.x, .int .i64 p0.y, .int .i64 p0.z] 89)).drew (w.heap.size + 1) 89 #[.int .i64 p0.x, .int .i64 p0.y, .int .i64 p0.z, .int .i64 p0.x, .int .i64 p0.y, .int .i64 p0.z] := by
    have h6 : Blk ((w.alloc (.cells #[.int .i64 0, .int .i64 0, .int .i64 0, .int .i64 0, .int .i64 0, .int .i64 0] 89)).alloc (.cells #[.int .i64 p0.x, .int .i64 p0.y, .int .i64 p0.z, .int .i64 p0.x, .int .i64 p0.y, .int .i64 p0.z] 89)) (w.heap.size + 1) 89 #[.int .i64 p0.x, .int .i64 p0.y, .int .i64 p0.z, .int .i64 p0.x, .int .i64 p0.y, .int .i64 p0.z] := by simpa using Blk.new (w.alloc (.cells #[.int .i64 0, .int .i64 0, .int .i64 0, .int .i64 0, .int .i64 0, .int .i64 0] 89)) 89 #[.int .i64 p0.x, .int .i64 p0.y, .int .i64 p0.z, .int .i64 p0.x, .int .i64 p0.y, .int .i64 p0.z]
    exact h6
  have hR0 : Blk ((w.alloc (.cells #[.int .i64 0, .int .i64 0, .int .i64 0, .int .i64 0, .int .i64 0, .int .i64 0] 89)).alloc (.cells #[.int .i64 p0.x, .int .i64 p0.y, .int .i64 p0.z, .int .i64 p0.x, .int .i64 p0.y, .int .i64 p0.z] 89)).drew w.heap.size 89 #[.int .i64 0, .int .i64 0, .int .i64 0, .int .i64 0, .int .i64 0, .int .i64 0] := (Blk.new w _ _).alloc _
  have hC1 := HS.out.below (hW.mono hB)
  have hzW : ((w.alloc (.cells #[.int .i64 0, .int .i64 0, .int .i64 0, .int .i64 0, .int .i64 0, .int .i64 0] 89)).alloc (.cells #[.int .i64 p0.x, .int .i64 p0.y, .int .i64 p0.z, .int .i64 p0.x, .int .i64 p0.y, .int .i64 p0.z] 89)).drew.heap.size = w.heap.size + 2 := by simp
  have HR0 := Lib.hid hR0
  clear c0 c1 c2 hR0
  generalize ((w.alloc (.cells #[.int .i64 0, .int .i64 0, .int .i64 0, .int .i64 0, .int .i64 0, .int .i64 0] 89)).alloc (.cells #[.int .i64 p0.x, .int .i64 p0.y, .int .i64 p0.z, .int .i64 p0.x, .int .i64 p0.y, .int .i64 p0.z] 89)).drew = W1 at *
  go_loopw [4] (fun i wr => ∃ k : Nat, 1 ≤ k ∧ k ≤ n ∧ i = .int .i64 k ∧ Blk wr (w.heap.size + 1) 89 #[.int .i64 (S.hull (S.ptBox p0) ((ps.map S.ptBox).take k)).lo.x, .int .i64 (S.hull (S.ptBox p0) ((ps.map S.ptBox).take k)).lo.y, .int .i64 (S.hull (S.ptBox p0) ((ps.map S.ptBox).take k)).lo.z, .int .i64 (S.hull (S.ptBox p0) ((ps.map S.ptBox).take k)).hi.x, .int .i64 (S.hull (S.ptBox p0) ((ps.map S.ptBox).take k)).hi.y, .int .i64 (S.hull (S.ptBox p0) ((ps.map S.ptBox).take k)).hi.z] ∧ Exc [w.heap.size + 1] W1 wr) (fun i _ => n - (intOf i).toNat)
  case atStart => exact ⟨1, Nat.le_refl _, by omega, rfl, by rw [HH1.out, hull_one]; exact hK0, Exc.refl _ _⟩
  case round =>
    obtain ⟨k, hk1, hk, rfl, hK, hX⟩ := hrel
    have hsz := hX.size
    have hgr := hK.lt
    have k0 := hK.cell 0
    have k1 := hK.cell 1
    have k2 := hK.cell 2
    have k3 := hK.cell 3
    have k4 := hK.cell 4
    have k5 := hK.cell 5
    have f0 := hK.frozen 0
    have f1 := hK.frozen 1
    have f2 := hK.frozen 2
    have f3 := hK.frozen 3
    have f4 := hK.frozen 4
    have f5 := hK.frozen 5
    simp only [List.getElem?_toArray, List.getElem?_cons_zero, List.getElem?_cons_succ] at k0 k1 k2 k3 k4 k5
    by_cases hlt : k < n
    · have hkx : k < ps.length := by have := HN.out; omega
      obtain ⟨c0, c1, c2⟩ := (hC1.below (hX.below (by have := hW.size; omega) (by intro x hx; simp at hx; omega))).pts (List.getElem?_eq_getElem hkx)
      have HT := Lib.hid (show S.hull (S.ptBox p0) ((ps.map S.ptBox).take (k + 1)) = S.join (S.hull (S.ptBox p0) ((ps.map S.ptBox).take k)) (S.ptBox ps[k]) by rw [List.take_succ_eq_append_getElem (by simpa using hkx), hull_snoc, List.getElem_map])
      have hbr : b < wr.heap.size := by omega
      generalize (S.hull (S.ptBox p0) ((ps.map S.ptBox).take k)) = Hk at *
      generalize ps[k] = Y at *
      have hki : (k : Int) < (n : Int) := by omega
      go_wp2
      go_roundw
      case rel =>
        refine ⟨k + 1, by omega, by omega, by go_num, ?_, ?_⟩
        · rw [HT.out]
          have h6 := ((((((hK.set 0 (.int .i64 (S.join Hk (S.ptBox Y)).lo.x)).set 1 (.int .i64 (S.join Hk (S.ptBox Y)).lo.y)).set 2 (.int .i64 (S.join Hk (S.ptBox Y)).lo.z)).set 3 (.int .i64 (S.join Hk (S.ptBox Y)).hi.x)).set 4 (.int .i64 (S.join Hk (S.ptBox Y)).hi.y)).set 5 (.int .i64 (S.join Hk (S.ptBox Y)).hi.z)).alloc (.cells #[.int .i64 Y.x, .int .i64 Y.y, .int .i64 Y.z] 87)
          simp only [List.setIfInBounds_toArray, List.set_cons_zero, List.set_cons_succ] at h6
          exact h6
        · exact ((((((hX.set (.inl (by simp)) _).set (.inl (by simp)) _).set (.inl (by simp)) _).set (.inl (by simp)) _).set (.inl (by simp)) _).set (.inl (by simp)) _).alloc _
      case measure => simp [intOf]; omega
    · have he : k = n := by omega
      subst he
      have ht : (ps.map S.ptBox).take k = ps.map S.ptBox := List.take_of_length_le (by have := HN.out; simp; omega)
      rw [ht] at k0 k1 k2 k3 k4 k5
      have hRr : Blk wr w.heap.size 89 #[.int .i64 0, .int .i64 0, .int .i64 0, .int .i64 0, .int .i64 0, .int .i64 0] := (hX.block w.heap.size (by omega) (by simp)).trans HR0.out
      have z0 := hRr.cell 0
      have z1 := hRr.cell 1
      have z2 := hRr.cell 2
      have z3 := hRr.cell 3
      have z4 := hRr.cell 4
      have z5 := hRr.cell 5
      have y0 := hRr.frozen 0
      have y1 := hRr.frozen 1
      have y2 := hRr.frozen 2
      have y3 := hRr.frozen 3
      have y4 := hRr.frozen 4
      have y5 := hRr.frozen 5
      simp only [List.getElem?_toArray, List.getElem?_cons_zero, List.getElem?_cons_succ] at z0 z1 z2 z3 z4 z5
      have hrl := hRr.lt
      have hbel : Below w.heap.size w wr := hW.trans (hX.below (by omega) (by intro x hx; simp at hx; omega))
      clear hRr
      generalize hH : S.hull (S.ptBox p0) (ps.map S.ptBox) = Hk at *
      have HH := Lib.hid hH
      clear hH
      go_wp2
      exact bodyPost_ret (v := boxV Hk) (by simp [results, Tryz.results157, go_sem, *]) rfl ⟨by rw [HH.out], ((((((hbel.setCell (Nat.le_refl _) _).setCell (Nat.le_refl _) _).setCell (Nat.le_refl _) _).setCell (Nat.le_refl _) _).setCell (Nat.le_refl _) _).setCell (Nat.le_refl _) _)⟩
end Go.Proofs.YtffkmgjmlahfpaaGreat
namespace Go.Proofs.YtffkmgjmlahfpaaGreat
open Go.RowKit
def S.poor (xs : List Bx) (leg : Bx) : Bool := decide (250 < leg.lo.z - (S.hull (xs.headD ⟨⟨0, 0, 0⟩, ⟨0, 0, 0⟩⟩) xs).lo.z)
theorem hull_lo_in (a : Bx) (l : List Bx) (h0 : -1048576 ≤ a.lo.z ∧ a.lo.z ≤ 1048576) (h : ∀ b, b ∈ l → -1048576 ≤ b.lo.z ∧ b.lo.z ≤ 1048576) : -1048576 ≤ (S.hull a l).lo.z ∧ (S.hull a l).lo.z ≤ 1048576 := by
  induction l generalizing a with
  | nil => exact h0
  | cons x l ih =>
    have e : S.hull a (x :: l) = S.hull (S.join a x) l := rfl
    rw [e]
    refine ih _ ?_ (fun b hb => h b (List.mem_cons_of_mem _ hb))
    have hx := h x List.mem_cons_self
    simp only [S.join]
    split <;> omega
theorem boxOk_z {b : Bx} (h : S.boxOk b = true) : -1048576 ≤ b.lo.z ∧ b.lo.z ≤ b.hi.z ∧ b.hi.z ≤ 1048576 := by
  simp only [S.boxOk, S.okAx, Bool.and_eq_true, decide_eq_true_eq] at h
  omega
theorem boxes_ok {xs : List Bx} (h : anyb xs S.boxNot = false) : ∀ b, b ∈ xs → S.boxOk b = true := by
  intro b hb
  unfold anyb at h
  rw [List.any_eq_false] at h
  have := h b hb
  simpa [S.boxNot] using this
theorem poor_yes (m : Mem) (leg : Bx) (A : Option Addr) (n c : Nat) (A' : Option Addr) (n' c' : Nat) (B : Nat) (w : World) (hB : B ≤ w.heap.size) (hA : SolAt w B A n A' n' m.boxes m.holes) (h : S.solid m.boxes m.holes = true) (hl : S.boxOk leg = true) :
    Calls Tryz.prog 125 #[memV m A n c A' n' c', boxV leg] w fun e w' => e = .returned (.bool (S.poor m.boxes leg)) ∧ Below w.heap.size w w' := by
  have HA := Lib.hid hA
  obtain ⟨hok, hlen⟩ := solid_ok h
  have h0 : m.boxes[0]? = some (m.boxes.headD ⟨⟨0, 0, 0⟩, ⟨0, 0, 0⟩⟩) := by
    cases hb : m.boxes with
    | nil => rw [hb] at hlen; simp at hlen
    | cons x l => rfl
  have hz := boxOk_z hl
  have hin := hull_lo_in (m.boxes.headD ⟨⟨0, 0, 0⟩, ⟨0, 0, 0⟩⟩) m.boxes (by have := boxOk_z (boxes_ok hok _ (List.mem_of_getElem? h0)); omega) (fun b hb => by have := boxOk_z (boxes_ok hok b hb); omega)
  have HP := Lib.hid (show S.poor m.boxes leg = decide (250 < leg.lo.z - (S.hull (m.boxes.headD ⟨⟨0, 0, 0⟩, ⟨0, 0, 0⟩⟩) m.boxes).lo.z) from rfl)
  have HH := Lib.hid (fun (W : World) (hw : B ≤ W.heap.size) (hh : SolAt W B A n A' n' m.boxes m.holes) => shull_yes A n c A' n' c' m.boxes m.holes _ B W hw hh h h0 hok)
  clear hA
  generalize S.hull (m.boxes.headD ⟨⟨0, 0, 0⟩, ⟨0, 0, 0⟩⟩) m.boxes = X at *
  have e1 : IntKind.i64.wrap (leg.lo.z - X.lo.z) = leg.lo.z - X.lo.z := IntWalk.i64_in _ (by omega)
  unfold memV boxV
  go_enter Tryz.func125, Tryz.ntmps125
  go_wp2_with (go_at_call 191; (with_reducible refine (HH.out _ (size_via hB bel) (SolAt.at_ HA.out hB bel)).mono ?_); rintro e w1 ⟨rfl, hbw1⟩; obtain ⟨hcw1, hfw1⟩ := bcell hbw1; have hzw1_0 : w.heap.size < w1.heap.size := lt_via hbw1 (by first | omega | (simp; done) | (simp; omega)); have hzw1_1 : w.heap.size + 1 < w1.heap.size := lt_via hbw1 (by first | omega | (simp; done) | (simp; omega)))
  go_ret
  exact ⟨ret_b HP.out.symm, bel⟩
end Go.Proofs.YtffkmgjmlahfpaaGreat
namespace Go.Proofs.YtffkmgjmlahfpaaGreat
open Go.RowKit
theorem take_lens (b : Bar) {k : Nat} (hk : k < (S.legsOf b.code).length) (hj : (S.legsOf b.code)[k].1 < b.dims.length) :
    i64s ((S.legLens b).take (k + 1)) = i64s ((S.legLens b).take k) ++ [.int .i64 b.dims[(S.legsOf b.code)[k].1]] := by
  have hk' : k < (S.legLens b).length := by simpa [S.legLens] using hk
  rw [List.take_succ_eq_append_getElem hk', i64s, List.map_append]
  simp [S.legLens, List.getD_eq_getElem?_getD, List.getElem?_eq_getElem hj]
set_option maxHeartbeats 2000000 in
theorem legs_yes (b : Bar) (A : Option Addr) (n c : Nat) (B : Nat) (w : World) (hB : B ≤ w.heap.size) (hA : BarAt w B A n b) (h : S.bar b = true) :
    Calls Tryz.prog 218 #[barV b A n c] w (GivesRow 3 1 (S.legsOf b.code).length (i64s (S.legLens b)) 0 w) := by
  have HA := Lib.hid (hA.below ((Below.refl B w).alloc hB (.cells #[.string b.mark, .int .i64 b.size, .int .i64 b.count, .int .i64 b.code, .slice A n c] 158)))
  have hcl := hA.cells
  have HN := Lib.hid hA.len
  have HD := Lib.hid (bar_head h)
  have hmx := hA.max
  have hl6 := legs_len b.code
  clear hA
  unfold barV
  go_enter Tryz.func218, Tryz.ntmps218
  go_wp2_with (first
    | (go_at_call 215; (with_reducible refine (valid_any b A n c B _ (by simp; omega) HA.out).mono ?_); rintro e w1 ⟨rfl, hbw1⟩; obtain ⟨hcw1, hfw1⟩ := bcell hbw1; have hzw1_0 : w.heap.size < w1.heap.size := lt_via hbw1 (by first | omega | (simp; done) | (simp; omega)))
    | (go_at_call 248; (with_reducible refine (legs_any b.code _).mono ?_); rintro e w2 ⟨A2, rfl, hs, hb2, _⟩; obtain ⟨hcw2, hfw2⟩ := bcell hb2; have hz2 : w.heap.size < w2.heap.size := lt_via hb2 (by omega)))
  have hbw : Below w.heap.size w w2 := bel
  have hcl2 := hcl.below (hbw.mono hB)
  go_loopw [4, 14] (fun v i wr => ∃ (k : Nat) (A3 : Option Addr) (c3 : Nat), k ≤ (S.legsOf b.code).length ∧ i = .int .i64 k ∧ v = .slice A3 k c3 ∧ Row w2 wr none w.heap.size 3 1 (.slice A3 k c3) k (i64s ((S.legLens b).take k)) ∧ Exc [] w2 wr) (fun _ i _ => (S.legsOf b.code).length - (intOf i).toNat)
  case atStart => exact ⟨0, none, 0, Nat.zero_le _, rfl, rfl, Row.none_ _ _ _ _, Exc.refl _ _⟩
  case round =>
    obtain ⟨k, A3, c3, hk, rfl, rfl, hR, hX⟩ := hrel
    by_cases hlt : k < (S.legsOf b.code).length
    · have hbx : Below w2.heap.size w2 wr := hX.below (Nat.le_refl _) (by simp)
      have hs' := hs.below hbx
      obtain ⟨b4, o4, rfl, hbl, _⟩ := hs'.at_ (by rw [flat_len legC 2 legC_len]; omega)
      have c0 := hs'.row0 legC_len hlt rfl
      have c1 := hs'.rowj legC_len hlt 1 rfl
      have hj : (S.legsOf b.code)[k].1 < n := by have := legs_dim b.code hlt; have := HN.out; have := HD.out; omega
      have hjd : (S.legsOf b.code)[k].1 < b.dims.length := by have := HN.out; omega
      have hcl3 := hcl2.below (hbx.mono (Nat.le_trans hB hbw.size))
      obtain ⟨bd, od, rfl, hbd, hcd⟩ := hcl3.at_ (by simp; omega)
      have hck := hcd _ _ (i64s_get hjd)
      clear hcd
      obtain ⟨hcr, hfr⟩ := bcell hbx
      have hbd2 : bd < wr.heap.size := by have := hbx.size; have := hbw.size; omega
      have hbl2 : b4 < wr.heap.size := by have := hbx.size; omega
      have hz3 : w.heap.size < wr.heap.size := lt_via hbx hz2
      have HT := Lib.hid (take_lens b hlt hjd)
      have hk6 : k ≤ 6 := by omega
      go_wp2_with (at_builtin; refine wpList_push rfl (.tmp 18) (.tmp 25) _ rfl elemInt ((hR.alloc _).alloc _) ((hX.alloc _).alloc _) (by simp) hbw.size rfl (wr.heap.size + 1) 1 1 [.int .i64 b.dims[(S.legsOf b.code)[k].1]] rfl rfl ?_ (by simp [Value.oneCell']) (by unfold maxLen; omega) (by omega) ?_; (· simp); intro v' w' hR' hX' hO'; clear hcr hfr)
      obtain ⟨A5, c5, rfl, _, _, _⟩ := own_form hR'.own
      go_roundw
      case rel => exact ⟨k + 1, A5, c5, by omega, by go_num, rfl, by rw [HT.out]; exact hR', hX'⟩
      case measure => simp [intOf]; omega
    · have he : k = (S.legsOf b.code).length := by omega
      have ht : (S.legLens b).take k = S.legLens b := List.take_of_length_le (by simp [S.legLens]; omega)
      have HE := Lib.hid he
      have HT := Lib.hid ht
      clear he ht
      go_wp2
      go_ret2
      refine ⟨A3, c3, by rw [HE.out]; rfl, ?_, ?_⟩
      · have := hR.own
        rw [HT.out] at this
        rwa [HE.out] at this
      · exact ba_via (hX.below (Nat.le_refl _) (by simp)) hbw
end Go.Proofs.YtffkmgjmlahfpaaGreat
