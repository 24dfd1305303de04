/- The walk of ShapeEnds, one for each code (printed by tools/gen_ends.py). -/
import Derived.Test.YtpjdepnbeendcaaOpenB
import Derived.BigRegion
set_option linter.unusedVariables false
set_option linter.unusedSimpArgs false
namespace Go.Proofs.Ytpjdepnbeendcaa
open Go.RowKit
theorem ends_long (b : Bar) (A : Option Addr) (n c : Nat) (B : Nat) (w : World) (hB : B ≤ w.heap.size) (hA : BarAt w B A n b) (hs : S.short b = false) :
    Calls Try.prog 4 #[barV b A n c] w fun e w' => e = .returned (.bool true) ∧ Below w.heap.size w w' := by
  have hln := hA.len
  have hmx := hA.max
  have hmk := hA.mark
  unfold barV
  go_enter Try.func4, Try.ntmps4
  go_wp2_with (first
    | (go_at_call 17; (with_reducible refine (awake12_any _).mono ?_); rintro e w1 ⟨rfl, hbw1⟩; obtain ⟨hcw1, hfw1⟩ := bcell hbw1; have hzw1_0 : w.heap.size < w1.heap.size := lt_via hbw1 (by first | omega | (simp; done) | (simp; omega)))
    | (go_at_call 18; (with_reducible refine (short_any b A n c _ hln hmx hmk).mono ?_); rintro e w2 ⟨rfl, hbw2⟩; obtain ⟨hcw2, hfw2⟩ := bcell hbw2; have hzw2_0 : w.heap.size < w2.heap.size := lt_via hbw2 (by first | omega | (simp; done) | (simp; omega))))
  go_ret
  exact ⟨rfl, (by repeat (first | exact Below.refl _ _ | assumption | refine ba_alloc ?_ _ | refine ba_drew ?_ | refine ba_drewN ?_ _ | refine ba_via (by assumption) ?_ | (refine ba_set ?_ ?_ _; rotate_left; (first | omega | (simp; omega) | simp))))⟩
set_option maxRecDepth 100000 in
set_option maxHeartbeats 2000000 in
theorem ends_no (b : Bar) (A : Option Addr) (n c : Nat) (B : Nat) (w : World) (hB : B ≤ w.heap.size) (hA : BarAt w B A n b) (hs : S.short b = true) (h : S.bar b = false) :
    Calls Try.prog 4 #[barV b A n c] w fun e w' => e = .returned (.bool true) ∧ Below w.heap.size w w' := by
  have hln := hA.len
  have hmx := hA.max
  have hmk := hA.mark
  have HA := Lib.hid hA
  clear hA
  unfold barV
  go_enter Try.func4, Try.ntmps4
  go_wp2_with (first
    | (go_at_call 17; (with_reducible refine (awake12_any _).mono ?_); rintro e w1 ⟨rfl, hbw1⟩; obtain ⟨hcw1, hfw1⟩ := bcell hbw1; have hzw1_0 : w.heap.size < w1.heap.size := lt_via hbw1 (by first | omega | (simp; done) | (simp; omega)))
    | (go_at_call 18; (with_reducible refine (short_any b A n c _ hln hmx hmk).mono ?_); rintro e w2 ⟨rfl, hbw2⟩; obtain ⟨hcw2, hfw2⟩ := bcell hbw2; have hzw2_0 : w.heap.size < w2.heap.size := lt_via hbw2 (by first | omega | (simp; done) | (simp; omega)))
    | (go_at_call 20; (with_reducible refine (path_no b A n c B _ (by omega) (BarAt.at_ HA.out hB (by repeat (first | exact Below.refl _ _ | assumption | refine ba_alloc ?_ _ | refine ba_drew ?_ | refine ba_drewN ?_ _ | refine ba_via (by assumption) ?_ | (refine ba_set ?_ ?_ _; rotate_left; (first | omega | (simp; omega) | simp))))) h).mono ?_); rintro e w4 ⟨Aw4, cw4, rfl, how4, hbw4⟩; obtain ⟨hcw4, hfw4⟩ := bcell hbw4; have hzw4_0 : w.heap.size < w4.heap.size := lt_via hbw4 (by first | omega | (simp; done) | (simp; omega))))
  go_ret
  exact ⟨rfl, (by repeat (first | exact Below.refl _ _ | assumption | refine ba_alloc ?_ _ | refine ba_drew ?_ | refine ba_drewN ?_ _ | refine ba_via (by assumption) ?_ | (refine ba_set ?_ ?_ _; rotate_left; (first | omega | (simp; omega) | simp))))⟩
theorem dims_is (code : Int) (n : Int) (w : World) (h : S.dimsOf code = n) (h0 : S.dimsErr code = 0) :
    Calls Try.prog 23 #[.int .i64 code] w fun e w' => e = .returned (.tuple #[.int .i64 n, .int .i64 0]) ∧ Below w.heap.size w w' := by
  have := dims_any code w
  rw [h, h0] at this
  exact this
theorem path_end (b : Bar) (A : Option Addr) (n c : Nat) (B : Nat) (w : World) (L : Nat) (x y z : Int) (hL : (S.legsOf b.code).length = L) (he : S.ptAt b L = ⟨x, y, z⟩) (hB : B ≤ w.heap.size) (hA : BarAt w B A n b) (h : S.bar b = true) :
    Calls Try.prog 20 #[barV b A n c] w fun e w' => ∃ b4 o4 c4, e = .returned (.tuple #[.slice (some ⟨b4, o4, none⟩) (L + 1) c4, .int .i64 0]) ∧ b4 < w'.heap.size ∧
      w'.cell? ⟨b4, o4 + L * 3, none⟩ = some (.int .i64 x) ∧ w'.cell? ⟨b4, o4 + L * 3 + 1, none⟩ = some (.int .i64 y) ∧ w'.cell? ⟨b4, o4 + L * 3 + 2, none⟩ = some (.int .i64 z) ∧ Below w.heap.size w w' := by
  refine (path_yesL b A n c B w L hL hB hA h).mono ?_
  rintro e w' ⟨A4, c4, rfl, ho, hb⟩
  have hl6 := legs_len b.code
  obtain ⟨hs4, _, _⟩ := own_cells ho
  obtain ⟨b4, o4, rfl, hb4, _⟩ := hs4.at_ (by rw [flat_len ptC 3 ptC_len, path_length]; omega)
  have hp := path_get b (k := L) (by omega)
  rw [he] at hp
  obtain ⟨px, py, pz⟩ := hs4.pts hp
  exact ⟨b4, o4, c4, rfl, hb4, px, py, pz, hb⟩

set_option maxRecDepth 100000 in
set_option maxHeartbeats 4000000 in
theorem ends_0 (mk : ByteArray) (sz ct : Int) (d0 : Int) (A : Option Addr) (c : Nat) (B : Nat) (w : World) (hB : B ≤ w.heap.size) (hA : BarAt w B A 1 ⟨mk, sz, ct, 0, [d0]⟩) (hs : S.short ⟨mk, sz, ct, 0, [d0]⟩ = true) (h : S.bar ⟨mk, sz, ct, 0, [d0]⟩ = true)
    (hd : 1 ≤ d0 ∧ d0 ≤ 262144) :
    Calls Try.prog 4 #[barV ⟨mk, sz, ct, 0, [d0]⟩ A 1 c] w fun e w' => e = .returned (.bool true) ∧ Below w.heap.size w w' := by
  have hmk := hA.mark
  have HA := Lib.hid hA
  have HB := Lib.hid h
  obtain ⟨bd, od, rfl, hbd, hcd⟩ := hA.cells.at_ (by simp)
  have g0 := hcd 0 (.int .i64 d0) rfl
  simp only [Nat.add_zero] at g0
  clear hcd hA h
  have hn0 : bd < w.heap.size := by omega
  unfold barV
  go_enter Try.func4, Try.ntmps4
  go_wp2_with (first
    | (go_at_call 17; (with_reducible refine (awake12_any _).mono ?_); rintro e w1 ⟨rfl, hbw1⟩; obtain ⟨hcw1, hfw1⟩ := bcell hbw1; have hzw1_0 : w.heap.size < w1.heap.size := lt_via hbw1 (by first | omega | (simp; done) | (simp; omega)))
    | (go_at_call 18; (with_reducible refine (short_any ⟨mk, sz, ct, 0, [d0]⟩ (some ⟨bd, od, none⟩) 1 c _ rfl (by decide) hmk).mono ?_); rintro e w2 ⟨rfl, hbw2⟩; obtain ⟨hcw2, hfw2⟩ := bcell hbw2; have hzw2_0 : w.heap.size < w2.heap.size := lt_via hbw2 (by first | omega | (simp; done) | (simp; omega)))
    | (go_at_call 20; (with_reducible refine (path_end ⟨mk, sz, ct, 0, [d0]⟩ (some ⟨bd, od, none⟩) 1 c B _ 1 (d0) (0) (0) rfl (by simp [S.ptAt, S.legsOf, S.step]; try omega) (by omega) (BarAt.at_ HA.out hB (by repeat (first | exact Below.refl _ _ | assumption | refine ba_alloc ?_ _ | refine ba_drew ?_ | refine ba_drewN ?_ _ | refine ba_via (by assumption) ?_ | (refine ba_set ?_ ?_ _; rotate_left; (first | omega | (simp; omega) | simp))))) HB.out).mono ?_); rintro e w4 ⟨b4, o4, c4, rfl, hb4, px, py, pz, hbw4⟩; obtain ⟨hcw4, hfw4⟩ := bcell hbw4; have hzw4_0 : w.heap.size < w4.heap.size := lt_via hbw4 (by first | omega | (simp; done) | (simp; omega)); simp only [Nat.reduceMul, Nat.reduceAdd, Nat.add_assoc] at px py pz)
    | (go_at_call 23; (with_reducible refine (dims_is _ 1 _ rfl rfl).mono ?_); rintro e w5 ⟨rfl, hbw5⟩; obtain ⟨hcw5, hfw5⟩ := bcell hbw5; have hzw5_0 : w.heap.size < w5.heap.size := lt_via hbw5 (by first | omega | (simp; done) | (simp; omega))))
  have hb5 : b4 < w5.heap.size := lt_via hbw5 (by omega)
  have py' : w4.cell? ⟨b4, o4 + 3 + 1, none⟩ = _ := py
  have pz' : w4.cell? ⟨b4, o4 + 3 + 2, none⟩ = _ := pz
  have hwl : IntKind.i64.wrap 1 = 1 := by decide
  go_region
  all_goals
    go_wp2
    have hB6 : Below w.heap.size w (w5.alloc (.cells #[.int .i64 (d0), .int .i64 (0), .int .i64 (0)] 34)) := (by repeat (first | exact Below.refl _ _ | assumption | refine ba_alloc ?_ _ | refine ba_drew ?_ | refine ba_drewN ?_ _ | refine ba_via (by assumption) ?_ | (refine ba_set ?_ ?_ _; rotate_left; (first | omega | (simp; omega) | simp))))
    have n0 : (w5.alloc (.cells #[.int .i64 (d0), .int .i64 (0), .int .i64 (0)] 34)).cell? ⟨w5.heap.size, 0, none⟩ = some (.int .i64 (d0)) := by simp
    have n1 : (w5.alloc (.cells #[.int .i64 (d0), .int .i64 (0), .int .i64 (0)] 34)).cell? ⟨w5.heap.size, 1, none⟩ = some (.int .i64 (0)) := by simp
    have n2 : (w5.alloc (.cells #[.int .i64 (d0), .int .i64 (0), .int .i64 (0)] 34)).cell? ⟨w5.heap.size, 2, none⟩ = some (.int .i64 (0)) := by simp
    have x0 := (hB6.cell (p := ⟨bd, od, none⟩) hn0).trans g0
    generalize w5.alloc (.cells #[.int .i64 (d0), .int .i64 (0), .int .i64 (0)] 34) = w6 at *
    clear px py pz py' pz'
    go_quiet (fail)
    go_wp2
    go_ret
    exact ⟨rfl, (by repeat (first | exact Below.refl _ _ | assumption | refine ba_alloc ?_ _ | refine ba_drew ?_ | refine ba_drewN ?_ _ | refine ba_via (by assumption) ?_ | (refine ba_set ?_ ?_ _; rotate_left; (first | omega | (simp; omega) | simp))))⟩
set_option maxRecDepth 100000 in
set_option maxHeartbeats 4000000 in
theorem ends_11 (mk : ByteArray) (sz ct : Int) (d0 d1 : Int) (A : Option Addr) (c : Nat) (B : Nat) (w : World) (hB : B ≤ w.heap.size) (hA : BarAt w B A 2 ⟨mk, sz, ct, 11, [d0, d1]⟩) (hs : S.short ⟨mk, sz, ct, 11, [d0, d1]⟩ = true) (h : S.bar ⟨mk, sz, ct, 11, [d0, d1]⟩ = true)
    (hd : 1 ≤ d0 ∧ d0 ≤ 262144 ∧ 1 ≤ d1 ∧ d1 ≤ 262144) :
    Calls Try.prog 4 #[barV ⟨mk, sz, ct, 11, [d0, d1]⟩ A 2 c] w fun e w' => e = .returned (.bool true) ∧ Below w.heap.size w w' := by
  have hmk := hA.mark
  have HA := Lib.hid hA
  have HB := Lib.hid h
  obtain ⟨bd, od, rfl, hbd, hcd⟩ := hA.cells.at_ (by simp)
  have g0 := hcd 0 (.int .i64 d0) rfl
  have g1 := hcd 1 (.int .i64 d1) rfl
  simp only [Nat.add_zero] at g0
  clear hcd hA h
  have hn0 : bd < w.heap.size := by omega
  unfold barV
  go_enter Try.func4, Try.ntmps4
  go_wp2_with (first
    | (go_at_call 17; (with_reducible refine (awake12_any _).mono ?_); rintro e w1 ⟨rfl, hbw1⟩; obtain ⟨hcw1, hfw1⟩ := bcell hbw1; have hzw1_0 : w.heap.size < w1.heap.size := lt_via hbw1 (by first | omega | (simp; done) | (simp; omega)))
    | (go_at_call 18; (with_reducible refine (short_any ⟨mk, sz, ct, 11, [d0, d1]⟩ (some ⟨bd, od, none⟩) 2 c _ rfl (by decide) hmk).mono ?_); rintro e w2 ⟨rfl, hbw2⟩; obtain ⟨hcw2, hfw2⟩ := bcell hbw2; have hzw2_0 : w.heap.size < w2.heap.size := lt_via hbw2 (by first | omega | (simp; done) | (simp; omega)))
    | (go_at_call 20; (with_reducible refine (path_end ⟨mk, sz, ct, 11, [d0, d1]⟩ (some ⟨bd, od, none⟩) 2 c B _ 2 (d0) (d1) (0) rfl (by simp [S.ptAt, S.legsOf, S.step]; try omega) (by omega) (BarAt.at_ HA.out hB (by repeat (first | exact Below.refl _ _ | assumption | refine ba_alloc ?_ _ | refine ba_drew ?_ | refine ba_drewN ?_ _ | refine ba_via (by assumption) ?_ | (refine ba_set ?_ ?_ _; rotate_left; (first | omega | (simp; omega) | simp))))) HB.out).mono ?_); rintro e w4 ⟨b4, o4, c4, rfl, hb4, px, py, pz, hbw4⟩; obtain ⟨hcw4, hfw4⟩ := bcell hbw4; have hzw4_0 : w.heap.size < w4.heap.size := lt_via hbw4 (by first | omega | (simp; done) | (simp; omega)); simp only [Nat.reduceMul, Nat.reduceAdd, Nat.add_assoc] at px py pz)
    | (go_at_call 23; (with_reducible refine (dims_is _ 2 _ rfl rfl).mono ?_); rintro e w5 ⟨rfl, hbw5⟩; obtain ⟨hcw5, hfw5⟩ := bcell hbw5; have hzw5_0 : w.heap.size < w5.heap.size := lt_via hbw5 (by first | omega | (simp; done) | (simp; omega))))
  have hb5 : b4 < w5.heap.size := lt_via hbw5 (by omega)
  have py' : w4.cell? ⟨b4, o4 + 6 + 1, none⟩ = _ := py
  have pz' : w4.cell? ⟨b4, o4 + 6 + 2, none⟩ = _ := pz
  have hwl : IntKind.i64.wrap 2 = 2 := by decide
  go_region
  all_goals
    go_wp2
    have hB6 : Below w.heap.size w (w5.alloc (.cells #[.int .i64 (d0), .int .i64 (d1), .int .i64 (0)] 34)) := (by repeat (first | exact Below.refl _ _ | assumption | refine ba_alloc ?_ _ | refine ba_drew ?_ | refine ba_drewN ?_ _ | refine ba_via (by assumption) ?_ | (refine ba_set ?_ ?_ _; rotate_left; (first | omega | (simp; omega) | simp))))
    have n0 : (w5.alloc (.cells #[.int .i64 (d0), .int .i64 (d1), .int .i64 (0)] 34)).cell? ⟨w5.heap.size, 0, none⟩ = some (.int .i64 (d0)) := by simp
    have n1 : (w5.alloc (.cells #[.int .i64 (d0), .int .i64 (d1), .int .i64 (0)] 34)).cell? ⟨w5.heap.size, 1, none⟩ = some (.int .i64 (d1)) := by simp
    have n2 : (w5.alloc (.cells #[.int .i64 (d0), .int .i64 (d1), .int .i64 (0)] 34)).cell? ⟨w5.heap.size, 2, none⟩ = some (.int .i64 (0)) := by simp
    have x0 := (hB6.cell (p := ⟨bd, od, none⟩) hn0).trans g0
    have x1 := (hB6.cell (p := ⟨bd, od + 1, none⟩) hn0).trans g1
    generalize w5.alloc (.cells #[.int .i64 (d0), .int .i64 (d1), .int .i64 (0)] 34) = w6 at *
    clear px py pz py' pz'
    go_quiet (fail)
    go_wp2
    go_ret
    exact ⟨rfl, (by repeat (first | exact Below.refl _ _ | assumption | refine ba_alloc ?_ _ | refine ba_drew ?_ | refine ba_drewN ?_ _ | refine ba_via (by assumption) ?_ | (refine ba_set ?_ ?_ _; rotate_left; (first | omega | (simp; omega) | simp))))⟩
set_option maxRecDepth 100000 in
set_option maxHeartbeats 4000000 in
theorem ends_21 (mk : ByteArray) (sz ct : Int) (d0 d1 d2 : Int) (A : Option Addr) (c : Nat) (B : Nat) (w : World) (hB : B ≤ w.heap.size) (hA : BarAt w B A 3 ⟨mk, sz, ct, 21, [d0, d1, d2]⟩) (hs : S.short ⟨mk, sz, ct, 21, [d0, d1, d2]⟩ = true) (h : S.bar ⟨mk, sz, ct, 21, [d0, d1, d2]⟩ = true)
    (hd : 1 ≤ d0 ∧ d0 ≤ 262144 ∧ 1 ≤ d1 ∧ d1 ≤ 262144 ∧ 1 ≤ d2 ∧ d2 ≤ 262144) :
    Calls Try.prog 4 #[barV ⟨mk, sz, ct, 21, [d0, d1, d2]⟩ A 3 c] w fun e w' => e = .returned (.bool true) ∧ Below w.heap.size w w' := by
  have hmk := hA.mark
  have HA := Lib.hid hA
  have HB := Lib.hid h
  obtain ⟨bd, od, rfl, hbd, hcd⟩ := hA.cells.at_ (by simp)
  have g0 := hcd 0 (.int .i64 d0) rfl
  have g1 := hcd 1 (.int .i64 d1) rfl
  have g2 := hcd 2 (.int .i64 d2) rfl
  simp only [Nat.add_zero] at g0
  clear hcd hA h
  have hn0 : bd < w.heap.size := by omega
  unfold barV
  go_enter Try.func4, Try.ntmps4
  have hw0 : IntKind.i64.wrap (d2 - d0) = d2 - d0 := IntWalk.i64_in _ (by omega)
  go_wp2_with (first
    | (go_at_call 17; (with_reducible refine (awake12_any _).mono ?_); rintro e w1 ⟨rfl, hbw1⟩; obtain ⟨hcw1, hfw1⟩ := bcell hbw1; have hzw1_0 : w.heap.size < w1.heap.size := lt_via hbw1 (by first | omega | (simp; done) | (simp; omega)))
    | (go_at_call 18; (with_reducible refine (short_any ⟨mk, sz, ct, 21, [d0, d1, d2]⟩ (some ⟨bd, od, none⟩) 3 c _ rfl (by decide) hmk).mono ?_); rintro e w2 ⟨rfl, hbw2⟩; obtain ⟨hcw2, hfw2⟩ := bcell hbw2; have hzw2_0 : w.heap.size < w2.heap.size := lt_via hbw2 (by first | omega | (simp; done) | (simp; omega)))
    | (go_at_call 20; (with_reducible refine (path_end ⟨mk, sz, ct, 21, [d0, d1, d2]⟩ (some ⟨bd, od, none⟩) 3 c B _ 3 (d1) (d2 - d0) (0) rfl (by simp [S.ptAt, S.legsOf, S.step]; try omega) (by omega) (BarAt.at_ HA.out hB (by repeat (first | exact Below.refl _ _ | assumption | refine ba_alloc ?_ _ | refine ba_drew ?_ | refine ba_drewN ?_ _ | refine ba_via (by assumption) ?_ | (refine ba_set ?_ ?_ _; rotate_left; (first | omega | (simp; omega) | simp))))) HB.out).mono ?_); rintro e w4 ⟨b4, o4, c4, rfl, hb4, px, py, pz, hbw4⟩; obtain ⟨hcw4, hfw4⟩ := bcell hbw4; have hzw4_0 : w.heap.size < w4.heap.size := lt_via hbw4 (by first | omega | (simp; done) | (simp; omega)); simp only [Nat.reduceMul, Nat.reduceAdd, Nat.add_assoc] at px py pz)
    | (go_at_call 23; (with_reducible refine (dims_is _ 3 _ rfl rfl).mono ?_); rintro e w5 ⟨rfl, hbw5⟩; obtain ⟨hcw5, hfw5⟩ := bcell hbw5; have hzw5_0 : w.heap.size < w5.heap.size := lt_via hbw5 (by first | omega | (simp; done) | (simp; omega))))
  have hb5 : b4 < w5.heap.size := lt_via hbw5 (by omega)
  have py' : w4.cell? ⟨b4, o4 + 9 + 1, none⟩ = _ := py
  have pz' : w4.cell? ⟨b4, o4 + 9 + 2, none⟩ = _ := pz
  have hwl : IntKind.i64.wrap 3 = 3 := by decide
  go_region
  all_goals
    go_wp2
    have hB6 : Below w.heap.size w (w5.alloc (.cells #[.int .i64 (d1), .int .i64 (d2 - d0), .int .i64 (0)] 34)) := (by repeat (first | exact Below.refl _ _ | assumption | refine ba_alloc ?_ _ | refine ba_drew ?_ | refine ba_drewN ?_ _ | refine ba_via (by assumption) ?_ | (refine ba_set ?_ ?_ _; rotate_left; (first | omega | (simp; omega) | simp))))
    have n0 : (w5.alloc (.cells #[.int .i64 (d1), .int .i64 (d2 - d0), .int .i64 (0)] 34)).cell? ⟨w5.heap.size, 0, none⟩ = some (.int .i64 (d1)) := by simp
    have n1 : (w5.alloc (.cells #[.int .i64 (d1), .int .i64 (d2 - d0), .int .i64 (0)] 34)).cell? ⟨w5.heap.size, 1, none⟩ = some (.int .i64 (d2 - d0)) := by simp
    have n2 : (w5.alloc (.cells #[.int .i64 (d1), .int .i64 (d2 - d0), .int .i64 (0)] 34)).cell? ⟨w5.heap.size, 2, none⟩ = some (.int .i64 (0)) := by simp
    have x0 := (hB6.cell (p := ⟨bd, od, none⟩) hn0).trans g0
    have x1 := (hB6.cell (p := ⟨bd, od + 1, none⟩) hn0).trans g1
    have x2 := (hB6.cell (p := ⟨bd, od + 2, none⟩) hn0).trans g2
    generalize w5.alloc (.cells #[.int .i64 (d1), .int .i64 (d2 - d0), .int .i64 (0)] 34) = w6 at *
    clear px py pz py' pz'
    go_quiet (fail)
    go_wp2
    go_ret
    exact ⟨rfl, (by repeat (first | exact Below.refl _ _ | assumption | refine ba_alloc ?_ _ | refine ba_drew ?_ | refine ba_drewN ?_ _ | refine ba_via (by assumption) ?_ | (refine ba_set ?_ ?_ _; rotate_left; (first | omega | (simp; omega) | simp))))⟩
set_option maxRecDepth 100000 in
set_option maxHeartbeats 4000000 in
theorem ends_26 (mk : ByteArray) (sz ct : Int) (d0 d1 d2 : Int) (A : Option Addr) (c : Nat) (B : Nat) (w : World) (hB : B ≤ w.heap.size) (hA : BarAt w B A 3 ⟨mk, sz, ct, 26, [d0, d1, d2]⟩) (hs : S.short ⟨mk, sz, ct, 26, [d0, d1, d2]⟩ = true) (h : S.bar ⟨mk, sz, ct, 26, [d0, d1, d2]⟩ = true)
    (hd : 1 ≤ d0 ∧ d0 ≤ 262144 ∧ 1 ≤ d1 ∧ d1 ≤ 262144 ∧ 1 ≤ d2 ∧ d2 ≤ 262144) :
    Calls Try.prog 4 #[barV ⟨mk, sz, ct, 26, [d0, d1, d2]⟩ A 3 c] w fun e w' => e = .returned (.bool true) ∧ Below w.heap.size w w' := by
  have hmk := hA.mark
  have HA := Lib.hid hA
  have HB := Lib.hid h
  obtain ⟨bd, od, rfl, hbd, hcd⟩ := hA.cells.at_ (by simp)
  have g0 := hcd 0 (.int .i64 d0) rfl
  have g1 := hcd 1 (.int .i64 d1) rfl
  have g2 := hcd 2 (.int .i64 d2) rfl
  simp only [Nat.add_zero] at g0
  clear hcd hA h
  have hn0 : bd < w.heap.size := by omega
  unfold barV
  go_enter Try.func4, Try.ntmps4
  have hw0 : IntKind.i64.wrap (d0 + d2) = d0 + d2 := IntWalk.i64_in _ (by omega)
  go_wp2_with (first
    | (go_at_call 17; (with_reducible refine (awake12_any _).mono ?_); rintro e w1 ⟨rfl, hbw1⟩; obtain ⟨hcw1, hfw1⟩ := bcell hbw1; have hzw1_0 : w.heap.size < w1.heap.size := lt_via hbw1 (by first | omega | (simp; done) | (simp; omega)))
    | (go_at_call 18; (with_reducible refine (short_any ⟨mk, sz, ct, 26, [d0, d1, d2]⟩ (some ⟨bd, od, none⟩) 3 c _ rfl (by decide) hmk).mono ?_); rintro e w2 ⟨rfl, hbw2⟩; obtain ⟨hcw2, hfw2⟩ := bcell hbw2; have hzw2_0 : w.heap.size < w2.heap.size := lt_via hbw2 (by first | omega | (simp; done) | (simp; omega)))
    | (go_at_call 20; (with_reducible refine (path_end ⟨mk, sz, ct, 26, [d0, d1, d2]⟩ (some ⟨bd, od, none⟩) 3 c B _ 3 (d0 + d2) (d1) (0) rfl (by simp [S.ptAt, S.legsOf, S.step]; try omega) (by omega) (BarAt.at_ HA.out hB (by repeat (first | exact Below.refl _ _ | assumption | refine ba_alloc ?_ _ | refine ba_drew ?_ | refine ba_drewN ?_ _ | refine ba_via (by assumption) ?_ | (refine ba_set ?_ ?_ _; rotate_left; (first | omega | (simp; omega) | simp))))) HB.out).mono ?_); rintro e w4 ⟨b4, o4, c4, rfl, hb4, px, py, pz, hbw4⟩; obtain ⟨hcw4, hfw4⟩ := bcell hbw4; have hzw4_0 : w.heap.size < w4.heap.size := lt_via hbw4 (by first | omega | (simp; done) | (simp; omega)); simp only [Nat.reduceMul, Nat.reduceAdd, Nat.add_assoc] at px py pz)
    | (go_at_call 23; (with_reducible refine (dims_is _ 3 _ rfl rfl).mono ?_); rintro e w5 ⟨rfl, hbw5⟩; obtain ⟨hcw5, hfw5⟩ := bcell hbw5; have hzw5_0 : w.heap.size < w5.heap.size := lt_via hbw5 (by first | omega | (simp; done) | (simp; omega))))
  have hb5 : b4 < w5.heap.size := lt_via hbw5 (by omega)
  have py' : w4.cell? ⟨b4, o4 + 9 + 1, none⟩ = _ := py
  have pz' : w4.cell? ⟨b4, o4 + 9 + 2, none⟩ = _ := pz
  have hwl : IntKind.i64.wrap 3 = 3 := by decide
  go_region
  all_goals
    go_wp2
    have hB6 : Below w.heap.size w (w5.alloc (.cells #[.int .i64 (d0 + d2), .int .i64 (d1), .int .i64 (0)] 34)) := (by repeat (first | exact Below.refl _ _ | assumption | refine ba_alloc ?_ _ | refine ba_drew ?_ | refine ba_drewN ?_ _ | refine ba_via (by assumption) ?_ | (refine ba_set ?_ ?_ _; rotate_left; (first | omega | (simp; omega) | simp))))
    have n0 : (w5.alloc (.cells #[.int .i64 (d0 + d2), .int .i64 (d1), .int .i64 (0)] 34)).cell? ⟨w5.heap.size, 0, none⟩ = some (.int .i64 (d0 + d2)) := by simp
    have n1 : (w5.alloc (.cells #[.int .i64 (d0 + d2), .int .i64 (d1), .int .i64 (0)] 34)).cell? ⟨w5.heap.size, 1, none⟩ = some (.int .i64 (d1)) := by simp
    have n2 : (w5.alloc (.cells #[.int .i64 (d0 + d2), .int .i64 (d1), .int .i64 (0)] 34)).cell? ⟨w5.heap.size, 2, none⟩ = some (.int .i64 (0)) := by simp
    have x0 := (hB6.cell (p := ⟨bd, od, none⟩) hn0).trans g0
    have x1 := (hB6.cell (p := ⟨bd, od + 1, none⟩) hn0).trans g1
    have x2 := (hB6.cell (p := ⟨bd, od + 2, none⟩) hn0).trans g2
    generalize w5.alloc (.cells #[.int .i64 (d0 + d2), .int .i64 (d1), .int .i64 (0)] 34) = w6 at *
    clear px py pz py' pz'
    go_quiet (fail)
    go_wp2
    go_ret
    exact ⟨rfl, (by repeat (first | exact Below.refl _ _ | assumption | refine ba_alloc ?_ _ | refine ba_drew ?_ | refine ba_drewN ?_ _ | refine ba_via (by assumption) ?_ | (refine ba_set ?_ ?_ _; rotate_left; (first | omega | (simp; omega) | simp))))⟩
set_option maxRecDepth 100000 in
set_option maxHeartbeats 4000000 in
theorem ends_31 (mk : ByteArray) (sz ct : Int) (d0 d1 d2 : Int) (A : Option Addr) (c : Nat) (B : Nat) (w : World) (hB : B ≤ w.heap.size) (hA : BarAt w B A 3 ⟨mk, sz, ct, 31, [d0, d1, d2]⟩) (hs : S.short ⟨mk, sz, ct, 31, [d0, d1, d2]⟩ = true) (h : S.bar ⟨mk, sz, ct, 31, [d0, d1, d2]⟩ = true)
    (hd : 1 ≤ d0 ∧ d0 ≤ 262144 ∧ 1 ≤ d1 ∧ d1 ≤ 262144 ∧ 1 ≤ d2 ∧ d2 ≤ 262144) :
    Calls Try.prog 4 #[barV ⟨mk, sz, ct, 31, [d0, d1, d2]⟩ A 3 c] w fun e w' => e = .returned (.bool true) ∧ Below w.heap.size w w' := by
  have hmk := hA.mark
  have HA := Lib.hid hA
  have HB := Lib.hid h
  obtain ⟨bd, od, rfl, hbd, hcd⟩ := hA.cells.at_ (by simp)
  have g0 := hcd 0 (.int .i64 d0) rfl
  have g1 := hcd 1 (.int .i64 d1) rfl
  have g2 := hcd 2 (.int .i64 d2) rfl
  simp only [Nat.add_zero] at g0
  clear hcd hA h
  have hn0 : bd < w.heap.size := by omega
  unfold barV
  go_enter Try.func4, Try.ntmps4
  go_wp2_with (first
    | (go_at_call 17; (with_reducible refine (awake12_any _).mono ?_); rintro e w1 ⟨rfl, hbw1⟩; obtain ⟨hcw1, hfw1⟩ := bcell hbw1; have hzw1_0 : w.heap.size < w1.heap.size := lt_via hbw1 (by first | omega | (simp; done) | (simp; omega)))
    | (go_at_call 18; (with_reducible refine (short_any ⟨mk, sz, ct, 31, [d0, d1, d2]⟩ (some ⟨bd, od, none⟩) 3 c _ rfl (by decide) hmk).mono ?_); rintro e w2 ⟨rfl, hbw2⟩; obtain ⟨hcw2, hfw2⟩ := bcell hbw2; have hzw2_0 : w.heap.size < w2.heap.size := lt_via hbw2 (by first | omega | (simp; done) | (simp; omega)))
    | (go_at_call 20; (with_reducible refine (path_end ⟨mk, sz, ct, 31, [d0, d1, d2]⟩ (some ⟨bd, od, none⟩) 3 c B _ 3 (d0) (d1) (d2) rfl (by simp [S.ptAt, S.legsOf, S.step]; try omega) (by omega) (BarAt.at_ HA.out hB (by repeat (first | exact Below.refl _ _ | assumption | refine ba_alloc ?_ _ | refine ba_drew ?_ | refine ba_drewN ?_ _ | refine ba_via (by assumption) ?_ | (refine ba_set ?_ ?_ _; rotate_left; (first | omega | (simp; omega) | simp))))) HB.out).mono ?_); rintro e w4 ⟨b4, o4, c4, rfl, hb4, px, py, pz, hbw4⟩; obtain ⟨hcw4, hfw4⟩ := bcell hbw4; have hzw4_0 : w.heap.size < w4.heap.size := lt_via hbw4 (by first | omega | (simp; done) | (simp; omega)); simp only [Nat.reduceMul, Nat.reduceAdd, Nat.add_assoc] at px py pz)
    | (go_at_call 23; (with_reducible refine (dims_is _ 3 _ rfl rfl).mono ?_); rintro e w5 ⟨rfl, hbw5⟩; obtain ⟨hcw5, hfw5⟩ := bcell hbw5; have hzw5_0 : w.heap.size < w5.heap.size := lt_via hbw5 (by first | omega | (simp; done) | (simp; omega))))
  have hb5 : b4 < w5.heap.size := lt_via hbw5 (by omega)
  have py' : w4.cell? ⟨b4, o4 + 9 + 1, none⟩ = _ := py
  have pz' : w4.cell? ⟨b4, o4 + 9 + 2, none⟩ = _ := pz
  have hwl : IntKind.i64.wrap 3 = 3 := by decide
  go_region
  all_goals
    go_wp2
    have hB6 : Below w.heap.size w (w5.alloc (.cells #[.int .i64 (d0), .int .i64 (d1), .int .i64 (d2)] 34)) := (by repeat (first | exact Below.refl _ _ | assumption | refine ba_alloc ?_ _ | refine ba_drew ?_ | refine ba_drewN ?_ _ | refine ba_via (by assumption) ?_ | (refine ba_set ?_ ?_ _; rotate_left; (first | omega | (simp; omega) | simp))))
    have n0 : (w5.alloc (.cells #[.int .i64 (d0), .int .i64 (d1), .int .i64 (d2)] 34)).cell? ⟨w5.heap.size, 0, none⟩ = some (.int .i64 (d0)) := by simp
    have n1 : (w5.alloc (.cells #[.int .i64 (d0), .int .i64 (d1), .int .i64 (d2)] 34)).cell? ⟨w5.heap.size, 1, none⟩ = some (.int .i64 (d1)) := by simp
    have n2 : (w5.alloc (.cells #[.int .i64 (d0), .int .i64 (d1), .int .i64 (d2)] 34)).cell? ⟨w5.heap.size, 2, none⟩ = some (.int .i64 (d2)) := by simp
    have x0 := (hB6.cell (p := ⟨bd, od, none⟩) hn0).trans g0
    have x1 := (hB6.cell (p := ⟨bd, od + 1, none⟩) hn0).trans g1
    have x2 := (hB6.cell (p := ⟨bd, od + 2, none⟩) hn0).trans g2
    generalize w5.alloc (.cells #[.int .i64 (d0), .int .i64 (d1), .int .i64 (d2)] 34) = w6 at *
    clear px py pz py' pz'
    go_quiet (fail)
    go_wp2
    go_ret
    exact ⟨rfl, (by repeat (first | exact Below.refl _ _ | assumption | refine ba_alloc ?_ _ | refine ba_drew ?_ | refine ba_drewN ?_ _ | refine ba_via (by assumption) ?_ | (refine ba_set ?_ ?_ _; rotate_left; (first | omega | (simp; omega) | simp))))⟩
set_option maxRecDepth 100000 in
set_option maxHeartbeats 4000000 in
theorem ends_41 (mk : ByteArray) (sz ct : Int) (d0 d1 d2 d3 d4 : Int) (A : Option Addr) (c : Nat) (B : Nat) (w : World) (hB : B ≤ w.heap.size) (hA : BarAt w B A 5 ⟨mk, sz, ct, 41, [d0, d1, d2, d3, d4]⟩) (hs : S.short ⟨mk, sz, ct, 41, [d0, d1, d2, d3, d4]⟩ = true) (h : S.bar ⟨mk, sz, ct, 41, [d0, d1, d2, d3, d4]⟩ = true)
    (hd : 1 ≤ d0 ∧ d0 ≤ 262144 ∧ 1 ≤ d1 ∧ d1 ≤ 262144 ∧ 1 ≤ d2 ∧ d2 ≤ 262144 ∧ 1 ≤ d3 ∧ d3 ≤ 262144 ∧ 1 ≤ d4 ∧ d4 ≤ 262144) :
    Calls Try.prog 4 #[barV ⟨mk, sz, ct, 41, [d0, d1, d2, d3, d4]⟩ A 5 c] w fun e w' => e = .returned (.bool true) ∧ Below w.heap.size w w' := by
  have hmk := hA.mark
  have HA := Lib.hid hA
  have HB := Lib.hid h
  obtain ⟨bd, od, rfl, hbd, hcd⟩ := hA.cells.at_ (by simp)
  have g0 := hcd 0 (.int .i64 d0) rfl
  have g1 := hcd 1 (.int .i64 d1) rfl
  have g2 := hcd 2 (.int .i64 d2) rfl
  have g3 := hcd 3 (.int .i64 d3) rfl
  have g4 := hcd 4 (.int .i64 d4) rfl
  simp only [Nat.add_zero] at g0
  clear hcd hA h
  have hn0 : bd < w.heap.size := by omega
  unfold barV
  go_enter Try.func4, Try.ntmps4
  have hw0 : IntKind.i64.wrap (d0 + d2) = d0 + d2 := IntWalk.i64_in _ (by omega)
  have hw1 : IntKind.i64.wrap (d0 + d2 + d4) = d0 + d2 + d4 := IntWalk.i64_in _ (by omega)
  have hw2 : IntKind.i64.wrap (d1 - d3) = d1 - d3 := IntWalk.i64_in _ (by omega)
  go_wp2_with (first
    | (go_at_call 17; (with_reducible refine (awake12_any _).mono ?_); rintro e w1 ⟨rfl, hbw1⟩; obtain ⟨hcw1, hfw1⟩ := bcell hbw1; have hzw1_0 : w.heap.size < w1.heap.size := lt_via hbw1 (by first | omega | (simp; done) | (simp; omega)))
    | (go_at_call 18; (with_reducible refine (short_any ⟨mk, sz, ct, 41, [d0, d1, d2, d3, d4]⟩ (some ⟨bd, od, none⟩) 5 c _ rfl (by decide) hmk).mono ?_); rintro e w2 ⟨rfl, hbw2⟩; obtain ⟨hcw2, hfw2⟩ := bcell hbw2; have hzw2_0 : w.heap.size < w2.heap.size := lt_via hbw2 (by first | omega | (simp; done) | (simp; omega)))
    | (go_at_call 20; (with_reducible refine (path_end ⟨mk, sz, ct, 41, [d0, d1, d2, d3, d4]⟩ (some ⟨bd, od, none⟩) 5 c B _ 5 (d0 + d2 + d4) (d1 - d3) (0) rfl (by simp [S.ptAt, S.legsOf, S.step]; try omega) (by omega) (BarAt.at_ HA.out hB (by repeat (first | exact Below.refl _ _ | assumption | refine ba_alloc ?_ _ | refine ba_drew ?_ | refine ba_drewN ?_ _ | refine ba_via (by assumption) ?_ | (refine ba_set ?_ ?_ _; rotate_left; (first | omega | (simp; omega) | simp))))) HB.out).mono ?_); rintro e w4 ⟨b4, o4, c4, rfl, hb4, px, py, pz, hbw4⟩; obtain ⟨hcw4, hfw4⟩ := bcell hbw4; have hzw4_0 : w.heap.size < w4.heap.size := lt_via hbw4 (by first | omega | (simp; done) | (simp; omega)); simp only [Nat.reduceMul, Nat.reduceAdd, Nat.add_assoc] at px py pz)
    | (go_at_call 23; (with_reducible refine (dims_is _ 5 _ rfl rfl).mono ?_); rintro e w5 ⟨rfl, hbw5⟩; obtain ⟨hcw5, hfw5⟩ := bcell hbw5; have hzw5_0 : w.heap.size < w5.heap.size := lt_via hbw5 (by first | omega | (simp; done) | (simp; omega))))
  have hb5 : b4 < w5.heap.size := lt_via hbw5 (by omega)
  have py' : w4.cell? ⟨b4, o4 + 15 + 1, none⟩ = _ := py
  have pz' : w4.cell? ⟨b4, o4 + 15 + 2, none⟩ = _ := pz
  have hwl : IntKind.i64.wrap 5 = 5 := by decide
  go_region
  all_goals
    go_wp2
    have hB6 : Below w.heap.size w (w5.alloc (.cells #[.int .i64 (d0 + d2 + d4), .int .i64 (d1 - d3), .int .i64 (0)] 34)) := (by repeat (first | exact Below.refl _ _ | assumption | refine ba_alloc ?_ _ | refine ba_drew ?_ | refine ba_drewN ?_ _ | refine ba_via (by assumption) ?_ | (refine ba_set ?_ ?_ _; rotate_left; (first | omega | (simp; omega) | simp))))
    have n0 : (w5.alloc (.cells #[.int .i64 (d0 + d2 + d4), .int .i64 (d1 - d3), .int .i64 (0)] 34)).cell? ⟨w5.heap.size, 0, none⟩ = some (.int .i64 (d0 + d2 + d4)) := by simp
    have n1 : (w5.alloc (.cells #[.int .i64 (d0 + d2 + d4), .int .i64 (d1 - d3), .int .i64 (0)] 34)).cell? ⟨w5.heap.size, 1, none⟩ = some (.int .i64 (d1 - d3)) := by simp
    have n2 : (w5.alloc (.cells #[.int .i64 (d0 + d2 + d4), .int .i64 (d1 - d3), .int .i64 (0)] 34)).cell? ⟨w5.heap.size, 2, none⟩ = some (.int .i64 (0)) := by simp
    have x0 := (hB6.cell (p := ⟨bd, od, none⟩) hn0).trans g0
    have x1 := (hB6.cell (p := ⟨bd, od + 1, none⟩) hn0).trans g1
    have x2 := (hB6.cell (p := ⟨bd, od + 2, none⟩) hn0).trans g2
    have x3 := (hB6.cell (p := ⟨bd, od + 3, none⟩) hn0).trans g3
    have x4 := (hB6.cell (p := ⟨bd, od + 4, none⟩) hn0).trans g4
    generalize w5.alloc (.cells #[.int .i64 (d0 + d2 + d4), .int .i64 (d1 - d3), .int .i64 (0)] 34) = w6 at *
    clear px py pz py' pz'
    go_quiet (fail)
    go_wp2
    go_ret
    exact ⟨rfl, (by repeat (first | exact Below.refl _ _ | assumption | refine ba_alloc ?_ _ | refine ba_drew ?_ | refine ba_drewN ?_ _ | refine ba_via (by assumption) ?_ | (refine ba_set ?_ ?_ _; rotate_left; (first | omega | (simp; omega) | simp))))⟩
set_option maxRecDepth 100000 in
set_option maxHeartbeats 4000000 in
theorem ends_51 (mk : ByteArray) (sz ct : Int) (d0 d1 d2 : Int) (A : Option Addr) (c : Nat) (B : Nat) (w : World) (hB : B ≤ w.heap.size) (hA : BarAt w B A 3 ⟨mk, sz, ct, 51, [d0, d1, d2]⟩) (hs : S.short ⟨mk, sz, ct, 51, [d0, d1, d2]⟩ = true) (h : S.bar ⟨mk, sz, ct, 51, [d0, d1, d2]⟩ = true)
    (hd : 1 ≤ d0 ∧ d0 ≤ 262144 ∧ 1 ≤ d1 ∧ d1 ≤ 262144 ∧ 1 ≤ d2 ∧ d2 ≤ 262144) :
    Calls Try.prog 4 #[barV ⟨mk, sz, ct, 51, [d0, d1, d2]⟩ A 3 c] w fun e w' => e = .returned (.bool true) ∧ Below w.heap.size w w' := by
  have hmk := hA.mark
  have HA := Lib.hid hA
  have HB := Lib.hid h
  obtain ⟨bd, od, rfl, hbd, hcd⟩ := hA.cells.at_ (by simp)
  have g0 := hcd 0 (.int .i64 d0) rfl
  have g1 := hcd 1 (.int .i64 d1) rfl
  have g2 := hcd 2 (.int .i64 d2) rfl
  simp only [Nat.add_zero] at g0
  clear hcd hA h
  have hn0 : bd < w.heap.size := by omega
  unfold barV
  go_enter Try.func4, Try.ntmps4
  have hw0 : IntKind.i64.wrap (-d2) = -d2 := IntWalk.i64_in _ (by omega)
  go_wp2_with (first
    | (go_at_call 17; (with_reducible refine (awake12_any _).mono ?_); rintro e w1 ⟨rfl, hbw1⟩; obtain ⟨hcw1, hfw1⟩ := bcell hbw1; have hzw1_0 : w.heap.size < w1.heap.size := lt_via hbw1 (by first | omega | (simp; done) | (simp; omega)))
    | (go_at_call 18; (with_reducible refine (short_any ⟨mk, sz, ct, 51, [d0, d1, d2]⟩ (some ⟨bd, od, none⟩) 3 c _ rfl (by decide) hmk).mono ?_); rintro e w2 ⟨rfl, hbw2⟩; obtain ⟨hcw2, hfw2⟩ := bcell hbw2; have hzw2_0 : w.heap.size < w2.heap.size := lt_via hbw2 (by first | omega | (simp; done) | (simp; omega)))
    | (go_at_call 20; (with_reducible refine (path_end ⟨mk, sz, ct, 51, [d0, d1, d2]⟩ (some ⟨bd, od, none⟩) 3 c B _ 6 (d2) (-d2) (0) rfl (by simp [S.ptAt, S.legsOf, S.step]; try omega) (by omega) (BarAt.at_ HA.out hB (by repeat (first | exact Below.refl _ _ | assumption | refine ba_alloc ?_ _ | refine ba_drew ?_ | refine ba_drewN ?_ _ | refine ba_via (by assumption) ?_ | (refine ba_set ?_ ?_ _; rotate_left; (first | omega | (simp; omega) | simp))))) HB.out).mono ?_); rintro e w4 ⟨b4, o4, c4, rfl, hb4, px, py, pz, hbw4⟩; obtain ⟨hcw4, hfw4⟩ := bcell hbw4; have hzw4_0 : w.heap.size < w4.heap.size := lt_via hbw4 (by first | omega | (simp; done) | (simp; omega)); simp only [Nat.reduceMul, Nat.reduceAdd, Nat.add_assoc] at px py pz)
    | (go_at_call 23; (with_reducible refine (dims_is _ 3 _ rfl rfl).mono ?_); rintro e w5 ⟨rfl, hbw5⟩; obtain ⟨hcw5, hfw5⟩ := bcell hbw5; have hzw5_0 : w.heap.size < w5.heap.size := lt_via hbw5 (by first | omega | (simp; done) | (simp; omega))))
  have hb5 : b4 < w5.heap.size := lt_via hbw5 (by omega)
  have py' : w4.cell? ⟨b4, o4 + 18 + 1, none⟩ = _ := py
  have pz' : w4.cell? ⟨b4, o4 + 18 + 2, none⟩ = _ := pz
  have hwl : IntKind.i64.wrap 6 = 6 := by decide
  go_region
  all_goals
    go_wp2
    have hB6 : Below w.heap.size w (w5.alloc (.cells #[.int .i64 (d2), .int .i64 (-d2), .int .i64 (0)] 34)) := (by repeat (first | exact Below.refl _ _ | assumption | refine ba_alloc ?_ _ | refine ba_drew ?_ | refine ba_drewN ?_ _ | refine ba_via (by assumption) ?_ | (refine ba_set ?_ ?_ _; rotate_left; (first | omega | (simp; omega) | simp))))
    have n0 : (w5.alloc (.cells #[.int .i64 (d2), .int .i64 (-d2), .int .i64 (0)] 34)).cell? ⟨w5.heap.size, 0, none⟩ = some (.int .i64 (d2)) := by simp
    have n1 : (w5.alloc (.cells #[.int .i64 (d2), .int .i64 (-d2), .int .i64 (0)] 34)).cell? ⟨w5.heap.size, 1, none⟩ = some (.int .i64 (-d2)) := by simp
    have n2 : (w5.alloc (.cells #[.int .i64 (d2), .int .i64 (-d2), .int .i64 (0)] 34)).cell? ⟨w5.heap.size, 2, none⟩ = some (.int .i64 (0)) := by simp
    have x0 := (hB6.cell (p := ⟨bd, od, none⟩) hn0).trans g0
    have x1 := (hB6.cell (p := ⟨bd, od + 1, none⟩) hn0).trans g1
    have x2 := (hB6.cell (p := ⟨bd, od + 2, none⟩) hn0).trans g2
    generalize w5.alloc (.cells #[.int .i64 (d2), .int .i64 (-d2), .int .i64 (0)] 34) = w6 at *
    clear px py pz py' pz'
    go_quiet (fail)
    go_wp2
    go_ret
    exact ⟨rfl, (by repeat (first | exact Below.refl _ _ | assumption | refine ba_alloc ?_ _ | refine ba_drew ?_ | refine ba_drewN ?_ _ | refine ba_via (by assumption) ?_ | (refine ba_set ?_ ?_ _; rotate_left; (first | omega | (simp; omega) | simp))))⟩
set_option maxRecDepth 100000 in
set_option maxHeartbeats 4000000 in
theorem ends_98 (mk : ByteArray) (sz ct : Int) (d0 d1 d2 : Int) (A : Option Addr) (c : Nat) (B : Nat) (w : World) (hB : B ≤ w.heap.size) (hA : BarAt w B A 3 ⟨mk, sz, ct, 98, [d0, d1, d2]⟩) (hs : S.short ⟨mk, sz, ct, 98, [d0, d1, d2]⟩ = true) (h : S.bar ⟨mk, sz, ct, 98, [d0, d1, d2]⟩ = true)
    (hd : 1 ≤ d0 ∧ d0 ≤ 262144 ∧ 1 ≤ d1 ∧ d1 ≤ 262144 ∧ 1 ≤ d2 ∧ d2 ≤ 262144) :
    Calls Try.prog 4 #[barV ⟨mk, sz, ct, 98, [d0, d1, d2]⟩ A 3 c] w fun e w' => e = .returned (.bool true) ∧ Below w.heap.size w w' := by
  have hmk := hA.mark
  have HA := Lib.hid hA
  have HB := Lib.hid h
  obtain ⟨bd, od, rfl, hbd, hcd⟩ := hA.cells.at_ (by simp)
  have g0 := hcd 0 (.int .i64 d0) rfl
  have g1 := hcd 1 (.int .i64 d1) rfl
  have g2 := hcd 2 (.int .i64 d2) rfl
  simp only [Nat.add_zero] at g0
  clear hcd hA h
  have hn0 : bd < w.heap.size := by omega
  unfold barV
  go_enter Try.func4, Try.ntmps4
  have hw0 : IntKind.i64.wrap (2 * d0) = 2 * d0 := IntWalk.i64_in _ (by omega)
  go_wp2_with (first
    | (go_at_call 17; (with_reducible refine (awake12_any _).mono ?_); rintro e w1 ⟨rfl, hbw1⟩; obtain ⟨hcw1, hfw1⟩ := bcell hbw1; have hzw1_0 : w.heap.size < w1.heap.size := lt_via hbw1 (by first | omega | (simp; done) | (simp; omega)))
    | (go_at_call 18; (with_reducible refine (short_any ⟨mk, sz, ct, 98, [d0, d1, d2]⟩ (some ⟨bd, od, none⟩) 3 c _ rfl (by decide) hmk).mono ?_); rintro e w2 ⟨rfl, hbw2⟩; obtain ⟨hcw2, hfw2⟩ := bcell hbw2; have hzw2_0 : w.heap.size < w2.heap.size := lt_via hbw2 (by first | omega | (simp; done) | (simp; omega)))
    | (go_at_call 20; (with_reducible refine (path_end ⟨mk, sz, ct, 98, [d0, d1, d2]⟩ (some ⟨bd, od, none⟩) 3 c B _ 5 (d2) (0) (2 * d0) rfl (by simp [S.ptAt, S.legsOf, S.step]; try omega) (by omega) (BarAt.at_ HA.out hB (by repeat (first | exact Below.refl _ _ | assumption | refine ba_alloc ?_ _ | refine ba_drew ?_ | refine ba_drewN ?_ _ | refine ba_via (by assumption) ?_ | (refine ba_set ?_ ?_ _; rotate_left; (first | omega | (simp; omega) | simp))))) HB.out).mono ?_); rintro e w4 ⟨b4, o4, c4, rfl, hb4, px, py, pz, hbw4⟩; obtain ⟨hcw4, hfw4⟩ := bcell hbw4; have hzw4_0 : w.heap.size < w4.heap.size := lt_via hbw4 (by first | omega | (simp; done) | (simp; omega)); simp only [Nat.reduceMul, Nat.reduceAdd, Nat.add_assoc] at px py pz)
    | (go_at_call 23; (with_reducible refine (dims_is _ 3 _ rfl rfl).mono ?_); rintro e w5 ⟨rfl, hbw5⟩; obtain ⟨hcw5, hfw5⟩ := bcell hbw5; have hzw5_0 : w.heap.size < w5.heap.size := lt_via hbw5 (by first | omega | (simp; done) | (simp; omega))))
  have hb5 : b4 < w5.heap.size := lt_via hbw5 (by omega)
  have py' : w4.cell? ⟨b4, o4 + 15 + 1, none⟩ = _ := py
  have pz' : w4.cell? ⟨b4, o4 + 15 + 2, none⟩ = _ := pz
  have hwl : IntKind.i64.wrap 5 = 5 := by decide
  go_region
  all_goals
    go_wp2
    have hB6 : Below w.heap.size w (w5.alloc (.cells #[.int .i64 (d2), .int .i64 (0), .int .i64 (2 * d0)] 34)) := (by repeat (first | exact Below.refl _ _ | assumption | refine ba_alloc ?_ _ | refine ba_drew ?_ | refine ba_drewN ?_ _ | refine ba_via (by assumption) ?_ | (refine ba_set ?_ ?_ _; rotate_left; (first | omega | (simp; omega) | simp))))
    have n0 : (w5.alloc (.cells #[.int .i64 (d2), .int .i64 (0), .int .i64 (2 * d0)] 34)).cell? ⟨w5.heap.size, 0, none⟩ = some (.int .i64 (d2)) := by simp
    have n1 : (w5.alloc (.cells #[.int .i64 (d2), .int .i64 (0), .int .i64 (2 * d0)] 34)).cell? ⟨w5.heap.size, 1, none⟩ = some (.int .i64 (0)) := by simp
    have n2 : (w5.alloc (.cells #[.int .i64 (d2), .int .i64 (0), .int .i64 (2 * d0)] 34)).cell? ⟨w5.heap.size, 2, none⟩ = some (.int .i64 (2 * d0)) := by simp
    have x0 := (hB6.cell (p := ⟨bd, od, none⟩) hn0).trans g0
    have x1 := (hB6.cell (p := ⟨bd, od + 1, none⟩) hn0).trans g1
    have x2 := (hB6.cell (p := ⟨bd, od + 2, none⟩) hn0).trans g2
    generalize w5.alloc (.cells #[.int .i64 (d2), .int .i64 (0), .int .i64 (2 * d0)] 34) = w6 at *
    clear px py pz py' pz'
    go_quiet (fail)
    go_wp2
    go_ret
    exact ⟨rfl, (by repeat (first | exact Below.refl _ _ | assumption | refine ba_alloc ?_ _ | refine ba_drew ?_ | refine ba_drewN ?_ _ | refine ba_via (by assumption) ?_ | (refine ba_set ?_ ?_ _; rotate_left; (first | omega | (simp; omega) | simp))))⟩
theorem ends_walk (b : Bar) (A : Option Addr) (n c : Nat) (w : World) (hA : BarAt w w.heap.size A n b) :
    Calls Try.prog 4 #[barV b A n c] w fun e w' => e = .returned (.bool true) ∧ Below w.heap.size w w' := by
  cases hs : S.short b
  · exact ends_long b A n c w.heap.size w (Nat.le_refl _) hA hs
  · cases h : S.bar b
    · exact ends_no b A n c w.heap.size w (Nat.le_refl _) hA hs h
    · obtain rfl := hA.len
      obtain ⟨mk, sz, ct, cd, ds⟩ := b
      rcases bar_codes h with ⟨hc, a, e, h1, h2⟩ | ⟨hc, a, a2, e, h1, h2, h3⟩ | ⟨hc, a, a2, a3, e, h1, h2, h3, h4⟩ | ⟨hc, a, a2, a3, a4, a5, e, h1, h2, h3, h4, h5, h6⟩
      · simp only [] at hc e
        subst hc e
        exact ends_0 mk sz ct a A c w.heap.size w (Nat.le_refl _) hA hs h (by omega)
      · simp only [] at hc e
        subst hc e
        exact ends_11 mk sz ct a a2 A c w.heap.size w (Nat.le_refl _) hA hs h (by omega)
      · simp only [] at hc e
        rcases hc with hc | hc | hc | hc | hc <;> subst hc e
        · exact ends_21 mk sz ct a a2 a3 A c w.heap.size w (Nat.le_refl _) hA hs h (by omega)
        · exact ends_26 mk sz ct a a2 a3 A c w.heap.size w (Nat.le_refl _) hA hs h (by omega)
        · exact ends_31 mk sz ct a a2 a3 A c w.heap.size w (Nat.le_refl _) hA hs h (by omega)
        · exact ends_51 mk sz ct a a2 a3 A c w.heap.size w (Nat.le_refl _) hA hs h (by omega)
        · exact ends_98 mk sz ct a a2 a3 A c w.heap.size w (Nat.le_refl _) hA hs h (by omega)
      · simp only [] at hc e
        subst hc e
        exact ends_41 mk sz ct a a2 a3 a4 a5 A c w.heap.size w (Nat.le_refl _) hA hs h (by omega)
end Go.Proofs.Ytpjdepnbeendcaa
