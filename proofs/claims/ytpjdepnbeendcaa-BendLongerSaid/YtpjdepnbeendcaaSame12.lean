/- Contracts: shape.Same and the reference's. -/
import Derived.Test.YtpjdepnbeendcaaRef12V
import Derived.Test.YtpjdepnbeendcaaLaw12C
set_option linter.unusedVariables false
set_option linter.unusedSimpArgs false
namespace Go.Proofs.Ytpjdepnbeendcaa
open Go.RowKit
namespace S
/-- Two bars have the same shape. -/
def same (a b : Bar) : Bool := decide (a.size = b.size) && decide (a.code = b.code) && eqi a.dims b.dims
/-- The error of shape.Same: an argument is not valid. -/
def sameErr (a b : Bar) : Int := if bar a = true ∧ bar b = true then 0 else 1
end S
theorem same_symm (a b : Bar) : S.same b a = S.same a b := by
  unfold S.same S.eqi
  rw [Bool.eq_iff_iff]
  simp only [Bool.and_eq_true, decide_eq_true_eq]
  exact ⟨fun h => ⟨⟨h.1.1.symm, h.1.2.symm⟩, h.2.symm⟩, fun h => ⟨⟨h.1.1.symm, h.1.2.symm⟩, h.2.symm⟩⟩
/-- The first bar is not valid. -/
theorem same_no1 (a b : Bar) (A A' : Option Addr) (n m c c' : Nat) (B : Nat) (w : World) (hB : B ≤ w.heap.size) (hA : BarAt w B A n a) (hb : BarAt w B A' m b) (h : S.bar a = false) :
    Calls Try.prog 28 #[barV a A n c, barV b A' m c'] w fun e w' => e = .returned (.tuple #[.bool false, .int .i64 1]) ∧ Below w.heap.size w w' := by
  have HA := Lib.hid hA
  clear hA hb
  unfold barV
  go_enter Try.func28, Try.ntmps28
  go_wp2_with (go_at_call 21; (with_reducible refine (valid_any a A n c B _ (by simp; omega) (BarAt.at_ HA.out hB (by repeat (first | exact Below.refl _ _ | assumption | refine ba_alloc ?_ _ | refine ba_drew ?_ | refine ba_drewN ?_ _ | refine ba_via (by assumption) ?_ | (refine ba_set ?_ ?_ _; rotate_left; (first | omega | (simp; omega) | simp)))))).mono ?_); rintro e w1 ⟨rfl, hbw1⟩; obtain ⟨hcw1, hfw1⟩ := bcell hbw1; have hzw1_0 : w.heap.size < w1.heap.size := lt_via hbw1 (by first | omega | (simp; done) | (simp; omega)); have hzw1_1 : w.heap.size + 1 < w1.heap.size := lt_via hbw1 (by first | omega | (simp; done) | (simp; omega)))
  go_ret2
  exact ⟨rfl, (by repeat (first | exact Below.refl _ _ | assumption | refine ba_alloc ?_ _ | refine ba_drew ?_ | refine ba_drewN ?_ _ | refine ba_via (by assumption) ?_ | (refine ba_set ?_ ?_ _; rotate_left; (first | omega | (simp; omega) | simp))))⟩
theorem same_no2 (a b : Bar) (A A' : Option Addr) (n m c c' : Nat) (B : Nat) (w : World) (hB : B ≤ w.heap.size) (hA : BarAt w B A n a) (hb : BarAt w B A' m b) (g : S.bar a = true) (h : S.bar b = false) :
    Calls Try.prog 28 #[barV a A n c, barV b A' m c'] w fun e w' => e = .returned (.tuple #[.bool false, .int .i64 1]) ∧ Below w.heap.size w w' := by
  have HA := Lib.hid hA
  have HB := Lib.hid hb
  clear hA hb
  unfold barV
  go_enter Try.func28, Try.ntmps28
  go_wp2_with (first
    | (go_at_call 21; (with_reducible refine (valid_any a A n c B _ (by simp; omega) (BarAt.at_ HA.out hB (by repeat (first | exact Below.refl _ _ | assumption | refine ba_alloc ?_ _ | refine ba_drew ?_ | refine ba_drewN ?_ _ | refine ba_via (by assumption) ?_ | (refine ba_set ?_ ?_ _; rotate_left; (first | omega | (simp; omega) | simp)))))).mono ?_); rintro e w1 ⟨rfl, hbw1⟩; obtain ⟨hcw1, hfw1⟩ := bcell hbw1; have hzw1_0 : w.heap.size < w1.heap.size := lt_via hbw1 (by first | omega | (simp; done) | (simp; omega)); have hzw1_1 : w.heap.size + 1 < w1.heap.size := lt_via hbw1 (by first | omega | (simp; done) | (simp; omega)))
    | (go_at_call 21; (with_reducible refine (valid_any b A' m c' B _ (by omega) (BarAt.at_ HB.out hB (by repeat (first | exact Below.refl _ _ | assumption | refine ba_alloc ?_ _ | refine ba_drew ?_ | refine ba_drewN ?_ _ | refine ba_via (by assumption) ?_ | (refine ba_set ?_ ?_ _; rotate_left; (first | omega | (simp; omega) | simp)))))).mono ?_); rintro e w2 ⟨rfl, hbw2⟩; obtain ⟨hcw2, hfw2⟩ := bcell hbw2; have hzw2_0 : w.heap.size < w2.heap.size := lt_via hbw2 (by first | omega | (simp; done) | (simp; omega)); have hzw2_1 : w.heap.size + 1 < w2.heap.size := lt_via hbw2 (by first | omega | (simp; done) | (simp; omega))))
  go_ret2
  exact ⟨rfl, (by repeat (first | exact Below.refl _ _ | assumption | refine ba_alloc ?_ _ | refine ba_drew ?_ | refine ba_drewN ?_ _ | refine ba_via (by assumption) ?_ | (refine ba_set ?_ ?_ _; rotate_left; (first | omega | (simp; omega) | simp))))⟩
theorem same_yes (a b : Bar) (A A' : Option Addr) (n m c c' : Nat) (B : Nat) (w : World) (hB : B ≤ w.heap.size) (hA : BarAt w B A n a) (hb : BarAt w B A' m b) (g : S.bar a = true) (h : S.bar b = true) :
    Calls Try.prog 28 #[barV a A n c, barV b A' m c'] w fun e w' => e = .returned (.tuple #[.bool (S.same a b), .int .i64 0]) ∧ Below w.heap.size w w' := by
  have HA := Lib.hid hA
  have HB := Lib.hid hb
  clear hA hb
  cases h1 : (a.size == b.size)
  · have H := Lib.hid (show S.same a b = false by simp at h1; simp [S.same, h1])
    unfold barV
    go_enter Try.func28, Try.ntmps28
    go_wp2_with (first
      | (go_at_call 21; (with_reducible refine (valid_any a A n c B _ (by simp; omega) (BarAt.at_ HA.out hB (by repeat (first | exact Below.refl _ _ | assumption | refine ba_alloc ?_ _ | refine ba_drew ?_ | refine ba_drewN ?_ _ | refine ba_via (by assumption) ?_ | (refine ba_set ?_ ?_ _; rotate_left; (first | omega | (simp; omega) | simp)))))).mono ?_); rintro e w1 ⟨rfl, hbw1⟩; obtain ⟨hcw1, hfw1⟩ := bcell hbw1; have hzw1_0 : w.heap.size < w1.heap.size := lt_via hbw1 (by first | omega | (simp; done) | (simp; omega)); have hzw1_1 : w.heap.size + 1 < w1.heap.size := lt_via hbw1 (by first | omega | (simp; done) | (simp; omega)))
      | (go_at_call 21; (with_reducible refine (valid_any b A' m c' B _ (by omega) (BarAt.at_ HB.out hB (by repeat (first | exact Below.refl _ _ | assumption | refine ba_alloc ?_ _ | refine ba_drew ?_ | refine ba_drewN ?_ _ | refine ba_via (by assumption) ?_ | (refine ba_set ?_ ?_ _; rotate_left; (first | omega | (simp; omega) | simp)))))).mono ?_); rintro e w2 ⟨rfl, hbw2⟩; obtain ⟨hcw2, hfw2⟩ := bcell hbw2; have hzw2_0 : w.heap.size < w2.heap.size := lt_via hbw2 (by first | omega | (simp; done) | (simp; omega)); have hzw2_1 : w.heap.size + 1 < w2.heap.size := lt_via hbw2 (by first | omega | (simp; done) | (simp; omega)))
      | (go_at_call 24; (with_reducible refine (equal_any A A' n m c c' a.dims b.dims B _ (by omega) HA.out.len HB.out.len HA.out.max HB.out.max (BarAt.at_ HA.out hB (by repeat (first | exact Below.refl _ _ | assumption | refine ba_alloc ?_ _ | refine ba_drew ?_ | refine ba_drewN ?_ _ | refine ba_via (by assumption) ?_ | (refine ba_set ?_ ?_ _; rotate_left; (first | omega | (simp; omega) | simp))))).cells (BarAt.at_ HB.out hB (by repeat (first | exact Below.refl _ _ | assumption | refine ba_alloc ?_ _ | refine ba_drew ?_ | refine ba_drewN ?_ _ | refine ba_via (by assumption) ?_ | (refine ba_set ?_ ?_ _; rotate_left; (first | omega | (simp; omega) | simp))))).cells).mono ?_); rintro e w3 ⟨rfl, hbw3⟩; obtain ⟨hcw3, hfw3⟩ := bcell hbw3; have hzw3_0 : w.heap.size < w3.heap.size := lt_via hbw3 (by first | omega | (simp; done) | (simp; omega)); have hzw3_1 : w.heap.size + 1 < w3.heap.size := lt_via hbw3 (by first | omega | (simp; done) | (simp; omega))))
    go_ret2
    exact ⟨by rw [H.out]; rfl, (by repeat (first | exact Below.refl _ _ | assumption | refine ba_alloc ?_ _ | refine ba_drew ?_ | refine ba_drewN ?_ _ | refine ba_via (by assumption) ?_ | (refine ba_set ?_ ?_ _; rotate_left; (first | omega | (simp; omega) | simp))))⟩
  · cases h2 : (a.code == b.code)
    · have H := Lib.hid (show S.same a b = false by simp at h2; simp [S.same, h2])
      unfold barV
      go_enter Try.func28, Try.ntmps28
      go_wp2_with (first
        | (go_at_call 21; (with_reducible refine (valid_any a A n c B _ (by simp; omega) (BarAt.at_ HA.out hB (by repeat (first | exact Below.refl _ _ | assumption | refine ba_alloc ?_ _ | refine ba_drew ?_ | refine ba_drewN ?_ _ | refine ba_via (by assumption) ?_ | (refine ba_set ?_ ?_ _; rotate_left; (first | omega | (simp; omega) | simp)))))).mono ?_); rintro e w1 ⟨rfl, hbw1⟩; obtain ⟨hcw1, hfw1⟩ := bcell hbw1; have hzw1_0 : w.heap.size < w1.heap.size := lt_via hbw1 (by first | omega | (simp; done) | (simp; omega)); have hzw1_1 : w.heap.size + 1 < w1.heap.size := lt_via hbw1 (by first | omega | (simp; done) | (simp; omega)))
        | (go_at_call 21; (with_reducible refine (valid_any b A' m c' B _ (by omega) (BarAt.at_ HB.out hB (by repeat (first | exact Below.refl _ _ | assumption | refine ba_alloc ?_ _ | refine ba_drew ?_ | refine ba_drewN ?_ _ | refine ba_via (by assumption) ?_ | (refine ba_set ?_ ?_ _; rotate_left; (first | omega | (simp; omega) | simp)))))).mono ?_); rintro e w2 ⟨rfl, hbw2⟩; obtain ⟨hcw2, hfw2⟩ := bcell hbw2; have hzw2_0 : w.heap.size < w2.heap.size := lt_via hbw2 (by first | omega | (simp; done) | (simp; omega)); have hzw2_1 : w.heap.size + 1 < w2.heap.size := lt_via hbw2 (by first | omega | (simp; done) | (simp; omega)))
        | (go_at_call 24; (with_reducible refine (equal_any A A' n m c c' a.dims b.dims B _ (by omega) HA.out.len HB.out.len HA.out.max HB.out.max (BarAt.at_ HA.out hB (by repeat (first | exact Below.refl _ _ | assumption | refine ba_alloc ?_ _ | refine ba_drew ?_ | refine ba_drewN ?_ _ | refine ba_via (by assumption) ?_ | (refine ba_set ?_ ?_ _; rotate_left; (first | omega | (simp; omega) | simp))))).cells (BarAt.at_ HB.out hB (by repeat (first | exact Below.refl _ _ | assumption | refine ba_alloc ?_ _ | refine ba_drew ?_ | refine ba_drewN ?_ _ | refine ba_via (by assumption) ?_ | (refine ba_set ?_ ?_ _; rotate_left; (first | omega | (simp; omega) | simp))))).cells).mono ?_); rintro e w3 ⟨rfl, hbw3⟩; obtain ⟨hcw3, hfw3⟩ := bcell hbw3; have hzw3_0 : w.heap.size < w3.heap.size := lt_via hbw3 (by first | omega | (simp; done) | (simp; omega)); have hzw3_1 : w.heap.size + 1 < w3.heap.size := lt_via hbw3 (by first | omega | (simp; done) | (simp; omega))))
      go_ret2
      exact ⟨by rw [H.out]; rfl, (by repeat (first | exact Below.refl _ _ | assumption | refine ba_alloc ?_ _ | refine ba_drew ?_ | refine ba_drewN ?_ _ | refine ba_via (by assumption) ?_ | (refine ba_set ?_ ?_ _; rotate_left; (first | omega | (simp; omega) | simp))))⟩
    · have H := Lib.hid (show S.same a b = S.eqi a.dims b.dims by simp at h1 h2; simp [S.same, h1, h2])
      unfold barV
      go_enter Try.func28, Try.ntmps28
      go_wp2_with (first
        | (go_at_call 21; (with_reducible refine (valid_any a A n c B _ (by simp; omega) (BarAt.at_ HA.out hB (by repeat (first | exact Below.refl _ _ | assumption | refine ba_alloc ?_ _ | refine ba_drew ?_ | refine ba_drewN ?_ _ | refine ba_via (by assumption) ?_ | (refine ba_set ?_ ?_ _; rotate_left; (first | omega | (simp; omega) | simp)))))).mono ?_); rintro e w1 ⟨rfl, hbw1⟩; obtain ⟨hcw1, hfw1⟩ := bcell hbw1; have hzw1_0 : w.heap.size < w1.heap.size := lt_via hbw1 (by first | omega | (simp; done) | (simp; omega)); have hzw1_1 : w.heap.size + 1 < w1.heap.size := lt_via hbw1 (by first | omega | (simp; done) | (simp; omega)))
        | (go_at_call 21; (with_reducible refine (valid_any b A' m c' B _ (by omega) (BarAt.at_ HB.out hB (by repeat (first | exact Below.refl _ _ | assumption | refine ba_alloc ?_ _ | refine ba_drew ?_ | refine ba_drewN ?_ _ | refine ba_via (by assumption) ?_ | (refine ba_set ?_ ?_ _; rotate_left; (first | omega | (simp; omega) | simp)))))).mono ?_); rintro e w2 ⟨rfl, hbw2⟩; obtain ⟨hcw2, hfw2⟩ := bcell hbw2; have hzw2_0 : w.heap.size < w2.heap.size := lt_via hbw2 (by first | omega | (simp; done) | (simp; omega)); have hzw2_1 : w.heap.size + 1 < w2.heap.size := lt_via hbw2 (by first | omega | (simp; done) | (simp; omega)))
        | (go_at_call 24; (with_reducible refine (equal_any A A' n m c c' a.dims b.dims B _ (by omega) HA.out.len HB.out.len HA.out.max HB.out.max (BarAt.at_ HA.out hB (by repeat (first | exact Below.refl _ _ | assumption | refine ba_alloc ?_ _ | refine ba_drew ?_ | refine ba_drewN ?_ _ | refine ba_via (by assumption) ?_ | (refine ba_set ?_ ?_ _; rotate_left; (first | omega | (simp; omega) | simp))))).cells (BarAt.at_ HB.out hB (by repeat (first | exact Below.refl _ _ | assumption | refine ba_alloc ?_ _ | refine ba_drew ?_ | refine ba_drewN ?_ _ | refine ba_via (by assumption) ?_ | (refine ba_set ?_ ?_ _; rotate_left; (first | omega | (simp; omega) | simp))))).cells).mono ?_); rintro e w3 ⟨rfl, hbw3⟩; obtain ⟨hcw3, hfw3⟩ := bcell hbw3; have hzw3_0 : w.heap.size < w3.heap.size := lt_via hbw3 (by first | omega | (simp; done) | (simp; omega)); have hzw3_1 : w.heap.size + 1 < w3.heap.size := lt_via hbw3 (by first | omega | (simp; done) | (simp; omega))))
      go_ret2
      exact ⟨by rw [H.out]; rfl, (by repeat (first | exact Below.refl _ _ | assumption | refine ba_alloc ?_ _ | refine ba_drew ?_ | refine ba_drewN ?_ _ | refine ba_via (by assumption) ?_ | (refine ba_set ?_ ?_ _; rotate_left; (first | omega | (simp; omega) | simp))))⟩
set_option maxHeartbeats 2000000 in
theorem rsame_any (a b : Bar) (A A' : Option Addr) (n m c c' : Nat) (B : Nat) (w : World) (hB : B ≤ w.heap.size) (hA : BarAt w B A n a) (hb : BarAt w B A' m b) :
    Calls Try.prog 30 #[barV a A n c, barV b A' m c'] w fun e w' => e = .returned (.bool (S.same a b)) ∧ Below w.heap.size w w' := by
  have HN := Lib.hid hA.len
  have HM := Lib.hid hb.len
  have hx := hA.cells
  have hy := hb.cells
  have hn' := hA.max
  have hm' := hb.max
  clear hA hb
  cases h1 : (a.size == b.size)
  · have h1' : (a.size != b.size) = true := by simp [bne, h1]
    have H := Lib.hid (show S.same a b = false by simp at h1; simp [S.same, h1])
    unfold barV
    go_enter Try.func30, Try.ntmps30
    go_wp2
    go_ret
    exact ⟨ret_b H.out.symm, (by repeat (first | exact Below.refl _ _ | assumption | refine ba_alloc ?_ _ | refine ba_drew ?_ | refine ba_drewN ?_ _ | refine ba_via (by assumption) ?_ | (refine ba_set ?_ ?_ _; rotate_left; (first | omega | (simp; omega) | simp))))⟩
  · have h1' : (a.size != b.size) = false := by simp [bne, h1]
    cases h2 : (a.code == b.code)
    · have h2' : (a.code != b.code) = true := by simp [bne, h2]
      have H := Lib.hid (show S.same a b = false by simp at h2; simp [S.same, h2])
      unfold barV
      go_enter Try.func30, Try.ntmps30
      go_wp2
      go_ret
      exact ⟨ret_b H.out.symm, (by repeat (first | exact Below.refl _ _ | assumption | refine ba_alloc ?_ _ | refine ba_drew ?_ | refine ba_drewN ?_ _ | refine ba_via (by assumption) ?_ | (refine ba_set ?_ ?_ _; rotate_left; (first | omega | (simp; omega) | simp))))⟩
    · have h2' : (a.code != b.code) = false := by simp [bne, h2]
      have H := Lib.hid (show S.same a b = S.eqi a.dims b.dims by simp at h1 h2; simp [S.same, h1, h2])
      by_cases hl : n = m
      · have hl' : ((n : Int) != (m : Int)) = false := by simp [hl]
        have HL := Lib.hid hl
        clear hl
        unfold barV
        go_enter Try.func30, Try.ntmps30
        go_wp2
        go_loopw [5] (fun i wr => ∃ k : Nat, k ≤ n ∧ i = .int .i64 k ∧ Hid (∀ j (hx : j < a.dims.length) (hy : j < b.dims.length), j < k → a.dims[j] = b.dims[j]) ∧ Below w.heap.size w wr ∧ w.heap.size + 1 < wr.heap.size ∧ wr.cell? ⟨w.heap.size, 4, none⟩ = some (.slice A n c) ∧ wr.cell? ⟨w.heap.size + 1, 4, none⟩ = some (.slice A' m c')) (fun i _ => n - (intOf i).toNat)
        case atStart => exact ⟨0, Nat.zero_le _, rfl, Lib.hid fun j _ _ h => absurd h (by omega), (by repeat (first | exact Below.refl _ _ | assumption | refine ba_alloc ?_ _ | refine ba_drew ?_ | refine ba_drewN ?_ _ | refine ba_via (by assumption) ?_ | (refine ba_set ?_ ?_ _; rotate_left; (first | omega | (simp; omega) | simp)))), by simp, by simp, by simp⟩
        case round =>
          obtain ⟨k, hk, rfl, HNO, hbr, hzr, f1, f2⟩ := hrel
          have hzr0 : w.heap.size < wr.heap.size := by omega
          by_cases hlt : k < n
          · have hkx : k < a.dims.length := by have := HN.out; omega
            have hky : k < b.dims.length := by have := HM.out; have := HL.out; omega
            have hkm : k < m := by have := HL.out; omega
            obtain ⟨b1, o1, rfl, hb1, hc1⟩ := (hx.below (hbr.mono hB)).at_ (by simp; omega)
            obtain ⟨b2, o2, rfl, hb2, hc2⟩ := (hy.below (hbr.mono hB)).at_ (by simp; omega)
            have e1 := hc1 k _ (i64s_get hkx)
            have e2 := hc2 k _ (i64s_get hky)
            clear hc1 hc2
            have hb1r : b1 < wr.heap.size := by omega
            have hb2r : b2 < wr.heap.size := by omega
            have hkn' : (k : Int) < (n : Int) := by omega
            have hkm' : (k : Int) < (m : Int) := by omega
            by_cases hq : a.dims[k] = b.dims[k]
            · have hq' : (a.dims[k] != b.dims[k]) = false := by simp [hq]
              have HQ := Lib.hid hq
              clear hq
              go_wp2
              go_quiet (fail)
              go_wp2
              go_roundw
              case rel =>
                refine ⟨k + 1, by omega, by go_num, Lib.hid fun j h1 h2 h3 => ?_, (by repeat (first | exact Below.refl _ _ | assumption | refine ba_alloc ?_ _ | refine ba_drew ?_ | refine ba_drewN ?_ _ | refine ba_via (by assumption) ?_ | (refine ba_set ?_ ?_ _; rotate_left; (first | omega | (simp; omega) | simp)))), by simpa using hzr, by simpa using f1, by simpa using f2⟩
                by_cases hjk : j = k
                · subst hjk; exact HQ.out
                · exact HNO.out j h1 h2 (by omega)
              case measure => simp [intOf]; omega
            · have hq' : (a.dims[k] != b.dims[k]) = true := by simp [hq]
              have HQ := Lib.hid (eqi_no_at hkx hky hq)
              clear hq
              go_wp2
              go_quiet (fail)
              go_wp2
              go_ret
              exact ⟨ret_b (by rw [H.out, HQ.out]), (by repeat (first | exact Below.refl _ _ | assumption | refine ba_alloc ?_ _ | refine ba_drew ?_ | refine ba_drewN ?_ _ | refine ba_via (by assumption) ?_ | (refine ba_set ?_ ?_ _; rotate_left; (first | omega | (simp; omega) | simp))))⟩
          · go_wp2
            go_ret
            exact ⟨ret_b (by rw [H.out]; exact (eqi_yes (by have := HN.out; have := HM.out; have := HL.out; omega) (fun j h1 h2 => HNO.out j h1 h2 (by have := HN.out; omega))).symm), (by repeat (first | exact Below.refl _ _ | assumption | refine ba_alloc ?_ _ | refine ba_drew ?_ | refine ba_drewN ?_ _ | refine ba_via (by assumption) ?_ | (refine ba_set ?_ ?_ _; rotate_left; (first | omega | (simp; omega) | simp))))⟩
      · have hl' : ((n : Int) != (m : Int)) = true := by simp; omega
        have HL := Lib.hid (eqi_no_len (xs := a.dims) (ys := b.dims) (by have := HN.out; have := HM.out; omega))
        clear hl
        unfold barV
        go_enter Try.func30, Try.ntmps30
        go_wp2
        go_ret
        exact ⟨ret_b (by rw [H.out, HL.out]), (by repeat (first | exact Below.refl _ _ | assumption | refine ba_alloc ?_ _ | refine ba_drew ?_ | refine ba_drewN ?_ _ | refine ba_via (by assumption) ?_ | (refine ba_set ?_ ?_ _; rotate_left; (first | omega | (simp; omega) | simp))))⟩
end Go.Proofs.Ytpjdepnbeendcaa
