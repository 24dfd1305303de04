/- Contracts: long, right, total of the laws on bends. -/
import Derived.Test.YtpjdepnbeendcaaBendB
set_option linter.unusedVariables false
set_option linter.unusedSimpArgs false
namespace Go.Proofs.Ytpjdepnbeendcaa
open Go.RowKit
def S.long (b : Bar) : Bool := decide (20 < b.dims.length) || decide (60 < b.mark.size)
def S.right (b : Bar) : Bool := !S.long b && S.bar b
theorem long_any (b : Bar) (A : Option Addr) (n c : Nat) (w : World) (hn : b.dims.length = n) (hm : n ≤ 9223372036854775807) (hk : b.mark.size ≤ 9223372036854775807) :
    Calls Try.prog 47 #[barV b A n c] w fun e w' => e = .returned (.bool (S.long b)) ∧ Below w.heap.size w w' := by
  have H := Lib.hid (show S.long b = (decide (20 < n) || decide (60 < b.mark.size)) by simp [S.long, hn])
  clear hn
  unfold barV
  go_enter Try.func47, Try.ntmps47
  go_wp2
  all_goals (go_ret; exact ⟨ret_b (by rw [H.out, Bool.eq_iff_iff]; simp; omega), (by repeat (first | exact Below.refl _ _ | assumption | refine ba_alloc ?_ _ | refine ba_drew ?_ | refine ba_drewN ?_ _ | refine ba_via (by assumption) ?_ | (refine ba_set ?_ ?_ _; rotate_left; (first | omega | (simp; omega) | simp))))⟩)
theorem right_any (b : Bar) (A : Option Addr) (n c : Nat) (B : Nat) (w : World) (hB : B ≤ w.heap.size) (hA : BarAt w B A n b) :
    Calls Try.prog 39 #[barV b A n c] w fun e w' => e = .returned (.bool (S.right b)) ∧ Below w.heap.size w w' := by
  have hn1 := hA.len
  have hm1 := hA.max
  have hk1 := hA.mark
  have HA := Lib.hid hA
  have H := Lib.hid (show S.right b = (!S.long b && S.bar b) from rfl)
  clear hA
  unfold barV
  cases h : S.long b
  · go_enter Try.func39, Try.ntmps39
    go_wp2_with (first
      | (go_at_call 47; (with_reducible refine (long_any b A n c _ hn1 hm1 hk1).mono ?_); rintro e w1 ⟨rfl, hbw1⟩; obtain ⟨hcw1, hfw1⟩ := bcell hbw1; have hzw1_0 : w.heap.size < w1.heap.size := lt_via hbw1 (by first | omega | (simp; done) | (simp; omega)))
      | (go_at_call 29; (with_reducible refine (rvalid_any b A n c B _ (by first | omega | (simp; omega)) (BarAt.at_ HA.out hB (by repeat (first | exact Below.refl _ _ | assumption | refine ba_alloc ?_ _ | refine ba_drew ?_ | refine ba_drewN ?_ _ | refine ba_via (by assumption) ?_ | (refine ba_set ?_ ?_ _; rotate_left; (first | omega | (simp; omega) | simp)))))).mono ?_); rintro e w2 ⟨rfl, hbw2⟩; obtain ⟨hcw2, hfw2⟩ := bcell hbw2; have hzw2_0 : w.heap.size < w2.heap.size := lt_via hbw2 (by first | omega | (simp; done) | (simp; omega))))
    go_ret
    exact ⟨ret_b (by rw [H.out, h]; rfl), (by repeat (first | exact Below.refl _ _ | assumption | refine ba_alloc ?_ _ | refine ba_drew ?_ | refine ba_drewN ?_ _ | refine ba_via (by assumption) ?_ | (refine ba_set ?_ ?_ _; rotate_left; (first | omega | (simp; omega) | simp))))⟩
  · go_enter Try.func39, Try.ntmps39
    go_wp2_with (first
      | (go_at_call 47; (with_reducible refine (long_any b A n c _ hn1 hm1 hk1).mono ?_); rintro e w1 ⟨rfl, hbw1⟩; obtain ⟨hcw1, hfw1⟩ := bcell hbw1; have hzw1_0 : w.heap.size < w1.heap.size := lt_via hbw1 (by first | omega | (simp; done) | (simp; omega))))
    go_ret
    exact ⟨ret_b (by rw [H.out, h]; rfl), (by repeat (first | exact Below.refl _ _ | assumption | refine ba_alloc ?_ _ | refine ba_drew ?_ | refine ba_drewN ?_ _ | refine ba_via (by assumption) ?_ | (refine ba_set ?_ ?_ _; rotate_left; (first | omega | (simp; omega) | simp))))⟩
theorem total_any (A : Option Addr) (n c : Nat) (xs : List Int) (B : Nat) (w : World) (hn : xs.length = n) (hm : n ≤ 1000000) (hs : Cells w B A (i64s xs)) (h1 : ∀ x, x ∈ xs → 1 ≤ x) (h2 : S.sum xs ≤ 1000000000000) :
    Calls Try.prog 43 #[.slice A n c] w fun e w' => e = .returned (.int .i64 (S.sum xs)) ∧ w = w' := by
  have HN := Lib.hid hn
  have HP := Lib.hid h1
  clear hn h1
  go_enter Try.func43, Try.ntmps43
  go_wp2
  go_loop [3, 8] (fun s i => ∃ k : Nat, k ≤ n ∧ i = .int .i64 k ∧ s = .int .i64 (S.sum (xs.take k))) (fun _ i => n - (intOf i).toNat)
  case atStart => exact ⟨0, Nat.zero_le _, rfl, rfl⟩
  case round =>
    obtain ⟨k, hk, rfl, rfl⟩ := hrel
    by_cases hlt : k < n
    · have hkx : k < xs.length := by have := HN.out; omega
      obtain ⟨b, o, rfl, _, hc⟩ := hs.at_ (by simp; omega)
      have hck := hc k _ (i64s_get hkx)
      clear hc
      have hst := sum_take_snoc (List.getElem?_eq_getElem hkx)
      have h6 := sum_take_le HP.out (k + 1)
      have h7 := sum_nonneg (l := xs.take k) (fun x hx => HP.out x (List.mem_of_mem_take hx))
      have h8 := HP.out _ (List.getElem_mem hkx)
      have HST := Lib.hid hst
      rw [hst] at h6
      generalize S.sum (xs.take k) = sk at *
      generalize xs[k] = q at *
      have f2 : IntKind.i64.wrap (sk + q) = sk + q := IntWalk.i64_in _ (by omega)
      clear hst
      go_wp2
      go_round
      case rel => exact ⟨k + 1, by omega, by go_num, vint HST.out.symm⟩
      case measure => simp [intOf]; omega
    · have he : k = n := by omega
      subst he
      have ht : xs.take k = xs := List.take_of_length_le (by have := HN.out; omega)
      rw [ht]
      go_wp2
      go_ret
      exact ⟨rfl, rfl⟩
end Go.Proofs.Ytpjdepnbeendcaa
