/- Contracts: shape.legs, shape.Dims. -/
import Derived.Test.YtnmolefblaahmaaGreatMC
import Derived.Test.YtnmolefblaahmaaGreatMB
set_option linter.unusedVariables false
set_option linter.unusedSimpArgs false
namespace Go.Proofs.YtnmolefblaahmaaGreat
open Go.RowKit
abbrev legC (x : Nat × Nat) : List Value := [.int .i64 x.1, .int .u8 x.2]
def GivesLegs (l : List (Nat × Nat)) (w : World) (e : Ending) (w' : World) : Prop :=
 ∃ A, e = .returned (.slice A l.length l.length) ∧ Cells w' w'.heap.size A (l.flatMap legC) ∧ Below w.heap.size w w' ∧ ∀ ad, A = some ad → w.heap.size ≤ ad.block
set_option maxHeartbeats 1000000 in
theorem legs_any (code : Int) (w : World) : Calls Tryz.prog 221 #[.int .i64 code] w (GivesLegs (S.legsOf code) w) := by
 by_cases h0 : code = 0
 ·subst h0
  go_enter Tryz.func221, Tryz.ntmps221
  go_wp2
  go_ret
  exact ⟨_, rfl, Cells.newRow w _ _ _, bel, fun ad h => by injection h with h; rw [← h]; exact Nat.le_refl _⟩
 by_cases h11 : code = 11
 ·subst h11
  go_enter Tryz.func221, Tryz.ntmps221
  go_wp2
  go_ret
  exact ⟨_, rfl, Cells.newRow w _ _ _, bel, fun ad h => by injection h with h; rw [← h]; exact Nat.le_refl _⟩
 by_cases h21 : code = 21
 ·subst h21
  go_enter Tryz.func221, Tryz.ntmps221
  go_wp2
  go_ret
  exact ⟨_, rfl, Cells.newRow w _ _ _, bel, fun ad h => by injection h with h; rw [← h]; exact Nat.le_refl _⟩
 by_cases h26 : code = 26
 ·subst h26
  go_enter Tryz.func221, Tryz.ntmps221
  go_wp2
  go_ret
  exact ⟨_, rfl, Cells.newRow w _ _ _, bel, fun ad h => by injection h with h; rw [← h]; exact Nat.le_refl _⟩
 by_cases h31 : code = 31
 ·subst h31
  go_enter Tryz.func221, Tryz.ntmps221
  go_wp2
  go_ret
  exact ⟨_, rfl, Cells.newRow w _ _ _, bel, fun ad h => by injection h with h; rw [← h]; exact Nat.le_refl _⟩
 by_cases h41 : code = 41
 ·subst h41
  go_enter Tryz.func221, Tryz.ntmps221
  go_wp2
  go_ret
  exact ⟨_, rfl, Cells.newRow w _ _ _, bel, fun ad h => by injection h with h; rw [← h]; exact Nat.le_refl _⟩
 by_cases h51 : code = 51
 ·subst h51
  go_enter Tryz.func221, Tryz.ntmps221
  go_wp2
  go_ret
  exact ⟨_, rfl, Cells.newRow w _ _ _, bel, fun ad h => by injection h with h; rw [← h]; exact Nat.le_refl _⟩
 by_cases h98 : code = 98
 ·subst h98
  go_enter Tryz.func221, Tryz.ntmps221
  go_wp2
  go_ret
  exact ⟨_, rfl, Cells.newRow w _ _ _, bel, fun ad h => by injection h with h; rw [← h]; exact Nat.le_refl _⟩
 have b0 : (code == 0) = false := beq_eq_false_iff_ne.2 h0
 have b11 : (code == 11) = false := beq_eq_false_iff_ne.2 h11
 have b21 : (code == 21) = false := beq_eq_false_iff_ne.2 h21
 have b26 : (code == 26) = false := beq_eq_false_iff_ne.2 h26
 have b31 : (code == 31) = false := beq_eq_false_iff_ne.2 h31
 have b41 : (code == 41) = false := beq_eq_false_iff_ne.2 h41
 have b51 : (code == 51) = false := beq_eq_false_iff_ne.2 h51
 have b98 : (code == 98) = false := beq_eq_false_iff_ne.2 h98
 have e : S.legsOf code = [] := by simp only [S.legsOf, if_neg h0, if_neg h11, if_neg h21, if_neg h26, if_neg h31, if_neg h41, if_neg h51, if_neg h98]
 have E := Lib.hid e
 clear e h0 h11 h21 h26 h31 h41 h51 h98
 go_enter Tryz.func221, Tryz.ntmps221
 go_wp2
 go_ret
 refine ⟨none, ?_, ?_, bel, fun ad h => by cases h⟩
 ·rw [E.out]; rfl
 ·rw [E.out]; exact Cells.nil
theorem legC_len (a : Nat × Nat) : (legC a).length = 2 := rfl
set_option maxHeartbeats 1000000 in
theorem dims_any (code : Int) (w : World) : Calls Tryz.prog 200 #[.int .i64 code] w fun e w' => e = .returned (.tuple #[.int .i64 (S.dimsOf code), .int .i64 (S.dimsErr code)]) ∧ Below w.heap.size w w' := by
 have hM := maxd_legs code
 have HM := Lib.hid hM
 have hl6 := legs_len code
 clear hM
 go_enter Tryz.func200, Tryz.ntmps200
 go_wp2_with (go_at_call 221; (with_reducible refine (legs_any code _).mono ?_); rintro e w1 ⟨A, rfl, hs, hb1, _⟩)
 go_loopw [4, 10] (fun m i wr => ∃ k : Nat, k ≤ (S.legsOf code).length ∧ i = .int .i64 k ∧ m = .int .i64 (S.maxd ((S.legsOf code).take k)) ∧ Below w1.heap.size w1 wr) (fun _ i _ => (S.legsOf code).length - (intOf i).toNat)
 case atStart => exact ⟨0, Nat.zero_le _, rfl, rfl, Below.refl _ _⟩
 case round =>
  obtain ⟨k, hk, rfl, rfl, hbr⟩ := hrel
  by_cases hlt : k < (S.legsOf code).length
  ·have hs' := hs.below hbr
   obtain ⟨b, o, rfl, hbl, _⟩ := hs'.at_ (by rw [flat_len legC 2 legC_len]; omega)
   have c0 := hs'.row0 legC_len hlt rfl
   have c1 := hs'.rowj legC_len hlt 1 rfl
   have ht := maxd_snoc ((S.legsOf code).take k) (S.legsOf code)[k]
   rw [← List.take_succ_eq_append_getElem hlt] at ht
   have HT := Lib.hid ht
   have hb0 := maxd_bd ((S.legsOf code).take k)
   clear ht
   go_wp2
   go_roundw
   case rel => exact ⟨k + 1, by omega, by go_num, vint (by rw [HT.out]; split <;> omega), bel⟩
   case measure => simp [intOf]; omega
  ·have e : (S.legsOf code).take k = S.legsOf code := List.take_of_length_le (by omega)
   rw [e]
   clear e
   by_cases hd : S.dimsOf code = 0
   ·have h1 : S.maxd (S.legsOf code) < 0 := by have := HM.out; omega
    have HD := Lib.hid hd
    clear hd
    go_wp2
    go_ret2
    exact ⟨ret_2 HD.out.symm (show 11 = S.dimsErr code by simp [S.dimsErr, HD.out]), bel⟩
   ·have h1 : ¬ S.maxd (S.legsOf code) < 0 := by have := HM.out; have := (dimsOf_bd code).1; omega
    have h2 : S.maxd (S.legsOf code) ≤ 4 := by have := HM.out; have := (dimsOf_bd code).2; omega
    have HD := Lib.hid hd
    clear hd
    go_wp2
    go_ret2
    exact ⟨ret_2 HM.out (show 0 = S.dimsErr code by simp [S.dimsErr, HD.out]), bel⟩
end Go.Proofs.YtnmolefblaahmaaGreat
