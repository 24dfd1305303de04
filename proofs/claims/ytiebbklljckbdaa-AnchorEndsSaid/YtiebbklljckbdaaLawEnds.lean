/- The walk of AnchorEnds. -/
import Derived.Test.YtiebbklljckbdaaEndsF
set_option linter.unusedVariables false
set_option linter.unusedSimpArgs false
namespace Go.Proofs.Ytiebbklljckbdaa
open Go.RowKit
theorem given_one {r : Rule} {m : Mem} {b : Bar} {xs : List Bx} (h : S.heads r m b = false) : S.given r m b xs = 1 := by simp [S.given, h]
theorem rgiven_any (r : Rule) (m : Mem) (A : Option Addr) (n c : Nat) (A' : Option Addr) (n' c' : Nat) (b : Bar) (D : Option Addr) (dn dc : Nat) (L : Option Addr) (k kc : Nat) (xs : List Bx) (B : Nat) (w : World) (hB : B ≤ w.heap.size)
    (hA : EndsAt w B A n A' n' m D dn b L k xs) :
    Calls Try.prog 27 #[ruleV r, memV m A n c A' n' c', barV b D dn dc, .slice L k kc] w fun e w' => e = .returned (.int .i64 (S.given r m b xs)) ∧ Below w.heap.size w w' := by
  cases h : S.heads r m b
  · rw [given_one h]; exact rgiven_bad r m A n c A' n' c' b D dn dc L k kc xs B w hB hA h
  · exact rgiven_in r m A n c A' n' c' b D dn dc L k kc xs B w hB hA h
theorem aends_no (r : Rule) (m : Mem) (A : Option Addr) (n c : Nat) (A' : Option Addr) (n' c' : Nat) (b : Bar) (D : Option Addr) (dn dc : Nat) (L : Option Addr) (k kc : Nat) (xs : List Bx) (B : Nat) (w : World) (hB : B ≤ w.heap.size)
    (hA : EndsAt w B A n A' n' m D dn b L k xs) (hg : S.given r m b xs ≠ 0) :
    Calls Try.prog 26 #[ruleV r, memV m A n c A' n' c', barV b D dn dc, .slice L k kc] w fun e w' => e = .returned (.tuple #[.int .i64 0, .int .i64 0, .int .i64 (S.given r m b xs)]) ∧ Below w.heap.size w w' := by
  cases h : S.heads r m b
  · rw [given_one h]; exact aends_bad r m A n c A' n' c' b D dn dc L k kc xs B w hB hA h
  · exact aends_err r m A n c A' n' c' b D dn dc L k kc xs B w hB hA h hg
theorem given_leg {r : Rule} {m : Mem} {b : Bar} {xs : List Bx} (h : S.given r m b xs = 0) : ∃ j : Nat, ∃ hj : j < xs.length, idxf xs S.isMain = j := by
  obtain ⟨j, hj, h1, _⟩ := idxf_some (given_zero h).2.2.2
  exact ⟨j, hj, h1⟩
set_option maxRecDepth 100000 in
set_option maxHeartbeats 4000000 in
theorem ends_walk (r : Rule) (m : Mem) (A : Option Addr) (n c : Nat) (A' : Option Addr) (n' c' : Nat) (b : Bar) (D : Option Addr) (dn dc : Nat) (L : Option Addr) (k kc : Nat) (xs : List Bx) (B : Nat) (w : World) (hB : B ≤ w.heap.size)
    (hA : EndsAt w B A n A' n' m D dn b L k xs) :
    Calls Try.prog 7 #[ruleV r, memV m A n c A' n' c', barV b D dn dc, .slice L k kc] w fun e w' => e = .returned (.bool true) ∧ Below w.heap.size w w' := by
  have HA := Lib.hid hA
  have HLG := Lib.hid (fun (W : World) (hh : EndsAt W B A n A' n' m D dn b L k xs) => large_any m A n c A' n' c' b D dn dc L k kc W hh.sol.len hh.sol.len' hh.sol.max hh.sol.max' hh.name hh.bar.len hh.bar.max hh.bar.mark hh.max)
  have HG := Lib.hid (fun (W : World) (hw : B ≤ W.heap.size) (hh : EndsAt W B A n A' n' m D dn b L k xs) => rgiven_any r m A n c A' n' c' b D dn dc L k kc xs B W hw hh)
  by_cases hg : S.given r m b xs = 0
  · obtain ⟨j, hj, hij⟩ := given_leg hg
    have HE := Lib.hid (fun (W : World) (hw : B ≤ W.heap.size) (hh : EndsAt W B A n A' n' m D dn b L k xs) => aends_yes r m A n c A' n' c' b D dn dc L k kc xs B W hw hh hg j hj hij)
    have HR := Lib.hid (fun (W : World) (hw : B ≤ W.heap.size) (hh : EndsAt W B A n A' n' m D dn b L k xs) => rends_yes r m A n c A' n' c' b D dn dc L k kc xs B W hw hh hg j hj hij)
    rw [hg] at HG
    clear hA hg hj hij
    generalize S.endLen r m b xs j (xs.getD j S.zbox).lo = p at *
    generalize S.endLen r m b xs j (xs.getD j S.zbox).hi = q at *
    generalize S.large m b k = t at *
    unfold ruleV memV barV at *
    cases t
    all_goals (
      go_enter Try.func7, Try.ntmps7
      go_wp2_with (first
        | (go_at_call 10; (with_reducible refine (awake_any _).mono ?_); rintro e w1 ⟨rfl, hbw1⟩; obtain ⟨hcw1, hfw1⟩ := bcell hbw1; have hzw1_0 : w.heap.size < w1.heap.size := lt_via hbw1 (by first | omega | (simp; done) | (simp; omega)); have hzw1_1 : w.heap.size + 1 < w1.heap.size := lt_via hbw1 (by first | omega | (simp; done) | (simp; omega)); have hzw1_2 : w.heap.size + 2 < w1.heap.size := lt_via hbw1 (by first | omega | (simp; done) | (simp; omega)))
        | (go_at_call 20; (with_reducible refine (HLG.out _ (EndsAt.at_ HA.out hB (by repeat (first | exact Below.refl _ _ | assumption | refine ba_alloc ?_ _ | refine ba_drew ?_ | refine ba_drewN ?_ _ | refine ba_via (by assumption) ?_ | (refine ba_set ?_ ?_ _; rotate_left; (first | omega | (simp; omega) | simp)))))).mono ?_); rintro e w2 ⟨rfl, hbw2⟩; obtain ⟨hcw2, hfw2⟩ := bcell hbw2; have hzw2_0 : w.heap.size < w2.heap.size := lt_via hbw2 (by first | omega | (simp; done) | (simp; omega)); have hzw2_1 : w.heap.size + 1 < w2.heap.size := lt_via hbw2 (by first | omega | (simp; done) | (simp; omega)); have hzw2_2 : w.heap.size + 2 < w2.heap.size := lt_via hbw2 (by first | omega | (simp; done) | (simp; omega)))
        | (go_at_call 26; (with_reducible refine (HE.out _ (size_via hB (by repeat (first | exact Below.refl _ _ | assumption | refine ba_alloc ?_ _ | refine ba_drew ?_ | refine ba_drewN ?_ _ | refine ba_via (by assumption) ?_ | (refine ba_set ?_ ?_ _; rotate_left; (first | omega | (simp; omega) | simp))))) (EndsAt.at_ HA.out hB (by repeat (first | exact Below.refl _ _ | assumption | refine ba_alloc ?_ _ | refine ba_drew ?_ | refine ba_drewN ?_ _ | refine ba_via (by assumption) ?_ | (refine ba_set ?_ ?_ _; rotate_left; (first | omega | (simp; omega) | simp)))))).mono ?_); rintro e w3 ⟨rfl, hbw3⟩; obtain ⟨hcw3, hfw3⟩ := bcell hbw3; have hzw3_0 : w.heap.size < w3.heap.size := lt_via hbw3 (by first | omega | (simp; done) | (simp; omega)); have hzw3_1 : w.heap.size + 1 < w3.heap.size := lt_via hbw3 (by first | omega | (simp; done) | (simp; omega)); have hzw3_2 : w.heap.size + 2 < w3.heap.size := lt_via hbw3 (by first | omega | (simp; done) | (simp; omega)))
        | (go_at_call 27; (with_reducible refine (HG.out _ (size_via hB (by repeat (first | exact Below.refl _ _ | assumption | refine ba_alloc ?_ _ | refine ba_drew ?_ | refine ba_drewN ?_ _ | refine ba_via (by assumption) ?_ | (refine ba_set ?_ ?_ _; rotate_left; (first | omega | (simp; omega) | simp))))) (EndsAt.at_ HA.out hB (by repeat (first | exact Below.refl _ _ | assumption | refine ba_alloc ?_ _ | refine ba_drew ?_ | refine ba_drewN ?_ _ | refine ba_via (by assumption) ?_ | (refine ba_set ?_ ?_ _; rotate_left; (first | omega | (simp; omega) | simp)))))).mono ?_); rintro e w4 ⟨rfl, hbw4⟩; obtain ⟨hcw4, hfw4⟩ := bcell hbw4; have hzw4_0 : w.heap.size < w4.heap.size := lt_via hbw4 (by first | omega | (simp; done) | (simp; omega)); have hzw4_1 : w.heap.size + 1 < w4.heap.size := lt_via hbw4 (by first | omega | (simp; done) | (simp; omega)); have hzw4_2 : w.heap.size + 2 < w4.heap.size := lt_via hbw4 (by first | omega | (simp; done) | (simp; omega)))
        | (go_at_call 28; (with_reducible refine (HR.out _ (size_via hB (by repeat (first | exact Below.refl _ _ | assumption | refine ba_alloc ?_ _ | refine ba_drew ?_ | refine ba_drewN ?_ _ | refine ba_via (by assumption) ?_ | (refine ba_set ?_ ?_ _; rotate_left; (first | omega | (simp; omega) | simp))))) (EndsAt.at_ HA.out hB (by repeat (first | exact Below.refl _ _ | assumption | refine ba_alloc ?_ _ | refine ba_drew ?_ | refine ba_drewN ?_ _ | refine ba_via (by assumption) ?_ | (refine ba_set ?_ ?_ _; rotate_left; (first | omega | (simp; omega) | simp)))))).mono ?_); rintro e w5 ⟨rfl, hbw5⟩; obtain ⟨hcw5, hfw5⟩ := bcell hbw5; have hzw5_0 : w.heap.size < w5.heap.size := lt_via hbw5 (by first | omega | (simp; done) | (simp; omega)); have hzw5_1 : w.heap.size + 1 < w5.heap.size := lt_via hbw5 (by first | omega | (simp; done) | (simp; omega)); have hzw5_2 : w.heap.size + 2 < w5.heap.size := lt_via hbw5 (by first | omega | (simp; done) | (simp; omega))))
      go_ret
      exact ⟨rfl, (by repeat (first | exact Below.refl _ _ | assumption | refine ba_alloc ?_ _ | refine ba_drew ?_ | refine ba_drewN ?_ _ | refine ba_via (by assumption) ?_ | (refine ba_set ?_ ?_ _; rotate_left; (first | omega | (simp; omega) | simp))))⟩)
  · have HE := Lib.hid (fun (W : World) (hw : B ≤ W.heap.size) (hh : EndsAt W B A n A' n' m D dn b L k xs) => aends_no r m A n c A' n' c' b D dn dc L k kc xs B W hw hh hg)
    generalize S.given r m b xs = G at *
    have hb : (G == 0) = false := by simpa using hg
    have hb' : (G != 0) = true := by simp [bne, hb]
    clear hA hg
    generalize S.large m b k = t at *
    unfold ruleV memV barV at *
    cases t
    all_goals (
      go_enter Try.func7, Try.ntmps7
      go_wp2_with (first
        | (go_at_call 10; (with_reducible refine (awake_any _).mono ?_); rintro e w1 ⟨rfl, hbw1⟩; obtain ⟨hcw1, hfw1⟩ := bcell hbw1; have hzw1_0 : w.heap.size < w1.heap.size := lt_via hbw1 (by first | omega | (simp; done) | (simp; omega)); have hzw1_1 : w.heap.size + 1 < w1.heap.size := lt_via hbw1 (by first | omega | (simp; done) | (simp; omega)); have hzw1_2 : w.heap.size + 2 < w1.heap.size := lt_via hbw1 (by first | omega | (simp; done) | (simp; omega)))
        | (go_at_call 20; (with_reducible refine (HLG.out _ (EndsAt.at_ HA.out hB (by repeat (first | exact Below.refl _ _ | assumption | refine ba_alloc ?_ _ | refine ba_drew ?_ | refine ba_drewN ?_ _ | refine ba_via (by assumption) ?_ | (refine ba_set ?_ ?_ _; rotate_left; (first | omega | (simp; omega) | simp)))))).mono ?_); rintro e w2 ⟨rfl, hbw2⟩; obtain ⟨hcw2, hfw2⟩ := bcell hbw2; have hzw2_0 : w.heap.size < w2.heap.size := lt_via hbw2 (by first | omega | (simp; done) | (simp; omega)); have hzw2_1 : w.heap.size + 1 < w2.heap.size := lt_via hbw2 (by first | omega | (simp; done) | (simp; omega)); have hzw2_2 : w.heap.size + 2 < w2.heap.size := lt_via hbw2 (by first | omega | (simp; done) | (simp; omega)))
        | (go_at_call 26; (with_reducible refine (HE.out _ (size_via hB (by repeat (first | exact Below.refl _ _ | assumption | refine ba_alloc ?_ _ | refine ba_drew ?_ | refine ba_drewN ?_ _ | refine ba_via (by assumption) ?_ | (refine ba_set ?_ ?_ _; rotate_left; (first | omega | (simp; omega) | simp))))) (EndsAt.at_ HA.out hB (by repeat (first | exact Below.refl _ _ | assumption | refine ba_alloc ?_ _ | refine ba_drew ?_ | refine ba_drewN ?_ _ | refine ba_via (by assumption) ?_ | (refine ba_set ?_ ?_ _; rotate_left; (first | omega | (simp; omega) | simp)))))).mono ?_); rintro e w3 ⟨rfl, hbw3⟩; obtain ⟨hcw3, hfw3⟩ := bcell hbw3; have hzw3_0 : w.heap.size < w3.heap.size := lt_via hbw3 (by first | omega | (simp; done) | (simp; omega)); have hzw3_1 : w.heap.size + 1 < w3.heap.size := lt_via hbw3 (by first | omega | (simp; done) | (simp; omega)); have hzw3_2 : w.heap.size + 2 < w3.heap.size := lt_via hbw3 (by first | omega | (simp; done) | (simp; omega)))
        | (go_at_call 27; (with_reducible refine (HG.out _ (size_via hB (by repeat (first | exact Below.refl _ _ | assumption | refine ba_alloc ?_ _ | refine ba_drew ?_ | refine ba_drewN ?_ _ | refine ba_via (by assumption) ?_ | (refine ba_set ?_ ?_ _; rotate_left; (first | omega | (simp; omega) | simp))))) (EndsAt.at_ HA.out hB (by repeat (first | exact Below.refl _ _ | assumption | refine ba_alloc ?_ _ | refine ba_drew ?_ | refine ba_drewN ?_ _ | refine ba_via (by assumption) ?_ | (refine ba_set ?_ ?_ _; rotate_left; (first | omega | (simp; omega) | simp)))))).mono ?_); rintro e w4 ⟨rfl, hbw4⟩; obtain ⟨hcw4, hfw4⟩ := bcell hbw4; have hzw4_0 : w.heap.size < w4.heap.size := lt_via hbw4 (by first | omega | (simp; done) | (simp; omega)); have hzw4_1 : w.heap.size + 1 < w4.heap.size := lt_via hbw4 (by first | omega | (simp; done) | (simp; omega)); have hzw4_2 : w.heap.size + 2 < w4.heap.size := lt_via hbw4 (by first | omega | (simp; done) | (simp; omega))))
      go_ret
      exact ⟨rfl, (by repeat (first | exact Below.refl _ _ | assumption | refine ba_alloc ?_ _ | refine ba_drew ?_ | refine ba_drewN ?_ _ | refine ba_via (by assumption) ?_ | (refine ba_set ?_ ?_ _; rotate_left; (first | omega | (simp; omega) | simp))))⟩)
end Go.Proofs.Ytiebbklljckbdaa
