/- The walk of AnchorMoved (printed by tools/gen_mirr.py out of tools/moved.txt). -/
import Derived.Test.YtiebbklljckbdaaAll24
import Derived.Test.YtiebbklljckbdaaLawEndsA
set_option linter.unusedVariables false
set_option linter.unusedSimpArgs false
namespace Go.Proofs.Ytiebbklljckbdaa
open Go.RowKit
theorem run_max3 (x y z : Int) (W : World) : Sem.run Try.prog (Builtin.max_ #[3, 3, 3] 3 #[.int .i64 x, .int .i64 y, .int .i64 z]) W = .ok (.int .i64 (S.mx (S.mx x y) z)) W := by
  simp [Builtin.max_, go_sem, List.foldlM, Builtin.max2, S.mx]
  rfl
theorem run_min3 (x y z : Int) (W : World) : Sem.run Try.prog (Builtin.min_ #[3, 3, 3] 3 #[.int .i64 x, .int .i64 y, .int .i64 z]) W = .ok (.int .i64 (S.mn (S.mn x y) z)) W := by
  simp [Builtin.min_, go_sem, List.foldlM, Builtin.min2, S.mn]
  rfl
theorem mx_bd {a b c : Int} (ha : a ≤ c) (hb : b ≤ c) : S.mx a b ≤ c := by unfold S.mx; split <;> omega
theorem mn_bd {a b c : Int} (ha : c ≤ a) (hb : c ≤ b) : c ≤ S.mn a b := by unfold S.mn; split <;> omega
theorem moved_no (r : Rule) (m : Mem) (A : Option Addr) (n c : Nat) (A' : Option Addr) (n' c' : Nat) (b : Bar) (D : Option Addr) (dn dc : Nat) (L : Option Addr) (k kc : Nat) (xs : List Bx) (d : Pt) (B : Nat) (w : World) (hB : B ≤ w.heap.size)
    (hA : EndsAt w B A n A' n' m D dn b L k xs) (hg : S.large m b k = true ∨ S.given r m b xs ≠ 0) :
    Calls Try.prog 8 #[ruleV r, memV m A n c A' n' c', barV b D dn dc, .slice L k kc, ptVal d] w fun e w' => e = .returned (.bool true) ∧ Below w.heap.size w w' := by
  have HA := Lib.hid hA
  have HLG := Lib.hid (fun (W : World) (hh : EndsAt W B A n A' n' m D dn b L k xs) => large_any m A n c A' n' c' b D dn dc L k kc W hh.sol.len hh.sol.len' hh.sol.max hh.sol.max' hh.name hh.bar.len hh.bar.max hh.bar.mark hh.max)
  clear hA
  cases ht : S.large m b k
  · have hg' : S.given r m b xs ≠ 0 := by
      rcases hg with h | h
      · rw [ht] at h; cases h
      · exact h
    have HE := Lib.hid (fun (W : World) (hw : B ≤ W.heap.size) (hh : EndsAt W B A n A' n' m D dn b L k xs) => aends_no r m A n c A' n' c' b D dn dc L k kc xs B W hw hh hg')
    rw [ht] at HLG
    generalize S.given r m b xs = G at *
    have hb : (G == 0) = false := by simpa using hg'
    have hb' : (G != 0) = true := by simp [bne, hb]
    clear hg hg' ht
    unfold ruleV memV barV ptVal at *
    go_enter Try.func8, Try.ntmps8
    go_wp2_with (first
      | (go_at_call 10; (with_reducible refine (awake_any _).mono ?_); rintro e w1 ⟨rfl, hbw1⟩; obtain ⟨hcw1, hfw1⟩ := bcell hbw1; have hzw1_0 : w.heap.size < w1.heap.size := lt_via hbw1 (by first | omega | (simp; done) | (simp; omega)); have hzw1_1 : w.heap.size + 1 < w1.heap.size := lt_via hbw1 (by first | omega | (simp; done) | (simp; omega)); have hzw1_2 : w.heap.size + 2 < w1.heap.size := lt_via hbw1 (by first | omega | (simp; done) | (simp; omega)); have hzw1_3 : w.heap.size + 3 < w1.heap.size := lt_via hbw1 (by first | omega | (simp; done) | (simp; omega)); have hzw1_4 : w.heap.size + 4 < w1.heap.size := lt_via hbw1 (by first | omega | (simp; done) | (simp; omega)))
      | (go_at_call 20; (with_reducible refine (HLG.out _ (EndsAt.at_ HA.out hB (by repeat (first | exact Below.refl _ _ | assumption | refine ba_alloc ?_ _ | refine ba_drew ?_ | refine ba_drewN ?_ _ | refine ba_via (by assumption) ?_ | (refine ba_set ?_ ?_ _; rotate_left; (first | omega | (simp; omega) | simp)))))).mono ?_); rintro e w2 ⟨rfl, hbw2⟩; obtain ⟨hcw2, hfw2⟩ := bcell hbw2; have hzw2_0 : w.heap.size < w2.heap.size := lt_via hbw2 (by first | omega | (simp; done) | (simp; omega)); have hzw2_1 : w.heap.size + 1 < w2.heap.size := lt_via hbw2 (by first | omega | (simp; done) | (simp; omega)); have hzw2_2 : w.heap.size + 2 < w2.heap.size := lt_via hbw2 (by first | omega | (simp; done) | (simp; omega)); have hzw2_3 : w.heap.size + 3 < w2.heap.size := lt_via hbw2 (by first | omega | (simp; done) | (simp; omega)); have hzw2_4 : w.heap.size + 4 < w2.heap.size := lt_via hbw2 (by first | omega | (simp; done) | (simp; omega)))
      | (go_at_call 26; (with_reducible refine (HE.out _ (size_via hB (by repeat (first | exact Below.refl _ _ | assumption | refine ba_alloc ?_ _ | refine ba_drew ?_ | refine ba_drewN ?_ _ | refine ba_via (by assumption) ?_ | (refine ba_set ?_ ?_ _; rotate_left; (first | omega | (simp; omega) | simp))))) (EndsAt.at_ HA.out hB (by repeat (first | exact Below.refl _ _ | assumption | refine ba_alloc ?_ _ | refine ba_drew ?_ | refine ba_drewN ?_ _ | refine ba_via (by assumption) ?_ | (refine ba_set ?_ ?_ _; rotate_left; (first | omega | (simp; omega) | simp)))))).mono ?_); rintro e w3 ⟨rfl, hbw3⟩; obtain ⟨hcw3, hfw3⟩ := bcell hbw3; have hzw3_0 : w.heap.size < w3.heap.size := lt_via hbw3 (by first | omega | (simp; done) | (simp; omega)); have hzw3_1 : w.heap.size + 1 < w3.heap.size := lt_via hbw3 (by first | omega | (simp; done) | (simp; omega)); have hzw3_2 : w.heap.size + 2 < w3.heap.size := lt_via hbw3 (by first | omega | (simp; done) | (simp; omega)); have hzw3_3 : w.heap.size + 3 < w3.heap.size := lt_via hbw3 (by first | omega | (simp; done) | (simp; omega)); have hzw3_4 : w.heap.size + 4 < w3.heap.size := lt_via hbw3 (by first | omega | (simp; done) | (simp; omega))))
    go_ret
    exact ⟨rfl, (by repeat (first | exact Below.refl _ _ | assumption | refine ba_alloc ?_ _ | refine ba_drew ?_ | refine ba_drewN ?_ _ | refine ba_via (by assumption) ?_ | (refine ba_set ?_ ?_ _; rotate_left; (first | omega | (simp; omega) | simp))))⟩
  · rw [ht] at HLG
    clear hg ht
    unfold ruleV memV barV ptVal at *
    go_enter Try.func8, Try.ntmps8
    go_wp2_with (first
      | (go_at_call 10; (with_reducible refine (awake_any _).mono ?_); rintro e w1 ⟨rfl, hbw1⟩; obtain ⟨hcw1, hfw1⟩ := bcell hbw1; have hzw1_0 : w.heap.size < w1.heap.size := lt_via hbw1 (by first | omega | (simp; done) | (simp; omega)); have hzw1_1 : w.heap.size + 1 < w1.heap.size := lt_via hbw1 (by first | omega | (simp; done) | (simp; omega)); have hzw1_2 : w.heap.size + 2 < w1.heap.size := lt_via hbw1 (by first | omega | (simp; done) | (simp; omega)); have hzw1_3 : w.heap.size + 3 < w1.heap.size := lt_via hbw1 (by first | omega | (simp; done) | (simp; omega)); have hzw1_4 : w.heap.size + 4 < w1.heap.size := lt_via hbw1 (by first | omega | (simp; done) | (simp; omega)))
      | (go_at_call 20; (with_reducible refine (HLG.out _ (EndsAt.at_ HA.out hB (by repeat (first | exact Below.refl _ _ | assumption | refine ba_alloc ?_ _ | refine ba_drew ?_ | refine ba_drewN ?_ _ | refine ba_via (by assumption) ?_ | (refine ba_set ?_ ?_ _; rotate_left; (first | omega | (simp; omega) | simp)))))).mono ?_); rintro e w2 ⟨rfl, hbw2⟩; obtain ⟨hcw2, hfw2⟩ := bcell hbw2; have hzw2_0 : w.heap.size < w2.heap.size := lt_via hbw2 (by first | omega | (simp; done) | (simp; omega)); have hzw2_1 : w.heap.size + 1 < w2.heap.size := lt_via hbw2 (by first | omega | (simp; done) | (simp; omega)); have hzw2_2 : w.heap.size + 2 < w2.heap.size := lt_via hbw2 (by first | omega | (simp; done) | (simp; omega)); have hzw2_3 : w.heap.size + 3 < w2.heap.size := lt_via hbw2 (by first | omega | (simp; done) | (simp; omega)); have hzw2_4 : w.heap.size + 4 < w2.heap.size := lt_via hbw2 (by first | omega | (simp; done) | (simp; omega))))
    go_ret
    exact ⟨rfl, (by repeat (first | exact Below.refl _ _ | assumption | refine ba_alloc ?_ _ | refine ba_drew ?_ | refine ba_drewN ?_ _ | refine ba_via (by assumption) ?_ | (refine ba_set ?_ ?_ _; rotate_left; (first | omega | (simp; omega) | simp))))⟩
set_option maxRecDepth 100000 in
set_option maxHeartbeats 2000000 in
theorem moved_far (r : Rule) (m : Mem) (A : Option Addr) (n c : Nat) (A' : Option Addr) (n' c' : Nat) (b : Bar) (D : Option Addr) (dn dc : Nat) (L : Option Addr) (k kc : Nat) (xs : List Bx) (d : Pt) (B : Nat) (w : World) (hB : B ≤ w.heap.size)
    (hA : EndsAt w B A n A' n' m D dn b L k xs) (hs : S.large m b k = false) (hg : S.given r m b xs = 0) (hd : ¬ Small d) :
    Calls Try.prog 8 #[ruleV r, memV m A n c A' n' c', barV b D dn dc, .slice L k kc, ptVal d] w fun e w' => e = .returned (.bool true) ∧ Below w.heap.size w w' := by
  have HA := Lib.hid hA
  have HLG := Lib.hid (fun (W : World) (hh : EndsAt W B A n A' n' m D dn b L k xs) => hs ▸ large_any m A n c A' n' c' b D dn dc L k kc W hh.sol.len hh.sol.len' hh.sol.max hh.sol.max' hh.name hh.bar.len hh.bar.max hh.bar.mark hh.max)
  obtain ⟨j, hj, hij⟩ := given_leg hg
  have HE := Lib.hid (fun (W : World) (hw : B ≤ W.heap.size) (hh : EndsAt W B A n A' n' m D dn b L k xs) => aends_yes r m A n c A' n' c' b D dn dc L k kc xs B W hw hh hg j hj hij)
  have hMx := run_max3 d.x d.y d.z
  have hMn := run_min3 d.x d.y d.z
  have hbad : 1048576 < S.mx (S.mx d.x d.y) d.z ∨ S.mn (S.mn d.x d.y) d.z < -1048576 := by
    unfold Small at hd
    have h1 : d.x ≤ S.mx (S.mx d.x d.y) d.z ∧ d.y ≤ S.mx (S.mx d.x d.y) d.z ∧ d.z ≤ S.mx (S.mx d.x d.y) d.z := by
      unfold S.mx; split <;> split <;> omega
    have h2 : S.mn (S.mn d.x d.y) d.z ≤ d.x ∧ S.mn (S.mn d.x d.y) d.z ≤ d.y ∧ S.mn (S.mn d.x d.y) d.z ≤ d.z := by
      unfold S.mn; split <;> split <;> omega
    omega
  clear hA hg hs hij hd
  generalize S.mx (S.mx d.x d.y) d.z = M at *
  generalize S.mn (S.mn d.x d.y) d.z = N at *
  generalize S.endLen r m b xs j (xs.getD j S.zbox).lo = p at *
  generalize S.endLen r m b xs j (xs.getD j S.zbox).hi = q at *
  unfold ptVal
  unfold memV barV ruleV at *
  have hcase : 1048576 < M ∨ (¬ 1048576 < M ∧ N < -1048576) := by omega
  clear hbad
  rcases hcase with h | ⟨h, h'⟩
  all_goals (
    go_enter Try.func8, Try.ntmps8
    go_wp2_with (first
      | (go_at_call 10; (with_reducible refine (awake_any _).mono ?_); rintro e w1 ⟨rfl, hbw1⟩; obtain ⟨hcw1, hfw1⟩ := bcell hbw1; have hzw1_0 : w.heap.size < w1.heap.size := lt_via hbw1 (by first | omega | (simp; done) | (simp; omega)); have hzw1_1 : w.heap.size + 1 < w1.heap.size := lt_via hbw1 (by first | omega | (simp; done) | (simp; omega)); have hzw1_2 : w.heap.size + 2 < w1.heap.size := lt_via hbw1 (by first | omega | (simp; done) | (simp; omega)); have hzw1_3 : w.heap.size + 3 < w1.heap.size := lt_via hbw1 (by first | omega | (simp; done) | (simp; omega)); have hzw1_4 : w.heap.size + 4 < w1.heap.size := lt_via hbw1 (by first | omega | (simp; done) | (simp; omega)))
      | (go_at_call 20; (with_reducible refine (HLG.out _ (EndsAt.at_ HA.out hB (by repeat (first | exact Below.refl _ _ | assumption | refine ba_alloc ?_ _ | refine ba_drew ?_ | refine ba_drewN ?_ _ | refine ba_via (by assumption) ?_ | (refine ba_set ?_ ?_ _; rotate_left; (first | omega | (simp; omega) | simp)))))).mono ?_); rintro e w2 ⟨rfl, hbw2⟩; obtain ⟨hcw2, hfw2⟩ := bcell hbw2; have hzw2_0 : w.heap.size < w2.heap.size := lt_via hbw2 (by first | omega | (simp; done) | (simp; omega)); have hzw2_1 : w.heap.size + 1 < w2.heap.size := lt_via hbw2 (by first | omega | (simp; done) | (simp; omega)); have hzw2_2 : w.heap.size + 2 < w2.heap.size := lt_via hbw2 (by first | omega | (simp; done) | (simp; omega)); have hzw2_3 : w.heap.size + 3 < w2.heap.size := lt_via hbw2 (by first | omega | (simp; done) | (simp; omega)); have hzw2_4 : w.heap.size + 4 < w2.heap.size := lt_via hbw2 (by first | omega | (simp; done) | (simp; omega)))
      | (go_at_call 26; (with_reducible refine (HE.out _ (size_via hB (by repeat (first | exact Below.refl _ _ | assumption | refine ba_alloc ?_ _ | refine ba_drew ?_ | refine ba_drewN ?_ _ | refine ba_via (by assumption) ?_ | (refine ba_set ?_ ?_ _; rotate_left; (first | omega | (simp; omega) | simp))))) (EndsAt.at_ HA.out hB (by repeat (first | exact Below.refl _ _ | assumption | refine ba_alloc ?_ _ | refine ba_drew ?_ | refine ba_drewN ?_ _ | refine ba_via (by assumption) ?_ | (refine ba_set ?_ ?_ _; rotate_left; (first | omega | (simp; omega) | simp)))))).mono ?_); rintro e w3 ⟨rfl, hbw3⟩; obtain ⟨hcw3, hfw3⟩ := bcell hbw3; have hzw3_0 : w.heap.size < w3.heap.size := lt_via hbw3 (by first | omega | (simp; done) | (simp; omega)); have hzw3_1 : w.heap.size + 1 < w3.heap.size := lt_via hbw3 (by first | omega | (simp; done) | (simp; omega)); have hzw3_2 : w.heap.size + 2 < w3.heap.size := lt_via hbw3 (by first | omega | (simp; done) | (simp; omega)); have hzw3_3 : w.heap.size + 3 < w3.heap.size := lt_via hbw3 (by first | omega | (simp; done) | (simp; omega)); have hzw3_4 : w.heap.size + 4 < w3.heap.size := lt_via hbw3 (by first | omega | (simp; done) | (simp; omega))))
    go_ret
    exact ⟨rfl, (by repeat (first | exact Below.refl _ _ | assumption | refine ba_alloc ?_ _ | refine ba_drew ?_ | refine ba_drewN ?_ _ | refine ba_via (by assumption) ?_ | (refine ba_set ?_ ?_ _; rotate_left; (first | omega | (simp; omega) | simp))))⟩)
set_option maxRecDepth 100000 in
set_option maxHeartbeats 8000000 in
theorem moved_yes (r : Rule) (m : Mem) (A : Option Addr) (n c : Nat) (A' : Option Addr) (n' c' : Nat) (b : Bar) (D : Option Addr) (dn dc : Nat) (L : Option Addr) (k kc : Nat) (xs : List Bx) (d : Pt) (B : Nat) (w : World) (hB : B ≤ w.heap.size)
    (hA : EndsAt w B A n A' n' m D dn b L k xs) (hs : S.large m b k = false) (hg : S.given r m b xs = 0) (hd : Small d) :
    Calls Try.prog 8 #[ruleV r, memV m A n c A' n' c', barV b D dn dc, .slice L k kc, ptVal d] w fun e w' => e = .returned (.bool true) ∧ Below w.heap.size w w' := by
  have HA := Lib.hid hA
  have HLG := Lib.hid (fun (W : World) (hh : EndsAt W B A n A' n' m D dn b L k xs) => hs ▸ large_any m A n c A' n' c' b D dn dc L k kc W hh.sol.len hh.sol.len' hh.sol.max hh.sol.max' hh.name hh.bar.len hh.bar.max hh.bar.mark hh.max)
  obtain ⟨j, hj, hij⟩ := given_leg hg
  have HE := Lib.hid (fun (W : World) (hw : B ≤ W.heap.size) (hh : EndsAt W B A n A' n' m D dn b L k xs) => aends_yes r m A n c A' n' c' b D dn dc L k kc xs B W hw hh hg j hj hij)
  obtain ⟨g1, g2, g3, _⟩ := given_zero hg
  obtain ⟨hso, _⟩ := boxes_one g1
  have HOKX := Lib.hid (boxes_ok g2)
  have HOKB := Lib.hid (boxes_ok (solid_ok hso).1)
  have hcnt : m.boxes.length ≤ 20 ∧ m.holes.length ≤ 20 := by
    have := hso
    simp only [S.solid, Bool.and_eq_true, decide_eq_true_eq] at this
    omega
  have HOKH := Lib.hid (show ∀ x, x ∈ m.holes → S.boxOk x = true by
    have := hso
    simp only [S.solid, Bool.and_eq_true, Bool.not_eq_true'] at this
    intro x hx
    have h1 := this.2
    unfold anyb at h1
    rw [List.any_eq_false] at h1
    have h2 := h1 x hx
    simp only [S.thin, S.thick, Bool.not_eq_true', Bool.not_eq_false, Bool.and_eq_true] at h2
    exact h2.1.1.1)
  have hl6 := legs_len b.code
  have hlen := hA.len
  have hn := hA.sol.len
  have hn' := hA.sol.len'
  have hk6 : k ≤ 6 := by omega
  have HD := Lib.hid hd
  have HMS := Lib.hid (moved_shift d hg hj hij)
  have HMY := Lib.hid (moved_mirY hg hj hij)
  have HJM := Lib.hid (show ∀ f : Bx → Bx, j < (xs.map f).length from fun f => by simpa using hj)
  have hF1 := Try.call29
  have HF2 := Lib.hid Try.call30
  have HF3 := Lib.hid Try.call32
  have hMx := run_max3 d.x d.y d.z
  have hMn := run_min3 d.x d.y d.z
  have hM1 : ¬ 1048576 < S.mx (S.mx d.x d.y) d.z := by
    have := mx_bd (mx_bd hd.1.2 hd.2.1.2) hd.2.2.2
    omega
  have hN1 : ¬ S.mn (S.mn d.x d.y) d.z < -1048576 := by
    have := mn_bd (mn_bd hd.1.1 hd.2.1.1) hd.2.2.1
    omega
  generalize S.mx (S.mx d.x d.y) d.z = MX at *
  generalize S.mn (S.mn d.x d.y) d.z = MN at *
  clear hA hg hs hij g1 g2 hso hd
  generalize hp : S.endLen r m b xs j (xs.getD j S.zbox).lo = p at *
  generalize hq : S.endLen r m b xs j (xs.getD j S.zbox).hi = q at *
  unfold ptVal
  unfold memV barV ruleV at *
  go_enter Try.func8, Try.ntmps8
  go_wp2_with (first
    | (go_at_call 10; (with_reducible refine (awake_any _).mono ?_); rintro e w1 ⟨rfl, hbw1⟩; obtain ⟨hcw1, hfw1⟩ := bcell hbw1; have hzw1_0 : w.heap.size < w1.heap.size := lt_via hbw1 (by first | omega | (simp; done) | (simp; omega)); have hzw1_1 : w.heap.size + 1 < w1.heap.size := lt_via hbw1 (by first | omega | (simp; done) | (simp; omega)); have hzw1_2 : w.heap.size + 2 < w1.heap.size := lt_via hbw1 (by first | omega | (simp; done) | (simp; omega)); have hzw1_3 : w.heap.size + 3 < w1.heap.size := lt_via hbw1 (by first | omega | (simp; done) | (simp; omega)); have hzw1_4 : w.heap.size + 4 < w1.heap.size := lt_via hbw1 (by first | omega | (simp; done) | (simp; omega)))
    | (go_at_call 20; (with_reducible refine (HLG.out _ (EndsAt.at_ HA.out hB (by repeat (first | exact Below.refl _ _ | assumption | refine ba_alloc ?_ _ | refine ba_drew ?_ | refine ba_drewN ?_ _ | refine ba_via (by assumption) ?_ | (refine ba_set ?_ ?_ _; rotate_left; (first | omega | (simp; omega) | simp)))))).mono ?_); rintro e w2 ⟨rfl, hbw2⟩; obtain ⟨hcw2, hfw2⟩ := bcell hbw2; have hzw2_0 : w.heap.size < w2.heap.size := lt_via hbw2 (by first | omega | (simp; done) | (simp; omega)); have hzw2_1 : w.heap.size + 1 < w2.heap.size := lt_via hbw2 (by first | omega | (simp; done) | (simp; omega)); have hzw2_2 : w.heap.size + 2 < w2.heap.size := lt_via hbw2 (by first | omega | (simp; done) | (simp; omega)); have hzw2_3 : w.heap.size + 3 < w2.heap.size := lt_via hbw2 (by first | omega | (simp; done) | (simp; omega)); have hzw2_4 : w.heap.size + 4 < w2.heap.size := lt_via hbw2 (by first | omega | (simp; done) | (simp; omega)))
    | (go_at_call 26; (with_reducible refine (HE.out _ (size_via hB (by repeat (first | exact Below.refl _ _ | assumption | refine ba_alloc ?_ _ | refine ba_drew ?_ | refine ba_drewN ?_ _ | refine ba_via (by assumption) ?_ | (refine ba_set ?_ ?_ _; rotate_left; (first | omega | (simp; omega) | simp))))) (EndsAt.at_ HA.out hB (by repeat (first | exact Below.refl _ _ | assumption | refine ba_alloc ?_ _ | refine ba_drew ?_ | refine ba_drewN ?_ _ | refine ba_via (by assumption) ?_ | (refine ba_set ?_ ?_ _; rotate_left; (first | omega | (simp; omega) | simp)))))).mono ?_); rintro e w3 ⟨rfl, hbw3⟩; obtain ⟨hcw3, hfw3⟩ := bcell hbw3; have hzw3_0 : w.heap.size < w3.heap.size := lt_via hbw3 (by first | omega | (simp; done) | (simp; omega)); have hzw3_1 : w.heap.size + 1 < w3.heap.size := lt_via hbw3 (by first | omega | (simp; done) | (simp; omega)); have hzw3_2 : w.heap.size + 2 < w3.heap.size := lt_via hbw3 (by first | omega | (simp; done) | (simp; omega)); have hzw3_3 : w.heap.size + 3 < w3.heap.size := lt_via hbw3 (by first | omega | (simp; done) | (simp; omega)); have hzw3_4 : w.heap.size + 4 < w3.heap.size := lt_via hbw3 (by first | omega | (simp; done) | (simp; omega))))
  have hW3 : Below w.heap.size w w3 := (by repeat (first | exact Below.refl _ _ | assumption | refine ba_alloc ?_ _ | refine ba_drew ?_ | refine ba_drewN ?_ _ | refine ba_via (by assumption) ?_ | (refine ba_set ?_ ?_ _; rotate_left; (first | omega | (simp; omega) | simp))))
  have h0r : Blk (((((w.alloc (.cells #[.int .i64 r.num, .int .i64 r.den, .int .i64 r.pnum, .int .i64 r.pden, .int .i64 r.bnum, .int .i64 r.bden, .int .i64 r.lnum, .int .i64 r.lden, .int .i64 r.least] 23)).alloc (.cells #[.string m.name, .slice A n c, .slice A' n' c', .int .i64 m.cover, .int .i64 m.aggr, .int .i64 m.poker] 48)).alloc (.cells #[.string b.mark, .int .i64 b.size, .int .i64 b.count, .int .i64 b.code, .slice D dn dc] 55)).alloc (.cells #[.slice L k kc] 44)).alloc (.cells #[.int .i64 d.x, .int .i64 d.y, .int .i64 d.z] 50)) w.heap.size 23 #[.int .i64 r.num, .int .i64 r.den, .int .i64 r.pnum, .int .i64 r.pden, .int .i64 r.bnum, .int .i64 r.bden, .int .i64 r.lnum, .int .i64 r.lden, .int .i64 r.least] := by simpa using (((((Blk.new w 23 #[.int .i64 r.num, .int .i64 r.den, .int .i64 r.pnum, .int .i64 r.pden, .int .i64 r.bnum, .int .i64 r.bden, .int .i64 r.lnum, .int .i64 r.lden, .int .i64 r.least]).alloc (.cells #[.string m.name, .slice A n c, .slice A' n' c', .int .i64 m.cover, .int .i64 m.aggr, .int .i64 m.poker] 48)).alloc (.cells #[.string b.mark, .int .i64 b.size, .int .i64 b.count, .int .i64 b.code, .slice D dn dc] 55)).alloc (.cells #[.slice L k kc] 44)).alloc (.cells #[.int .i64 d.x, .int .i64 d.y, .int .i64 d.z] 50))
  have H4r := Lib.hid ((((h0r.via hbw1).via hbw2).via hbw3).alloc (.cells #[.func (.func 30) #[] #[.pointer (some ⟨w.heap.size + 1 + 1 + 1 + 1, 0, none⟩)], .func (.func 32) #[] #[]] 70))
  have h0m : Blk (((((w.alloc (.cells #[.int .i64 r.num, .int .i64 r.den, .int .i64 r.pnum, .int .i64 r.pden, .int .i64 r.bnum, .int .i64 r.bden, .int .i64 r.lnum, .int .i64 r.lden, .int .i64 r.least] 23)).alloc (.cells #[.string m.name, .slice A n c, .slice A' n' c', .int .i64 m.cover, .int .i64 m.aggr, .int .i64 m.poker] 48)).alloc (.cells #[.string b.mark, .int .i64 b.size, .int .i64 b.count, .int .i64 b.code, .slice D dn dc] 55)).alloc (.cells #[.slice L k kc] 44)).alloc (.cells #[.int .i64 d.x, .int .i64 d.y, .int .i64 d.z] 50)) (w.heap.size + 1) 48 #[.string m.name, .slice A n c, .slice A' n' c', .int .i64 m.cover, .int .i64 m.aggr, .int .i64 m.poker] := by simpa using ((((Blk.new (w.alloc (.cells #[.int .i64 r.num, .int .i64 r.den, .int .i64 r.pnum, .int .i64 r.pden, .int .i64 r.bnum, .int .i64 r.bden, .int .i64 r.lnum, .int .i64 r.lden, .int .i64 r.least] 23)) 48 #[.string m.name, .slice A n c, .slice A' n' c', .int .i64 m.cover, .int .i64 m.aggr, .int .i64 m.poker]).alloc (.cells #[.string b.mark, .int .i64 b.size, .int .i64 b.count, .int .i64 b.code, .slice D dn dc] 55)).alloc (.cells #[.slice L k kc] 44)).alloc (.cells #[.int .i64 d.x, .int .i64 d.y, .int .i64 d.z] 50))
  have H4m := Lib.hid ((((h0m.via hbw1).via hbw2).via hbw3).alloc (.cells #[.func (.func 30) #[] #[.pointer (some ⟨w.heap.size + 1 + 1 + 1 + 1, 0, none⟩)], .func (.func 32) #[] #[]] 70))
  have h0b : Blk (((((w.alloc (.cells #[.int .i64 r.num, .int .i64 r.den, .int .i64 r.pnum, .int .i64 r.pden, .int .i64 r.bnum, .int .i64 r.bden, .int .i64 r.lnum, .int .i64 r.lden, .int .i64 r.least] 23)).alloc (.cells #[.string m.name, .slice A n c, .slice A' n' c', .int .i64 m.cover, .int .i64 m.aggr, .int .i64 m.poker] 48)).alloc (.cells #[.string b.mark, .int .i64 b.size, .int .i64 b.count, .int .i64 b.code, .slice D dn dc] 55)).alloc (.cells #[.slice L k kc] 44)).alloc (.cells #[.int .i64 d.x, .int .i64 d.y, .int .i64 d.z] 50)) (w.heap.size + 1 + 1) 55 #[.string b.mark, .int .i64 b.size, .int .i64 b.count, .int .i64 b.code, .slice D dn dc] := by simpa using (((Blk.new ((w.alloc (.cells #[.int .i64 r.num, .int .i64 r.den, .int .i64 r.pnum, .int .i64 r.pden, .int .i64 r.bnum, .int .i64 r.bden, .int .i64 r.lnum, .int .i64 r.lden, .int .i64 r.least] 23)).alloc (.cells #[.string m.name, .slice A n c, .slice A' n' c', .int .i64 m.cover, .int .i64 m.aggr, .int .i64 m.poker] 48)) 55 #[.string b.mark, .int .i64 b.size, .int .i64 b.count, .int .i64 b.code, .slice D dn dc]).alloc (.cells #[.slice L k kc] 44)).alloc (.cells #[.int .i64 d.x, .int .i64 d.y, .int .i64 d.z] 50))
  have H4b := Lib.hid ((((h0b.via hbw1).via hbw2).via hbw3).alloc (.cells #[.func (.func 30) #[] #[.pointer (some ⟨w.heap.size + 1 + 1 + 1 + 1, 0, none⟩)], .func (.func 32) #[] #[]] 70))
  have h0l : Blk (((((w.alloc (.cells #[.int .i64 r.num, .int .i64 r.den, .int .i64 r.pnum, .int .i64 r.pden, .int .i64 r.bnum, .int .i64 r.bden, .int .i64 r.lnum, .int .i64 r.lden, .int .i64 r.least] 23)).alloc (.cells #[.string m.name, .slice A n c, .slice A' n' c', .int .i64 m.cover, .int .i64 m.aggr, .int .i64 m.poker] 48)).alloc (.cells #[.string b.mark, .int .i64 b.size, .int .i64 b.count, .int .i64 b.code, .slice D dn dc] 55)).alloc (.cells #[.slice L k kc] 44)).alloc (.cells #[.int .i64 d.x, .int .i64 d.y, .int .i64 d.z] 50)) (w.heap.size + 1 + 1 + 1) 44 #[.slice L k kc] := by simpa using ((Blk.new (((w.alloc (.cells #[.int .i64 r.num, .int .i64 r.den, .int .i64 r.pnum, .int .i64 r.pden, .int .i64 r.bnum, .int .i64 r.bden, .int .i64 r.lnum, .int .i64 r.lden, .int .i64 r.least] 23)).alloc (.cells #[.string m.name, .slice A n c, .slice A' n' c', .int .i64 m.cover, .int .i64 m.aggr, .int .i64 m.poker] 48)).alloc (.cells #[.string b.mark, .int .i64 b.size, .int .i64 b.count, .int .i64 b.code, .slice D dn dc] 55)) 44 #[.slice L k kc]).alloc (.cells #[.int .i64 d.x, .int .i64 d.y, .int .i64 d.z] 50))
  have H4l := Lib.hid ((((h0l.via hbw1).via hbw2).via hbw3).alloc (.cells #[.func (.func 30) #[] #[.pointer (some ⟨w.heap.size + 1 + 1 + 1 + 1, 0, none⟩)], .func (.func 32) #[] #[]] 70))
  have h0y : Blk (((((w.alloc (.cells #[.int .i64 r.num, .int .i64 r.den, .int .i64 r.pnum, .int .i64 r.pden, .int .i64 r.bnum, .int .i64 r.bden, .int .i64 r.lnum, .int .i64 r.lden, .int .i64 r.least] 23)).alloc (.cells #[.string m.name, .slice A n c, .slice A' n' c', .int .i64 m.cover, .int .i64 m.aggr, .int .i64 m.poker] 48)).alloc (.cells #[.string b.mark, .int .i64 b.size, .int .i64 b.count, .int .i64 b.code, .slice D dn dc] 55)).alloc (.cells #[.slice L k kc] 44)).alloc (.cells #[.int .i64 d.x, .int .i64 d.y, .int .i64 d.z] 50)) (w.heap.size + 1 + 1 + 1 + 1) 50 #[.int .i64 d.x, .int .i64 d.y, .int .i64 d.z] := by simpa using (Blk.new ((((w.alloc (.cells #[.int .i64 r.num, .int .i64 r.den, .int .i64 r.pnum, .int .i64 r.pden, .int .i64 r.bnum, .int .i64 r.bden, .int .i64 r.lnum, .int .i64 r.lden, .int .i64 r.least] 23)).alloc (.cells #[.string m.name, .slice A n c, .slice A' n' c', .int .i64 m.cover, .int .i64 m.aggr, .int .i64 m.poker] 48)).alloc (.cells #[.string b.mark, .int .i64 b.size, .int .i64 b.count, .int .i64 b.code, .slice D dn dc] 55)).alloc (.cells #[.slice L k kc] 44)) 50 #[.int .i64 d.x, .int .i64 d.y, .int .i64 d.z])
  have H4y := Lib.hid ((((h0y.via hbw1).via hbw2).via hbw3).alloc (.cells #[.func (.func 30) #[] #[.pointer (some ⟨w.heap.size + 1 + 1 + 1 + 1, 0, none⟩)], .func (.func 32) #[] #[]] 70))
  have h4f : Blk (w3.alloc (.cells #[.func (.func 30) #[] #[.pointer (some ⟨w.heap.size + 1 + 1 + 1 + 1, 0, none⟩)], .func (.func 32) #[] #[]] 70)) w3.heap.size 70 #[.func (.func 30) #[] #[.pointer (some ⟨w.heap.size + 1 + 1 + 1 + 1, 0, none⟩)], .func (.func 32) #[] #[]] := Blk.new _ _ _
  have H4f := Lib.hid h4f
  have hW4 : Below w.heap.size w (w3.alloc (.cells #[.func (.func 30) #[] #[.pointer (some ⟨w.heap.size + 1 + 1 + 1 + 1, 0, none⟩)], .func (.func 32) #[] #[]] 70)) := ba_alloc hW3 _
  clear h0r h0m h0b h0l h0y h4f hcw1 hfw1 hcw2 hfw2 hcw3 hfw3 hbw1 hbw2 hbw3
  generalize w3.alloc (.cells #[.func (.func 30) #[] #[.pointer (some ⟨w.heap.size + 1 + 1 + 1 + 1, 0, none⟩)], .func (.func 32) #[] #[]] 70) = W4 at *
  go_loopw [73] (fun i wr => ∃ z : Nat, z ≤ 2 ∧ i = .int .i64 z ∧ Below W4.heap.size W4 wr) (fun i _ => 2 - (intOf i).toNat)
  case atStart => exact ⟨0, by omega, rfl, Below.refl _ _⟩
  case round =>
    obtain ⟨z, hz, rfl, hbr⟩ := hrel
    have hbel : Below w.heap.size w wr := ba_via hbr hW4
    have hsr := hbel.size
    by_cases hlt : z < 2
    · have hr1 : Blk wr w.heap.size 23 #[.int .i64 r.num, .int .i64 r.den, .int .i64 r.pnum, .int .i64 r.pden, .int .i64 r.bnum, .int .i64 r.bden, .int .i64 r.lnum, .int .i64 r.lden, .int .i64 r.least] := H4r.out.via hbr
      have hm1 : Blk wr (w.heap.size + 1) 48 #[.string m.name, .slice A n c, .slice A' n' c', .int .i64 m.cover, .int .i64 m.aggr, .int .i64 m.poker] := H4m.out.via hbr
      have hb1 : Blk wr (w.heap.size + 1 + 1) 55 #[.string b.mark, .int .i64 b.size, .int .i64 b.count, .int .i64 b.code, .slice D dn dc] := H4b.out.via hbr
      have hl1 : Blk wr (w.heap.size + 1 + 1 + 1) 44 #[.slice L k kc] := H4l.out.via hbr
      have hy1 : Blk wr (w.heap.size + 1 + 1 + 1 + 1) 50 #[.int .i64 d.x, .int .i64 d.y, .int .i64 d.z] := H4y.out.via hbr
      have hf1 : Blk wr w3.heap.size 70 #[.func (.func 30) #[] #[.pointer (some ⟨w.heap.size + 1 + 1 + 1 + 1, 0, none⟩)], .func (.func 32) #[] #[]] := H4f.out.via hbr
      have ff0 := hf1.cell 0
      have ff1 := hf1.cell 1
      simp only [List.getElem?_toArray, List.getElem?_cons_zero, List.getElem?_cons_succ] at ff0 ff1
      have hlf := hf1.lt
      have HR1 := Lib.hid hr1
      have HB1 := Lib.hid hb1
      have HM1 := Lib.hid hm1
      have HL1 := Lib.hid hl1
      have HY1 := Lib.hid hy1
      clear hr1 hm1 hb1 hl1 hy1 hf1
      have HEA := Lib.hid (HA.out.at_ hB hbel)
      have hcase : z = 0 ∨ z = 1 := by omega
      rcases hcase with rfl | rfl
      · have HC := Lib.hid (all_any 30 #[.pointer (some ⟨w.heap.size + 1 + 1 + 1 + 1, 0, none⟩)] (S.shift d) (w.heap.size + 1) (w.heap.size + 1 + 1 + 1) m A n c A' n' c' L k kc xs B wr (by omega) HEA.out.sol HEA.out.legs hlen (by omega) (by omega) (by omega) HM1.out HL1.out HOKB.out HOKH.out HOKX.out HF2.out (moves_shift d _ wr HD.out HY1.out))
        rcases HMS.out with hm1 | ⟨hm1, hm2, hm3, hm4⟩
        · have HE2 := Lib.hid (fun (W : World) (A : Option Addr) (n c : Nat) (A' : Option Addr) (n' c' : Nat) (L : Option Addr) (k kc : Nat) (hh : EndsAt W W.heap.size A n A' n' (S.mapMem (S.shift d) m) D dn b L k (xs.map (S.shift d))) =>
            (show Calls Try.prog 26 #[.agg #[.int .i64 r.num, .int .i64 r.den, .int .i64 r.pnum, .int .i64 r.pden, .int .i64 r.bnum, .int .i64 r.bden, .int .i64 r.lnum, .int .i64 r.lden, .int .i64 r.least], .agg #[.string m.name, .slice A n c, .slice A' n' c', .int .i64 m.cover, .int .i64 m.aggr, .int .i64 m.poker], .agg #[.string b.mark, .int .i64 b.size, .int .i64 b.count, .int .i64 b.code, .slice D dn dc], .slice L k kc] W fun e w' => e = .returned (.tuple #[.int .i64 0, .int .i64 0, .int .i64 1]) ∧ Below W.heap.size W w' from
              hm1 ▸ aends_no r (S.mapMem (S.shift d) m) A n c A' n' c' b D dn dc L k kc (xs.map (S.shift d)) W.heap.size W (Nat.le_refl _) hh (by rw [hm1]; decide)))
          clear hm1
          go_wp2_with (first
            | (go_at_call 29; (with_reducible refine HC.out.mono ?_); rintro e wA ⟨A1, c1, A2, c2, A3, c3, rfl, ho1, ho2, ho3, hbA⟩
               have hbelA : Below w.heap.size w wA := ba_via hbA hbel
               have hsA := hbelA.size
               have hrA : Blk wA w.heap.size 23 #[.int .i64 r.num, .int .i64 r.den, .int .i64 r.pnum, .int .i64 r.pden, .int .i64 r.bnum, .int .i64 r.bden, .int .i64 r.lnum, .int .i64 r.lden, .int .i64 r.least] := HR1.out.via hbA
               have hbA2 : Blk wA (w.heap.size + 1 + 1) 55 #[.string b.mark, .int .i64 b.size, .int .i64 b.count, .int .i64 b.code, .slice D dn dc] := HB1.out.via hbA
               have ra0 := hrA.cell 0
               have ra1 := hrA.cell 1
               have ra2 := hrA.cell 2
               have ra3 := hrA.cell 3
               have ra4 := hrA.cell 4
               have ra5 := hrA.cell 5
               have ra6 := hrA.cell 6
               have ra7 := hrA.cell 7
               have ra8 := hrA.cell 8
               simp only [List.getElem?_toArray, List.getElem?_cons_zero, List.getElem?_cons_succ] at ra0 ra1 ra2 ra3 ra4 ra5 ra6 ra7 ra8
               have ba0 := hbA2.cell 0
               have ba1 := hbA2.cell 1
               have ba2 := hbA2.cell 2
               have ba3 := hbA2.cell 3
               have ba4 := hbA2.cell 4
               simp only [List.getElem?_toArray, List.getElem?_cons_zero, List.getElem?_cons_succ] at ba0 ba1 ba2 ba3 ba4
               have hlA := hrA.lt
               have hlA2 := hbA2.lt
               have HO1 := Lib.hid ho1
               have HO2 := Lib.hid ho2
               have HO3 := Lib.hid ho3
               clear ho1 ho2 ho3 hrA hbA2
               have HEC := Lib.hid (show EndsAt (wA.alloc (.cells #[.string m.name, .slice A1 n c1, .slice A2 n' c2, .int .i64 m.cover, .int .i64 m.aggr, .int .i64 m.poker] 48)) (wA.alloc (.cells #[.string m.name, .slice A1 n c1, .slice A2 n' c2, .int .i64 m.cover, .int .i64 m.aggr, .int .i64 m.poker] 48)).heap.size A1 n A2 n' (S.mapMem (S.shift d) m) D dn b A3 k (xs.map (S.shift d)) from
                 ⟨⟨(List.length_map _).trans hn, by omega, (List.length_map _).trans hn', by omega, (own_cells (HO1.out.alloc _)).1, (own_cells (HO2.out.alloc _)).1⟩, (HA.out.at_ hB (ba_alloc hbelA _)).bar.mono (Nat.le_trans hB (ba_alloc hbelA _).size), (own_cells (HO3.out.alloc _)).1, (List.length_map _).trans hlen, by omega, HA.out.name⟩))
            | (go_at_call 26; (with_reducible refine (HE2.out _ A1 n c1 A2 n' c2 A3 k c3 HEC.out).mono ?_); rintro e wB ⟨rfl, hbB⟩))
          go_roundw
          case rel => exact ⟨1, by omega, by go_num, ba_via hbB (ba_alloc (ba_via hbA hbr) _)⟩
          case measure => simp [intOf]
        · have HE2 := Lib.hid (fun (W : World) (A : Option Addr) (n c : Nat) (A' : Option Addr) (n' c' : Nat) (L : Option Addr) (k kc : Nat) (hh : EndsAt W W.heap.size A n A' n' (S.mapMem (S.shift d) m) D dn b L k (xs.map (S.shift d))) =>
            (show Calls Try.prog 26 #[.agg #[.int .i64 r.num, .int .i64 r.den, .int .i64 r.pnum, .int .i64 r.pden, .int .i64 r.bnum, .int .i64 r.bden, .int .i64 r.lnum, .int .i64 r.lden, .int .i64 r.least], .agg #[.string m.name, .slice A n c, .slice A' n' c', .int .i64 m.cover, .int .i64 m.aggr, .int .i64 m.poker], .agg #[.string b.mark, .int .i64 b.size, .int .i64 b.count, .int .i64 b.code, .slice D dn dc], .slice L k kc] W fun e w' => e = .returned (.tuple #[.int .i64 p, .int .i64 q, .int .i64 0]) ∧ Below W.heap.size W w' from
              hm3 ▸ hm4 ▸ aends_yes r (S.mapMem (S.shift d) m) A n c A' n' c' b D dn dc L k kc (xs.map (S.shift d)) W.heap.size W (Nat.le_refl _) hh hm1 j (HJM.out _) hm2))
          clear hm1 hm2 hm3 hm4
          go_wp2_with (first
            | (go_at_call 29; (with_reducible refine HC.out.mono ?_); rintro e wA ⟨A1, c1, A2, c2, A3, c3, rfl, ho1, ho2, ho3, hbA⟩
               have hbelA : Below w.heap.size w wA := ba_via hbA hbel
               have hsA := hbelA.size
               have hrA : Blk wA w.heap.size 23 #[.int .i64 r.num, .int .i64 r.den, .int .i64 r.pnum, .int .i64 r.pden, .int .i64 r.bnum, .int .i64 r.bden, .int .i64 r.lnum, .int .i64 r.lden, .int .i64 r.least] := HR1.out.via hbA
               have hbA2 : Blk wA (w.heap.size + 1 + 1) 55 #[.string b.mark, .int .i64 b.size, .int .i64 b.count, .int .i64 b.code, .slice D dn dc] := HB1.out.via hbA
               have ra0 := hrA.cell 0
               have ra1 := hrA.cell 1
               have ra2 := hrA.cell 2
               have ra3 := hrA.cell 3
               have ra4 := hrA.cell 4
               have ra5 := hrA.cell 5
               have ra6 := hrA.cell 6
               have ra7 := hrA.cell 7
               have ra8 := hrA.cell 8
               simp only [List.getElem?_toArray, List.getElem?_cons_zero, List.getElem?_cons_succ] at ra0 ra1 ra2 ra3 ra4 ra5 ra6 ra7 ra8
               have ba0 := hbA2.cell 0
               have ba1 := hbA2.cell 1
               have ba2 := hbA2.cell 2
               have ba3 := hbA2.cell 3
               have ba4 := hbA2.cell 4
               simp only [List.getElem?_toArray, List.getElem?_cons_zero, List.getElem?_cons_succ] at ba0 ba1 ba2 ba3 ba4
               have hlA := hrA.lt
               have hlA2 := hbA2.lt
               have HO1 := Lib.hid ho1
               have HO2 := Lib.hid ho2
               have HO3 := Lib.hid ho3
               clear ho1 ho2 ho3 hrA hbA2
               have HEC := Lib.hid (show EndsAt (wA.alloc (.cells #[.string m.name, .slice A1 n c1, .slice A2 n' c2, .int .i64 m.cover, .int .i64 m.aggr, .int .i64 m.poker] 48)) (wA.alloc (.cells #[.string m.name, .slice A1 n c1, .slice A2 n' c2, .int .i64 m.cover, .int .i64 m.aggr, .int .i64 m.poker] 48)).heap.size A1 n A2 n' (S.mapMem (S.shift d) m) D dn b A3 k (xs.map (S.shift d)) from
                 ⟨⟨(List.length_map _).trans hn, by omega, (List.length_map _).trans hn', by omega, (own_cells (HO1.out.alloc _)).1, (own_cells (HO2.out.alloc _)).1⟩, (HA.out.at_ hB (ba_alloc hbelA _)).bar.mono (Nat.le_trans hB (ba_alloc hbelA _).size), (own_cells (HO3.out.alloc _)).1, (List.length_map _).trans hlen, by omega, HA.out.name⟩))
            | (go_at_call 26; (with_reducible refine (HE2.out _ A1 n c1 A2 n' c2 A3 k c3 HEC.out).mono ?_); rintro e wB ⟨rfl, hbB⟩))
          go_roundw
          case rel => exact ⟨1, by omega, by go_num, ba_via hbB (ba_alloc (ba_via hbA hbr) _)⟩
          case measure => simp [intOf]
      · have HC := Lib.hid (all_any 32 #[] S.mirY (w.heap.size + 1) (w.heap.size + 1 + 1 + 1) m A n c A' n' c' L k kc xs B wr (by omega) HEA.out.sol HEA.out.legs hlen (by omega) (by omega) (by omega) HM1.out HL1.out HOKB.out HOKH.out HOKX.out HF3.out (moves_mirY wr))
        rcases HMY.out with hm1 | ⟨hm1, hm2, hm3, hm4⟩
        · have HE2 := Lib.hid (fun (W : World) (A : Option Addr) (n c : Nat) (A' : Option Addr) (n' c' : Nat) (L : Option Addr) (k kc : Nat) (hh : EndsAt W W.heap.size A n A' n' (S.mapMem S.mirY m) D dn b L k (xs.map S.mirY)) =>
            (show Calls Try.prog 26 #[.agg #[.int .i64 r.num, .int .i64 r.den, .int .i64 r.pnum, .int .i64 r.pden, .int .i64 r.bnum, .int .i64 r.bden, .int .i64 r.lnum, .int .i64 r.lden, .int .i64 r.least], .agg #[.string m.name, .slice A n c, .slice A' n' c', .int .i64 m.cover, .int .i64 m.aggr, .int .i64 m.poker], .agg #[.string b.mark, .int .i64 b.size, .int .i64 b.count, .int .i64 b.code, .slice D dn dc], .slice L k kc] W fun e w' => e = .returned (.tuple #[.int .i64 0, .int .i64 0, .int .i64 1]) ∧ Below W.heap.size W w' from
              hm1 ▸ aends_no r (S.mapMem S.mirY m) A n c A' n' c' b D dn dc L k kc (xs.map S.mirY) W.heap.size W (Nat.le_refl _) hh (by rw [hm1]; decide)))
          clear hm1
          go_wp2_with (first
            | (go_at_call 29; (with_reducible refine HC.out.mono ?_); rintro e wA ⟨A1, c1, A2, c2, A3, c3, rfl, ho1, ho2, ho3, hbA⟩
               have hbelA : Below w.heap.size w wA := ba_via hbA hbel
               have hsA := hbelA.size
               have hrA : Blk wA w.heap.size 23 #[.int .i64 r.num, .int .i64 r.den, .int .i64 r.pnum, .int .i64 r.pden, .int .i64 r.bnum, .int .i64 r.bden, .int .i64 r.lnum, .int .i64 r.lden, .int .i64 r.least] := HR1.out.via hbA
               have hbA2 : Blk wA (w.heap.size + 1 + 1) 55 #[.string b.mark, .int .i64 b.size, .int .i64 b.count, .int .i64 b.code, .slice D dn dc] := HB1.out.via hbA
               have ra0 := hrA.cell 0
               have ra1 := hrA.cell 1
               have ra2 := hrA.cell 2
               have ra3 := hrA.cell 3
               have ra4 := hrA.cell 4
               have ra5 := hrA.cell 5
               have ra6 := hrA.cell 6
               have ra7 := hrA.cell 7
               have ra8 := hrA.cell 8
               simp only [List.getElem?_toArray, List.getElem?_cons_zero, List.getElem?_cons_succ] at ra0 ra1 ra2 ra3 ra4 ra5 ra6 ra7 ra8
               have ba0 := hbA2.cell 0
               have ba1 := hbA2.cell 1
               have ba2 := hbA2.cell 2
               have ba3 := hbA2.cell 3
               have ba4 := hbA2.cell 4
               simp only [List.getElem?_toArray, List.getElem?_cons_zero, List.getElem?_cons_succ] at ba0 ba1 ba2 ba3 ba4
               have hlA := hrA.lt
               have hlA2 := hbA2.lt
               have HO1 := Lib.hid ho1
               have HO2 := Lib.hid ho2
               have HO3 := Lib.hid ho3
               clear ho1 ho2 ho3 hrA hbA2
               have HEC := Lib.hid (show EndsAt (wA.alloc (.cells #[.string m.name, .slice A1 n c1, .slice A2 n' c2, .int .i64 m.cover, .int .i64 m.aggr, .int .i64 m.poker] 48)) (wA.alloc (.cells #[.string m.name, .slice A1 n c1, .slice A2 n' c2, .int .i64 m.cover, .int .i64 m.aggr, .int .i64 m.poker] 48)).heap.size A1 n A2 n' (S.mapMem S.mirY m) D dn b A3 k (xs.map S.mirY) from
                 ⟨⟨(List.length_map _).trans hn, by omega, (List.length_map _).trans hn', by omega, (own_cells (HO1.out.alloc _)).1, (own_cells (HO2.out.alloc _)).1⟩, (HA.out.at_ hB (ba_alloc hbelA _)).bar.mono (Nat.le_trans hB (ba_alloc hbelA _).size), (own_cells (HO3.out.alloc _)).1, (List.length_map _).trans hlen, by omega, HA.out.name⟩))
            | (go_at_call 26; (with_reducible refine (HE2.out _ A1 n c1 A2 n' c2 A3 k c3 HEC.out).mono ?_); rintro e wB ⟨rfl, hbB⟩))
          go_roundw
          case rel => exact ⟨2, by omega, by go_num, ba_via hbB (ba_alloc (ba_via hbA hbr) _)⟩
          case measure => simp [intOf]
        · have HE2 := Lib.hid (fun (W : World) (A : Option Addr) (n c : Nat) (A' : Option Addr) (n' c' : Nat) (L : Option Addr) (k kc : Nat) (hh : EndsAt W W.heap.size A n A' n' (S.mapMem S.mirY m) D dn b L k (xs.map S.mirY)) =>
            (show Calls Try.prog 26 #[.agg #[.int .i64 r.num, .int .i64 r.den, .int .i64 r.pnum, .int .i64 r.pden, .int .i64 r.bnum, .int .i64 r.bden, .int .i64 r.lnum, .int .i64 r.lden, .int .i64 r.least], .agg #[.string m.name, .slice A n c, .slice A' n' c', .int .i64 m.cover, .int .i64 m.aggr, .int .i64 m.poker], .agg #[.string b.mark, .int .i64 b.size, .int .i64 b.count, .int .i64 b.code, .slice D dn dc], .slice L k kc] W fun e w' => e = .returned (.tuple #[.int .i64 p, .int .i64 q, .int .i64 0]) ∧ Below W.heap.size W w' from
              hm3 ▸ hm4 ▸ aends_yes r (S.mapMem S.mirY m) A n c A' n' c' b D dn dc L k kc (xs.map S.mirY) W.heap.size W (Nat.le_refl _) hh hm1 j (HJM.out _) hm2))
          clear hm1 hm2 hm3 hm4
          go_wp2_with (first
            | (go_at_call 29; (with_reducible refine HC.out.mono ?_); rintro e wA ⟨A1, c1, A2, c2, A3, c3, rfl, ho1, ho2, ho3, hbA⟩
               have hbelA : Below w.heap.size w wA := ba_via hbA hbel
               have hsA := hbelA.size
               have hrA : Blk wA w.heap.size 23 #[.int .i64 r.num, .int .i64 r.den, .int .i64 r.pnum, .int .i64 r.pden, .int .i64 r.bnum, .int .i64 r.bden, .int .i64 r.lnum, .int .i64 r.lden, .int .i64 r.least] := HR1.out.via hbA
               have hbA2 : Blk wA (w.heap.size + 1 + 1) 55 #[.string b.mark, .int .i64 b.size, .int .i64 b.count, .int .i64 b.code, .slice D dn dc] := HB1.out.via hbA
               have ra0 := hrA.cell 0
               have ra1 := hrA.cell 1
               have ra2 := hrA.cell 2
               have ra3 := hrA.cell 3
               have ra4 := hrA.cell 4
               have ra5 := hrA.cell 5
               have ra6 := hrA.cell 6
               have ra7 := hrA.cell 7
               have ra8 := hrA.cell 8
               simp only [List.getElem?_toArray, List.getElem?_cons_zero, List.getElem?_cons_succ] at ra0 ra1 ra2 ra3 ra4 ra5 ra6 ra7 ra8
               have ba0 := hbA2.cell 0
               have ba1 := hbA2.cell 1
               have ba2 := hbA2.cell 2
               have ba3 := hbA2.cell 3
               have ba4 := hbA2.cell 4
               simp only [List.getElem?_toArray, List.getElem?_cons_zero, List.getElem?_cons_succ] at ba0 ba1 ba2 ba3 ba4
               have hlA := hrA.lt
               have hlA2 := hbA2.lt
               have HO1 := Lib.hid ho1
               have HO2 := Lib.hid ho2
               have HO3 := Lib.hid ho3
               clear ho1 ho2 ho3 hrA hbA2
               have HEC := Lib.hid (show EndsAt (wA.alloc (.cells #[.string m.name, .slice A1 n c1, .slice A2 n' c2, .int .i64 m.cover, .int .i64 m.aggr, .int .i64 m.poker] 48)) (wA.alloc (.cells #[.string m.name, .slice A1 n c1, .slice A2 n' c2, .int .i64 m.cover, .int .i64 m.aggr, .int .i64 m.poker] 48)).heap.size A1 n A2 n' (S.mapMem S.mirY m) D dn b A3 k (xs.map S.mirY) from
                 ⟨⟨(List.length_map _).trans hn, by omega, (List.length_map _).trans hn', by omega, (own_cells (HO1.out.alloc _)).1, (own_cells (HO2.out.alloc _)).1⟩, (HA.out.at_ hB (ba_alloc hbelA _)).bar.mono (Nat.le_trans hB (ba_alloc hbelA _).size), (own_cells (HO3.out.alloc _)).1, (List.length_map _).trans hlen, by omega, HA.out.name⟩))
            | (go_at_call 26; (with_reducible refine (HE2.out _ A1 n c1 A2 n' c2 A3 k c3 HEC.out).mono ?_); rintro e wB ⟨rfl, hbB⟩))
          go_roundw
          case rel => exact ⟨2, by omega, by go_num, ba_via hbB (ba_alloc (ba_via hbA hbr) _)⟩
          case measure => simp [intOf]
    · have hz2 : z = 2 := by omega
      subst hz2
      go_wp2
      go_ret
      exact ⟨rfl, hbel⟩
end Go.Proofs.Ytiebbklljckbdaa
