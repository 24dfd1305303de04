/- Contracts of the reference for layer 12: Valid (printed by tools/gen_rvalid.py). -/
import Derived.Test.YtiebbklljckbdaaRDims
import Derived.Test.YtiebbklljckbdaaRow
set_option linter.unusedVariables false
set_option linter.unusedSimpArgs false
namespace Go.Proofs.Ytiebbklljckbdaa
open Go.RowKit
set_option maxHeartbeats 1000000 in
theorem rvalid_no0 (b : Bar) (A : Option Addr) (n c : Nat) (w : World) (hn : b.dims.length = n) (hm : n ≤ 9223372036854775807) (hmk : b.mark.size ≤ 9223372036854775807)  (f : S.isName b.mark = false) :
    Calls Try.prog 61 #[barV b A n c] w fun e w' => e = .returned (.bool (S.bar b)) ∧ Below w.heap.size w w' := by
  have H := Lib.hid (show S.bar b = false by simp [S.bar, S.barHead, f])
  clear hn
  unfold barV
  go_enter Try.func61, Try.ntmps61
  go_wp2
  refine wp_region_grow (by kernel_rfl) (by kernel_rfl) ?_
  repeat (go_big_quiet_step ((first | (go_at_call 49; exact grow_of_eq (risname_any b.mark _ hmk)) | (go_at_call 41; exact grow_of (rsize_any b.size _)) | (go_at_call 89; exact grow_of (rdims_any b.code _)))))
  all_goals (refine wpQuiet_nil ?_; intro w1 hbw1; obtain ⟨hcw1, hfw1⟩ := bcell hbw1; have hzw1_0 : w.heap.size < w1.heap.size := lt_via hbw1 (by first | omega | (simp; done) | (simp; omega)))
  go_wp2
  go_ret
  exact ⟨ret_b H.out.symm, (by repeat (first | exact Below.refl _ _ | assumption | refine ba_alloc ?_ _ | refine ba_drew ?_ | refine ba_drewN ?_ _ | refine ba_via (by assumption) ?_ | (refine ba_set ?_ ?_ _; rotate_left; (first | omega | (simp; omega) | simp))))⟩
set_option maxHeartbeats 1000000 in
theorem rvalid_no1 (b : Bar) (A : Option Addr) (n c : Nat) (w : World) (hn : b.dims.length = n) (hm : n ≤ 9223372036854775807) (hmk : b.mark.size ≤ 9223372036854775807) (g0 : S.isName b.mark = true) (f : S.size b.size = false) :
    Calls Try.prog 61 #[barV b A n c] w fun e w' => e = .returned (.bool (S.bar b)) ∧ Below w.heap.size w w' := by
  have H := Lib.hid (show S.bar b = false by simp [S.bar, S.barHead, f])
  clear hn
  unfold barV
  go_enter Try.func61, Try.ntmps61
  go_wp2
  refine wp_region_grow (by kernel_rfl) (by kernel_rfl) ?_
  repeat (go_big_quiet_step ((first | (go_at_call 49; exact grow_of_eq (risname_any b.mark _ hmk)) | (go_at_call 41; exact grow_of (rsize_any b.size _)) | (go_at_call 89; exact grow_of (rdims_any b.code _)))))
  all_goals (refine wpQuiet_nil ?_; intro w1 hbw1; obtain ⟨hcw1, hfw1⟩ := bcell hbw1; have hzw1_0 : w.heap.size < w1.heap.size := lt_via hbw1 (by first | omega | (simp; done) | (simp; omega)))
  go_wp2
  go_ret
  exact ⟨ret_b H.out.symm, (by repeat (first | exact Below.refl _ _ | assumption | refine ba_alloc ?_ _ | refine ba_drew ?_ | refine ba_drewN ?_ _ | refine ba_via (by assumption) ?_ | (refine ba_set ?_ ?_ _; rotate_left; (first | omega | (simp; omega) | simp))))⟩
set_option maxHeartbeats 1000000 in
theorem rvalid_no2 (b : Bar) (A : Option Addr) (n c : Nat) (w : World) (hn : b.dims.length = n) (hm : n ≤ 9223372036854775807) (hmk : b.mark.size ≤ 9223372036854775807) (g0 : S.isName b.mark = true) (g1 : S.size b.size = true) (f : b.count < 1) :
    Calls Try.prog 61 #[barV b A n c] w fun e w' => e = .returned (.bool (S.bar b)) ∧ Below w.heap.size w w' := by
  have H := Lib.hid (show S.bar b = false by (have hd : decide (1 ≤ b.count) = false := by simp; omega); simp [S.bar, S.barHead, hd])
  have q2 : decide (b.count < 1) = true := by simp; omega
  clear hn
  unfold barV
  go_enter Try.func61, Try.ntmps61
  go_wp2
  refine wp_region_grow (by kernel_rfl) (by kernel_rfl) ?_
  repeat (go_big_quiet_step ((first | (go_at_call 49; exact grow_of_eq (risname_any b.mark _ hmk)) | (go_at_call 41; exact grow_of (rsize_any b.size _)) | (go_at_call 89; exact grow_of (rdims_any b.code _)))))
  all_goals (refine wpQuiet_nil ?_; intro w1 hbw1; obtain ⟨hcw1, hfw1⟩ := bcell hbw1; have hzw1_0 : w.heap.size < w1.heap.size := lt_via hbw1 (by first | omega | (simp; done) | (simp; omega)))
  go_wp2
  go_ret
  exact ⟨ret_b H.out.symm, (by repeat (first | exact Below.refl _ _ | assumption | refine ba_alloc ?_ _ | refine ba_drew ?_ | refine ba_drewN ?_ _ | refine ba_via (by assumption) ?_ | (refine ba_set ?_ ?_ _; rotate_left; (first | omega | (simp; omega) | simp))))⟩
set_option maxHeartbeats 1000000 in
theorem rvalid_no3 (b : Bar) (A : Option Addr) (n c : Nat) (w : World) (hn : b.dims.length = n) (hm : n ≤ 9223372036854775807) (hmk : b.mark.size ≤ 9223372036854775807) (g0 : S.isName b.mark = true) (g1 : S.size b.size = true) (g2 : 1 ≤ b.count) (f : 1000 < b.count) :
    Calls Try.prog 61 #[barV b A n c] w fun e w' => e = .returned (.bool (S.bar b)) ∧ Below w.heap.size w w' := by
  have H := Lib.hid (show S.bar b = false by (have hd : decide (b.count ≤ 1000) = false := by simp; omega); simp [S.bar, S.barHead, hd])
  have q2 : decide (b.count < 1) = false := by simp; omega
  have q3 : decide (1000 < b.count) = true := by simp; omega
  clear hn
  unfold barV
  go_enter Try.func61, Try.ntmps61
  go_wp2
  refine wp_region_grow (by kernel_rfl) (by kernel_rfl) ?_
  repeat (go_big_quiet_step ((first | (go_at_call 49; exact grow_of_eq (risname_any b.mark _ hmk)) | (go_at_call 41; exact grow_of (rsize_any b.size _)) | (go_at_call 89; exact grow_of (rdims_any b.code _)))))
  all_goals (refine wpQuiet_nil ?_; intro w1 hbw1; obtain ⟨hcw1, hfw1⟩ := bcell hbw1; have hzw1_0 : w.heap.size < w1.heap.size := lt_via hbw1 (by first | omega | (simp; done) | (simp; omega)))
  go_wp2
  go_ret
  exact ⟨ret_b H.out.symm, (by repeat (first | exact Below.refl _ _ | assumption | refine ba_alloc ?_ _ | refine ba_drew ?_ | refine ba_drewN ?_ _ | refine ba_via (by assumption) ?_ | (refine ba_set ?_ ?_ _; rotate_left; (first | omega | (simp; omega) | simp))))⟩
set_option maxHeartbeats 1000000 in
theorem rvalid_no4 (b : Bar) (A : Option Addr) (n c : Nat) (w : World) (hn : b.dims.length = n) (hm : n ≤ 9223372036854775807) (hmk : b.mark.size ≤ 9223372036854775807) (g0 : S.isName b.mark = true) (g1 : S.size b.size = true) (g2 : 1 ≤ b.count) (g3 : b.count ≤ 1000) (f : (S.dimsOf b.code == 0) = true) :
    Calls Try.prog 61 #[barV b A n c] w fun e w' => e = .returned (.bool (S.bar b)) ∧ Below w.heap.size w w' := by
  have H := Lib.hid (show S.bar b = false by simp [S.bar, S.barHead, f])
  have q2 : decide (b.count < 1) = false := by simp; omega
  have q3 : decide (1000 < b.count) = false := by simp; omega
  clear hn
  unfold barV
  go_enter Try.func61, Try.ntmps61
  go_wp2
  refine wp_region_grow (by kernel_rfl) (by kernel_rfl) ?_
  repeat (go_big_quiet_step ((first | (go_at_call 49; exact grow_of_eq (risname_any b.mark _ hmk)) | (go_at_call 41; exact grow_of (rsize_any b.size _)) | (go_at_call 89; exact grow_of (rdims_any b.code _)))))
  all_goals (refine wpQuiet_nil ?_; intro w1 hbw1; obtain ⟨hcw1, hfw1⟩ := bcell hbw1; have hzw1_0 : w.heap.size < w1.heap.size := lt_via hbw1 (by first | omega | (simp; done) | (simp; omega)))
  go_wp2
  go_ret
  exact ⟨ret_b H.out.symm, (by repeat (first | exact Below.refl _ _ | assumption | refine ba_alloc ?_ _ | refine ba_drew ?_ | refine ba_drewN ?_ _ | refine ba_via (by assumption) ?_ | (refine ba_set ?_ ?_ _; rotate_left; (first | omega | (simp; omega) | simp))))⟩
set_option maxHeartbeats 1000000 in
theorem rvalid_no5 (b : Bar) (A : Option Addr) (n c : Nat) (w : World) (hn : b.dims.length = n) (hm : n ≤ 9223372036854775807) (hmk : b.mark.size ≤ 9223372036854775807) (g0 : S.isName b.mark = true) (g1 : S.size b.size = true) (g2 : 1 ≤ b.count) (g3 : b.count ≤ 1000) (g4 : (S.dimsOf b.code == 0) = false) (f : ((n : Int) == S.dimsOf b.code) = false) :
    Calls Try.prog 61 #[barV b A n c] w fun e w' => e = .returned (.bool (S.bar b)) ∧ Below w.heap.size w w' := by
  have f' : ((n : Int) != S.dimsOf b.code) = true := by simp [bne, f]
  have H := Lib.hid (show S.bar b = false by unfold S.bar S.barHead; rw [hn, f]; simp)
  have q2 : decide (b.count < 1) = false := by simp; omega
  have q3 : decide (1000 < b.count) = false := by simp; omega
  clear hn
  unfold barV
  go_enter Try.func61, Try.ntmps61
  go_wp2
  refine wp_region_grow (by kernel_rfl) (by kernel_rfl) ?_
  repeat (go_big_quiet_step ((first | (go_at_call 49; exact grow_of_eq (risname_any b.mark _ hmk)) | (go_at_call 41; exact grow_of (rsize_any b.size _)) | (go_at_call 89; exact grow_of (rdims_any b.code _)))))
  all_goals (refine wpQuiet_nil ?_; intro w1 hbw1; obtain ⟨hcw1, hfw1⟩ := bcell hbw1; have hzw1_0 : w.heap.size < w1.heap.size := lt_via hbw1 (by first | omega | (simp; done) | (simp; omega)))
  go_wp2
  go_ret
  exact ⟨ret_b H.out.symm, (by repeat (first | exact Below.refl _ _ | assumption | refine ba_alloc ?_ _ | refine ba_drew ?_ | refine ba_drewN ?_ _ | refine ba_via (by assumption) ?_ | (refine ba_set ?_ ?_ _; rotate_left; (first | omega | (simp; omega) | simp))))⟩
set_option maxHeartbeats 2000000 in
theorem rvalid_in (b : Bar) (A : Option Addr) (n c : Nat) (B : Nat) (w : World) (hB : B ≤ w.heap.size) (hA : BarAt w B A n b) (hh : S.barHead b = true) :
    Calls Try.prog 61 #[barV b A n c] w fun e w' => e = .returned (.bool (S.bar b)) ∧ Below w.heap.size w w' := by
  have hmk := hA.mark
  have hm := hA.max
  have hs := hA.cells
  have HN := Lib.hid hA.len
  have HK := Lib.hid (show S.bar b = S.dimsOk b.dims by simp [S.bar, hh])
  have hh' := hh
  unfold S.barHead at hh'
  rw [hA.len] at hh'
  simp only [Bool.and_eq_true, decide_eq_true_eq, Bool.not_eq_true'] at hh'
  obtain ⟨⟨⟨⟨⟨h0, h1⟩, h2⟩, h3⟩, h4⟩, h5⟩ := hh'
  have h5' : ((n : Int) != S.dimsOf b.code) = false := by simp [bne, h5]
  have q2 : decide (b.count < 1) = false := by simp; omega
  have q3 : decide (1000 < b.count) = false := by simp; omega
  have hn5 : n ≤ 5 := by have := (dimsOf_bd b.code).2; simp at h5; omega
  clear hh hA
  unfold barV
  go_enter Try.func61, Try.ntmps61
  go_wp2
  refine wp_region_grow (by kernel_rfl) (by kernel_rfl) ?_
  repeat (go_big_quiet_step ((first | (go_at_call 49; exact grow_of_eq (risname_any b.mark _ hmk)) | (go_at_call 41; exact grow_of (rsize_any b.size _)) | (go_at_call 89; exact grow_of (rdims_any b.code _)))))
  all_goals (refine wpQuiet_nil ?_; intro w1 hbw1; obtain ⟨hcw1, hfw1⟩ := bcell hbw1; have hzw1_0 : w.heap.size < w1.heap.size := lt_via hbw1 (by first | omega | (simp; done) | (simp; omega)))
  go_wp2
  have hbw : Below w.heap.size w w1 := (by repeat (first | exact Below.refl _ _ | assumption | refine ba_alloc ?_ _ | refine ba_drew ?_ | refine ba_drewN ?_ _ | refine ba_via (by assumption) ?_ | (refine ba_set ?_ ?_ _; rotate_left; (first | omega | (simp; omega) | simp))))
  have hs2 := hs.below (hbw.mono hB)
  go_loop [3, 4] (fun r i => ∃ k : Nat, k ≤ n ∧ i = .int .i64 k ∧ r = .int .i64 (S.sum (b.dims.take k)) ∧ 0 ≤ S.sum (b.dims.take k) ∧ S.sum (b.dims.take k) ≤ 1048576 * (k : Int) ∧ Hid (∀ j (hj : j < b.dims.length), j < k → 1 ≤ b.dims[j])) (fun _ i => n - (intOf i).toNat)
  case atStart => exact ⟨0, Nat.zero_le _, rfl, rfl, by simp [S.sum], by simp [S.sum], Lib.hid fun j hj hk => absurd hk (by omega)⟩
  case round =>
    obtain ⟨k, hk, rfl, rfl, hs0, hs1, HNO⟩ := hrel
    by_cases hlt : k < n
    · have hkx : k < b.dims.length := by have := HN.out; omega
      obtain ⟨bb, o, rfl, _, hc⟩ := hs2.at_ (by simp; omega)
      have hck := hc k _ (i64s_get hkx)
      clear hc
      by_cases hbad : b.dims[k] < 1 ∨ 1048576 < b.dims[k]
      · have HB := Lib.hid (dims_no hkx (by omega))
        rcases hbad with h1 | h1
        all_goals
          go_wp2
          go_ret
          exact ⟨ret_b (by rw [HK.out, HB.out]), hbw⟩
      · obtain ⟨hb1', hb2'⟩ : 1 ≤ b.dims[k] ∧ b.dims[k] ≤ 1048576 := by omega
        have ht := sum_snoc (b.dims.take k) b.dims[k]
        rw [← List.take_succ_eq_append_getElem hkx] at ht
        have HT := Lib.hid ht
        clear ht hbad
        go_wp2
        go_round
        case rel =>
          refine ⟨_, _, _, ?_, rfl, rfl, rfl⟩
          refine ⟨k + 1, by omega, by go_num, vint (by rw [HT.out]), by rw [HT.out]; omega, by rw [HT.out]; omega, Lib.hid fun j hj hjk => ?_⟩
          by_cases hjk' : j = k
          · subst hjk'; omega
          · exact HNO.out j hj (by omega)
        case measure => simp [intOf]; omega
    · have he : b.dims.take k = b.dims := List.take_of_length_le (by have := HN.out; omega)
      have hall : ∀ x, x ∈ b.dims → 1 ≤ x := fun x hx => by
        obtain ⟨j, hj, rfl⟩ := List.mem_iff_getElem.1 hx
        exact HNO.out j hj (by have := HN.out; omega)
      have HE := Lib.hid (show S.dimsOk b.dims = decide (S.sum b.dims ≤ 262144) by rw [Bool.eq_iff_iff, dimsOk_iff]; simp; exact fun _ => hall)
      rw [he] at hs1
      go_wp2
      go_ret
      exact ⟨ret_b (by rw [HK.out, HE.out]), hbw⟩
theorem rvalid12_any (b : Bar) (A : Option Addr) (n c : Nat) (B : Nat) (w : World) (hB : B ≤ w.heap.size) (hA : BarAt w B A n b) :
    Calls Try.prog 61 #[barV b A n c] w fun e w' => e = .returned (.bool (S.bar b)) ∧ Below w.heap.size w w' := by
  cases g0 : S.isName b.mark
  · exact rvalid_no0 b A n c w hA.len hA.max hA.mark g0
  · cases g1 : S.size b.size
    · exact rvalid_no1 b A n c w hA.len hA.max hA.mark g0 g1
    · by_cases g2 : 1 ≤ b.count
      · by_cases g3 : b.count ≤ 1000
        · cases g4 : (S.dimsOf b.code == 0)
          · cases g5 : ((n : Int) == S.dimsOf b.code)
            · exact rvalid_no5 b A n c w hA.len hA.max hA.mark g0 g1 g2 g3 g4 g5
            · refine rvalid_in b A n c B w hB hA ?_
              unfold S.barHead
              rw [hA.len, g4, g0, g1, g5]
              simp [g2, g3]
          · exact rvalid_no4 b A n c w hA.len hA.max hA.mark g0 g1 g2 g3 g4
        · exact rvalid_no3 b A n c w hA.len hA.max hA.mark g0 g1 g2 (by omega)
      · exact rvalid_no2 b A n c w hA.len hA.max hA.mark g0 g1 (by omega)
end Go.Proofs.Ytiebbklljckbdaa
