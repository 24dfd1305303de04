/- AnchorOrders returns true for every rule and pair of sizes. No condition. -/
import Derived.Test.YtiebbklljckbdaaAnchC
import Derived.Test.YtiebbklljckbdaaOpenA
import Derived.Test.YtiebbklljckbdaaSpecOrd
import Derived.Deep.DeepCutAuto
set_option linter.unusedVariables false
set_option linter.unusedSimpArgs false
namespace Go.Proofs.Ytiebbklljckbdaa
open Go.RowKit

theorem size_at (k : Nat) (hk : k < 9) : ∃ D, S.sizes[k]? = some D ∧ S.size D = true := by
  have h : k < S.sizes.length := hk
  refine ⟨S.sizes[k], List.getElem?_eq_getElem h, ?_⟩
  have := List.getElem_mem h
  simp [S.size, S.has, this]
set_option maxRecDepth 100000 in
set_option maxHeartbeats 4000000 in
theorem orders_walk (r : Rule) (i k : Int) (w : World) (hi0 : 0 ≤ i) (hi1 : i ≤ 255) (hk0 : 0 ≤ k) (hk1 : k ≤ 255) :
    Calls Try.prog 4 #[ruleV r, .int .u8 i, .int .u8 k] w fun e w' => e = .returned (.bool true) ∧ Below w.heap.size w w' := by
  obtain ⟨D, hD, hD1⟩ := size_at (i % 9).toNat (by omega)
  obtain ⟨E, hE, hE1⟩ := size_at (k % 9).toNat (by omega)
  have HD := Lib.hid hD
  have HE := Lib.hid hE
  clear hD hE
  unfold ruleV
  go_enter Try.func4, Try.ntmps4
  go_wp2_with (first
    | (go_at_call 10; refine (awake_any _).mono ?_; rintro e w1 ⟨rfl, hbw1⟩; obtain ⟨hcw1, hfw1⟩ := bcell hbw1; have hzw1_0 : w.heap.size < w1.heap.size := lt_via hbw1 (by first | omega | (simp; done) | (simp; omega)))
    | (go_at_call 18; refine (sizes_any _).mono ?_; rintro e w' ⟨rfl, rfl⟩))
  have hs : Cells (w1.alloc (.cells (i64s S.sizes).toArray 3)) (w1.heap.size + 1) (some ⟨w1.heap.size, 0, none⟩) (i64s S.sizes) := by simpa using Cells.new w1 (i64s S.sizes).toArray 3 (0, 0)
  have c1 := hs.get (k := (i % 9).toNat) (v := .int .i64 D) (by simp [HD.out])
  have c2 := hs.get (k := (k % 9).toNat) (v := .int .i64 E) (by simp [HE.out])
  rw [Nat.zero_add] at c1 c2
  have b1 : i % 9 < 9 := by omega
  have b2 : k % 9 < 9 := by omega
  go_quiet (fail)
  go_upto_region 7 with fail
  go_cut [8, 9] (fun s8 s9 wx => ∃ d e : Int, S.size d = true ∧ S.size e = true ∧ d ≤ e ∧ s8 = .int .i64 d ∧ s9 = .int .i64 e ∧ Below (w.alloc (.cells #[.int .i64 r.num, .int .i64 r.den, .int .i64 r.pnum, .int .i64 r.pden, .int .i64 r.bnum, .int .i64 r.bden, .int .i64 r.lnum, .int .i64 r.lden, .int .i64 r.least] 23)).heap.size (w.alloc (.cells #[.int .i64 r.num, .int .i64 r.den, .int .i64 r.pnum, .int .i64 r.pden, .int .i64 r.bnum, .int .i64 r.bden, .int .i64 r.lnum, .int .i64 r.lden, .int .i64 r.least] 23)) wx)
  case first =>
    go_wp2_with fail
    all_goals (go_meet; exact ⟨_, _, by assumption, by assumption, by omega, rfl, rfl, (by repeat (first | exact Below.refl _ _ | assumption | refine ba_alloc ?_ _ | refine ba_drew ?_ | refine ba_drewN ?_ _ | refine ba_via (by assumption) ?_ | (refine ba_set ?_ ?_ _; rotate_left; (first | omega | (simp; omega) | simp))))⟩)
  case rest =>
  obtain ⟨d, e, hd, he, hde, rfl, rfl, hb2⟩ := hcut
  clear hs c1 c2 b1 b2 hD1 hE1 HD HE
  cases hrl : S.rule r
  · have hsd : S.sized r d = 1 := sized_no hrl
    have ha : aBasic r d = 0 := by simp [aBasic, hsd]
    obtain ⟨hc2, hf2⟩ := bcell hb2
    have hz2 : w.heap.size < wc.heap.size := by (have := hb2.size; simp at this; omega)
    go_wp2_with (first
      | (go_at_call 11; refine (Basic_any r d _).mono ?_; rintro e w3 ⟨rfl, hbw3⟩; obtain ⟨hcw3, hfw3⟩ := bcell hbw3; have hzw3_0 : w.heap.size < w3.heap.size := lt_via hbw3 (by first | omega | (simp; done) | (simp; omega)))
      | (go_at_call 13; refine (avalid_any r _).mono ?_; rintro e w4 ⟨rfl, hbw4⟩; obtain ⟨hcw4, hfw4⟩ := bcell hbw4; have hzw4_0 : w.heap.size < w4.heap.size := lt_via hbw4 (by first | omega | (simp; done) | (simp; omega))))
    go_ret
    exact ⟨rfl, (by repeat (first | exact Below.refl _ _ | assumption | refine ba_alloc ?_ _ | refine ba_drew ?_ | refine ba_drewN ?_ _ | refine ba_via (by assumption) ?_ | (refine ba_set ?_ ?_ _; rotate_left; (first | omega | (simp; omega) | simp))))⟩
  · have hsd : S.sized r d = 0 := sized_yes hrl hd
    have hse : S.sized r e = 0 := sized_yes hrl he
    have hr := rule_ok hrl
    have ha : aBasic r d = S.basic r d := by simp [aBasic, hsd]
    have hl : ∀ p b, aLength r d p b = S.length r d p b := fun p b => by simp [aLength, hsd]
    have hm : ∀ p b, aLength r e p b = S.length r e p b := fun p b => by simp [aLength, hse]
    have hbd := size_bd hd
    obtain ⟨hc2, hf2⟩ := bcell hb2
    have hz2 : w.heap.size < wc.heap.size := by (have := hb2.size; simp at this; omega)
    go_wp2_with (go_at_call 11; refine (Basic_any r d _).mono ?_; rintro e w3 ⟨rfl, hbw3⟩; obtain ⟨hcw3, hfw3⟩ := bcell hbw3; have hzw3_0 : w.heap.size < w3.heap.size := lt_via hbw3 (by first | omega | (simp; done) | (simp; omega)))
    go_loopw [72] (fun i wr => (i = .int .i64 0 ∨ i = .int .i64 1 ∨ i = .int .i64 2 ∨ i = .int .i64 3 ∨ i = .int .i64 4) ∧ Below (w.alloc (.cells #[.int .i64 r.num, .int .i64 r.den, .int .i64 r.pnum, .int .i64 r.pden, .int .i64 r.bnum, .int .i64 r.bden, .int .i64 r.lnum, .int .i64 r.lden, .int .i64 r.least] 23)).heap.size (w.alloc (.cells #[.int .i64 r.num, .int .i64 r.den, .int .i64 r.pnum, .int .i64 r.pden, .int .i64 r.bnum, .int .i64 r.bden, .int .i64 r.lnum, .int .i64 r.lden, .int .i64 r.least] 23)) wr) (fun i _ => 4 - (intOf i).toNat)
    case atStart => exact ⟨.inl rfl, (by repeat (first | exact Below.refl _ _ | assumption | refine ba_alloc ?_ _ | refine ba_drew ?_ | refine ba_drewN ?_ _ | refine ba_via (by assumption) ?_ | (refine ba_set ?_ ?_ _; rotate_left; (first | omega | (simp; omega) | simp))))⟩
    case round =>
      obtain ⟨hi, hbr⟩ := hrel
      obtain ⟨hcr, hfr⟩ := bcell hbr
      have hzr : w.heap.size < wr.heap.size := by (have := hbr.size; simp at this; omega)
      clear hc2 hf2 hz2
      rcases hi with rfl | rfl | rfl | rfl | rfl
      · have l1 := @length_least r d false false
        have l2 := @length_wider r d e false false hr hde
        have l3 := @length_poor r d false false hr
        have ix : ∀ W, (Instr.index 36 (.agg #[.bool false, .bool false, .bool true, .bool false, .bool false, .bool true, .bool true, .bool true]) (.int .i64 0)).run Try.prog W = .ok (.agg #[.bool false, .bool false]) W := fun _ => by kernel_rfl
        have l4 := @length_bent r d false false hr
        go_wp2_with (go_at_call 12; refine (Length_any r _ _ _ _).mono ?_; rintro e w4 ⟨rfl, hbw4⟩; obtain ⟨hcw4, hfw4⟩ := bcell hbw4; have hzw4_0 : w.heap.size < w4.heap.size := lt_via hbw4 (by first | omega | (simp; done) | (simp; omega)); have hyw4_0 : wr.heap.size < w4.heap.size := lt_via hbw4 (by first | omega | (simp; done) | (simp; omega)))
        go_roundw
        case rel => exact ⟨by simp, (by repeat (first | exact Below.refl _ _ | assumption | refine ba_alloc ?_ _ | refine ba_drew ?_ | refine ba_drewN ?_ _ | refine ba_via (by assumption) ?_ | (refine ba_set ?_ ?_ _; rotate_left; (first | omega | (simp; omega) | simp))))⟩
        case measure => simp [intOf]
      · have l1 := @length_least r d true false
        have l2 := @length_wider r d e true false hr hde
        have l3 := @length_poor r d true false hr
        have ix : ∀ W, (Instr.index 36 (.agg #[.bool false, .bool false, .bool true, .bool false, .bool false, .bool true, .bool true, .bool true]) (.int .i64 1)).run Try.prog W = .ok (.agg #[.bool true, .bool false]) W := fun _ => by kernel_rfl
        have l4 := @length_bent r d true false hr
        go_wp2_with (go_at_call 12; refine (Length_any r _ _ _ _).mono ?_; rintro e w4 ⟨rfl, hbw4⟩; obtain ⟨hcw4, hfw4⟩ := bcell hbw4; have hzw4_0 : w.heap.size < w4.heap.size := lt_via hbw4 (by first | omega | (simp; done) | (simp; omega)); have hyw4_0 : wr.heap.size < w4.heap.size := lt_via hbw4 (by first | omega | (simp; done) | (simp; omega)))
        go_roundw
        case rel => exact ⟨by simp, (by repeat (first | exact Below.refl _ _ | assumption | refine ba_alloc ?_ _ | refine ba_drew ?_ | refine ba_drewN ?_ _ | refine ba_via (by assumption) ?_ | (refine ba_set ?_ ?_ _; rotate_left; (first | omega | (simp; omega) | simp))))⟩
        case measure => simp [intOf]
      · have l1 := @length_least r d false true
        have l2 := @length_wider r d e false true hr hde
        have l3 := @length_poor r d false true hr
        have ix : ∀ W, (Instr.index 36 (.agg #[.bool false, .bool false, .bool true, .bool false, .bool false, .bool true, .bool true, .bool true]) (.int .i64 2)).run Try.prog W = .ok (.agg #[.bool false, .bool true]) W := fun _ => by kernel_rfl
        have l4 := @length_bent r d false true hr
        go_wp2_with (go_at_call 12; refine (Length_any r _ _ _ _).mono ?_; rintro e w4 ⟨rfl, hbw4⟩; obtain ⟨hcw4, hfw4⟩ := bcell hbw4; have hzw4_0 : w.heap.size < w4.heap.size := lt_via hbw4 (by first | omega | (simp; done) | (simp; omega)); have hyw4_0 : wr.heap.size < w4.heap.size := lt_via hbw4 (by first | omega | (simp; done) | (simp; omega)))
        go_roundw
        case rel => exact ⟨by simp, (by repeat (first | exact Below.refl _ _ | assumption | refine ba_alloc ?_ _ | refine ba_drew ?_ | refine ba_drewN ?_ _ | refine ba_via (by assumption) ?_ | (refine ba_set ?_ ?_ _; rotate_left; (first | omega | (simp; omega) | simp))))⟩
        case measure => simp [intOf]
      · have l1 := @length_least r d true true
        have l2 := @length_wider r d e true true hr hde
        have l3 := @length_poor r d true true hr
        have ix : ∀ W, (Instr.index 36 (.agg #[.bool false, .bool false, .bool true, .bool false, .bool false, .bool true, .bool true, .bool true]) (.int .i64 3)).run Try.prog W = .ok (.agg #[.bool true, .bool true]) W := fun _ => by kernel_rfl
        have l4 := @length_bent r d true true hr
        go_wp2_with (go_at_call 12; refine (Length_any r _ _ _ _).mono ?_; rintro e w4 ⟨rfl, hbw4⟩; obtain ⟨hcw4, hfw4⟩ := bcell hbw4; have hzw4_0 : w.heap.size < w4.heap.size := lt_via hbw4 (by first | omega | (simp; done) | (simp; omega)); have hyw4_0 : wr.heap.size < w4.heap.size := lt_via hbw4 (by first | omega | (simp; done) | (simp; omega)))
        go_roundw
        case rel => exact ⟨by simp, (by repeat (first | exact Below.refl _ _ | assumption | refine ba_alloc ?_ _ | refine ba_drew ?_ | refine ba_drewN ?_ _ | refine ba_via (by assumption) ?_ | (refine ba_set ?_ ?_ _; rotate_left; (first | omega | (simp; omega) | simp))))⟩
        case measure => simp [intOf]
      · have l5 : S.length r d false false = S.basic r d := length_plain
        have b1 := basic_bd hr (d := d) (by omega) (by omega)
        have b2 := mul_bd b1.1 b1.2 (by have := hr.den; omega : 0 ≤ r.den) hr.den.2
        have b3 := mul_bd (by have := hr.num; omega : 0 ≤ r.num) hr.num.2 (by omega : 0 ≤ d) (by omega : d ≤ 40)
        have b4 := @basic_mul r d hr
        go_wp2_with (go_at_call 12; refine (Length_any r _ _ _ _).mono ?_; rintro e w4 ⟨rfl, hbw4⟩; obtain ⟨hcw4, hfw4⟩ := bcell hbw4; have hzw4_0 : w.heap.size < w4.heap.size := lt_via hbw4 (by first | omega | (simp; done) | (simp; omega)))
        go_ret
        exact ⟨rfl, (by repeat (first | exact Below.refl _ _ | assumption | refine ba_alloc ?_ _ | refine ba_drew ?_ | refine ba_drewN ?_ _ | refine ba_via (by assumption) ?_ | (refine ba_set ?_ ?_ _; rotate_left; (first | omega | (simp; omega) | simp))))⟩
end Go.Proofs.Ytiebbklljckbdaa
