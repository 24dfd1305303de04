/- Contracts: Legs and Path of the reference for layer 12. -/
import Derived.Test.YtiebbklljckbdaaMoves
import Derived.Test.YtiebbklljckbdaaTail1
set_option linter.unusedVariables false
set_option linter.unusedSimpArgs false
namespace Go.Proofs.Ytiebbklljckbdaa
open Go.RowKit
theorem move_at (b : Bar) (h : S.bar b = true) {k : Nat} (hk : k < (S.legsOf b.code).length) : ∃ P n, (S.moves b)[k]? = some P ∧ (S.legLens b)[k]? = some n ∧ 1 ≤ n ∧ n ≤ 262144 ∧ Within P 262144 ∧
    S.abs P.x + S.abs P.y + S.abs P.z = n ∧ 0 ≤ S.abs P.x ∧ 0 ≤ S.abs P.y ∧ 0 ≤ S.abs P.z ∧ S.ptAt b (k + 1) = ⟨(S.ptAt b k).x + P.x, (S.ptAt b k).y + P.y, (S.ptAt b k).z + P.z⟩ := by
  obtain ⟨n, _, g2, g3, g4, g5⟩ := lens_get b h hk
  refine ⟨S.step ⟨0, 0, 0⟩ (S.legsOf b.code)[k].2 n, n, ?_, g2, g3, g4, ?_⟩
  · unfold S.legLens at g2
    rw [List.getElem?_map, List.getElem?_eq_getElem hk] at g2
    unfold S.moves
    rw [List.getElem?_map, List.getElem?_eq_getElem hk]
    simp only [Option.map_some, Option.some.injEq] at g2 ⊢
    rw [g2]
  · rw [g5]
    rcases legs_way b.code hk with hw | hw | hw | hw | hw
    all_goals (
      rw [hw]
      refine ⟨?_, ?_, ?_, ?_, ?_, ?_⟩
      · simp [Within, S.step]; omega
      · simp [S.abs, S.step]; try (first | omega | (intro _; omega) | (split <;> omega))
      · simp [S.abs, S.step]; try (first | omega | (intro _; omega) | (split <;> omega))
      · simp [S.abs, S.step]; try (first | omega | (intro _; omega) | (split <;> omega))
      · simp [S.abs, S.step]; try (first | omega | (intro _; omega) | (split <;> omega))
      · simp [S.step]; try omega)
set_option maxRecDepth 100000 in
set_option maxHeartbeats 2000000 in
theorem rlegs_yes (b : Bar) (A : Option Addr) (n c : Nat) (B : Nat) (w : World) (hB : B ≤ w.heap.size) (hA : BarAt w B A n b) (h : S.bar b = true) (L : Nat) (hL : (S.legsOf b.code).length = L) :
    Calls Try.prog 62 #[barV b A n c] w fun e w' => ∃ A' c', e = .returned (.slice A' L c') ∧ w'.ownsRow w.heap.size 3 1 (.slice A' L c') L (i64s (S.legLens b)) ∧ Below w.heap.size w w' := by
  have HA := Lib.hid hA
  have hl6 := legs_len b.code
  have HM := Lib.hid (show ∀ k, k < (S.legsOf b.code).length → _ from fun k hk => move_at b h hk)
  have HML := Lib.hid (moves_len b)
  have HLL := Lib.hid (show (S.legLens b).length = (S.legsOf b.code).length by simp [S.legLens])
  have HL := Lib.hid hL
  rw [hL] at hl6
  clear hA hL
  unfold barV
  go_enter Try.func62, Try.ntmps62
  go_wp2_with (go_at_call 90; (with_reducible refine (rmoves_any b A n c B _ (by simp; omega) (BarAt.at_ HA.out hB (by repeat (first | exact Below.refl _ _ | assumption | refine ba_alloc ?_ _ | refine ba_drew ?_ | refine ba_drewN ?_ _ | refine ba_via (by assumption) ?_ | (refine ba_set ?_ ?_ _; rotate_left; (first | omega | (simp; omega) | simp))))) h).mono ?_); rintro e w2 ⟨A2, rfl, hs, hb2, hz2'⟩; obtain ⟨hcw2, hfw2⟩ := bcell hb2; have hz2 : w.heap.size < w2.heap.size := lt_via hb2 (by simp); have hlen : (S.moves b).length = L := HML.out.trans HL.out; simp only [hlen])
  have hbw : Below w.heap.size w w2 := (by repeat (first | exact Below.refl _ _ | assumption | refine ba_alloc ?_ _ | refine ba_drew ?_ | refine ba_drewN ?_ _ | refine ba_via (by assumption) ?_ | (refine ba_set ?_ ?_ _; rotate_left; (first | omega | (simp; omega) | simp))))
  go_loopw [4, 5] (fun v i wr => ∃ (k : Nat) (A3 : Option Addr) (c3 : Nat), k ≤ L ∧ i = .int .i64 k ∧ v = .slice A3 k c3 ∧ Row w2 wr none w.heap.size 3 1 (.slice A3 k c3) k (i64s ((S.legLens b).take k)) ∧ Exc [] w2 wr) (fun _ i _ => L - (intOf i).toNat)
  case atStart => exact ⟨0, none, 0, Nat.zero_le _, rfl, rfl, Row.none_ _ _ _ _, Exc.refl _ _⟩
  case round =>
    obtain ⟨k, A3, c3, hk, rfl, rfl, hR, hX⟩ := hrel
    by_cases hlt : k < L
    · have hbx : Below w2.heap.size w2 wr := hX.below (Nat.le_refl _) (by simp)
      have hs' := hs.below hbx
      obtain ⟨b4, o4, rfl, hbl, _⟩ := hs'.at_ (by rw [flat_len ptC 3 ptC_len]; omega)
      obtain ⟨P, q, g1, g2, g3, g4, gw, ga, ga1, ga2, ga3, _⟩ := HM.out k (by have := HL.out; omega)
      obtain ⟨c1, c2, c3'⟩ := hs'.pts g1
      unfold Within at gw
      have hT : i64s ((S.legLens b).take (k + 1)) = i64s ((S.legLens b).take k) ++ [.int .i64 q] := by
        obtain ⟨hk', e⟩ := List.getElem?_eq_some_iff.1 g2
        rw [List.take_succ_eq_append_getElem hk', i64s, List.map_append, e]; rfl
      have HT := Lib.hid hT
      have hbl2 : b4 < wr.heap.size := by have := hbx.size; omega
      have HX1 := Lib.hid (fun w => rsize12_any P.x w (by omega))
      have HX2 := Lib.hid (fun w => rsize12_any P.y w (by omega))
      have HX3 := Lib.hid (fun w => rsize12_any P.z w (by omega))
      clear hT g1 g2
      generalize S.abs P.x = ax at *
      generalize S.abs P.y = ay at *
      generalize S.abs P.z = az at *
      have e1 : IntKind.i64.wrap (ax + ay) = ax + ay := IntWalk.i64_in _ (by omega)
      have e2 : IntKind.i64.wrap (ax + ay + az) = ax + ay + az := IntWalk.i64_in _ (by omega)
      have hk6 : k ≤ 6 := by omega
      have hkl : (k : Int) < (L : Int) := by omega
      go_wp2
      refine wp_region_grow_tail1 21 (by kernel_rfl) (by kernel_rfl) (fun _ _ _ h => h) (Or.inl ⟨by rfl, fun _ => by rfl⟩) ?_
      simp only [List.take_succ_cons, List.take_zero, List.drop_succ_cons, List.drop_zero, go_sem, List.setIfInBounds_toArray, List.set_cons_succ, List.set_cons_zero, Array.getD_eq_getD_getElem?, List.getElem?_toArray, List.getElem?_cons_succ, List.getElem?_cons_zero, Option.getD_some]
      repeat (go_big_quiet_step ((first | (go_at_call 91; exact grow_of_eq (HX1.out _)) | (go_at_call 91; exact grow_of_eq (HX2.out _)) | (go_at_call 91; exact grow_of_eq (HX3.out _)))))
      all_goals (refine wpQuiet_nil ?_; intro wg hbwg; obtain ⟨hcwg, hfwg⟩ := bcell hbwg)
      go_wp2_with (at_builtin; refine wpList_push rfl (.tmp 14) (.tmp 35) _ rfl elemInt ((hR.via hbwg).alloc _) ((Exc.via hbwg hX).alloc _) (by simp) hbw.size rfl (wg.heap.size) 1 1 [.int .i64 q] rfl rfl ?_ (by simp [Value.oneCell']) (by unfold maxLen; omega) (by omega) ?_; (· simp); intro v' w' hR' hX' hO'; clear hcwg hfwg)
      obtain ⟨A5, c5, rfl, _, _, _⟩ := own_form hR'.own
      go_roundw
      case rel => exact ⟨k + 1, A5, c5, by omega, by go_num, rfl, by rw [HT.out]; exact hR', hX'⟩
      case measure => simp [intOf]; omega
    · have he : k = L := by omega
      have ht : (S.legLens b).take k = S.legLens b := List.take_of_length_le (by have := HLL.out; have := HL.out; omega)
      have HE := Lib.hid he
      have HT := Lib.hid ht
      clear he ht
      go_wp2
      go_ret
      refine ⟨A3, c3, by rw [HE.out]; rfl, ?_, ?_⟩
      · have := hR.own
        rw [HT.out] at this
        rwa [HE.out] at this
      · exact ba_via (hX.below (Nat.le_refl _) (by simp)) hbw
end Go.Proofs.Ytiebbklljckbdaa
