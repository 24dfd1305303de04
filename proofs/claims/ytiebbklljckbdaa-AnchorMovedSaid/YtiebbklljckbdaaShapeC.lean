/- Contracts: shape.Legs. -/
import Derived.Test.YtiebbklljckbdaaShapeB
import Derived.Test.YtiebbklljckbdaaRow
set_option linter.unusedVariables false
set_option linter.unusedSimpArgs false
namespace Go.Proofs.Ytiebbklljckbdaa
open Go.RowKit
theorem elemInt : Elem Try.prog 33 3 (.int .i64 0) 1 8 := ⟨Try.underlying33, by kernel_rfl, rfl, by decide⟩
/-- The lengths of the legs of a bar. -/
def S.legLens (b : Bar) : List Int := (S.legsOf b.code).map fun l => b.dims.getD l.1 0
/-- A call hands back a slice of its own, and an error. -/
def GivesRow (E size : Nat) (n : Nat) (xs : List Value) (err : Int) (w : World) (e : Ending) (w' : World) : Prop :=
  ∃ A c, e = .returned (.tuple #[.slice A n c, .int .i64 err]) ∧ w'.ownsRow w.heap.size E size (.slice A n c) n xs ∧ Below w.heap.size w w'
theorem bar_head {b : Bar} (h : S.bar b = true) : (b.dims.length : Int) = S.dimsOf b.code := by
  simp only [S.bar, S.barHead, Bool.and_eq_true, beq_iff_eq] at h
  exact h.1.2
theorem legs_no (b : Bar) (A : Option Addr) (n c : Nat) (B : Nat) (w : World) (hB : B ≤ w.heap.size) (hA : BarAt w B A n b) (h : S.bar b = false) :
    Calls Try.prog 57 #[barV b A n c] w (GivesRow 3 1 0 [] 1 w) := by
  have HA := Lib.hid (hA.below ((Below.refl B w).alloc hB (.cells #[.string b.mark, .int .i64 b.size, .int .i64 b.count, .int .i64 b.code, .slice A n c] 55)))
  clear hA
  unfold barV
  go_enter Try.func57, Try.ntmps57
  go_wp2_with (first
    | (go_at_call 54; (with_reducible refine (valid_any b A n c B _ (by simp; omega) HA.out).mono ?_); rintro e w1 ⟨rfl, hbw1⟩; obtain ⟨hcw1, hfw1⟩ := bcell hbw1; have hzw1_0 : w.heap.size < w1.heap.size := lt_via hbw1 (by first | omega | (simp; done) | (simp; omega))))
  go_ret2
  exact ⟨none, 0, rfl, World.ownsRow_nil _ _ _ _, (by repeat (first | exact Below.refl _ _ | assumption | refine ba_alloc ?_ _ | refine ba_drew ?_ | refine ba_drewN ?_ _ | refine ba_via (by assumption) ?_ | (refine ba_set ?_ ?_ _; rotate_left; (first | omega | (simp; omega) | simp))))⟩
theorem take_lens (b : Bar) {k : Nat} (hk : k < (S.legsOf b.code).length) (hj : (S.legsOf b.code)[k].1 < b.dims.length) :
    i64s ((S.legLens b).take (k + 1)) = i64s ((S.legLens b).take k) ++ [.int .i64 b.dims[(S.legsOf b.code)[k].1]] := by
  have hk' : k < (S.legLens b).length := by simpa [S.legLens] using hk
  rw [List.take_succ_eq_append_getElem hk', i64s, List.map_append]
  simp [S.legLens, List.getD_eq_getElem?_getD, List.getElem?_eq_getElem hj]
set_option maxHeartbeats 2000000 in
theorem legs_yes (b : Bar) (A : Option Addr) (n c : Nat) (B : Nat) (w : World) (hB : B ≤ w.heap.size) (hA : BarAt w B A n b) (h : S.bar b = true) :
    Calls Try.prog 57 #[barV b A n c] w (GivesRow 3 1 (S.legsOf b.code).length (i64s (S.legLens b)) 0 w) := by
  have HA := Lib.hid (hA.below ((Below.refl B w).alloc hB (.cells #[.string b.mark, .int .i64 b.size, .int .i64 b.count, .int .i64 b.code, .slice A n c] 55)))
  have hcl := hA.cells
  have HN := Lib.hid hA.len
  have HD := Lib.hid (bar_head h)
  have hmx := hA.max
  have hl6 := legs_len b.code
  clear hA
  unfold barV
  go_enter Try.func57, Try.ntmps57
  go_wp2_with (first
    | (go_at_call 54; (with_reducible refine (valid_any b A n c B _ (by simp; omega) HA.out).mono ?_); rintro e w1 ⟨rfl, hbw1⟩; obtain ⟨hcw1, hfw1⟩ := bcell hbw1; have hzw1_0 : w.heap.size < w1.heap.size := lt_via hbw1 (by first | omega | (simp; done) | (simp; omega)))
    | (go_at_call 87; (with_reducible refine (legs_any b.code _).mono ?_); rintro e w2 ⟨A2, rfl, hs, hb2, _⟩; obtain ⟨hcw2, hfw2⟩ := bcell hb2; have hz2 : w.heap.size < w2.heap.size := lt_via hb2 (by omega)))
  have hbw : Below w.heap.size w w2 := (by repeat (first | exact Below.refl _ _ | assumption | refine ba_alloc ?_ _ | refine ba_drew ?_ | refine ba_drewN ?_ _ | refine ba_via (by assumption) ?_ | (refine ba_set ?_ ?_ _; rotate_left; (first | omega | (simp; omega) | simp))))
  have hcl2 := hcl.below (hbw.mono hB)
  go_loopw [4, 14] (fun v i wr => ∃ (k : Nat) (A3 : Option Addr) (c3 : Nat), k ≤ (S.legsOf b.code).length ∧ i = .int .i64 k ∧ v = .slice A3 k c3 ∧ Row w2 wr none w.heap.size 3 1 (.slice A3 k c3) k (i64s ((S.legLens b).take k)) ∧ Exc [] w2 wr) (fun _ i _ => (S.legsOf b.code).length - (intOf i).toNat)
  case atStart => exact ⟨0, none, 0, Nat.zero_le _, rfl, rfl, Row.none_ _ _ _ _, Exc.refl _ _⟩
  case round =>
    obtain ⟨k, A3, c3, hk, rfl, rfl, hR, hX⟩ := hrel
    by_cases hlt : k < (S.legsOf b.code).length
    · have hbx : Below w2.heap.size w2 wr := hX.below (Nat.le_refl _) (by simp)
      have hs' := hs.below hbx
      obtain ⟨b4, o4, rfl, hbl, _⟩ := hs'.at_ (by rw [flat_len legC 2 legC_len]; omega)
      have c0 := hs'.row0 legC_len hlt rfl
      have c1 := hs'.rowj legC_len hlt 1 rfl
      have hj : (S.legsOf b.code)[k].1 < n := by have := legs_dim b.code hlt; have := HN.out; have := HD.out; omega
      have hjd : (S.legsOf b.code)[k].1 < b.dims.length := by have := HN.out; omega
      have hcl3 := hcl2.below (hbx.mono (Nat.le_trans hB hbw.size))
      obtain ⟨bd, od, rfl, hbd, hcd⟩ := hcl3.at_ (by simp; omega)
      have hck := hcd _ _ (i64s_get hjd)
      clear hcd
      obtain ⟨hcr, hfr⟩ := bcell hbx
      have hbd2 : bd < wr.heap.size := by have := hbx.size; have := hbw.size; omega
      have hbl2 : b4 < wr.heap.size := by have := hbx.size; omega
      have hz3 : w.heap.size < wr.heap.size := lt_via hbx hz2
      have HT := Lib.hid (take_lens b hlt hjd)
      have hk6 : k ≤ 6 := by omega
      go_wp2_with (at_builtin; refine wpList_push rfl (.tmp 18) (.tmp 25) _ rfl elemInt ((hR.alloc _).alloc _) ((hX.alloc _).alloc _) (by simp) hbw.size rfl (wr.heap.size + 1) 1 1 [.int .i64 b.dims[(S.legsOf b.code)[k].1]] rfl rfl ?_ (by simp [Value.oneCell']) (by unfold maxLen; omega) (by omega) ?_; (· simp); intro v' w' hR' hX' hO'; clear hcr hfr)
      obtain ⟨A5, c5, rfl, _, _, _⟩ := own_form hR'.own
      go_roundw
      case rel => exact ⟨k + 1, A5, c5, by omega, by go_num, rfl, by rw [HT.out]; exact hR', hX'⟩
      case measure => simp [intOf]; omega
    · have he : k = (S.legsOf b.code).length := by omega
      have ht : (S.legLens b).take k = S.legLens b := List.take_of_length_le (by simp [S.legLens]; omega)
      have HE := Lib.hid he
      have HT := Lib.hid ht
      clear he ht
      go_wp2
      go_ret2
      refine ⟨A3, c3, by rw [HE.out]; rfl, ?_, ?_⟩
      · have := hR.own
        rw [HT.out] at this
        rwa [HE.out] at this
      · exact ba_via (hX.below (Nat.le_refl _) (by simp)) hbw
end Go.Proofs.Ytiebbklljckbdaa
