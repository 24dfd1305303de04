/- Contract of the reference: Ends. -/
import Derived.Test.YtiebbklljckbdaaEndsC
set_option linter.unusedVariables false
set_option linter.unusedSimpArgs false
namespace Go.Proofs.Ytiebbklljckbdaa
open Go.RowKit
theorem given_zero {r : Rule} {m : Mem} {b : Bar} {xs : List Bx} (h : S.given r m b xs = 0) : S.heads r m b = true ∧ anyb xs S.boxNot = false ∧ xs.length = (S.legsOf b.code).length ∧ 0 ≤ idxf xs S.isMain := by
  unfold S.given at h
  cases h1 : S.heads r m b
  · rw [h1] at h; simp at h
  · cases h2 : anyb xs S.boxNot
    · by_cases h3 : xs.length = (S.legsOf b.code).length
      · by_cases h4 : idxf xs S.isMain < 0
        · simp [h1, h2, h3, h4] at h
        · exact ⟨rfl, rfl, h3, by omega⟩
      · simp [h1, h2, h3] at h
    · simp [h1, h2] at h
theorem idxf_some {α : Type} {xs : List α} {p : α → Bool} (h : 0 ≤ idxf xs p) : ∃ k : Nat, ∃ hk : k < xs.length, idxf xs p = k ∧ p xs[k] = true := by
  unfold idxf at h ⊢
  cases hf : xs.findIdx? p with
  | none => rw [hf] at h; simp at h
  | some k =>
    obtain ⟨hk, hp, _⟩ := List.findIdx?_eq_some_iff_getElem.1 hf
    exact ⟨k, hk, rfl, hp⟩
def S.endLen (r : Rule) (m : Mem) (b : Bar) (xs : List Bx) (k : Nat) (p : Pt) : Int := S.length r b.size (S.poor m.boxes (xs.getD k S.zbox)) (S.bent xs k p)
theorem bar_size {b : Bar} (h : S.bar b = true) : S.size b.size = true := by
  simp only [S.bar, S.barHead, Bool.and_eq_true] at h
  exact h.1.1.1.1.2
set_option maxRecDepth 100000 in
set_option maxHeartbeats 4000000 in
theorem rends_yes (r : Rule) (m : Mem) (A : Option Addr) (n c : Nat) (A' : Option Addr) (n' c' : Nat) (b : Bar) (D : Option Addr) (dn dc : Nat) (L : Option Addr) (k kc : Nat) (xs : List Bx) (B : Nat) (w : World) (hB : B ≤ w.heap.size)
    (hA : EndsAt w B A n A' n' m D dn b L k xs) (h : S.given r m b xs = 0) (j : Nat) (hj : j < xs.length) (hij : idxf xs S.isMain = j) :
    Calls Try.prog 28 #[ruleV r, memV m A n c A' n' c', barV b D dn dc, .slice L k kc] w fun e w' => e = .returned (.tuple #[.int .i64 (S.endLen r m b xs j (xs.getD j S.zbox).lo), .int .i64 (S.endLen r m b xs j (xs.getD j S.zbox).hi)]) ∧ Below w.heap.size w w' := by
  have HA := Lib.hid hA
  have hlen := hA.len
  have hmax := hA.max
  obtain ⟨h1, h2, h3, _⟩ := given_zero h
  have h1' := h1
  simp only [S.heads, Bool.and_eq_true] at h1'
  obtain ⟨⟨g0, g1⟩, g2⟩ := h1'
  have hso : S.solid m.boxes m.holes = true := by
    have := g1
    simp only [S.member, Bool.and_eq_true] at this
    exact this.1.1.1.2
  have hleg : S.boxOk xs[j] = true := boxes_ok h2 _ (List.getElem_mem hj)
  have hbd := size_bd (bar_size g2)
  have hl6 := legs_len b.code
  have hk6 : k ≤ 6 := by omega
  have hjk : j < k := by omega
  have HR := Lib.hid (rule_ok g0)
  have HML := Lib.hid (fun (W : World) (hw : B ≤ W.heap.size) (hh : EndsAt W B A n A' n' m D dn b L k xs) => hij ▸ mainleg_any L k kc xs B W hh.len hh.max hw hh.legs)
  have HP := Lib.hid (fun (W : World) (hw : B ≤ W.heap.size) (hh : EndsAt W B A n A' n' m D dn b L k xs) => rpoor_yes m xs[j] A n c A' n' c' B W hw hh.sol hso hleg)
  have HBL := Lib.hid (fun (W : World) (hw : B ≤ W.heap.size) (hh : EndsAt W B A n A' n' m D dn b L k xs) => rbent_any L k kc j xs xs[j].lo B W hh.len (by omega) hw hh.legs hjk)
  have HBH := Lib.hid (fun (W : World) (hw : B ≤ W.heap.size) (hh : EndsAt W B A n A' n' m D dn b L k xs) => rbent_any L k kc j xs xs[j].hi B W hh.len (by omega) hw hh.legs hjk)
  have HLN := Lib.hid (fun (poor bent : Bool) (W : World) => rlength_any r b.size poor bent W HR.out (by omega) (by omega))
  have hE : ∀ p, S.endLen r m b xs j p = S.length r b.size (S.poor m.boxes xs[j]) (S.bent xs j p) := fun p => by
    unfold S.endLen
    rw [show xs.getD j S.zbox = xs[j] by simp [List.getD_eq_getElem?_getD, hj]]
  rw [hE, hE, show xs.getD j S.zbox = xs[j] by simp [List.getD_eq_getElem?_getD, hj]]
  obtain ⟨bb, o, rfl, hbb, _⟩ := hA.legs.at_ (by rw [flat_len boxC 6 boxC_len]; omega)
  obtain ⟨c0, c1, c2, c3, c4, c5⟩ := hA.legs.boxes (List.getElem?_eq_getElem hj)
  have hbw : bb < w.heap.size := by omega
  have hbw3 : bb < w.heap.size + 1 + 1 + 1 := by omega
  have hbw2 : bb < w.heap.size + 1 + 1 := by omega
  have hbw0 : bb < w.heap.size + 1 := by omega
  have hji : (j : Int) < (k : Int) := by omega
  clear hA h h1 h2 h3 g0 g1 g2 hso hleg hE hij
  generalize S.poor m.boxes xs[j] = tp at *
  generalize S.bent xs j xs[j].lo = tl at *
  generalize S.bent xs j xs[j].hi = th at *
  generalize xs[j] = X at *
  unfold ptVal at HBL HBH
  unfold memV boxV at HP
  unfold ruleV at HLN
  unfold ruleV memV barV
  go_enter Try.func28, Try.ntmps28
  go_wp2_with (first
    | (go_at_call 63; (with_reducible refine (HML.out _ (size_via hB (by repeat (first | exact Below.refl _ _ | assumption | refine ba_alloc ?_ _ | refine ba_drew ?_ | refine ba_drewN ?_ _ | refine ba_via (by assumption) ?_ | (refine ba_set ?_ ?_ _; rotate_left; (first | omega | (simp; omega) | simp))))) (EndsAt.at_ HA.out hB (by repeat (first | exact Below.refl _ _ | assumption | refine ba_alloc ?_ _ | refine ba_drew ?_ | refine ba_drewN ?_ _ | refine ba_via (by assumption) ?_ | (refine ba_set ?_ ?_ _; rotate_left; (first | omega | (simp; omega) | simp)))))).mono ?_); rintro e w1 ⟨rfl, hbw1⟩; obtain ⟨hcw1, hfw1⟩ := bcell hbw1; have hzw1_0 : w.heap.size < w1.heap.size := lt_via hbw1 (by first | omega | (simp; done) | (simp; omega)); have hzw1_1 : w.heap.size + 1 < w1.heap.size := lt_via hbw1 (by first | omega | (simp; done) | (simp; omega)); have hzw1_2 : w.heap.size + 2 < w1.heap.size := lt_via hbw1 (by first | omega | (simp; done) | (simp; omega))))
  have hbw1' : bb < w1.heap.size := by omega
  refine wp_region_grow (by kernel_rfl) (by kernel_rfl) ?_
  repeat (go_big_quiet_step ((go_at_call 25; exact grow_of (HP.out _ (size_via hB (ba_via (grow_below _ _) (by repeat (first | exact Below.refl _ _ | assumption | refine ba_alloc ?_ _ | refine ba_drew ?_ | refine ba_drewN ?_ _ | refine ba_via (by assumption) ?_ | (refine ba_set ?_ ?_ _; rotate_left; (first | omega | (simp; omega) | simp)))))) (EndsAt.at_ HA.out hB (ba_via (grow_below _ _) (by repeat (first | exact Below.refl _ _ | assumption | refine ba_alloc ?_ _ | refine ba_drew ?_ | refine ba_drewN ?_ _ | refine ba_via (by assumption) ?_ | (refine ba_set ?_ ?_ _; rotate_left; (first | omega | (simp; omega) | simp))))))))))
  all_goals (refine wpQuiet_nil ?_; intro wg hbwg; obtain ⟨hcwg, hfwg⟩ := bcell hbwg; have hzwg_0 : w.heap.size < wg.heap.size := lt_via hbwg (by first | omega | (simp; done) | (simp; omega)); have hzwg_1 : w.heap.size + 1 < wg.heap.size := lt_via hbwg (by first | omega | (simp; done) | (simp; omega)); have hzwg_2 : w.heap.size + 2 < wg.heap.size := lt_via hbwg (by first | omega | (simp; done) | (simp; omega)))
  have hbwg' : bb < wg.heap.size := by have := hbwg.size; omega
  go_wp2
  refine wp_region_grow (by kernel_rfl) (by kernel_rfl) ?_
  repeat (go_big_quiet_step ((first
    | (go_at_call 64; with_reducible exact grow_of (HBL.out _ (size_via hB (ba_via (grow_below _ _) (by repeat (first | exact Below.refl _ _ | assumption | refine ba_alloc ?_ _ | refine ba_drew ?_ | refine ba_drewN ?_ _ | refine ba_via (by assumption) ?_ | (refine ba_set ?_ ?_ _; rotate_left; (first | omega | (simp; omega) | simp)))))) (EndsAt.at_ HA.out hB (ba_via (grow_below _ _) (by repeat (first | exact Below.refl _ _ | assumption | refine ba_alloc ?_ _ | refine ba_drew ?_ | refine ba_drewN ?_ _ | refine ba_via (by assumption) ?_ | (refine ba_set ?_ ?_ _; rotate_left; (first | omega | (simp; omega) | simp))))))))
    | (go_at_call 64; with_reducible exact grow_of (HBH.out _ (size_via hB (ba_via (grow_below _ _) (by repeat (first | exact Below.refl _ _ | assumption | refine ba_alloc ?_ _ | refine ba_drew ?_ | refine ba_drewN ?_ _ | refine ba_via (by assumption) ?_ | (refine ba_set ?_ ?_ _; rotate_left; (first | omega | (simp; omega) | simp)))))) (EndsAt.at_ HA.out hB (ba_via (grow_below _ _) (by repeat (first | exact Below.refl _ _ | assumption | refine ba_alloc ?_ _ | refine ba_drew ?_ | refine ba_drewN ?_ _ | refine ba_via (by assumption) ?_ | (refine ba_set ?_ ?_ _; rotate_left; (first | omega | (simp; omega) | simp))))))))
    | (go_at_call 17; exact grow_of (HLN.out _ _ _)))))
  all_goals (refine wpQuiet_nil ?_; intro wh hbwh; obtain ⟨hcwh, hfwh⟩ := bcell hbwh; have hzwh_0 : w.heap.size < wh.heap.size := lt_via hbwh (by first | omega | (simp; done) | (simp; omega)); have hzwh_1 : w.heap.size + 1 < wh.heap.size := lt_via hbwh (by first | omega | (simp; done) | (simp; omega)); have hzwh_2 : w.heap.size + 2 < wh.heap.size := lt_via hbwh (by first | omega | (simp; done) | (simp; omega)))
  go_wp2
  go_ret2
  exact ⟨rfl, (by repeat (first | exact Below.refl _ _ | assumption | refine ba_alloc ?_ _ | refine ba_drew ?_ | refine ba_drewN ?_ _ | refine ba_via (by assumption) ?_ | (refine ba_set ?_ ?_ _; rotate_left; (first | omega | (simp; omega) | simp))))⟩
end Go.Proofs.Ytiebbklljckbdaa
