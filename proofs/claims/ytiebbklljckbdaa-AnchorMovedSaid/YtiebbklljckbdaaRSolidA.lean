/- Contracts of the reference for layer 17: thick, Valid, Member. -/
import Derived.Test.YtiebbklljckbdaaRBoxA
import Derived.Test.YtiebbklljckbdaaSolidB
set_option linter.unusedVariables false
set_option linter.unusedSimpArgs false
namespace Go.Proofs.Ytiebbklljckbdaa
open Go.RowKit
theorem anyb_of {α : Type} {xs : List α} {p : α → Bool} {k : Nat} (hk : k < xs.length) (h : p xs[k] = true) : anyb xs p = true := by
  unfold anyb
  rw [List.any_eq_true]
  exact ⟨_, List.getElem_mem hk, h⟩
theorem anyb_not {α : Type} {xs : List α} {p : α → Bool} (h : ∀ j (hj : j < xs.length), p xs[j] = false) : anyb xs p = false := by
  unfold anyb
  rw [List.any_eq_false]
  intro x hx
  obtain ⟨j, hj, rfl⟩ := List.mem_iff_getElem.1 hx
  simp [h j hj]
set_option maxHeartbeats 1000000 in
theorem rthick_any (b : Bx) (w : World) :
    Calls Try.prog 84 #[boxV b] w fun e w' => e = .returned (.bool (S.thick b)) ∧ Below w.heap.size w w' := by
  have HV := Lib.hid (fun w => rbvalid_any b w)
  have H := Lib.hid (show S.thick b = (S.boxOk b && decide (b.lo.x < b.hi.x) && decide (b.lo.y < b.hi.y) && decide (b.lo.z < b.hi.z)) from rfl)
  generalize S.boxOk b = t at *
  unfold boxV
  cases t
  all_goals (
    go_enter Try.func84, Try.ntmps84
    go_wp2_with (go_at_call 24; (with_reducible refine (HV.out _).mono ?_); rintro e w1 ⟨rfl, hbw1⟩; obtain ⟨hcw1, hfw1⟩ := bcell hbw1; have hzw1_0 : w.heap.size < w1.heap.size := lt_via hbw1 (by first | omega | (simp; done) | (simp; omega)))
    all_goals (go_ret; exact ⟨ret_b (by rw [H.out, Bool.eq_iff_iff]; all_goals (first | (simp; done) | (simp; omega))), (by repeat (first | exact Below.refl _ _ | assumption | refine ba_alloc ?_ _ | refine ba_drew ?_ | refine ba_drewN ?_ _ | refine ba_via (by assumption) ?_ | (refine ba_set ?_ ?_ _; rotate_left; (first | omega | (simp; omega) | simp))))⟩))
set_option maxRecDepth 100000 in
set_option maxHeartbeats 4000000 in
theorem rsvalid_any (A : Option Addr) (n c : Nat) (A' : Option Addr) (n' c' : Nat) (xs hs : List Bx) (B : Nat) (w : World) (hB : B ≤ w.heap.size) (hA : SolAt w B A n A' n' xs hs) :
    Calls Try.prog 50 #[solV A n c A' n' c'] w fun e w' => e = .returned (.bool (S.solid xs hs)) ∧ Below w.heap.size w w' := by
  have HA := Lib.hid hA
  have hm := hA.max
  have hm' := hA.max'
  have H := Lib.hid (show S.solid xs hs = (decide (1 ≤ n) && decide (n ≤ 20) && decide (n' ≤ 20) && !anyb xs S.thin && !anyb hs S.thin) by unfold S.solid; rw [hA.len, hA.len'])
  clear hA
  unfold solV
  by_cases hbad : n < 1 ∨ 20 < n ∨ 20 < n'
  · have HF : Hid (S.solid xs hs = false) := Lib.hid (by
      rw [H.out]
      rcases hbad with h | h | h
      · have : decide (1 ≤ n) = false := by simp; omega
        simp [this]
      · have : decide (n ≤ 20) = false := by simp; omega
        simp [this]
      · have : decide (n' ≤ 20) = false := by simp; omega
        simp [this])
    by_cases h1 : (n : Int) < 1
    · go_enter Try.func50, Try.ntmps50
      go_wp2
      go_ret
      exact ⟨ret_b HF.out.symm, (by repeat (first | exact Below.refl _ _ | assumption | refine ba_alloc ?_ _ | refine ba_drew ?_ | refine ba_drewN ?_ _ | refine ba_via (by assumption) ?_ | (refine ba_set ?_ ?_ _; rotate_left; (first | omega | (simp; omega) | simp))))⟩
    · by_cases h2 : (20 : Int) < n
      · go_enter Try.func50, Try.ntmps50
        go_wp2
        go_ret
        exact ⟨ret_b HF.out.symm, (by repeat (first | exact Below.refl _ _ | assumption | refine ba_alloc ?_ _ | refine ba_drew ?_ | refine ba_drewN ?_ _ | refine ba_via (by assumption) ?_ | (refine ba_set ?_ ?_ _; rotate_left; (first | omega | (simp; omega) | simp))))⟩
      · have h3 : (20 : Int) < n' := by omega
        go_enter Try.func50, Try.ntmps50
        go_wp2
        go_ret
        exact ⟨ret_b HF.out.symm, (by repeat (first | exact Below.refl _ _ | assumption | refine ba_alloc ?_ _ | refine ba_drew ?_ | refine ba_drewN ?_ _ | refine ba_via (by assumption) ?_ | (refine ba_set ?_ ?_ _; rotate_left; (first | omega | (simp; omega) | simp))))⟩
  · have g1 : ¬ (n : Int) < 1 := by omega
    have g2 : ¬ (20 : Int) < n := by omega
    have g3 : ¬ (20 : Int) < n' := by omega
    clear hbad
    go_enter Try.func50, Try.ntmps50
    go_wp2
    have hB0 : Blk (w.alloc (.cells #[.slice A n c, .slice A' n' c'] 46)) w.heap.size 46 #[.slice A n c, .slice A' n' c'] := Blk.new _ _ _
    have hW0 : Below w.heap.size w (w.alloc (.cells #[.slice A n c, .slice A' n' c'] 46)) := (by repeat (first | exact Below.refl _ _ | assumption | refine ba_alloc ?_ _ | refine ba_drew ?_ | refine ba_drewN ?_ _ | refine ba_via (by assumption) ?_ | (refine ba_set ?_ ?_ _; rotate_left; (first | omega | (simp; omega) | simp))))
    have HB0 := Lib.hid hB0
    clear hB0
    generalize w.alloc (.cells #[.slice A n c, .slice A' n' c'] 46) = W0 at *
    go_loopw [3] (fun i wr => ∃ k : Nat, k ≤ n ∧ i = .int .i64 k ∧ Hid (∀ j (h : j < xs.length), j < k → S.thin xs[j] = false) ∧ Below W0.heap.size W0 wr) (fun i _ => n - (intOf i).toNat)
    case atStart => exact ⟨0, Nat.zero_le _, rfl, Lib.hid fun j _ hj => absurd hj (by omega), Below.refl _ _⟩
    case round =>
      obtain ⟨k, hk, rfl, HNO, hbr⟩ := hrel
      have hBk := HB0.out.via hbr
      have x0 := hBk.cell 0
      have x1 := hBk.cell 1
      simp only [List.getElem?_toArray, List.getElem?_cons_zero, List.getElem?_cons_succ] at x0 x1
      have hBl := hBk.lt
      clear hBk
      by_cases hlt : k < n
      · have hki : (k : Int) < (n : Int) := by omega
        have hkx : k < xs.length := by have := HA.out.len; omega
        have hs' := (HA.out.below ((ba_via hbr hW0).mono hB)).cells
        obtain ⟨b, o, rfl, _, _⟩ := hs'.at_ (by rw [flat_len boxC 6 boxC_len]; omega)
        obtain ⟨c0, c1, c2, c3, c4, c5⟩ := hs'.boxes (List.getElem?_eq_getElem hkx)
        have HT := Lib.hid (rthick_any xs[k])
        have HTH := Lib.hid (show S.thin xs[k] = !S.thick xs[k] from rfl)
        generalize hq : S.thick xs[k] = q at *
        cases q
        · go_wp2_with (go_at_call 84; (with_reducible refine (HT.out _).mono ?_); rintro e w1 ⟨rfl, hbw1⟩; obtain ⟨hcw1, hfw1⟩ := bcell hbw1)
          go_ret
          exact ⟨ret_b (by rw [H.out, anyb_of hkx HTH.out]; simp), ba_via hbw1 (ba_via hbr hW0)⟩
        · go_wp2_with (go_at_call 84; (with_reducible refine (HT.out _).mono ?_); rintro e w1 ⟨rfl, hbw1⟩; obtain ⟨hcw1, hfw1⟩ := bcell hbw1)
          go_roundw
          case rel =>
            refine ⟨k + 1, by omega, by go_num, Lib.hid fun j hj hjk => ?_, ba_via hbw1 hbr⟩
            by_cases hjk' : j = k
            · subst hjk'; exact HTH.out
            · exact HNO.out j hj (by omega)
          case measure => simp [intOf]; omega
      · have HX := Lib.hid (anyb_not (p := S.thin) (xs := xs) fun j hj => HNO.out j hj (by have := HA.out.len; omega))
        have hbx := hbr
        go_wp2
        go_loopw [4] (fun i wr => ∃ k : Nat, k ≤ n' ∧ i = .int .i64 k ∧ Hid (∀ j (h : j < hs.length), j < k → S.thin hs[j] = false) ∧ Below W0.heap.size W0 wr) (fun i _ => n' - (intOf i).toNat)
        case atStart => exact ⟨0, Nat.zero_le _, rfl, Lib.hid fun j _ hj => absurd hj (by omega), hbx⟩
        case round =>
          obtain ⟨k', hk', rfl, HNO', hbr'⟩ := hrel
          have hBk := HB0.out.via hbr'
          have y0 := hBk.cell 0
          have y1 := hBk.cell 1
          simp only [List.getElem?_toArray, List.getElem?_cons_zero, List.getElem?_cons_succ] at y0 y1
          have hBl' := hBk.lt
          clear hBk
          by_cases hlt' : k' < n'
          · have hki : (k' : Int) < (n' : Int) := by omega
            have hkx : k' < hs.length := by have := HA.out.len'; omega
            have hs' := (HA.out.below ((ba_via hbr' hW0).mono hB)).cells'
            obtain ⟨b, o, rfl, _, _⟩ := hs'.at_ (by rw [flat_len boxC 6 boxC_len]; omega)
            obtain ⟨c0, c1, c2, c3, c4, c5⟩ := hs'.boxes (List.getElem?_eq_getElem hkx)
            have HT := Lib.hid (rthick_any hs[k'])
            have HTH := Lib.hid (show S.thin hs[k'] = !S.thick hs[k'] from rfl)
            generalize hq : S.thick hs[k'] = q at *
            cases q
            · go_wp2_with (go_at_call 84; (with_reducible refine (HT.out _).mono ?_); rintro e w1 ⟨rfl, hbw1⟩; obtain ⟨hcw1, hfw1⟩ := bcell hbw1)
              go_ret
              exact ⟨ret_b (by rw [H.out, HX.out, anyb_of hkx HTH.out]; simp), ba_via hbw1 (ba_via hbr' hW0)⟩
            · go_wp2_with (go_at_call 84; (with_reducible refine (HT.out _).mono ?_); rintro e w1 ⟨rfl, hbw1⟩; obtain ⟨hcw1, hfw1⟩ := bcell hbw1)
              go_roundw
              case rel =>
                refine ⟨k' + 1, by omega, by go_num, Lib.hid fun j hj hjk => ?_, ba_via hbw1 hbr'⟩
                by_cases hjk' : j = k'
                · subst hjk'; exact HTH.out
                · exact HNO'.out j hj (by omega)
              case measure => simp [intOf]; omega
          · go_wp2
            go_ret
            exact ⟨ret_b (by
              rw [H.out, HX.out, anyb_not (p := S.thin) (xs := hs) fun j hj => HNO'.out j hj (by have := HA.out.len'; omega)]
              simp; omega), ba_via hbr' hW0⟩
set_option maxHeartbeats 2000000 in
theorem rmember_any (m : Mem) (A : Option Addr) (n c : Nat) (A' : Option Addr) (n' c' : Nat) (B : Nat) (w : World) (hB : B ≤ w.heap.size) (hA : SolAt w B A n A' n' m.boxes m.holes) (hk : m.name.size ≤ 9223372036854775807) :
    Calls Try.prog 23 #[memV m A n c A' n' c'] w fun e w' => e = .returned (.bool (S.member m)) ∧ Below w.heap.size w w' := by
  have HA := Lib.hid hA
  have H := Lib.hid (show S.member m = (S.isName m.name && S.solid m.boxes m.holes && (decide (0 ≤ m.cover) && decide (m.cover ≤ 200)) && (decide (1 ≤ m.aggr) && decide (m.aggr ≤ 100)) && (decide (1 ≤ m.poker) && decide (m.poker ≤ 200))) from rfl)
  have HN := Lib.hid (fun w => risname_any m.name w hk)
  have HS := Lib.hid (fun (W : World) (hw : B ≤ W.heap.size) (h : SolAt W B A n A' n' m.boxes m.holes) => rsvalid_any A n c A' n' c' m.boxes m.holes B W hw h)
  clear hA
  generalize S.isName m.name = t0 at *
  generalize S.solid m.boxes m.holes = t1 at *
  unfold memV
  cases t0 <;> cases t1
  all_goals (
    go_enter Try.func23, Try.ntmps23
    go_wp2_with (first
      | (go_at_call 49; (with_reducible refine (HN.out _).mono ?_); rintro e w' ⟨rfl, rfl⟩)
      | (go_at_call 50; (with_reducible refine (HS.out _ (size_via hB (by repeat (first | exact Below.refl _ _ | assumption | refine ba_alloc ?_ _ | refine ba_drew ?_ | refine ba_drewN ?_ _ | refine ba_via (by assumption) ?_ | (refine ba_set ?_ ?_ _; rotate_left; (first | omega | (simp; omega) | simp))))) (SolAt.at_ HA.out hB (by repeat (first | exact Below.refl _ _ | assumption | refine ba_alloc ?_ _ | refine ba_drew ?_ | refine ba_drewN ?_ _ | refine ba_via (by assumption) ?_ | (refine ba_set ?_ ?_ _; rotate_left; (first | omega | (simp; omega) | simp)))))).mono ?_); rintro e w1 ⟨rfl, hbw1⟩; obtain ⟨hcw1, hfw1⟩ := bcell hbw1; have hzw1_0 : w.heap.size < w1.heap.size := lt_via hbw1 (by first | omega | (simp; done) | (simp; omega))))
    all_goals (go_ret; exact ⟨ret_b (by rw [H.out, Bool.eq_iff_iff]; all_goals (first | (simp; done) | (simp; omega))), (by repeat (first | exact Below.refl _ _ | assumption | refine ba_alloc ?_ _ | refine ba_drew ?_ | refine ba_drewN ?_ _ | refine ba_via (by assumption) ?_ | (refine ba_set ?_ ?_ _; rotate_left; (first | omega | (simp; omega) | simp))))⟩))
end Go.Proofs.Ytiebbklljckbdaa
