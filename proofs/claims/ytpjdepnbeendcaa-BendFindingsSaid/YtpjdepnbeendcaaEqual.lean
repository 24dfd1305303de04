/- Contracts: slices.Equal over integers and over points. -/
import Derived.Test.YtpjdepnbeendcaaEqPt
set_option linter.unusedVariables false
set_option linter.unusedSimpArgs false
namespace Go.Proofs.Ytpjdepnbeendcaa
open Go.RowKit
namespace S
def eqi (xs ys : List Int) : Bool := decide (xs = ys)
def eqp : List Pt → List Pt → Bool
  | [], [] => true
  | a :: l, b :: r => eqpt a b && eqp l r
  | _, _ => false
end S
theorem eqi_no_len {xs ys : List Int} (h : xs.length ≠ ys.length) : S.eqi xs ys = false := by
  simp only [S.eqi, decide_eq_false_iff_not]
  exact fun e => h (by rw [e])
theorem eqi_no_at {xs ys : List Int} {k : Nat} (hx : k < xs.length) (hy : k < ys.length) (h : xs[k] ≠ ys[k]) : S.eqi xs ys = false := by
  simp only [S.eqi, decide_eq_false_iff_not]
  rintro rfl
  exact h rfl
theorem eqi_yes {xs ys : List Int} (hl : xs.length = ys.length) (h : ∀ j (hx : j < xs.length) (hy : j < ys.length), xs[j] = ys[j]) : S.eqi xs ys = true := by
  simp only [S.eqi, decide_eq_true_eq]
  exact List.ext_getElem hl fun j h1 h2 => h j h1 h2
set_option maxHeartbeats 1000000 in
theorem equal_any (A A' : Option Addr) (n m c c' : Nat) (xs ys : List Int) (B : Nat) (w : World) (hB : B ≤ w.heap.size) (hn : xs.length = n) (hm : ys.length = m) (hn' : n ≤ 9223372036854775807) (hm' : m ≤ 9223372036854775807) (hx : Cells w B A (i64s xs)) (hy : Cells w B A' (i64s ys)) :
    Calls Try.prog 24 #[.slice A n c, .slice A' m c'] w fun e w' => e = .returned (.bool (S.eqi xs ys)) ∧ Below w.heap.size w w' := by
  have HN := Lib.hid hn
  have HM := Lib.hid hm
  clear hn hm
  by_cases hl : n = m
  · have hl' : ((n : Int) != (m : Int)) = false := by simp [hl]
    have HL := Lib.hid hl
    clear hl
    go_enter Try.func24, Try.ntmps24
    go_wp2
    go_loopw [13] (fun i wr => ∃ k : Nat, k ≤ n ∧ i = .int .i64 k ∧ Hid (∀ j (hx : j < xs.length) (hy : j < ys.length), j < k → xs[j] = ys[j]) ∧ Below w.heap.size w wr) (fun i _ => n - (intOf i).toNat)
    case atStart => exact ⟨0, Nat.zero_le _, rfl, Lib.hid fun j _ _ h => absurd h (by omega), Below.refl _ _⟩
    case round =>
      obtain ⟨k, hk, rfl, HNO, hbr⟩ := hrel
      by_cases hlt : k < n
      · have hkx : k < xs.length := by have := HN.out; omega
        have hky : k < ys.length := by have := HM.out; have := HL.out; omega
        have hkm : k < m := by have := HL.out; omega
        obtain ⟨b1, o1, rfl, _, hc1⟩ := (hx.below (hbr.mono hB)).at_ (by simp; omega)
        obtain ⟨b2, o2, rfl, _, hc2⟩ := (hy.below (hbr.mono hB)).at_ (by simp; omega)
        have e1 := hc1 k _ (i64s_get hkx)
        have e2 := hc2 k _ (i64s_get hky)
        clear hc1 hc2
        have hkn' : (k : Int) < (n : Int) := by omega
        have hkm' : (k : Int) < (m : Int) := by omega
        by_cases hq : xs[k] = ys[k]
        · have hq' : (xs[k] != ys[k]) = false := by simp [hq]
          have HQ := Lib.hid hq
          clear hq
          go_wp2
          go_quiet (fail)
          go_wp2
          go_roundw
          case rel =>
            refine ⟨k + 1, by omega, by go_num, Lib.hid fun j h1 h2 h3 => ?_, (by repeat (first | exact Below.refl _ _ | assumption | refine ba_alloc ?_ _ | refine ba_drew ?_ | refine ba_drewN ?_ _ | refine ba_via (by assumption) ?_ | (refine ba_set ?_ ?_ _; rotate_left; (first | omega | (simp; omega) | simp))))⟩
            by_cases hjk : j = k
            · subst hjk; exact HQ.out
            · exact HNO.out j h1 h2 (by omega)
          case measure => simp [intOf]; omega
        · have hq' : (xs[k] != ys[k]) = true := by simp [hq]
          have HQ := Lib.hid (eqi_no_at hkx hky hq)
          clear hq
          go_wp2
          go_quiet (fail)
          go_wp2
          go_ret
          exact ⟨ret_b HQ.out.symm, (by repeat (first | exact Below.refl _ _ | assumption | refine ba_alloc ?_ _ | refine ba_drew ?_ | refine ba_drewN ?_ _ | refine ba_via (by assumption) ?_ | (refine ba_set ?_ ?_ _; rotate_left; (first | omega | (simp; omega) | simp))))⟩
      · go_wp2
        go_ret
        exact ⟨ret_b (eqi_yes (by have := HN.out; have := HM.out; have := HL.out; omega) (fun j h1 h2 => HNO.out j h1 h2 (by have := HN.out; omega))).symm, (by repeat (first | exact Below.refl _ _ | assumption | refine ba_alloc ?_ _ | refine ba_drew ?_ | refine ba_drewN ?_ _ | refine ba_via (by assumption) ?_ | (refine ba_set ?_ ?_ _; rotate_left; (first | omega | (simp; omega) | simp))))⟩
  · have hl' : ((n : Int) != (m : Int)) = true := by simp; omega
    have HL := Lib.hid (eqi_no_len (xs := xs) (ys := ys) (by have := HN.out; have := HM.out; omega))
    clear hl
    go_enter Try.func24, Try.ntmps24
    go_wp2
    go_ret
    exact ⟨ret_b HL.out.symm, (by repeat (first | exact Below.refl _ _ | assumption | refine ba_alloc ?_ _ | refine ba_drew ?_ | refine ba_drewN ?_ _ | refine ba_via (by assumption) ?_ | (refine ba_set ?_ ?_ _; rotate_left; (first | omega | (simp; omega) | simp))))⟩
theorem eqpt_iff {p q : Pt} : S.eqpt p q = true ↔ p = q := by
  cases p; cases q
  simp [S.eqpt, and_assoc]
theorem eqp_iff {xs ys : List Pt} : S.eqp xs ys = true ↔ xs = ys := by
  induction xs generalizing ys with
  | nil => cases ys <;> simp [S.eqp]
  | cons a l ih =>
    cases ys with
    | nil => simp [S.eqp]
    | cons b r => simp [S.eqp, ih, eqpt_iff]
theorem eqp_no_len {xs ys : List Pt} (h : xs.length ≠ ys.length) : S.eqp xs ys = false := by
  cases he : S.eqp xs ys with
  | false => rfl
  | true => exact absurd (by rw [eqp_iff.1 he]) h
theorem eqp_no_at {xs ys : List Pt} {k : Nat} (hx : k < xs.length) (hy : k < ys.length) (h : S.eqpt xs[k] ys[k] = false) : S.eqp xs ys = false := by
  cases he : S.eqp xs ys with
  | false => rfl
  | true =>
    have e := eqp_iff.1 he
    subst e
    rw [eqpt_iff.2 rfl] at h
    cases h
theorem eqp_yes {xs ys : List Pt} (hl : xs.length = ys.length) (h : ∀ j (hx : j < xs.length) (hy : j < ys.length), xs[j] = ys[j]) : S.eqp xs ys = true :=
  eqp_iff.2 (List.ext_getElem hl fun j h1 h2 => h j h1 h2)
set_option maxHeartbeats 1000000 in
theorem equalp_any (A A' : Option Addr) (n m c c' : Nat) (xs ys : List Pt) (B : Nat) (w : World) (hB : B ≤ w.heap.size) (hn : xs.length = n) (hm : ys.length = m) (hn' : n ≤ 9223372036854775807) (hm' : m ≤ 9223372036854775807) (hx : Cells w B A (xs.flatMap ptC)) (hy : Cells w B A' (ys.flatMap ptC)) :
    Calls Try.prog 31 #[.slice A n c, .slice A' m c'] w fun e w' => e = .returned (.bool (S.eqp xs ys)) ∧ Below w.heap.size w w' := by
  have HN := Lib.hid hn
  have HM := Lib.hid hm
  clear hn hm
  by_cases hl : n = m
  · have hl' : ((n : Int) != (m : Int)) = false := by simp [hl]
    have HL := Lib.hid hl
    clear hl
    go_enter Try.func31, Try.ntmps31
    go_wp2
    go_loopw [13] (fun i wr => ∃ k : Nat, k ≤ n ∧ i = .int .i64 k ∧ Hid (∀ j (hx : j < xs.length) (hy : j < ys.length), j < k → xs[j] = ys[j]) ∧ Below w.heap.size w wr) (fun i _ => n - (intOf i).toNat)
    case atStart => exact ⟨0, Nat.zero_le _, rfl, Lib.hid fun j _ _ h => absurd h (by omega), Below.refl _ _⟩
    case round =>
      obtain ⟨k, hk, rfl, HNO, hbr⟩ := hrel
      by_cases hlt : k < n
      · have hkx : k < xs.length := by have := HN.out; omega
        have hky : k < ys.length := by have := HM.out; have := HL.out; omega
        have hkm : k < m := by have := HL.out; omega
        have hx' := hx.below (hbr.mono hB)
        have hy' := hy.below (hbr.mono hB)
        obtain ⟨b1, o1, rfl, _, _⟩ := hx'.at_ (by rw [flat_len ptC 3 ptC_len]; omega)
        obtain ⟨b2, o2, rfl, _, _⟩ := hy'.at_ (by rw [flat_len ptC 3 ptC_len]; omega)
        have e1 := hx'.row0 ptC_len hkx rfl
        have e2 := hx'.rowj ptC_len hkx 1 rfl
        have e3 := hx'.rowj ptC_len hkx 2 rfl
        have e4 := hy'.row0 ptC_len hky rfl
        have e5 := hy'.rowj ptC_len hky 1 rfl
        have e6 := hy'.rowj ptC_len hky 2 rfl
        have hkn' : (k : Int) < (n : Int) := by omega
        have hkm' : (k : Int) < (m : Int) := by omega
        have hne := run_neq_pt xs[k] ys[k]
        cases hq : S.eqpt xs[k] ys[k]
        · have HQ := Lib.hid (eqp_no_at hkx hky hq)
          rw [hq] at hne
          clear hq
          go_wp2
          go_quiet (fail)
          go_wp2
          go_ret
          exact ⟨ret_b HQ.out.symm, (by repeat (first | exact Below.refl _ _ | assumption | refine ba_alloc ?_ _ | refine ba_drew ?_ | refine ba_drewN ?_ _ | refine ba_via (by assumption) ?_ | (refine ba_set ?_ ?_ _; rotate_left; (first | omega | (simp; omega) | simp))))⟩
        · have HQ := Lib.hid (eqpt_iff.1 hq)
          rw [hq] at hne
          clear hq
          go_wp2
          go_quiet (fail)
          go_wp2
          go_roundw
          case rel =>
            refine ⟨k + 1, by omega, by go_num, Lib.hid fun j h1 h2 h3 => ?_, (by repeat (first | exact Below.refl _ _ | assumption | refine ba_alloc ?_ _ | refine ba_drew ?_ | refine ba_drewN ?_ _ | refine ba_via (by assumption) ?_ | (refine ba_set ?_ ?_ _; rotate_left; (first | omega | (simp; omega) | simp))))⟩
            by_cases hjk : j = k
            · subst hjk; exact HQ.out
            · exact HNO.out j h1 h2 (by omega)
          case measure => simp [intOf]; omega
      · go_wp2
        go_ret
        exact ⟨ret_b (eqp_yes (by have := HN.out; have := HM.out; have := HL.out; omega) (fun j h1 h2 => HNO.out j h1 h2 (by have := HN.out; omega))).symm, (by repeat (first | exact Below.refl _ _ | assumption | refine ba_alloc ?_ _ | refine ba_drew ?_ | refine ba_drewN ?_ _ | refine ba_via (by assumption) ?_ | (refine ba_set ?_ ?_ _; rotate_left; (first | omega | (simp; omega) | simp))))⟩
  · have hl' : ((n : Int) != (m : Int)) = true := by simp; omega
    have HL := Lib.hid (eqp_no_len (xs := xs) (ys := ys) (by have := HN.out; have := HM.out; omega))
    clear hl
    go_enter Try.func31, Try.ntmps31
    go_wp2
    go_ret
    exact ⟨ret_b HL.out.symm, (by repeat (first | exact Below.refl _ _ | assumption | refine ba_alloc ?_ _ | refine ba_drew ?_ | refine ba_drewN ?_ _ | refine ba_via (by assumption) ?_ | (refine ba_set ?_ ?_ _; rotate_left; (first | omega | (simp; omega) | simp))))⟩
end Go.Proofs.Ytpjdepnbeendcaa
