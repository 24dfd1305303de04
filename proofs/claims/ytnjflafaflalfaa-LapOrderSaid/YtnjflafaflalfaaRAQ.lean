/- Contract: slices.Equal over integers (out of the text of slices.Equal over points). Contract: lap.Length. -/
import Derived.Test.YtnjflafaflalfaaRF
import Derived.Test.YtnjflafaflalfaaRE
import Derived.Test.YtnjflafaflalfaaRAH
import Derived.Test.YtnjflafaflalfaaRAO
set_option linter.unusedVariables false
set_option linter.unusedSimpArgs false
namespace Go.Proofs.Ytnjflafaflalfaa
open Go.RowKit
def S.eqi (xs ys : List Int) : Bool := decide (xs = ys)
theorem eqi_no_len {xs ys : List Int} (h : xs.length ≠ ys.length) : S.eqi xs ys = false := by
  simp only [S.eqi, decide_eq_false_iff_not]
  exact fun e => h (by rw [e])
theorem eqi_no_at {xs ys : List Int} {k : Nat} (hx : k < xs.length) (hy : k < ys.length) (h : xs[k] ≠ ys[k]) : S.eqi xs ys = false := by
  simp only [S.eqi, decide_eq_false_iff_not]
  rintro rfl
  exact h rfl
theorem eqi_yes {xs ys : List Int} (hl : xs.length = ys.length) (h : ∀ j (hx : j < xs.length) (hy : j < ys.length), xs[j] = ys[j]) : S.eqi xs ys = true := by
  simp only [S.eqi, decide_eq_true_eq]
  exact List.ext_getElem hl fun j h1 h2 => h j h1 h2
set_option maxHeartbeats 1000000 in
theorem equal_any (A A' : Option Addr) (n m c c' : Nat) (xs ys : List Int) (B : Nat) (w : World) (hB : B ≤ w.heap.size) (hn : xs.length = n) (hm : ys.length = m) (hn' : n ≤ 9223372036854775807) (hm' : m ≤ 9223372036854775807) (hx : Cells w B A (i64s xs)) (hy : Cells w B A' (i64s ys)) :
    Calls Try.prog 16 #[.slice A n c, .slice A' m c'] w fun e w' => e = .returned (.bool (S.eqi xs ys)) ∧ Below w.heap.size w w' := by
  have HN := Lib.hid hn
  have HM := Lib.hid hm
  clear hn hm
  by_cases hl : n = m
  · have hl' : ((n : Int) != (m : Int)) = false := by simp [hl]
    have HL := Lib.hid hl
    clear hl
    go_enter Try.func16, Try.ntmps16
    go_wp2
    go_loopw [13] (fun i wr => ∃ k : Nat, k ≤ n ∧ i = .int .i64 k ∧ Hid (∀ j (hx : j < xs.length) (hy : j < ys.length), j < k → xs[j] = ys[j]) ∧ Below w.heap.size w wr) (fun i _ => n - (intOf i).toNat)
    case atStart => exact ⟨0, Nat.zero_le _, rfl, Lib.hid fun j _ _ h => absurd h (by omega), Below.refl _ _⟩
    case round =>
      obtain ⟨k, hk, rfl, HNO, hbr⟩ := hrel
      by_cases hlt : k < n
      · have hkx : k < xs.length := by have := HN.out; omega
        have hky : k < ys.length := by have := HM.out; have := HL.out; omega
        have hkm : k < m := by have := HL.out; omega
        obtain ⟨b1, o1, rfl, _, hc1⟩ := (hx.below (hbr.mono hB)).at_ (by simp; omega)
        obtain ⟨b2, o2, rfl, _, hc2⟩ := (hy.below (hbr.mono hB)).at_ (by simp; omega)
        have e1 := hc1 k _ (i64s_get hkx)
        have e2 := hc2 k _ (i64s_get hky)
        clear hc1 hc2
        have hkn' : (k : Int) < (n : Int) := by omega
        have hkm' : (k : Int) < (m : Int) := by omega
        by_cases hq : xs[k] = ys[k]
        · have hq' : (xs[k] != ys[k]) = false := by simp [hq]
          have HQ := Lib.hid hq
          clear hq
          go_wp2
          go_quiet (fail)
          go_wp2
          go_roundw
          case rel =>
            refine ⟨k + 1, by omega, by go_num, Lib.hid fun j h1 h2 h3 => ?_, bel⟩
            by_cases hjk : j = k
            · subst hjk; exact HQ.out
            · exact HNO.out j h1 h2 (by omega)
          case measure => simp [intOf]; omega
        · have hq' : (xs[k] != ys[k]) = true := by simp [hq]
          have HQ := Lib.hid (eqi_no_at hkx hky hq)
          clear hq
          go_wp2
          go_quiet (fail)
          go_wp2
          go_ret
          exact ⟨ret_b HQ.out.symm, bel⟩
      · go_wp2
        go_ret
        exact ⟨ret_b (eqi_yes (by have := HN.out; have := HM.out; have := HL.out; omega) (fun j h1 h2 => HNO.out j h1 h2 (by have := HN.out; omega))).symm, bel⟩
  · have hl' : ((n : Int) != (m : Int)) = true := by simp; omega
    have HL := Lib.hid (eqi_no_len (xs := xs) (ys := ys) (by have := HN.out; have := HM.out; omega))
    clear hl
    go_enter Try.func16, Try.ntmps16
    go_wp2
    go_ret
    exact ⟨ret_b HL.out.symm, bel⟩
def lLength (r : Rule) (d : Int) (p : Bool) : Int := if S.sized r d = 0 then S.up (S.length r d p false) r.lnum r.lden else 0
theorem length_bd {r : Rule} {d : Int} (hr : RuleOk r) (hd : 0 ≤ d) (hd' : d ≤ 40) (p b : Bool) : 0 ≤ S.length r d p b ∧ S.length r d p b ≤ 40000000000 := by
  have h1 := basic_bd hr hd hd'
  have h2 := poorUp_bd hr p h1.1 h1.2
  have h3 := bentUp_bd hr b h2.1 h2.2
  have h4 := hr.least
  unfold S.length S.atLeast
  split <;> omega
theorem lLength_any (r : Rule) (d : Int) (poor : Bool) (w : World) : Calls Try.prog 11 #[ruleV r, .int .i64 d, .bool poor] w fun e w' => e = .returned (.tuple #[.int .i64 (lLength r d poor), .int .i64 (S.sized r d)]) ∧ Below w.heap.size w w' := by
  have HL := Lib.hid (fun w => Length_any r d poor false w)
  by_cases h0 : S.sized r d = 0
  · obtain ⟨hr, hd⟩ := sized_zero h0
    have hR := rule_ok hr
    have hbd := size_bd hd
    have hb := length_bd hR (show 0 ≤ d by omega) (show d ≤ 40 by omega) poor false
    have hl := hR.lnum
    have hl2 := hR.lden
    have hm := mul_bd hb.1 hb.2 (show 0 ≤ r.lnum by omega) hl.2
    have H := Lib.hid (show lLength r d poor = (S.length r d poor false * r.lnum + r.lden - 1) / r.lden by simp [lLength, h0, S.up])
    have ha : aLength r d poor false = S.length r d poor false := by simp [aLength, h0]
    rw [ha, h0] at HL
    rw [h0]
    have HU := Lib.hid (fun w => lup_any (S.length r d poor false * r.lnum) r.lden hm.1 (by omega) hl2.1 (by omega) w)
    have e1 : IntKind.i64.wrap (S.length r d poor false * r.lnum) = S.length r d poor false * r.lnum := IntWalk.i64_in _ (by omega)
    clear hr hd hR hbd ha h0
    generalize S.length r d poor false = n at *
    unfold ruleV
    unfold ruleV at HL
    go_enter Try.func11, Try.ntmps11
    go_wp2_with (first
      | (go_at_call 20; (with_reducible refine (HL.out _).mono ?_); rintro e w1 ⟨rfl, hbw1⟩; obtain ⟨hcw1, hfw1⟩ := bcell hbw1; have hzw1_0 : w.heap.size < w1.heap.size := lt_via hbw1 (by first | omega | (simp; done) | (simp; omega)))
      | (go_at_call 21; (with_reducible refine (HU.out _).mono ?_); rintro e w' ⟨rfl, rfl⟩))
    go_ret2
    exact ⟨by rw [H.out]; rfl, bel⟩
  · have hb : (S.sized r d == 0) = false := by simpa using h0
    have hb' : (S.sized r d != 0) = true := by simp [bne, hb]
    have H := Lib.hid (show lLength r d poor = 0 by simp [lLength, h0])
    have ha : aLength r d poor false = 0 := by simp [aLength, h0]
    rw [ha] at HL
    clear ha h0
    generalize S.sized r d = s at *
    unfold ruleV
    unfold ruleV at HL
    go_enter Try.func11, Try.ntmps11
    go_wp2_with (first
      | (go_at_call 20; (with_reducible refine (HL.out _).mono ?_); rintro e w1 ⟨rfl, hbw1⟩; obtain ⟨hcw1, hfw1⟩ := bcell hbw1; have hzw1_0 : w.heap.size < w1.heap.size := lt_via hbw1 (by first | omega | (simp; done) | (simp; omega))))
    go_ret2
    exact ⟨by rw [H.out]; rfl, bel⟩
end Go.Proofs.Ytnjflafaflalfaa
