/- Contracts: lap.Valid, lap.Chains, lap.Check without laps. Contract: slices.Equal over integers (out of the text of slices.Equal over points). Contract: lap.Length. Contracts of the reference for layer 15: axis, Valid, Unit, cross, Plus, times, Image, Near. Contracts: the reference's names. Contract of the reference for layer 12: Dims. Contracts of the reference for layer 12: Valid (printed by tools/gen_rvalid.py). Contracts of the reference for layers 14 and 16: Find, Valid; times, twice, near, Count. Contracts: the moves of the reference for layer 12, one for each code (printed by tools/gen_moves.py). Contract: Path of the reference for layer 12. A region that draws its order: its first operation yields the same in every world and may come late; the next ones only read or call for plain values; the last ones write, in a forced order. Contract: points of the reference for layer 16. -/
import Derived.Test.YtffkmgjmlahfpaaGreatChL
import Derived.Test.YtffkmgjmlahfpaaGreatLeafI
import Derived.Test.YtffkmgjmlahfpaaGreatFlat
import Derived.Test.YtffkmgjmlahfpaaGreatAnchL
import Derived.Test.YtffkmgjmlahfpaaGreatStag
import Derived.Test.YtffkmgjmlahfpaaGreatFrameD
import Derived.Test.YtffkmgjmlahfpaaGreatNames
import Derived.Test.YtffkmgjmlahfpaaGreatShapeB
import Derived.Test.YtffkmgjmlahfpaaGreatRow
import Derived.Test.YtffkmgjmlahfpaaGreatRunEq
import Derived.Test.YtffkmgjmlahfpaaGreatLens
import Derived.Test.YtffkmgjmlahfpaaGreatTail
import Derived.Test.YtffkmgjmlahfpaaGreatMainA
import Derived.Test.YtffkmgjmlahfpaaGreatBoxB
set_option linter.unusedVariables false
set_option linter.unusedSimpArgs false
namespace Go.Proofs.YtffkmgjmlahfpaaGreat
open Go.RowKit
set_option maxRecDepth 20000 in
set_option maxHeartbeats 2000000 in
theorem lvalid_any (x : Dt) (t : Bool) (B : Nat) (n : Nat) (xs : List Value) (w : World) (hB : B ≤ w.heap.size)
    (hL : ∀ W, Below w.heap.size w W → Calls Tryz.prog 65 #[dtV x] W (GivesLook t n xs W)) :
    Calls Tryz.prog 87 #[dtV x] w fun e w' => e = .returned (.bool t) ∧ Below w.heap.size w w' := by
  have HL := Lib.hid hL
  clear hL
  unfold dtV at HL
  unfold dtV
  have hDB := (Blk.new w 34 #[.string x.m.name, .slice x.mA x.mn x.mc, .slice x.hA x.hn x.hc, .int .i64 x.m.cover, .int .i64 x.m.aggr, .int .i64 x.m.poker, .slice x.bA x.bn x.bc, .slice x.rA x.rn x.rc, .slice x.jA x.jn x.jc, .slice x.dA x.dn x.dc, .int .i64 x.rule.num, .int .i64 x.rule.den, .int .i64 x.rule.pnum, .int .i64 x.rule.pden, .int .i64 x.rule.bnum, .int .i64 x.rule.bden, .int .i64 x.rule.lnum, .int .i64 x.rule.lden, .int .i64 x.rule.least])
  have hRG := hDB.range
  go_enter Tryz.func87, Tryz.ntmps87
  go_wp2_with (first
    | (refine wpList_load_mid rfl 34 (.tmp 1) rfl _ _ rfl _ _ hRG Tryz.underlying34 rfl (by kernel_rfl) ?_)
    | (go_at_call 65; (with_reducible refine (HL.out _ (by repeat (first | exact Below.refl _ _ | assumption | refine ba_alloc ?_ _ | refine ba_drew ?_ | refine ba_drewN ?_ _ | refine ba_via (by assumption) ?_ | (refine ba_set ?_ ?_ _; rotate_left; (first | omega | (simp; omega) | simp))))).mono ?_); rintro e w1 ⟨A1, c1', rfl, how1, hbw1⟩))
  go_ret
  exact ⟨rfl, (by repeat (first | exact Below.refl _ _ | assumption | refine ba_alloc ?_ _ | refine ba_drew ?_ | refine ba_drewN ?_ _ | refine ba_via (by assumption) ?_ | (refine ba_set ?_ ?_ _; rotate_left; (first | omega | (simp; omega) | simp))))⟩
/-- A call hands back chains and no error. -/
def GivesChE (L : List (List Int)) (w : World) (e : Ending) (w' : World) : Prop :=
  ∃ (A : Option Addr) (c : Nat) (rs : List Chn), e = .returned (.tuple #[.slice A rs.length c, .int .i64 0]) ∧ rs.map (·.l) = L ∧ rs.length ≤ c ∧ Cells w' w'.heap.size A (rs.map chV) ∧ (∀ r, r ∈ rs → Cells w' w'.heap.size r.A (i64s r.l) ∧ r.l.length ≤ r.c) ∧ Below w.heap.size w w'
set_option maxRecDepth 20000 in
set_option maxHeartbeats 2000000 in
theorem lchains_yes (x : Dt) (B : Nat) (n : Nat) (xs : List Value) (L : List (List Int)) (w : World) (hB : B ≤ w.heap.size) (hn : n ≤ 2000)
    (hL : ∀ W, Below w.heap.size w W → Calls Tryz.prog 65 #[dtV x] W (GivesLook true n xs W)) (hC : ∀ W, Below w.heap.size w W → Calls Tryz.prog 69 #[dtV x, .int .i64 n] W (GivesChs L W)) :
    Calls Tryz.prog 18 #[dtV x] w (GivesChE L w) := by
  have HL := Lib.hid hL
  have HC := Lib.hid hC
  clear hL hC
  unfold dtV at HL HC
  unfold dtV
  have hDB := (Blk.new w 34 #[.string x.m.name, .slice x.mA x.mn x.mc, .slice x.hA x.hn x.hc, .int .i64 x.m.cover, .int .i64 x.m.aggr, .int .i64 x.m.poker, .slice x.bA x.bn x.bc, .slice x.rA x.rn x.rc, .slice x.jA x.jn x.jc, .slice x.dA x.dn x.dc, .int .i64 x.rule.num, .int .i64 x.rule.den, .int .i64 x.rule.pnum, .int .i64 x.rule.pden, .int .i64 x.rule.bnum, .int .i64 x.rule.bden, .int .i64 x.rule.lnum, .int .i64 x.rule.lden, .int .i64 x.rule.least])
  have hRG := hDB.range
  go_enter Tryz.func18, Tryz.ntmps18
  go_wp2_with (first
    | (refine wpList_load_mid rfl 34 (.tmp 1) rfl _ _ rfl _ _ hRG Tryz.underlying34 rfl (by kernel_rfl) ?_)
    | (refine wpList_load_mid rfl 34 (.tmp 1) rfl _ _ rfl _ _ hRG1 Tryz.underlying34 rfl (by kernel_rfl) ?_)
    | (go_at_call 65; (with_reducible refine (HL.out _ (by repeat (first | exact Below.refl _ _ | assumption | refine ba_alloc ?_ _ | refine ba_drew ?_ | refine ba_drewN ?_ _ | refine ba_via (by assumption) ?_ | (refine ba_set ?_ ?_ _; rotate_left; (first | omega | (simp; omega) | simp))))).mono ?_); rintro e w1 ⟨A1, c1', rfl, how1, hbw1⟩; have hRG1 := (hDB.via hbw1).range)
    | (go_at_call 69; (with_reducible refine (HC.out _ (by repeat (first | exact Below.refl _ _ | assumption | refine ba_alloc ?_ _ | refine ba_drew ?_ | refine ba_drewN ?_ _ | refine ba_via (by assumption) ?_ | (refine ba_set ?_ ?_ _; rotate_left; (first | omega | (simp; omega) | simp))))).mono ?_); rintro e w2 ⟨A2, c2, rs, rfl, hrs, hrc, hcc, hce, hbw2⟩))
  go_ret2
  exact ⟨A2, c2, rs, rfl, hrs, hrc, hcc, hce, (by repeat (first | exact Below.refl _ _ | assumption | refine ba_alloc ?_ _ | refine ba_drew ?_ | refine ba_drewN ?_ _ | refine ba_via (by assumption) ?_ | (refine ba_set ?_ ?_ _; rotate_left; (first | omega | (simp; omega) | simp))))⟩
set_option maxRecDepth 20000 in
set_option maxHeartbeats 2000000 in
theorem lchains_no (x : Dt) (B : Nat) (w : World) (hB : B ≤ w.heap.size)
    (hL : ∀ W, Below w.heap.size w W → Calls Tryz.prog 65 #[dtV x] W (GivesLook false 0 [] W)) :
    Calls Tryz.prog 18 #[dtV x] w fun e w' => e = .returned (.tuple #[.slice none 0 0, .int .i64 1]) ∧ Below w.heap.size w w' := by
  have HL := Lib.hid hL
  clear hL
  unfold dtV at HL
  unfold dtV
  have hDB := (Blk.new w 34 #[.string x.m.name, .slice x.mA x.mn x.mc, .slice x.hA x.hn x.hc, .int .i64 x.m.cover, .int .i64 x.m.aggr, .int .i64 x.m.poker, .slice x.bA x.bn x.bc, .slice x.rA x.rn x.rc, .slice x.jA x.jn x.jc, .slice x.dA x.dn x.dc, .int .i64 x.rule.num, .int .i64 x.rule.den, .int .i64 x.rule.pnum, .int .i64 x.rule.pden, .int .i64 x.rule.bnum, .int .i64 x.rule.bden, .int .i64 x.rule.lnum, .int .i64 x.rule.lden, .int .i64 x.rule.least])
  have hRG := hDB.range
  go_enter Tryz.func18, Tryz.ntmps18
  go_wp2_with (first
    | (refine wpList_load_mid rfl 34 (.tmp 1) rfl _ _ rfl _ _ hRG Tryz.underlying34 rfl (by kernel_rfl) ?_)
    | (go_at_call 65; (with_reducible refine (HL.out _ (by repeat (first | exact Below.refl _ _ | assumption | refine ba_alloc ?_ _ | refine ba_drew ?_ | refine ba_drewN ?_ _ | refine ba_via (by assumption) ?_ | (refine ba_set ?_ ?_ _; rotate_left; (first | omega | (simp; omega) | simp))))).mono ?_); rintro e w1 ⟨A1, c1', rfl, how1, hbw1⟩))
  go_ret2
  exact ⟨rfl, (by repeat (first | exact Below.refl _ _ | assumption | refine ba_alloc ?_ _ | refine ba_drew ?_ | refine ba_drewN ?_ _ | refine ba_via (by assumption) ?_ | (refine ba_set ?_ ?_ _; rotate_left; (first | omega | (simp; omega) | simp))))⟩
set_option maxRecDepth 20000 in
set_option maxHeartbeats 2000000 in
theorem lcheck_nil (x : Dt) (B : Nat) (n : Nat) (xs : List Value) (w : World) (hB : B ≤ w.heap.size) (hj : x.jA = none ∧ x.jn = 0 ∧ x.jc = 0)
    (hL : ∀ W, Below w.heap.size w W → Calls Tryz.prog 65 #[dtV x] W (GivesLook true n xs W)) :
    Calls Tryz.prog 15 #[dtV x] w fun e w' => e = .returned (.tuple #[.slice none 0 0, .int .i64 0]) ∧ Below w.heap.size w w' := by
  have HL := Lib.hid hL
  clear hL
  unfold dtV at HL
  unfold dtV
  rw [hj.1, hj.2.1, hj.2.2] at HL ⊢
  have hDB := (Blk.new w 34 #[.string x.m.name, .slice x.mA x.mn x.mc, .slice x.hA x.hn x.hc, .int .i64 x.m.cover, .int .i64 x.m.aggr, .int .i64 x.m.poker, .slice x.bA x.bn x.bc, .slice x.rA x.rn x.rc, .slice none 0 0, .slice x.dA x.dn x.dc, .int .i64 x.rule.num, .int .i64 x.rule.den, .int .i64 x.rule.pnum, .int .i64 x.rule.pden, .int .i64 x.rule.bnum, .int .i64 x.rule.bden, .int .i64 x.rule.lnum, .int .i64 x.rule.lden, .int .i64 x.rule.least])
  have hRG := hDB.range
  go_enter Tryz.func15, Tryz.ntmps15
  go_upto_region 5 with (first
    | (refine wpList_load_mid rfl 34 (.tmp 1) rfl _ _ rfl _ _ hRG Tryz.underlying34 rfl (by kernel_rfl) ?_)
    | (go_at_call 65; (with_reducible refine (HL.out _ (by repeat (first | exact Below.refl _ _ | assumption | refine ba_alloc ?_ _ | refine ba_drew ?_ | refine ba_drewN ?_ _ | refine ba_via (by assumption) ?_ | (refine ba_set ?_ ?_ _; rotate_left; (first | omega | (simp; omega) | simp))))).mono ?_); rintro e w1 ⟨A1, c1', rfl, how1, hbw1⟩))
  have hbw : Below w.heap.size w w1 := (by repeat (first | exact Below.refl _ _ | assumption | refine ba_alloc ?_ _ | refine ba_drew ?_ | refine ba_drewN ?_ _ | refine ba_via (by assumption) ?_ | (refine ba_set ?_ ?_ _; rotate_left; (first | omega | (simp; omega) | simp))))
  have d8 := (hDB.via hbw1).cell 8
  simp only [List.getElem?_toArray, List.getElem?_cons_zero, List.getElem?_cons_succ] at d8
  go_wp2
  refine wp_loop_rounds 1 ?_
  rw [rounds_succ]
  go_wp2
  go_ret2
  exact ⟨rfl, hbw⟩
end Go.Proofs.YtffkmgjmlahfpaaGreat
set_option linter.unusedVariables false
set_option linter.unusedSimpArgs false
namespace Go.Proofs.YtffkmgjmlahfpaaGreat
open Go.RowKit
def S.eqi (xs ys : List Int) : Bool := decide (xs = ys)
theorem eqi_no_len {xs ys : List Int} (h : xs.length ≠ ys.length) : S.eqi xs ys = false := by
  simp only [S.eqi, decide_eq_false_iff_not]
  exact fun e => h (by rw [e])
theorem eqi_no_at {xs ys : List Int} {k : Nat} (hx : k < xs.length) (hy : k < ys.length) (h : xs[k] ≠ ys[k]) : S.eqi xs ys = false := by
  simp only [S.eqi, decide_eq_false_iff_not]
  rintro rfl
  exact h rfl
theorem eqi_yes {xs ys : List Int} (hl : xs.length = ys.length) (h : ∀ j (hx : j < xs.length) (hy : j < ys.length), xs[j] = ys[j]) : S.eqi xs ys = true := by
  simp only [S.eqi, decide_eq_true_eq]
  exact List.ext_getElem hl fun j h1 h2 => h j h1 h2
set_option maxHeartbeats 1000000 in
theorem equal_any (A A' : Option Addr) (n m c c' : Nat) (xs ys : List Int) (B : Nat) (w : World) (hB : B ≤ w.heap.size) (hn : xs.length = n) (hm : ys.length = m) (hn' : n ≤ 9223372036854775807) (hm' : m ≤ 9223372036854775807) (hx : Cells w B A (i64s xs)) (hy : Cells w B A' (i64s ys)) :
    Calls Tryz.prog 24 #[.slice A n c, .slice A' m c'] w fun e w' => e = .returned (.bool (S.eqi xs ys)) ∧ Below w.heap.size w w' := by
  have HN := Lib.hid hn
  have HM := Lib.hid hm
  clear hn hm
  by_cases hl : n = m
  · have hl' : ((n : Int) != (m : Int)) = false := by simp [hl]
    have HL := Lib.hid hl
    clear hl
    go_enter Tryz.func24, Tryz.ntmps24
    go_wp2
    go_loopw [13] (fun i wr => ∃ k : Nat, k ≤ n ∧ i = .int .i64 k ∧ Hid (∀ j (hx : j < xs.length) (hy : j < ys.length), j < k → xs[j] = ys[j]) ∧ Below w.heap.size w wr) (fun i _ => n - (intOf i).toNat)
    case atStart => exact ⟨0, Nat.zero_le _, rfl, Lib.hid fun j _ _ h => absurd h (by omega), Below.refl _ _⟩
    case round =>
      obtain ⟨k, hk, rfl, HNO, hbr⟩ := hrel
      by_cases hlt : k < n
      · have hkx : k < xs.length := by have := HN.out; omega
        have hky : k < ys.length := by have := HM.out; have := HL.out; omega
        have hkm : k < m := by have := HL.out; omega
        obtain ⟨b1, o1, rfl, _, hc1⟩ := (hx.below (hbr.mono hB)).at_ (by simp; omega)
        obtain ⟨b2, o2, rfl, _, hc2⟩ := (hy.below (hbr.mono hB)).at_ (by simp; omega)
        have e1 := hc1 k _ (i64s_get hkx)
        have e2 := hc2 k _ (i64s_get hky)
        clear hc1 hc2
        have hkn' : (k : Int) < (n : Int) := by omega
        have hkm' : (k : Int) < (m : Int) := by omega
        by_cases hq : xs[k] = ys[k]
        · have hq' : (xs[k] != ys[k]) = false := by simp [hq]
          have HQ := Lib.hid hq
          clear hq
          go_wp2
          go_quiet (fail)
          go_wp2
          go_roundw
          case rel =>
            refine ⟨k + 1, by omega, by go_num, Lib.hid fun j h1 h2 h3 => ?_, (by repeat (first | exact Below.refl _ _ | assumption | refine ba_alloc ?_ _ | refine ba_drew ?_ | refine ba_drewN ?_ _ | refine ba_via (by assumption) ?_ | (refine ba_set ?_ ?_ _; rotate_left; (first | omega | (simp; omega) | simp))))⟩
            by_cases hjk : j = k
            · subst hjk; exact HQ.out
            · exact HNO.out j h1 h2 (by omega)
          case measure => simp [intOf]; omega
        · have hq' : (xs[k] != ys[k]) = true := by simp [hq]
          have HQ := Lib.hid (eqi_no_at hkx hky hq)
          clear hq
          go_wp2
          go_quiet (fail)
          go_wp2
          go_ret
          exact ⟨ret_b HQ.out.symm, (by repeat (first | exact Below.refl _ _ | assumption | refine ba_alloc ?_ _ | refine ba_drew ?_ | refine ba_drewN ?_ _ | refine ba_via (by assumption) ?_ | (refine ba_set ?_ ?_ _; rotate_left; (first | omega | (simp; omega) | simp))))⟩
      · go_wp2
        go_ret
        exact ⟨ret_b (eqi_yes (by have := HN.out; have := HM.out; have := HL.out; omega) (fun j h1 h2 => HNO.out j h1 h2 (by have := HN.out; omega))).symm, (by repeat (first | exact Below.refl _ _ | assumption | refine ba_alloc ?_ _ | refine ba_drew ?_ | refine ba_drewN ?_ _ | refine ba_via (by assumption) ?_ | (refine ba_set ?_ ?_ _; rotate_left; (first | omega | (simp; omega) | simp))))⟩
  · have hl' : ((n : Int) != (m : Int)) = true := by simp; omega
    have HL := Lib.hid (eqi_no_len (xs := xs) (ys := ys) (by have := HN.out; have := HM.out; omega))
    clear hl
    go_enter Tryz.func24, Tryz.ntmps24
    go_wp2
    go_ret
    exact ⟨ret_b HL.out.symm, (by repeat (first | exact Below.refl _ _ | assumption | refine ba_alloc ?_ _ | refine ba_drew ?_ | refine ba_drewN ?_ _ | refine ba_via (by assumption) ?_ | (refine ba_set ?_ ?_ _; rotate_left; (first | omega | (simp; omega) | simp))))⟩
/-- The lap length of a size, or 0. -/
def lLength (r : Rule) (d : Int) (p : Bool) : Int := if S.sized r d = 0 then S.up (S.length r d p false) r.lnum r.lden else 0
theorem length_bd {r : Rule} {d : Int} (hr : RuleOk r) (hd : 0 ≤ d) (hd' : d ≤ 40) (p b : Bool) : 0 ≤ S.length r d p b ∧ S.length r d p b ≤ 40000000000 := by
  have h1 := basic_bd hr hd hd'
  have h2 := poorUp_bd hr p h1.1 h1.2
  have h3 := bentUp_bd hr b h2.1 h2.2
  have h4 := hr.least
  unfold S.length S.atLeast
  split <;> omega
theorem lLength_any (r : Rule) (d : Int) (poor : Bool) (w : World) : Calls Tryz.prog 53 #[ruleV r, .int .i64 d, .bool poor] w fun e w' => e = .returned (.tuple #[.int .i64 (lLength r d poor), .int .i64 (S.sized r d)]) ∧ Below w.heap.size w w' := by
  have HL := Lib.hid (fun w => Length_any r d poor false w)
  by_cases h0 : S.sized r d = 0
  · obtain ⟨hr, hd⟩ := sized_zero h0
    have hR := rule_ok hr
    have hbd := size_bd hd
    have hb := length_bd hR (show 0 ≤ d by omega) (show d ≤ 40 by omega) poor false
    have hl := hR.lnum
    have hl2 := hR.lden
    have hm := mul_bd hb.1 hb.2 (show 0 ≤ r.lnum by omega) hl.2
    have H := Lib.hid (show lLength r d poor = (S.length r d poor false * r.lnum + r.lden - 1) / r.lden by simp [lLength, h0, S.up])
    have ha : aLength r d poor false = S.length r d poor false := by simp [aLength, h0]
    rw [ha, h0] at HL
    rw [h0]
    have HU := Lib.hid (fun w => lup_any (S.length r d poor false * r.lnum) r.lden hm.1 (by omega) hl2.1 (by omega) w)
    have e1 : IntKind.i64.wrap (S.length r d poor false * r.lnum) = S.length r d poor false * r.lnum := IntWalk.i64_in _ (by omega)
    clear hr hd hR hbd ha h0
    generalize S.length r d poor false = n at *
    unfold ruleV
    unfold ruleV at HL
    go_enter Tryz.func53, Tryz.ntmps53
    go_wp2_with (first
      | (go_at_call 109; (with_reducible refine (HL.out _).mono ?_); rintro e w1 ⟨rfl, hbw1⟩; obtain ⟨hcw1, hfw1⟩ := bcell hbw1; have hzw1_0 : w.heap.size < w1.heap.size := lt_via hbw1 (by first | omega | (simp; done) | (simp; omega)))
      | (go_at_call 110; (with_reducible refine (HU.out _).mono ?_); rintro e w' ⟨rfl, rfl⟩))
    go_ret2
    exact ⟨by rw [H.out]; rfl, (by repeat (first | exact Below.refl _ _ | assumption | refine ba_alloc ?_ _ | refine ba_drew ?_ | refine ba_drewN ?_ _ | refine ba_via (by assumption) ?_ | (refine ba_set ?_ ?_ _; rotate_left; (first | omega | (simp; omega) | simp))))⟩
  · have hb : (S.sized r d == 0) = false := by simpa using h0
    have hb' : (S.sized r d != 0) = true := by simp [bne, hb]
    have H := Lib.hid (show lLength r d poor = 0 by simp [lLength, h0])
    have ha : aLength r d poor false = 0 := by simp [aLength, h0]
    rw [ha] at HL
    clear ha h0
    generalize S.sized r d = s at *
    unfold ruleV
    unfold ruleV at HL
    go_enter Tryz.func53, Tryz.ntmps53
    go_wp2_with (first
      | (go_at_call 109; (with_reducible refine (HL.out _).mono ?_); rintro e w1 ⟨rfl, hbw1⟩; obtain ⟨hcw1, hfw1⟩ := bcell hbw1; have hzw1_0 : w.heap.size < w1.heap.size := lt_via hbw1 (by first | omega | (simp; done) | (simp; omega))))
    go_ret2
    exact ⟨by rw [H.out]; rfl, (by repeat (first | exact Below.refl _ _ | assumption | refine ba_alloc ?_ _ | refine ba_drew ?_ | refine ba_drewN ?_ _ | refine ba_via (by assumption) ?_ | (refine ba_set ?_ ?_ _; rotate_left; (first | omega | (simp; omega) | simp))))⟩
end Go.Proofs.YtffkmgjmlahfpaaGreat
set_option linter.unusedVariables false
set_option linter.unusedSimpArgs false
namespace Go.Proofs.YtffkmgjmlahfpaaGreat
open Go.RowKit
def S.padd (a b : Pt) : Pt := ⟨a.x + b.x, a.y + b.y, a.z + b.z⟩
def S.times (n : Int) (p : Pt) : Pt := ⟨n * p.x, n * p.y, n * p.z⟩
theorem raxis_any (n : Int) (w : World) : Calls Tryz.prog 232 #[.int .i64 n] w fun e w' => e = .returned (.bool (S.isAxis n)) ∧ w = w' := by
  have H := Lib.hid (show S.isAxis n = ((n != 0) && decide (-3 ≤ n) && decide (n ≤ 3)) from rfl)
  generalize hu : (n != 0) = u at H
  have hu' := Lib.hid hu
  go_enter Tryz.func232, Tryz.ntmps232
  go_wp2
  all_goals (go_ret; refine ⟨ret_b ?_, rfl⟩; rw [H.out]; have := hu'.out; simp_all; try omega)
theorem rturn_any (x y : Int) (w : World) : Calls Tryz.prog 175 #[turnV x y] w fun e w' => e = .returned (.bool (S.turn x y)) ∧ Below w.heap.size w w' := by
  have H := Lib.hid (show S.turn x y = (S.isAxis x && S.isAxis y && (x != y) && (x != -y)) from rfl)
  have HX := Lib.hid (fun w => raxis_any x w)
  have HY := Lib.hid (fun w => raxis_any y w)
  unfold turnV
  by_cases hb : S.isAxis y = true
  · have hy : -3 ≤ y ∧ y ≤ 3 := by
      simp only [S.isAxis, Bool.and_eq_true, decide_eq_true_eq] at hb
      omega
    have hn : IntKind.i64.wrap (0 - y) = -y := by rw [IntWalk.i64_in _ (by omega)]; omega
    rw [hb] at HY H
    clear hb
    generalize S.isAxis x = a at *
    cases a
    all_goals (
      go_enter Tryz.func175, Tryz.ntmps175
      go_wp2_with (first
        | (go_at_call 232; (with_reducible refine (HX.out _).mono ?_); rintro e w' ⟨rfl, rfl⟩)
        | (go_at_call 232; (with_reducible refine (HY.out _).mono ?_); rintro e w' ⟨rfl, rfl⟩))
      all_goals (go_ret; refine ⟨ret_b ?_, (by repeat (first | exact Below.refl _ _ | assumption | refine ba_alloc ?_ _ | refine ba_drew ?_ | refine ba_drewN ?_ _ | refine ba_via (by assumption) ?_ | (refine ba_set ?_ ?_ _; rotate_left; (first | omega | (simp; omega) | simp))))⟩; rw [H.out]; simp_all))
  · have hb' : S.isAxis y = false := by simpa using hb
    rw [hb'] at HY H
    clear hb hb'
    generalize S.isAxis x = a at *
    cases a
    all_goals (
      go_enter Tryz.func175, Tryz.ntmps175
      go_wp2_with (first
        | (go_at_call 232; (with_reducible refine (HX.out _).mono ?_); rintro e w' ⟨rfl, rfl⟩)
        | (go_at_call 232; (with_reducible refine (HY.out _).mono ?_); rintro e w' ⟨rfl, rfl⟩))
      all_goals (go_ret; refine ⟨ret_b ?_, (by repeat (first | exact Below.refl _ _ | assumption | refine ba_alloc ?_ _ | refine ba_drew ?_ | refine ba_drewN ?_ _ | refine ba_via (by assumption) ?_ | (refine ba_set ?_ ?_ _; rotate_left; (first | omega | (simp; omega) | simp))))⟩; rw [H.out]; simp_all))
theorem runit_pos (n : Int) (h : n = 1 ∨ n = 2 ∨ n = 3) (w : World) : Calls Tryz.prog 266 #[.int .i64 n] w fun e w' => e = .returned (ptV (S.unit n)) ∧ Below w.heap.size w w' := by
  have u1 : S.unit 1 = ⟨1, 0, 0⟩ := rfl
  have u2 : S.unit 2 = ⟨0, 1, 0⟩ := rfl
  have u3 : S.unit 3 = ⟨0, 0, 1⟩ := rfl
  rcases h with rfl | rfl | rfl
  all_goals (
    go_enter Tryz.func266, Tryz.ntmps266
    go_wp2
    (first | rw [u1] | rw [u2] | rw [u3])
    (first
      | exact bodyPost_ret (v := ptV ⟨1, 0, 0⟩) (by simp [results, Tryz.results266, go_sem, *]) rfl ⟨rfl, (by repeat (first | exact Below.refl _ _ | assumption | refine ba_alloc ?_ _ | refine ba_drew ?_ | refine ba_drewN ?_ _ | refine ba_via (by assumption) ?_ | (refine ba_set ?_ ?_ _; rotate_left; (first | omega | (simp; omega) | simp))))⟩
      | exact bodyPost_ret (v := ptV ⟨0, 1, 0⟩) (by simp [results, Tryz.results266, go_sem, *]) rfl ⟨rfl, (by repeat (first | exact Below.refl _ _ | assumption | refine ba_alloc ?_ _ | refine ba_drew ?_ | refine ba_drewN ?_ _ | refine ba_via (by assumption) ?_ | (refine ba_set ?_ ?_ _; rotate_left; (first | omega | (simp; omega) | simp))))⟩
      | exact bodyPost_ret (v := ptV ⟨0, 0, 1⟩) (by simp [results, Tryz.results266, go_sem, *]) rfl ⟨rfl, (by repeat (first | exact Below.refl _ _ | assumption | refine ba_alloc ?_ _ | refine ba_drew ?_ | refine ba_drewN ?_ _ | refine ba_via (by assumption) ?_ | (refine ba_set ?_ ?_ _; rotate_left; (first | omega | (simp; omega) | simp))))⟩))
set_option maxHeartbeats 1000000 in
theorem runit_any (n : Int) (h : S.isAxis n = true) (w : World) : Calls Tryz.prog 266 #[.int .i64 n] w fun e w' => e = .returned (ptV (S.unit n)) ∧ Below w.heap.size w w' := by
  have h' : (n = 1 ∨ n = 2 ∨ n = 3) ∨ n = -1 ∨ n = -2 ∨ n = -3 := by
    simp only [S.isAxis, Bool.and_eq_true, decide_eq_true_eq, bne_iff_ne] at h
    omega
  have u1 : S.unit 1 = ⟨1, 0, 0⟩ := rfl
  have u2 : S.unit 2 = ⟨0, 1, 0⟩ := rfl
  have u3 : S.unit 3 = ⟨0, 0, 1⟩ := rfl
  have u4 : S.unit (-1) = ⟨-1, 0, 0⟩ := rfl
  have u5 : S.unit (-2) = ⟨0, -1, 0⟩ := rfl
  have u6 : S.unit (-3) = ⟨0, 0, -1⟩ := rfl
  have H1 := Lib.hid (fun w => u1 ▸ runit_pos 1 (by omega) w)
  have H2 := Lib.hid (fun w => u2 ▸ runit_pos 2 (by omega) w)
  have H3 := Lib.hid (fun w => u3 ▸ runit_pos 3 (by omega) w)
  unfold ptV at H1 H2 H3
  simp only [] at H1 H2 H3
  rcases h' with h1 | rfl | rfl | rfl
  · exact runit_pos n h1 w
  · rw [u4]
    go_enter Tryz.func266, Tryz.ntmps266
    go_wp2_with (go_at_call 266; (with_reducible refine (H1.out _).mono ?_); rintro e w1 ⟨rfl, hbw1⟩; obtain ⟨hcw1, hfw1⟩ := bcell hbw1; have hzw1_0 : w.heap.size < w1.heap.size := lt_via hbw1 (by first | omega | (simp; done) | (simp; omega)))
    exact bodyPost_ret (v := ptV ⟨-1, 0, 0⟩) (by simp [results, Tryz.results266, go_sem, *]) rfl ⟨rfl, (by repeat (first | exact Below.refl _ _ | assumption | refine ba_alloc ?_ _ | refine ba_drew ?_ | refine ba_drewN ?_ _ | refine ba_via (by assumption) ?_ | (refine ba_set ?_ ?_ _; rotate_left; (first | omega | (simp; omega) | simp))))⟩
  · rw [u5]
    go_enter Tryz.func266, Tryz.ntmps266
    go_wp2_with (go_at_call 266; (with_reducible refine (H2.out _).mono ?_); rintro e w1 ⟨rfl, hbw1⟩; obtain ⟨hcw1, hfw1⟩ := bcell hbw1; have hzw1_0 : w.heap.size < w1.heap.size := lt_via hbw1 (by first | omega | (simp; done) | (simp; omega)))
    exact bodyPost_ret (v := ptV ⟨0, -1, 0⟩) (by simp [results, Tryz.results266, go_sem, *]) rfl ⟨rfl, (by repeat (first | exact Below.refl _ _ | assumption | refine ba_alloc ?_ _ | refine ba_drew ?_ | refine ba_drewN ?_ _ | refine ba_via (by assumption) ?_ | (refine ba_set ?_ ?_ _; rotate_left; (first | omega | (simp; omega) | simp))))⟩
  · rw [u6]
    go_enter Tryz.func266, Tryz.ntmps266
    go_wp2_with (go_at_call 266; (with_reducible refine (H3.out _).mono ?_); rintro e w1 ⟨rfl, hbw1⟩; obtain ⟨hcw1, hfw1⟩ := bcell hbw1; have hzw1_0 : w.heap.size < w1.heap.size := lt_via hbw1 (by first | omega | (simp; done) | (simp; omega)))
    exact bodyPost_ret (v := ptV ⟨0, 0, -1⟩) (by simp [results, Tryz.results266, go_sem, *]) rfl ⟨rfl, (by repeat (first | exact Below.refl _ _ | assumption | refine ba_alloc ?_ _ | refine ba_drew ?_ | refine ba_drewN ?_ _ | refine ba_via (by assumption) ?_ | (refine ba_set ?_ ?_ _; rotate_left; (first | omega | (simp; omega) | simp))))⟩
theorem rcross_any (a b : Pt) (ha : S.near1 a 1 = true) (hb : S.near1 b 1 = true) (w : World) : Calls Tryz.prog 268 #[ptV a, ptV b] w fun e w' => e = .returned (ptV (S.cross a b)) ∧ Below w.heap.size w w' := by
  simp only [S.near1, Bool.and_eq_true, decide_eq_true_eq] at ha hb
  have hm : ∀ u v : Int, -1 ≤ u ∧ u ≤ 1 → -1 ≤ v ∧ v ≤ 1 → -1 ≤ u * v ∧ u * v ≤ 1 := fun u v hu hv => by
    have h1 : u = -1 ∨ u = 0 ∨ u = 1 := by omega
    rcases h1 with rfl | rfl | rfl <;> omega
  have p0 := hm a.y b.z (by omega) (by omega)
  have p1 := hm a.z b.y (by omega) (by omega)
  have p2 := hm a.z b.x (by omega) (by omega)
  have p3 := hm a.x b.z (by omega) (by omega)
  have p4 := hm a.x b.y (by omega) (by omega)
  have p5 := hm a.y b.x (by omega) (by omega)
  clear hm
  have x0 : (S.cross a b).x = a.y * b.z - a.z * b.y := rfl
  have x1 : (S.cross a b).y = a.z * b.x - a.x * b.z := rfl
  have x2 : (S.cross a b).z = a.x * b.y - a.y * b.x := rfl
  unfold ptV
  go_enter Tryz.func268, Tryz.ntmps268
  go_wp2
  exact bodyPost_ret (v := .agg #[.int .i64 (S.cross a b).x, .int .i64 (S.cross a b).y, .int .i64 (S.cross a b).z]) (by simp [results, Tryz.results268, go_sem, *]) rfl ⟨rfl, (by repeat (first | exact Below.refl _ _ | assumption | refine ba_alloc ?_ _ | refine ba_drew ?_ | refine ba_drewN ?_ _ | refine ba_via (by assumption) ?_ | (refine ba_set ?_ ?_ _; rotate_left; (first | omega | (simp; omega) | simp))))⟩
theorem rplus_any (a b : Pt) (h : S.near1 (S.padd a b) 1000000000000 = true) (w : World) : Calls Tryz.prog 235 #[ptV a, ptV b] w fun e w' => e = .returned (ptV (S.padd a b)) ∧ Below w.heap.size w w' := by
  obtain ⟨hx, hy, hz⟩ := near1_out h
  clear h
  have x0 : (S.padd a b).x = a.x + b.x := rfl
  have x1 : (S.padd a b).y = a.y + b.y := rfl
  have x2 : (S.padd a b).z = a.z + b.z := rfl
  rw [x0] at hx
  rw [x1] at hy
  rw [x2] at hz
  unfold ptV
  go_enter Tryz.func235, Tryz.ntmps235
  go_wp2
  exact bodyPost_ret (v := .agg #[.int .i64 (S.padd a b).x, .int .i64 (S.padd a b).y, .int .i64 (S.padd a b).z]) (by simp [results, Tryz.results235, go_sem, *]) rfl ⟨rfl, (by repeat (first | exact Below.refl _ _ | assumption | refine ba_alloc ?_ _ | refine ba_drew ?_ | refine ba_drewN ?_ _ | refine ba_via (by assumption) ?_ | (refine ba_set ?_ ?_ _; rotate_left; (first | omega | (simp; omega) | simp))))⟩
theorem rtimes_any (n : Int) (p : Pt) (h : S.near1 (S.times n p) 1000000000000 = true) (w : World) : Calls Tryz.prog 267 #[.int .i64 n, ptV p] w fun e w' => e = .returned (ptV (S.times n p)) ∧ Below w.heap.size w w' := by
  obtain ⟨hx, hy, hz⟩ := near1_out h
  clear h
  have x0 : (S.times n p).x = n * p.x := rfl
  have x1 : (S.times n p).y = n * p.y := rfl
  have x2 : (S.times n p).z = n * p.z := rfl
  rw [x0] at hx
  rw [x1] at hy
  rw [x2] at hz
  unfold ptV
  go_enter Tryz.func267, Tryz.ntmps267
  go_wp2
  exact bodyPost_ret (v := .agg #[.int .i64 (S.times n p).x, .int .i64 (S.times n p).y, .int .i64 (S.times n p).z]) (by simp [results, Tryz.results267, go_sem, *]) rfl ⟨rfl, (by repeat (first | exact Below.refl _ _ | assumption | refine ba_alloc ?_ _ | refine ba_drew ?_ | refine ba_drewN ?_ _ | refine ba_via (by assumption) ?_ | (refine ba_set ?_ ?_ _; rotate_left; (first | omega | (simp; omega) | simp))))⟩
theorem rwithin_any (n : Int) (w : World) :
    Calls Tryz.prog 233 #[.int .i64 n] w fun e w' => e = .returned (.bool (S.place n)) ∧ w = w' := by
  have H := Lib.hid (show S.place n = (decide (-1048576 ≤ n) && decide (n ≤ 1048576)) from rfl)
  go_enter Tryz.func233, Tryz.ntmps233
  go_wp2
  all_goals (go_ret; exact ⟨ret_b (by rw [H.out, Bool.eq_iff_iff]; all_goals (first | (simp; done) | (simp; omega))), rfl⟩)
theorem rnear1_any (p : Pt) (w : World) :
    Calls Tryz.prog 176 #[ptV p] w fun e w' => e = .returned (.bool (S.near1 p 1048576)) ∧ Below w.heap.size w w' := by
  have H := Lib.hid (show S.near1 p 1048576 = (S.place p.x && S.place p.y && S.place p.z) by simp [S.near1, S.place, Bool.and_assoc])
  have H0 := Lib.hid (fun w => rwithin_any p.x w)
  have H1 := Lib.hid (fun w => rwithin_any p.y w)
  have H2 := Lib.hid (fun w => rwithin_any p.z w)
  generalize S.place p.x = t0 at *
  generalize S.place p.y = t1 at *
  generalize S.place p.z = t2 at *
  unfold ptV
  cases t0 <;> cases t1
  all_goals (
    go_enter Tryz.func176, Tryz.ntmps176
    go_wp2_with (first
      | (go_at_call 233; (with_reducible refine (H0.out _).mono ?_); rintro e w' ⟨rfl, rfl⟩)
      | (go_at_call 233; (with_reducible refine (H1.out _).mono ?_); rintro e w' ⟨rfl, rfl⟩)
      | (go_at_call 233; (with_reducible refine (H2.out _).mono ?_); rintro e w' ⟨rfl, rfl⟩))
    all_goals (go_ret; refine ⟨ret_b ?_, (by repeat (first | exact Below.refl _ _ | assumption | refine ba_alloc ?_ _ | refine ba_drew ?_ | refine ba_drewN ?_ _ | refine ba_via (by assumption) ?_ | (refine ba_set ?_ ?_ _; rotate_left; (first | omega | (simp; omega) | simp))))⟩; rw [H.out]; simp))
theorem rimage_eq (x y : Int) (p : Pt) : S.padd (S.times p.x (S.unit x)) (S.padd (S.times p.y (S.unit y)) (S.times p.z (S.cross (S.unit x) (S.unit y)))) = S.image x y p := by
  rw [show S.image x y p = ⟨(S.unit x).x * p.x + (S.unit y).x * p.y + (S.cross (S.unit x) (S.unit y)).x * p.z, (S.unit x).y * p.x + (S.unit y).y * p.y + (S.cross (S.unit x) (S.unit y)).y * p.z, (S.unit x).z * p.x + (S.unit y).z * p.y + (S.cross (S.unit x) (S.unit y)).z * p.z⟩ from rfl]
  simp only [S.padd, S.times, Int.mul_comm, Int.add_assoc]
theorem near1_mono0 {p : Pt} {a b : Int} (h : S.near1 p a = true) (hab : a ≤ b) : S.near1 p b = true := by
  simp only [S.near1, Bool.and_eq_true, decide_eq_true_eq] at h ⊢
  omega
theorem times_near {n m : Int} {p : Pt} (hn : -m ≤ n ∧ n ≤ m) (hp : S.near1 p 1 = true) : S.near1 (S.times n p) m = true := by
  obtain ⟨hx, hy, hz⟩ := near1_out hp
  have ax := mul_near hx hn
  have ay := mul_near hy hn
  have az := mul_near hz hn
  rw [Int.mul_comm] at ax ay az
  rw [show S.times n p = ⟨n * p.x, n * p.y, n * p.z⟩ from rfl]
  simp only [S.near1, Bool.and_eq_true, decide_eq_true_eq]
  generalize n * p.x = u1 at *
  generalize n * p.y = u2 at *
  generalize n * p.z = u3 at *
  omega
theorem padd_near {a b : Pt} {m k : Int} (ha : S.near1 a m = true) (hb : S.near1 b k = true) : S.near1 (S.padd a b) (m + k) = true := by
  obtain ⟨hx, hy, hz⟩ := near1_out ha
  obtain ⟨gx, gy, gz⟩ := near1_out hb
  rw [show S.padd a b = ⟨a.x + b.x, a.y + b.y, a.z + b.z⟩ from rfl]
  simp only [S.near1, Bool.and_eq_true, decide_eq_true_eq]
  omega
set_option maxRecDepth 20000 in
set_option maxHeartbeats 4000000 in
theorem rimage_any (x y : Int) (h : S.turn x y = true) (p : Pt) (hp : S.near1 p 1048576 = true) (w : World) : Calls Tryz.prog 237 #[turnV x y, ptV p] w fun e w' => e = .returned (ptV (S.image x y p)) ∧ Below w.heap.size w w' := by
  obtain ⟨hax, hay⟩ := turn_axes h
  obtain ⟨px, py, pz⟩ := near1_out hp
  have hn1 := times_near px (unit_near hax)
  have hn2 := times_near py (unit_near hay)
  have hn3 := times_near pz (cross_near h)
  have hn4 := padd_near hn2 hn3
  have hn5 := padd_near hn1 hn4
  have HUX := Lib.hid (fun w => runit_any x hax w)
  have HUY := Lib.hid (fun w => runit_any y hay w)
  have HC := Lib.hid (fun w => rcross_any (S.unit x) (S.unit y) (unit_near hax) (unit_near hay) w)
  have HT1 := Lib.hid (fun w => rtimes_any p.x (S.unit x) (near1_mono0 hn1 (by omega)) w)
  have HT2 := Lib.hid (fun w => rtimes_any p.y (S.unit y) (near1_mono0 hn2 (by omega)) w)
  have HT3 := Lib.hid (fun w => rtimes_any p.z (S.cross (S.unit x) (S.unit y)) (near1_mono0 hn3 (by omega)) w)
  have HP1 := Lib.hid (fun w => rplus_any (S.times p.y (S.unit y)) (S.times p.z (S.cross (S.unit x) (S.unit y))) (near1_mono0 hn4 (by omega)) w)
  have HP2 := Lib.hid (fun w => rplus_any (S.times p.x (S.unit x)) _ (near1_mono0 hn5 (by omega)) w)
  have HE := Lib.hid (rimage_eq x y p)
  clear h hp hax hay hn1 hn2 hn3 hn4 hn5 px py pz
  rw [← HE.out]
  clear HE
  generalize S.padd (S.times p.x (S.unit x)) (S.padd (S.times p.y (S.unit y)) (S.times p.z (S.cross (S.unit x) (S.unit y)))) = R at *
  generalize S.padd (S.times p.y (S.unit y)) (S.times p.z (S.cross (S.unit x) (S.unit y))) = P1 at *
  generalize S.times p.z (S.cross (S.unit x) (S.unit y)) = T3 at *
  generalize S.times p.y (S.unit y) = T2 at *
  generalize S.times p.x (S.unit x) = T1 at *
  generalize S.cross (S.unit x) (S.unit y) = C at *
  generalize S.unit x = U at *
  generalize S.unit y = V at *
  unfold ptV at HUX HUY HC HT1 HT2 HT3 HP1 HP2
  unfold turnV ptV
  go_enter Tryz.func237, Tryz.ntmps237
  go_wp2_with (first
    | (go_at_call 266; (with_reducible refine (HUX.out _).mono ?_); rintro e w1 ⟨rfl, hbw1⟩; obtain ⟨hcw1, hfw1⟩ := bcell hbw1; have hzw1_0 : w.heap.size < w1.heap.size := lt_via hbw1 (by first | omega | (simp; done) | (simp; omega)); have hzw1_1 : w.heap.size + 1 < w1.heap.size := lt_via hbw1 (by first | omega | (simp; done) | (simp; omega)); have hzw1_2 : w.heap.size + 2 < w1.heap.size := lt_via hbw1 (by first | omega | (simp; done) | (simp; omega)))
    | (go_at_call 266; (with_reducible refine (HUY.out _).mono ?_); rintro e w2 ⟨rfl, hbw2⟩; obtain ⟨hcw2, hfw2⟩ := bcell hbw2; have hzw2_0 : w.heap.size < w2.heap.size := lt_via hbw2 (by first | omega | (simp; done) | (simp; omega)); have hzw2_1 : w.heap.size + 1 < w2.heap.size := lt_via hbw2 (by first | omega | (simp; done) | (simp; omega)); have hzw2_2 : w.heap.size + 2 < w2.heap.size := lt_via hbw2 (by first | omega | (simp; done) | (simp; omega)); have hyw2_0 : w1.heap.size < w2.heap.size := lt_via hbw2 (by first | omega | (simp; done) | (simp; omega))))
  have hbel : Below w.heap.size w w2 := (by repeat (first | exact Below.refl _ _ | assumption | refine ba_alloc ?_ _ | refine ba_drew ?_ | refine ba_drewN ?_ _ | refine ba_via (by assumption) ?_ | (refine ba_set ?_ ?_ _; rotate_left; (first | omega | (simp; omega) | simp))))
  refine wp_region_grow_tail 16 (by kernel_rfl) (by kernel_rfl) ?_
  simp only [List.take_succ_cons, List.take_zero, List.drop_succ_cons, List.drop_zero]
  repeat (go_big_quiet_step ((first
    | (go_at_call 267; with_reducible exact grow_of (HT1.out _))
    | (go_at_call 267; with_reducible exact grow_of (HT2.out _))
    | (go_at_call 267; with_reducible exact grow_of (HT3.out _))
    | (go_at_call 268; with_reducible exact grow_of (HC.out _))
    | (go_at_call 235; with_reducible exact grow_of (HP1.out _))
    | (go_at_call 235; with_reducible exact grow_of (HP2.out _)))))
  all_goals (refine wpQuiet_nil ?_; intro wg hbwg; obtain ⟨hcwg, hfwg⟩ := bcell hbwg; have hzwg_0 : w.heap.size < wg.heap.size := lt_via hbwg (by first | omega | (simp; done) | (simp; omega)); have hzwg_1 : w.heap.size + 1 < wg.heap.size := lt_via hbwg (by first | omega | (simp; done) | (simp; omega)); have hzwg_2 : w.heap.size + 2 < wg.heap.size := lt_via hbwg (by first | omega | (simp; done) | (simp; omega)))
  go_wp2
  exact bodyPost_ret (v := .agg #[.int .i64 R.x, .int .i64 R.y, .int .i64 R.z]) (by simp [results, Tryz.results237, go_sem, *]) rfl ⟨rfl, (by repeat (first | exact Below.refl _ _ | assumption | refine ba_alloc ?_ _ | refine ba_drew ?_ | refine ba_drewN ?_ _ | refine ba_via (by assumption) ?_ | (refine ba_set ?_ ?_ _; rotate_left; (first | omega | (simp; omega) | simp))))⟩
end Go.Proofs.YtffkmgjmlahfpaaGreat
set_option linter.unusedVariables false
set_option linter.unusedSimpArgs false
namespace Go.Proofs.YtffkmgjmlahfpaaGreat
open Go.RowKit
theorem rletter_any (c : Int) (w : World) (h0 : 0 ≤ c) (h1 : c ≤ 255) : Calls Tryz.prog 171 #[.int .u8 c] w fun e w' => e = .returned (.bool (S.letter c)) ∧ w = w' := by
  have H := Lib.hid (show S.letter c = (decide (97 ≤ c) && decide (c ≤ 122) || decide (65 ≤ c) && decide (c ≤ 90)) from rfl)
  go_enter Tryz.func171, Tryz.ntmps171
  go_wp2
  all_goals (go_ret; exact ⟨ret_b (by rw [H.out, Bool.eq_iff_iff]; simp; omega), rfl⟩)
theorem rdigit_any (c : Int) (w : World) (h0 : 0 ≤ c) (h1 : c ≤ 255) : Calls Tryz.prog 229 #[.int .u8 c] w fun e w' => e = .returned (.bool (S.digit c)) ∧ w = w' := by
  have H := Lib.hid (show S.digit c = (decide (48 ≤ c) && decide (c ≤ 57)) from rfl)
  go_enter Tryz.func229, Tryz.ntmps229
  go_wp2
  all_goals (go_ret; exact ⟨ret_b (by rw [H.out, Bool.eq_iff_iff]; simp; omega), rfl⟩)
set_option maxHeartbeats 1000000 in
theorem rword_any (s : ByteArray) (w : World) (hs : s.size ≤ 9223372036854775807) : Calls Tryz.prog 172 #[.string s, .int .i64 0] w fun e w' => e = .returned (.int .i64 (S.wordl s.data.toList : Nat)) ∧ w = w' := by
  go_enter Tryz.func172, Tryz.ntmps172
  go_wp2
  go_loop [1] (fun i => ∃ k : Nat, k ≤ s.size ∧ i = .int .i64 k ∧ Hid (∀ j c, j < k → s.data.toList[j]? = some c → S.wordc c.toNat = true)) (fun i => s.size - (intOf i).toNat)
  case atStart => exact ⟨0, Nat.zero_le _, rfl, Lib.hid fun j c hj => absurd hj (by omega)⟩
  case round =>
    obtain ⟨k, hk, rfl, HNO⟩ := hrel
    by_cases hlt : k < s.size
    · have hb := byte_bd s[k]
      have hget : s.data.toList[k]? = some s[k] := by simp [hlt]; rfl
      have HG := Lib.hid hget
      clear hget
      cases hl : S.letter s[k].toNat <;> cases hd : S.digit s[k].toNat <;> cases hu : ((s[k].toNat : Int) == 95)
      all_goals
        go_wp2_with (first
          | (go_at_call 171; (with_reducible refine (rletter_any _ _ hb.1 hb.2).mono ?_); rintro e w' ⟨rfl, rfl⟩)
          | (go_at_call 229; (with_reducible refine (rdigit_any _ _ hb.1 hb.2).mono ?_); rintro e w' ⟨rfl, rfl⟩))
        first
          | (go_ret
             exact ⟨ret_i (by rw [wordl_stop (k := k) HNO.out (by simp; omega) (.inr ⟨_, HG.out, by simp [S.wordc, hl, hd, hu]⟩)]), rfl⟩)
          | (go_round
             case rel => exact ⟨k + 1, by omega, by go_num, Lib.hid (wordl_more HNO.out HG.out (by simp [S.wordc, hl, hd, hu]))⟩
             case measure => simp [intOf]; omega)
    · go_wp2
      go_ret
      exact ⟨ret_i (by rw [wordl_stop (k := k) HNO.out (by simp; omega) (.inl (by simp; omega))]), rfl⟩
set_option maxHeartbeats 1000000 in
theorem risname_any (s : ByteArray) (w : World) (hs : s.size ≤ 9223372036854775807) : Calls Tryz.prog 112 #[.string s] w fun e w' => e = .returned (.bool (S.isName s)) ∧ w = w' := by
  have H := Lib.hid (show S.isName s = (!(s.size == 0) && decide (s.size ≤ 20) && S.letter ((s.data.toList.headD 0).toNat) && S.wordl s.data.toList == s.size) from rfl)
  have hwl := wordl_le s.data.toList
  rw [show s.data.toList.length = s.size from rfl] at hwl
  by_cases h0 : s.size = 0
  · have he : s.toList = [] := by rw [Go.ByteArray.toList_eq]; exact List.eq_nil_of_length_eq_zero h0
    have he2 : s.toList.isEmpty = true := by rw [he]; rfl
    have hz : ((s.size : Int) == 0) = true := beq_iff_eq.2 (by omega)
    have H0 := Lib.hid h0
    clear h0
    go_enter Tryz.func112, Tryz.ntmps112
    go_wp2
    go_ret
    exact ⟨ret_b (by rw [H.out, H0.out]; simp), rfl⟩
  · have hlt : 0 < s.size := by omega
    have he2 : s.toList.isEmpty = false := by
      rw [Go.ByteArray.toList_eq]
      cases hl : s.data.toList with
      | nil => exact absurd (congrArg List.length hl) h0
      | cons x l => rfl
    have hz : ((s.size : Int) == 0) = false := beq_eq_false_iff_ne.2 (by omega)
    have hb := byte_bd s[0]
    have hh : s.data.toList.headD 0 = s[0] := by
      have hg : s.data.toList[0]? = some s[0] := by simp [hlt]; rfl
      cases hl : s.data.toList with
      | nil => rw [hl] at hg; simp at hg
      | cons x l => rw [hl] at hg; simp at hg; simpa using hg
    have HH := Lib.hid hh
    have H0 := Lib.hid h0
    clear h0 hh
    by_cases h20 : s.size ≤ 20
    · have h20' : decide ((s.size : Int) ≤ 20) = true := by simp; omega
      have h20'' : decide ((20 : Int) < s.size) = false := by simp; omega
      cases hl : S.letter s[0].toNat
      · go_enter Tryz.func112, Tryz.ntmps112
        go_wp2_with (go_at_call 171; (with_reducible refine (rletter_any _ _ hb.1 hb.2).mono ?_); rintro e w' ⟨rfl, rfl⟩)
        go_ret
        exact ⟨ret_b (by rw [H.out, HH.out, hl]; simp), rfl⟩
      · cases hw : (S.wordl s.data.toList == s.size)
        · have hw2 : (((S.wordl s.data.toList : Nat) : Int) == (s.size : Int)) = false := by simp at hw ⊢; omega
          go_enter Tryz.func112, Tryz.ntmps112
          go_wp2_with (first
            | (go_at_call 171; (with_reducible refine (rletter_any _ _ hb.1 hb.2).mono ?_); rintro e w' ⟨rfl, rfl⟩)
            | (go_at_call 172; (with_reducible refine (rword_any s _ hs).mono ?_); rintro e w' ⟨rfl, rfl⟩))
          go_ret
          exact ⟨ret_b (by rw [H.out, HH.out, hl, hw]; simp), rfl⟩
        · have hw2 : (((S.wordl s.data.toList : Nat) : Int) == (s.size : Int)) = true := by simp at hw ⊢; omega
          go_enter Tryz.func112, Tryz.ntmps112
          go_wp2_with (first
            | (go_at_call 171; (with_reducible refine (rletter_any _ _ hb.1 hb.2).mono ?_); rintro e w' ⟨rfl, rfl⟩)
            | (go_at_call 172; (with_reducible refine (rword_any s _ hs).mono ?_); rintro e w' ⟨rfl, rfl⟩))
          go_ret
          exact ⟨ret_b (by rw [H.out, HH.out, hl, hw]; simp [H0.out, h20]), rfl⟩
    · have h20' : decide ((s.size : Int) ≤ 20) = false := by simp; omega
      have h20'' : decide ((20 : Int) < s.size) = true := by simp; omega
      go_enter Tryz.func112, Tryz.ntmps112
      go_wp2
      go_ret
      exact ⟨ret_b (by rw [H.out]; simp [h20]), rfl⟩
end Go.Proofs.YtffkmgjmlahfpaaGreat
set_option linter.unusedVariables false
set_option linter.unusedSimpArgs false
namespace Go.Proofs.YtffkmgjmlahfpaaGreat
open Go.RowKit
theorem rdims_any (code : Int) (w : World) :
    Calls Tryz.prog 231 #[.int .i64 code] w fun e w' => e = .returned (.int .i64 (S.dimsOf code)) ∧ Below w.heap.size w w' := by
  have H := Lib.hid (show ∀ n : Int, (n = if code = 0 then 1 else if code = 11 then 2 else if code = 21 then 3 else if code = 26 then 3 else if code = 31 then 3 else if code = 41 then 5 else if code = 51 then 3 else if code = 98 then 3 else 0) → n = S.dimsOf code from fun n h => h)
  go_enter Tryz.func231, Tryz.ntmps231
  go_wp2
  all_goals (go_ret; exact ⟨ret_i (H.out _ (by simp only [beq_iff_eq, beq_eq_false_iff_ne, ne_eq] at *; repeat' (split <;> try omega))), (by repeat (first | exact Below.refl _ _ | assumption | refine ba_alloc ?_ _ | refine ba_drew ?_ | refine ba_drewN ?_ _ | refine ba_via (by assumption) ?_ | (refine ba_set ?_ ?_ _; rotate_left; (first | omega | (simp; omega) | simp))))⟩)
end Go.Proofs.YtffkmgjmlahfpaaGreat
set_option linter.unusedVariables false
set_option linter.unusedSimpArgs false
namespace Go.Proofs.YtffkmgjmlahfpaaGreat
open Go.RowKit
set_option maxHeartbeats 1000000 in
theorem rvalid_no0 (b : Bar) (A : Option Addr) (n c : Nat) (w : World) (hn : b.dims.length = n) (hm : n ≤ 9223372036854775807) (hmk : b.mark.size ≤ 9223372036854775807)  (f : S.isName b.mark = false) :
    Calls Tryz.prog 174 #[barV b A n c] w fun e w' => e = .returned (.bool (S.bar b)) ∧ Below w.heap.size w w' := by
  have H := Lib.hid (show S.bar b = false by simp [S.bar, S.barHead, f])
  clear hn
  unfold barV
  go_enter Tryz.func174, Tryz.ntmps174
  go_wp2
  refine wp_region_grow (by kernel_rfl) (by kernel_rfl) ?_
  repeat (go_big_quiet_step ((first | (go_at_call 112; exact grow_of_eq (risname_any b.mark _ hmk)) | (go_at_call 230; exact grow_of (rsize_any b.size _)) | (go_at_call 231; exact grow_of (rdims_any b.code _)))))
  all_goals (refine wpQuiet_nil ?_; intro w1 hbw1; obtain ⟨hcw1, hfw1⟩ := bcell hbw1; have hzw1_0 : w.heap.size < w1.heap.size := lt_via hbw1 (by first | omega | (simp; done) | (simp; omega)))
  go_wp2
  go_ret
  exact ⟨ret_b H.out.symm, (by repeat (first | exact Below.refl _ _ | assumption | refine ba_alloc ?_ _ | refine ba_drew ?_ | refine ba_drewN ?_ _ | refine ba_via (by assumption) ?_ | (refine ba_set ?_ ?_ _; rotate_left; (first | omega | (simp; omega) | simp))))⟩
set_option maxHeartbeats 1000000 in
theorem rvalid_no1 (b : Bar) (A : Option Addr) (n c : Nat) (w : World) (hn : b.dims.length = n) (hm : n ≤ 9223372036854775807) (hmk : b.mark.size ≤ 9223372036854775807) (g0 : S.isName b.mark = true) (f : S.size b.size = false) :
    Calls Tryz.prog 174 #[barV b A n c] w fun e w' => e = .returned (.bool (S.bar b)) ∧ Below w.heap.size w w' := by
  have H := Lib.hid (show S.bar b = false by simp [S.bar, S.barHead, f])
  clear hn
  unfold barV
  go_enter Tryz.func174, Tryz.ntmps174
  go_wp2
  refine wp_region_grow (by kernel_rfl) (by kernel_rfl) ?_
  repeat (go_big_quiet_step ((first | (go_at_call 112; exact grow_of_eq (risname_any b.mark _ hmk)) | (go_at_call 230; exact grow_of (rsize_any b.size _)) | (go_at_call 231; exact grow_of (rdims_any b.code _)))))
  all_goals (refine wpQuiet_nil ?_; intro w1 hbw1; obtain ⟨hcw1, hfw1⟩ := bcell hbw1; have hzw1_0 : w.heap.size < w1.heap.size := lt_via hbw1 (by first | omega | (simp; done) | (simp; omega)))
  go_wp2
  go_ret
  exact ⟨ret_b H.out.symm, (by repeat (first | exact Below.refl _ _ | assumption | refine ba_alloc ?_ _ | refine ba_drew ?_ | refine ba_drewN ?_ _ | refine ba_via (by assumption) ?_ | (refine ba_set ?_ ?_ _; rotate_left; (first | omega | (simp; omega) | simp))))⟩
set_option maxHeartbeats 1000000 in
theorem rvalid_no2 (b : Bar) (A : Option Addr) (n c : Nat) (w : World) (hn : b.dims.length = n) (hm : n ≤ 9223372036854775807) (hmk : b.mark.size ≤ 9223372036854775807) (g0 : S.isName b.mark = true) (g1 : S.size b.size = true) (f : b.count < 1) :
    Calls Tryz.prog 174 #[barV b A n c] w fun e w' => e = .returned (.bool (S.bar b)) ∧ Below w.heap.size w w' := by
  have H := Lib.hid (show S.bar b = false by (have hd : decide (1 ≤ b.count) = false := by simp; omega); simp [S.bar, S.barHead, hd])
  have q2 : decide (b.count < 1) = true := by simp; omega
  clear hn
  unfold barV
  go_enter Tryz.func174, Tryz.ntmps174
  go_wp2
  refine wp_region_grow (by kernel_rfl) (by kernel_rfl) ?_
  repeat (go_big_quiet_step ((first | (go_at_call 112; exact grow_of_eq (risname_any b.mark _ hmk)) | (go_at_call 230; exact grow_of (rsize_any b.size _)) | (go_at_call 231; exact grow_of (rdims_any b.code _)))))
  all_goals (refine wpQuiet_nil ?_; intro w1 hbw1; obtain ⟨hcw1, hfw1⟩ := bcell hbw1; have hzw1_0 : w.heap.size < w1.heap.size := lt_via hbw1 (by first | omega | (simp; done) | (simp; omega)))
  go_wp2
  go_ret
  exact ⟨ret_b H.out.symm, (by repeat (first | exact Below.refl _ _ | assumption | refine ba_alloc ?_ _ | refine ba_drew ?_ | refine ba_drewN ?_ _ | refine ba_via (by assumption) ?_ | (refine ba_set ?_ ?_ _; rotate_left; (first | omega | (simp; omega) | simp))))⟩
set_option maxHeartbeats 1000000 in
theorem rvalid_no3 (b : Bar) (A : Option Addr) (n c : Nat) (w : World) (hn : b.dims.length = n) (hm : n ≤ 9223372036854775807) (hmk : b.mark.size ≤ 9223372036854775807) (g0 : S.isName b.mark = true) (g1 : S.size b.size = true) (g2 : 1 ≤ b.count) (f : 1000 < b.count) :
    Calls Tryz.prog 174 #[barV b A n c] w fun e w' => e = .returned (.bool (S.bar b)) ∧ Below w.heap.size w w' := by
  have H := Lib.hid (show S.bar b = false by (have hd : decide (b.count ≤ 1000) = false := by simp; omega); simp [S.bar, S.barHead, hd])
  have q2 : decide (b.count < 1) = false := by simp; omega
  have q3 : decide (1000 < b.count) = true := by simp; omega
  clear hn
  unfold barV
  go_enter Tryz.func174, Tryz.ntmps174
  go_wp2
  refine wp_region_grow (by kernel_rfl) (by kernel_rfl) ?_
  repeat (go_big_quiet_step ((first | (go_at_call 112; exact grow_of_eq (risname_any b.mark _ hmk)) | (go_at_call 230; exact grow_of (rsize_any b.size _)) | (go_at_call 231; exact grow_of (rdims_any b.code _)))))
  all_goals (refine wpQuiet_nil ?_; intro w1 hbw1; obtain ⟨hcw1, hfw1⟩ := bcell hbw1; have hzw1_0 : w.heap.size < w1.heap.size := lt_via hbw1 (by first | omega | (simp; done) | (simp; omega)))
  go_wp2
  go_ret
  exact ⟨ret_b H.out.symm, (by repeat (first | exact Below.refl _ _ | assumption | refine ba_alloc ?_ _ | refine ba_drew ?_ | refine ba_drewN ?_ _ | refine ba_via (by assumption) ?_ | (refine ba_set ?_ ?_ _; rotate_left; (first | omega | (simp; omega) | simp))))⟩
set_option maxHeartbeats 1000000 in
theorem rvalid_no4 (b : Bar) (A : Option Addr) (n c : Nat) (w : World) (hn : b.dims.length = n) (hm : n ≤ 9223372036854775807) (hmk : b.mark.size ≤ 9223372036854775807) (g0 : S.isName b.mark = true) (g1 : S.size b.size = true) (g2 : 1 ≤ b.count) (g3 : b.count ≤ 1000) (f : (S.dimsOf b.code == 0) = true) :
    Calls Tryz.prog 174 #[barV b A n c] w fun e w' => e = .returned (.bool (S.bar b)) ∧ Below w.heap.size w w' := by
  have H := Lib.hid (show S.bar b = false by simp [S.bar, S.barHead, f])
  have q2 : decide (b.count < 1) = false := by simp; omega
  have q3 : decide (1000 < b.count) = false := by simp; omega
  clear hn
  unfold barV
  go_enter Tryz.func174, Tryz.ntmps174
  go_wp2
  refine wp_region_grow (by kernel_rfl) (by kernel_rfl) ?_
  repeat (go_big_quiet_step ((first | (go_at_call 112; exact grow_of_eq (risname_any b.mark _ hmk)) | (go_at_call 230; exact grow_of (rsize_any b.size _)) | (go_at_call 231; exact grow_of (rdims_any b.code _)))))
  all_goals (refine wpQuiet_nil ?_; intro w1 hbw1; obtain ⟨hcw1, hfw1⟩ := bcell hbw1; have hzw1_0 : w.heap.size < w1.heap.size := lt_via hbw1 (by first | omega | (simp; done) | (simp; omega)))
  go_wp2
  go_ret
  exact ⟨ret_b H.out.symm, (by repeat (first | exact Below.refl _ _ | assumption | refine ba_alloc ?_ _ | refine ba_drew ?_ | refine ba_drewN ?_ _ | refine ba_via (by assumption) ?_ | (refine ba_set ?_ ?_ _; rotate_left; (first | omega | (simp; omega) | simp))))⟩
set_option maxHeartbeats 1000000 in
theorem rvalid_no5 (b : Bar) (A : Option Addr) (n c : Nat) (w : World) (hn : b.dims.length = n) (hm : n ≤ 9223372036854775807) (hmk : b.mark.size ≤ 9223372036854775807) (g0 : S.isName b.mark = true) (g1 : S.size b.size = true) (g2 : 1 ≤ b.count) (g3 : b.count ≤ 1000) (g4 : (S.dimsOf b.code == 0) = false) (f : ((n : Int) == S.dimsOf b.code) = false) :
    Calls Tryz.prog 174 #[barV b A n c] w fun e w' => e = .returned (.bool (S.bar b)) ∧ Below w.heap.size w w' := by
  have f' : ((n : Int) != S.dimsOf b.code) = true := by simp [bne, f]
  have H := Lib.hid (show S.bar b = false by unfold S.bar S.barHead; rw [hn, f]; simp)
  have q2 : decide (b.count < 1) = false := by simp; omega
  have q3 : decide (1000 < b.count) = false := by simp; omega
  clear hn
  unfold barV
  go_enter Tryz.func174, Tryz.ntmps174
  go_wp2
  refine wp_region_grow (by kernel_rfl) (by kernel_rfl) ?_
  repeat (go_big_quiet_step ((first | (go_at_call 112; exact grow_of_eq (risname_any b.mark _ hmk)) | (go_at_call 230; exact grow_of (rsize_any b.size _)) | (go_at_call 231; exact grow_of (rdims_any b.code _)))))
  all_goals (refine wpQuiet_nil ?_; intro w1 hbw1; obtain ⟨hcw1, hfw1⟩ := bcell hbw1; have hzw1_0 : w.heap.size < w1.heap.size := lt_via hbw1 (by first | omega | (simp; done) | (simp; omega)))
  go_wp2
  go_ret
  exact ⟨ret_b H.out.symm, (by repeat (first | exact Below.refl _ _ | assumption | refine ba_alloc ?_ _ | refine ba_drew ?_ | refine ba_drewN ?_ _ | refine ba_via (by assumption) ?_ | (refine ba_set ?_ ?_ _; rotate_left; (first | omega | (simp; omega) | simp))))⟩
set_option maxHeartbeats 2000000 in
theorem rvalid_in (b : Bar) (A : Option Addr) (n c : Nat) (B : Nat) (w : World) (hB : B ≤ w.heap.size) (hA : BarAt w B A n b) (hh : S.barHead b = true) :
    Calls Tryz.prog 174 #[barV b A n c] w fun e w' => e = .returned (.bool (S.bar b)) ∧ Below w.heap.size w w' := by
  have hmk := hA.mark
  have hm := hA.max
  have hs := hA.cells
  have HN := Lib.hid hA.len
  have HK := Lib.hid (show S.bar b = S.dimsOk b.dims by simp [S.bar, hh])
  have hh' := hh
  unfold S.barHead at hh'
  rw [hA.len] at hh'
  simp only [Bool.and_eq_true, decide_eq_true_eq, Bool.not_eq_true'] at hh'
  obtain ⟨⟨⟨⟨⟨h0, h1⟩, h2⟩, h3⟩, h4⟩, h5⟩ := hh'
  have h5' : ((n : Int) != S.dimsOf b.code) = false := by simp [bne, h5]
  have q2 : decide (b.count < 1) = false := by simp; omega
  have q3 : decide (1000 < b.count) = false := by simp; omega
  have hn5 : n ≤ 5 := by have := (dimsOf_bd b.code).2; simp at h5; omega
  clear hh hA
  unfold barV
  go_enter Tryz.func174, Tryz.ntmps174
  go_wp2
  refine wp_region_grow (by kernel_rfl) (by kernel_rfl) ?_
  repeat (go_big_quiet_step ((first | (go_at_call 112; exact grow_of_eq (risname_any b.mark _ hmk)) | (go_at_call 230; exact grow_of (rsize_any b.size _)) | (go_at_call 231; exact grow_of (rdims_any b.code _)))))
  all_goals (refine wpQuiet_nil ?_; intro w1 hbw1; obtain ⟨hcw1, hfw1⟩ := bcell hbw1; have hzw1_0 : w.heap.size < w1.heap.size := lt_via hbw1 (by first | omega | (simp; done) | (simp; omega)))
  go_wp2
  have hbw : Below w.heap.size w w1 := (by repeat (first | exact Below.refl _ _ | assumption | refine ba_alloc ?_ _ | refine ba_drew ?_ | refine ba_drewN ?_ _ | refine ba_via (by assumption) ?_ | (refine ba_set ?_ ?_ _; rotate_left; (first | omega | (simp; omega) | simp))))
  have hs2 := hs.below (hbw.mono hB)
  go_loop [3, 4] (fun r i => ∃ k : Nat, k ≤ n ∧ i = .int .i64 k ∧ r = .int .i64 (S.sum (b.dims.take k)) ∧ 0 ≤ S.sum (b.dims.take k) ∧ S.sum (b.dims.take k) ≤ 1048576 * (k : Int) ∧ Hid (∀ j (hj : j < b.dims.length), j < k → 1 ≤ b.dims[j])) (fun _ i => n - (intOf i).toNat)
  case atStart => exact ⟨0, Nat.zero_le _, rfl, rfl, by simp [S.sum], by simp [S.sum], Lib.hid fun j hj hk => absurd hk (by omega)⟩
  case round =>
    obtain ⟨k, hk, rfl, rfl, hs0, hs1, HNO⟩ := hrel
    by_cases hlt : k < n
    · have hkx : k < b.dims.length := by have := HN.out; omega
      obtain ⟨bb, o, rfl, _, hc⟩ := hs2.at_ (by simp; omega)
      have hck := hc k _ (i64s_get hkx)
      clear hc
      by_cases hbad : b.dims[k] < 1 ∨ 1048576 < b.dims[k]
      · have HB := Lib.hid (dims_no hkx (by omega))
        rcases hbad with h1 | h1
        all_goals
          go_wp2
          go_ret
          exact ⟨ret_b (by rw [HK.out, HB.out]), hbw⟩
      · obtain ⟨hb1', hb2'⟩ : 1 ≤ b.dims[k] ∧ b.dims[k] ≤ 1048576 := by omega
        have ht := sum_snoc (b.dims.take k) b.dims[k]
        rw [← List.take_succ_eq_append_getElem hkx] at ht
        have HT := Lib.hid ht
        clear ht hbad
        go_wp2
        go_round
        case rel =>
          refine ⟨_, _, _, ?_, rfl, rfl, rfl⟩
          refine ⟨k + 1, by omega, by go_num, vint (by rw [HT.out]), by rw [HT.out]; omega, by rw [HT.out]; omega, Lib.hid fun j hj hjk => ?_⟩
          by_cases hjk' : j = k
          · subst hjk'; omega
          · exact HNO.out j hj (by omega)
        case measure => simp [intOf]; omega
    · have he : b.dims.take k = b.dims := List.take_of_length_le (by have := HN.out; omega)
      have hall : ∀ x, x ∈ b.dims → 1 ≤ x := fun x hx => by
        obtain ⟨j, hj, rfl⟩ := List.mem_iff_getElem.1 hx
        exact HNO.out j hj (by have := HN.out; omega)
      have HE := Lib.hid (show S.dimsOk b.dims = decide (S.sum b.dims ≤ 262144) by rw [Bool.eq_iff_iff, dimsOk_iff]; simp; exact fun _ => hall)
      rw [he] at hs1
      go_wp2
      go_ret
      exact ⟨ret_b (by rw [HK.out, HE.out]), hbw⟩
theorem rvalid12_any (b : Bar) (A : Option Addr) (n c : Nat) (B : Nat) (w : World) (hB : B ≤ w.heap.size) (hA : BarAt w B A n b) :
    Calls Tryz.prog 174 #[barV b A n c] w fun e w' => e = .returned (.bool (S.bar b)) ∧ Below w.heap.size w w' := by
  cases g0 : S.isName b.mark
  · exact rvalid_no0 b A n c w hA.len hA.max hA.mark g0
  · cases g1 : S.size b.size
    · exact rvalid_no1 b A n c w hA.len hA.max hA.mark g0 g1
    · by_cases g2 : 1 ≤ b.count
      · by_cases g3 : b.count ≤ 1000
        · cases g4 : (S.dimsOf b.code == 0)
          · cases g5 : ((n : Int) == S.dimsOf b.code)
            · exact rvalid_no5 b A n c w hA.len hA.max hA.mark g0 g1 g2 g3 g4 g5
            · refine rvalid_in b A n c B w hB hA ?_
              unfold S.barHead
              rw [hA.len, g4, g0, g1, g5]
              simp [g2, g3]
          · exact rvalid_no4 b A n c w hA.len hA.max hA.mark g0 g1 g2 g3 g4
        · exact rvalid_no3 b A n c w hA.len hA.max hA.mark g0 g1 g2 (by omega)
      · exact rvalid_no2 b A n c w hA.len hA.max hA.mark g0 g1 (by omega)
end Go.Proofs.YtffkmgjmlahfpaaGreat
set_option linter.unusedVariables false
set_option linter.unusedSimpArgs false
namespace Go.Proofs.YtffkmgjmlahfpaaGreat
open Go.RowKit
theorem rtimes16_any (p : Pt) (n : Int) (h : S.near1 (S.times n p) 1000000000000 = true) (w : World) : Calls Tryz.prog 236 #[ptV p, .int .i64 n] w fun e w' => e = .returned (ptV (S.times n p)) ∧ Below w.heap.size w w' := by
  obtain ⟨hx, hy, hz⟩ := near1_out h
  clear h
  have x0 : (S.times n p).x = p.x * n := Int.mul_comm _ _
  have x1 : (S.times n p).y = p.y * n := Int.mul_comm _ _
  have x2 : (S.times n p).z = p.z * n := Int.mul_comm _ _
  rw [x0] at hx
  rw [x1] at hy
  rw [x2] at hz
  unfold ptV
  go_enter Tryz.func236, Tryz.ntmps236
  go_wp2
  exact bodyPost_ret (v := .agg #[.int .i64 (S.times n p).x, .int .i64 (S.times n p).y, .int .i64 (S.times n p).z]) (by simp [results, Tryz.results236, go_sem, *]) rfl ⟨rfl, (by repeat (first | exact Below.refl _ _ | assumption | refine ba_alloc ?_ _ | refine ba_drew ?_ | refine ba_drewN ?_ _ | refine ba_via (by assumption) ?_ | (refine ba_set ?_ ?_ _; rotate_left; (first | omega | (simp; omega) | simp))))⟩
set_option maxHeartbeats 1000000 in
theorem rtwice_any (p : Pt) (w : World) : Calls Tryz.prog 177 #[ptV p] w fun e w' => e = .returned (.bool (S.near1 p 2097152)) ∧ Below w.heap.size w w' := by
  have H := Lib.hid (show ∀ t : Bool, (t = true ↔ (-2097152 ≤ p.x ∧ p.x ≤ 2097152) ∧ (-2097152 ≤ p.y ∧ p.y ≤ 2097152) ∧ (-2097152 ≤ p.z ∧ p.z ≤ 2097152)) → t = S.near1 p 2097152 from fun t ht => by
    rw [Bool.eq_iff_iff, ht]
    simp only [S.near1, Bool.and_eq_true, decide_eq_true_eq]
    constructor <;> (intro h; omega))
  unfold ptV
  go_enter Tryz.func177, Tryz.ntmps177
  go_wp2
  all_goals (go_ret; exact ⟨ret_b (H.out _ (by simp only [decide_eq_true_eq, decide_eq_false_iff_not, Bool.false_eq_true, true_iff, false_iff] at *; omega)), (by repeat (first | exact Below.refl _ _ | assumption | refine ba_alloc ?_ _ | refine ba_drew ?_ | refine ba_drewN ?_ _ | refine ba_via (by assumption) ?_ | (refine ba_set ?_ ?_ _; rotate_left; (first | omega | (simp; omega) | simp))))⟩)
theorem rnearL_any (l : List Pt) (A : Option Addr) (n c : Nat) (B : Nat) (w : World) (hn : l.length = n) (hm : n ≤ 9223372036854775807) (hB : B ≤ w.heap.size) (hs : Cells w B A (l.flatMap ptC)) :
    Calls Tryz.prog 178 #[.slice A n c] w fun e w' => e = .returned (.bool (S.near l 1048576)) ∧ Below w.heap.size w w' := by
  have HN := Lib.hid hn
  clear hn
  go_enter Tryz.func178, Tryz.ntmps178
  go_wp2
  go_loopw [3] (fun i wr => ∃ k : Nat, k ≤ n ∧ i = .int .i64 k ∧ Hid (∀ j (h : j < l.length), j < k → S.near1 l[j] 1048576 = true) ∧ Below w.heap.size w wr) (fun i _ => n - (intOf i).toNat)
  case atStart => exact ⟨0, Nat.zero_le _, rfl, Lib.hid fun j _ hj => absurd hj (by omega), Below.refl _ _⟩
  case round =>
    obtain ⟨k, hk, rfl, HNO, hbr⟩ := hrel
    by_cases hlt : k < n
    · have hki : (k : Int) < (n : Int) := by omega
      have hkx : k < l.length := by have := HN.out; omega
      have hs' := hs.below (hbr.mono hB)
      obtain ⟨b, o, rfl, _, _⟩ := hs'.at_ (by rw [flat_len ptC 3 ptC_len]; omega)
      obtain ⟨c0, c1, c2⟩ := hs'.pts (List.getElem?_eq_getElem hkx)
      have HT := Lib.hid (rnear1_any l[k])
      have HX := Lib.hid (fun h => near_bad (m := 1048576) hkx h)
      unfold ptV at HT
      generalize hq : S.near1 l[k] 1048576 = q at *
      have HQ := Lib.hid hq
      clear hq hs'
      cases q
      · go_wp2_with (go_at_call 176; (with_reducible refine (HT.out _).mono ?_); rintro e w1 ⟨rfl, hbw1⟩; obtain ⟨hcw1, hfw1⟩ := bcell hbw1)
        go_ret
        exact ⟨ret_b (HX.out trivial).symm, ba_via hbw1 hbr⟩
      · go_wp2_with (go_at_call 176; (with_reducible refine (HT.out _).mono ?_); rintro e w1 ⟨rfl, hbw1⟩; obtain ⟨hcw1, hfw1⟩ := bcell hbw1)
        go_roundw
        case rel =>
          refine ⟨k + 1, by omega, by go_num, Lib.hid fun j hj hjk => ?_, ba_via hbw1 hbr⟩
          by_cases hjk' : j = k
          · subst hjk'; exact HQ.out
          · exact HNO.out j hj (by omega)
        case measure => simp [intOf]; omega
    · have HX := Lib.hid (near_all (m := 1048576) (l := l) fun j hj => HNO.out j hj (by have := HN.out; omega))
      go_wp2
      go_ret
      exact ⟨ret_b HX.out.symm, hbr⟩
theorem rfind14_any (l : List BarR) (m : ByteArray) (A : Option Addr) (n c : Nat) (B : Nat) (w : World) (hB : B ≤ w.heap.size) (hA : BarsAt w B A n l) :
    Calls Tryz.prog 162 #[.slice A n c, .string m] w fun e w' => e = .returned (.int .i64 (S.index (bars l) m)) ∧ Below w.heap.size w w' := by
  have HN := Lib.hid (show (bars l).length = n by simpa using hA.len)
  have hm := hA.max
  have hs := hA.cells
  clear hA
  go_enter Tryz.func162, Tryz.ntmps162
  go_wp2
  go_loopw [5] (fun i wr => ∃ k : Nat, k ≤ n ∧ i = .int .i64 k ∧ Hid (∀ j (h : j < (bars l).length), j < k → S.isMark m (bars l)[j] = false) ∧ Below w.heap.size w wr) (fun i _ => n - (intOf i).toNat)
  case atStart => exact ⟨0, Nat.zero_le _, rfl, Lib.hid fun j _ hj => absurd hj (by omega), Below.refl _ _⟩
  case round =>
    obtain ⟨k, hk, rfl, HNO, hbr⟩ := hrel
    by_cases hlt : k < n
    · have hki : (k : Int) < (n : Int) := by omega
      have hkx : k < (bars l).length := by have := HN.out; omega
      have hkl : k < l.length := by simpa using hkx
      have hs' := hs.below (hbr.mono hB)
      obtain ⟨b, o, rfl, _, _⟩ := hs'.at_ (by rw [flat_len barC 5 barC_len]; omega)
      have c0 := hs'.row0 barC_len hkl rfl
      have HE := Lib.hid (show S.isMark m (bars l)[k] = (l[k].b.mark.toList == m.toList) by simp [S.isMark])
      have HX := Lib.hid (fun hx => idxf_hit (p := S.isMark m) hkx hx HNO.out)
      generalize hq : S.isMark m (bars l)[k] = q at *
      have HQ := Lib.hid hq
      clear hq hs'
      generalize hmk : l[k].b.mark = mk at *
      have HMK := Lib.hid hmk
      clear hmk
      by_cases hx : (mk.toList == m.toList) = true
      · have hq : q = true := HE.out.trans hx
        subst hq
        go_wp2
        go_ret
        exact ⟨ret_i (HX.out trivial).symm, hbr⟩
      · have hx' : (mk.toList == m.toList) = false := by simpa using hx
        have hq : q = false := HE.out.trans hx'
        subst hq
        clear hx
        go_wp2
        go_roundw
        case rel =>
          refine ⟨k + 1, by omega, by go_num, Lib.hid fun j hj hjk => ?_, hbr⟩
          by_cases hjk' : j = k
          · subst hjk'; exact HQ.out
          · exact HNO.out j hj (by omega)
        case measure => simp [intOf]; omega
    · have HX := Lib.hid (idxf_miss (p := S.isMark m) (xs := bars l) fun j hj => HNO.out j hj (by have := HN.out; omega))
      go_wp2
      go_ret
      exact ⟨ret_i HX.out.symm, hbr⟩
theorem rcount16_any (rs : List Rn) (A : Option Addr) (n c : Nat) (B : Nat) (w : World) (hB : B ≤ w.heap.size) (hR : RunsAt w B A n rs) (h60 : n ≤ 60) (hc : ∀ k (hk : k < rs.length), 0 ≤ rs[k].count ∧ rs[k].count ≤ 1000) :
    Calls Tryz.prog 94 #[.slice A n c] w fun e w' => e = .returned (.int .i64 (S.sumAll rs)) ∧ w = w' := by
  have HN := Lib.hid hR.len
  have HS := Lib.hid hR.cells
  have HB : ∀ k, k ≤ rs.length → 0 ≤ S.sumTo rs k ∧ S.sumTo rs k ≤ 1000 * (k : Int) := by
    intro k
    induction k with
    | zero => intro _; rw [sumTo_zero]; omega
    | succ k ih =>
      intro hk
      have h1 := ih (by omega)
      have h2 := hc k (by omega)
      rw [sumTo_succ rs (by omega)]
      omega
  have HBD := Lib.hid HB
  clear HB hR
  have HC := Lib.hid hc
  clear hc
  go_enter Tryz.func94, Tryz.ntmps94
  go_wp2
  go_loop [3, 4] (fun s i => ∃ k : Nat, k ≤ n ∧ i = .int .i64 k ∧ s = .int .i64 (S.sumTo rs k)) (fun _ i => n - (intOf i).toNat)
  case atStart => exact ⟨0, Nat.zero_le _, rfl, rfl⟩
  case round =>
    obtain ⟨k, hk, rfl, rfl⟩ := hrel
    have hl := HN.out
    by_cases hlt : k < n
    · have hki : (k : Int) < (n : Int) := by omega
      have hkx : k < rs.length := by omega
      have hs' := HS.out
      obtain ⟨b, o, rfl, _, _⟩ := hs'.at_ (by rw [flat_len rnC 10 rnC_len]; omega)
      have c9 := hs'.rowj rnC_len hkx 9 rfl
      have h1 := HBD.out k (by omega)
      have h2 := HC.out k hkx
      have HT := Lib.hid (sumTo_succ rs hkx)
      clear hs' hl
      generalize S.sumTo rs k = s at *
      generalize rs[k].count = q at *
      have e1 : IntKind.i64.wrap (s + q) = s + q := IntWalk.i64_in _ (by omega)
      go_wp2
      go_round
      case rel => exact ⟨k + 1, by omega, by go_num, by rw [HT.out]⟩
      case measure => simp [intOf]; omega
    · have he : k = rs.length := by omega
      have HE := Lib.hid (show S.sumTo rs k = S.sumAll rs by rw [he]; rfl)
      clear hl he
      go_wp2
      go_ret
      exact ⟨ret_i HE.out, rfl⟩
end Go.Proofs.YtffkmgjmlahfpaaGreat
set_option linter.unusedVariables false
set_option linter.unusedSimpArgs false
namespace Go.Proofs.YtffkmgjmlahfpaaGreat
open Go.RowKit
/-- The legs of a bar as moves. -/
def S.moves (b : Bar) : List Pt := (S.legsOf b.code).map fun l => S.step ⟨0, 0, 0⟩ l.2 (b.dims.getD l.1 0)
theorem moves_len (b : Bar) : (S.moves b).length = (S.legsOf b.code).length := by simp [S.moves]
/-- A call hands back points of its own. -/
def GivesPts (l : List Pt) (w : World) (e : Ending) (w' : World) : Prop :=
  ∃ A, e = .returned (.slice A l.length l.length) ∧ Cells w' w'.heap.size A (l.flatMap ptC) ∧ Below w.heap.size w w' ∧ w.heap.size < w'.heap.size
set_option maxRecDepth 100000 in
set_option maxHeartbeats 2000000 in
theorem rmoves_0 (mk : ByteArray) (sz ct : Int) (d0 : Int) (A : Option Addr) (c : Nat) (B : Nat) (w : World) (hB : B ≤ w.heap.size) (hA : BarAt w B A 1 ⟨mk, sz, ct, 0, [d0]⟩) (hd : 1 ≤ d0 ∧ d0 ≤ 262144) :
    Calls Tryz.prog 265 #[barV ⟨mk, sz, ct, 0, [d0]⟩ A 1 c] w (GivesPts (S.moves ⟨mk, sz, ct, 0, [d0]⟩) w) := by
  have hmv : S.moves ⟨mk, sz, ct, 0, [d0]⟩ = [⟨d0, 0, 0⟩] := by simp [S.moves, S.legsOf, S.step]
  obtain ⟨bd, od, rfl, hbd, hcd⟩ := hA.cells.at_ (by simp)
  have g0 := hcd 0 (.int .i64 d0) rfl
  simp only [Nat.add_zero] at g0
  rw [hmv]
  clear hcd hA hmv
  have hn0 : bd < w.heap.size := by omega
  unfold barV
  go_enter Tryz.func265, Tryz.ntmps265
  go_wp2
  go_ret
  refine ⟨some ⟨w.heap.size + 1, 0, none⟩, rfl, ?_, (by repeat (first | exact Below.refl _ _ | assumption | refine ba_alloc ?_ _ | refine ba_drew ?_ | refine ba_drewN ?_ _ | refine ba_via (by assumption) ?_ | (refine ba_set ?_ ?_ _; rotate_left; (first | omega | (simp; omega) | simp)))), by simp; omega⟩
  simpa using Cells.newRow (w.alloc (.cells #[.string mk, .int .i64 sz, .int .i64 ct, .int .i64 0, .slice (some ⟨bd, od, none⟩) 1 c] 158)) #[.int .i64 (d0), .int .i64 (0), .int .i64 (0)] 87 (0, 0)
set_option maxRecDepth 100000 in
set_option maxHeartbeats 2000000 in
theorem rmoves_11 (mk : ByteArray) (sz ct : Int) (d0 d1 : Int) (A : Option Addr) (c : Nat) (B : Nat) (w : World) (hB : B ≤ w.heap.size) (hA : BarAt w B A 2 ⟨mk, sz, ct, 11, [d0, d1]⟩) (hd : 1 ≤ d0 ∧ d0 ≤ 262144 ∧ 1 ≤ d1 ∧ d1 ≤ 262144) :
    Calls Tryz.prog 265 #[barV ⟨mk, sz, ct, 11, [d0, d1]⟩ A 2 c] w (GivesPts (S.moves ⟨mk, sz, ct, 11, [d0, d1]⟩) w) := by
  have hmv : S.moves ⟨mk, sz, ct, 11, [d0, d1]⟩ = [⟨d0, 0, 0⟩, ⟨0, d1, 0⟩] := by simp [S.moves, S.legsOf, S.step]
  obtain ⟨bd, od, rfl, hbd, hcd⟩ := hA.cells.at_ (by simp)
  have g0 := hcd 0 (.int .i64 d0) rfl
  have g1 := hcd 1 (.int .i64 d1) rfl
  simp only [Nat.add_zero] at g0
  rw [hmv]
  clear hcd hA hmv
  have hn0 : bd < w.heap.size := by omega
  unfold barV
  go_enter Tryz.func265, Tryz.ntmps265
  go_wp2
  refine wp_region_grow_tail 8 (by kernel_rfl) (by kernel_rfl) ?_
  simp only [List.take_succ_cons, List.take_zero, List.drop_succ_cons, List.drop_zero]
  repeat (go_big_quiet_step (fail))
  all_goals (refine wpQuiet_nil ?_; intro wg hbwg; obtain ⟨hcwg, hfwg⟩ := bcell hbwg; have hzwg_0 : w.heap.size < wg.heap.size := lt_via hbwg (by first | omega | (simp; done) | (simp; omega)))
  go_wp2
  go_ret
  refine ⟨some ⟨wg.heap.size, 0, none⟩, rfl, ?_, (by repeat (first | exact Below.refl _ _ | assumption | refine ba_alloc ?_ _ | refine ba_drew ?_ | refine ba_drewN ?_ _ | refine ba_via (by assumption) ?_ | (refine ba_set ?_ ?_ _; rotate_left; (first | omega | (simp; omega) | simp)))), by simp; omega⟩
  simpa using Cells.newRow wg #[.int .i64 (d0), .int .i64 (0), .int .i64 (0), .int .i64 (0), .int .i64 (d1), .int .i64 (0)] 87 (0, 0)
set_option maxRecDepth 100000 in
set_option maxHeartbeats 2000000 in
theorem rmoves_21 (mk : ByteArray) (sz ct : Int) (d0 d1 d2 : Int) (A : Option Addr) (c : Nat) (B : Nat) (w : World) (hB : B ≤ w.heap.size) (hA : BarAt w B A 3 ⟨mk, sz, ct, 21, [d0, d1, d2]⟩) (hd : 1 ≤ d0 ∧ d0 ≤ 262144 ∧ 1 ≤ d1 ∧ d1 ≤ 262144 ∧ 1 ≤ d2 ∧ d2 ≤ 262144) :
    Calls Tryz.prog 265 #[barV ⟨mk, sz, ct, 21, [d0, d1, d2]⟩ A 3 c] w (GivesPts (S.moves ⟨mk, sz, ct, 21, [d0, d1, d2]⟩) w) := by
  have hmv : S.moves ⟨mk, sz, ct, 21, [d0, d1, d2]⟩ = [⟨0, -d0, 0⟩, ⟨d1, 0, 0⟩, ⟨0, d2, 0⟩] := by simp [S.moves, S.legsOf, S.step]
  obtain ⟨bd, od, rfl, hbd, hcd⟩ := hA.cells.at_ (by simp)
  have g0 := hcd 0 (.int .i64 d0) rfl
  have g1 := hcd 1 (.int .i64 d1) rfl
  have g2 := hcd 2 (.int .i64 d2) rfl
  simp only [Nat.add_zero] at g0
  rw [hmv]
  clear hcd hA hmv
  have hn0 : bd < w.heap.size := by omega
  have hw0 : IntKind.i64.wrap (-d0) = -d0 := IntWalk.i64_in _ (by omega)
  unfold barV
  go_enter Tryz.func265, Tryz.ntmps265
  go_wp2
  refine wp_region_grow_tail 13 (by kernel_rfl) (by kernel_rfl) ?_
  simp only [List.take_succ_cons, List.take_zero, List.drop_succ_cons, List.drop_zero]
  repeat (go_big_quiet_step (fail))
  all_goals (refine wpQuiet_nil ?_; intro wg hbwg; obtain ⟨hcwg, hfwg⟩ := bcell hbwg; have hzwg_0 : w.heap.size < wg.heap.size := lt_via hbwg (by first | omega | (simp; done) | (simp; omega)))
  go_wp2
  go_ret
  refine ⟨some ⟨wg.heap.size, 0, none⟩, rfl, ?_, (by repeat (first | exact Below.refl _ _ | assumption | refine ba_alloc ?_ _ | refine ba_drew ?_ | refine ba_drewN ?_ _ | refine ba_via (by assumption) ?_ | (refine ba_set ?_ ?_ _; rotate_left; (first | omega | (simp; omega) | simp)))), by simp; omega⟩
  simpa using Cells.newRow wg #[.int .i64 (0), .int .i64 (-d0), .int .i64 (0), .int .i64 (d1), .int .i64 (0), .int .i64 (0), .int .i64 (0), .int .i64 (d2), .int .i64 (0)] 87 (0, 0)
set_option maxRecDepth 100000 in
set_option maxHeartbeats 2000000 in
theorem rmoves_26 (mk : ByteArray) (sz ct : Int) (d0 d1 d2 : Int) (A : Option Addr) (c : Nat) (B : Nat) (w : World) (hB : B ≤ w.heap.size) (hA : BarAt w B A 3 ⟨mk, sz, ct, 26, [d0, d1, d2]⟩) (hd : 1 ≤ d0 ∧ d0 ≤ 262144 ∧ 1 ≤ d1 ∧ d1 ≤ 262144 ∧ 1 ≤ d2 ∧ d2 ≤ 262144) :
    Calls Tryz.prog 265 #[barV ⟨mk, sz, ct, 26, [d0, d1, d2]⟩ A 3 c] w (GivesPts (S.moves ⟨mk, sz, ct, 26, [d0, d1, d2]⟩) w) := by
  have hmv : S.moves ⟨mk, sz, ct, 26, [d0, d1, d2]⟩ = [⟨d0, 0, 0⟩, ⟨0, d1, 0⟩, ⟨d2, 0, 0⟩] := by simp [S.moves, S.legsOf, S.step]
  obtain ⟨bd, od, rfl, hbd, hcd⟩ := hA.cells.at_ (by simp)
  have g0 := hcd 0 (.int .i64 d0) rfl
  have g1 := hcd 1 (.int .i64 d1) rfl
  have g2 := hcd 2 (.int .i64 d2) rfl
  simp only [Nat.add_zero] at g0
  rw [hmv]
  clear hcd hA hmv
  have hn0 : bd < w.heap.size := by omega
  unfold barV
  go_enter Tryz.func265, Tryz.ntmps265
  go_wp2
  refine wp_region_grow_tail 12 (by kernel_rfl) (by kernel_rfl) ?_
  simp only [List.take_succ_cons, List.take_zero, List.drop_succ_cons, List.drop_zero]
  repeat (go_big_quiet_step (fail))
  all_goals (refine wpQuiet_nil ?_; intro wg hbwg; obtain ⟨hcwg, hfwg⟩ := bcell hbwg; have hzwg_0 : w.heap.size < wg.heap.size := lt_via hbwg (by first | omega | (simp; done) | (simp; omega)))
  go_wp2
  go_ret
  refine ⟨some ⟨wg.heap.size, 0, none⟩, rfl, ?_, (by repeat (first | exact Below.refl _ _ | assumption | refine ba_alloc ?_ _ | refine ba_drew ?_ | refine ba_drewN ?_ _ | refine ba_via (by assumption) ?_ | (refine ba_set ?_ ?_ _; rotate_left; (first | omega | (simp; omega) | simp)))), by simp; omega⟩
  simpa using Cells.newRow wg #[.int .i64 (d0), .int .i64 (0), .int .i64 (0), .int .i64 (0), .int .i64 (d1), .int .i64 (0), .int .i64 (d2), .int .i64 (0), .int .i64 (0)] 87 (0, 0)
set_option maxRecDepth 100000 in
set_option maxHeartbeats 2000000 in
theorem rmoves_31 (mk : ByteArray) (sz ct : Int) (d0 d1 d2 : Int) (A : Option Addr) (c : Nat) (B : Nat) (w : World) (hB : B ≤ w.heap.size) (hA : BarAt w B A 3 ⟨mk, sz, ct, 31, [d0, d1, d2]⟩) (hd : 1 ≤ d0 ∧ d0 ≤ 262144 ∧ 1 ≤ d1 ∧ d1 ≤ 262144 ∧ 1 ≤ d2 ∧ d2 ≤ 262144) :
    Calls Tryz.prog 265 #[barV ⟨mk, sz, ct, 31, [d0, d1, d2]⟩ A 3 c] w (GivesPts (S.moves ⟨mk, sz, ct, 31, [d0, d1, d2]⟩) w) := by
  have hmv : S.moves ⟨mk, sz, ct, 31, [d0, d1, d2]⟩ = [⟨d0, 0, 0⟩, ⟨0, d1, 0⟩, ⟨0, 0, d2⟩] := by simp [S.moves, S.legsOf, S.step]
  obtain ⟨bd, od, rfl, hbd, hcd⟩ := hA.cells.at_ (by simp)
  have g0 := hcd 0 (.int .i64 d0) rfl
  have g1 := hcd 1 (.int .i64 d1) rfl
  have g2 := hcd 2 (.int .i64 d2) rfl
  simp only [Nat.add_zero] at g0
  rw [hmv]
  clear hcd hA hmv
  have hn0 : bd < w.heap.size := by omega
  unfold barV
  go_enter Tryz.func265, Tryz.ntmps265
  go_wp2
  refine wp_region_grow_tail 12 (by kernel_rfl) (by kernel_rfl) ?_
  simp only [List.take_succ_cons, List.take_zero, List.drop_succ_cons, List.drop_zero]
  repeat (go_big_quiet_step (fail))
  all_goals (refine wpQuiet_nil ?_; intro wg hbwg; obtain ⟨hcwg, hfwg⟩ := bcell hbwg; have hzwg_0 : w.heap.size < wg.heap.size := lt_via hbwg (by first | omega | (simp; done) | (simp; omega)))
  go_wp2
  go_ret
  refine ⟨some ⟨wg.heap.size, 0, none⟩, rfl, ?_, (by repeat (first | exact Below.refl _ _ | assumption | refine ba_alloc ?_ _ | refine ba_drew ?_ | refine ba_drewN ?_ _ | refine ba_via (by assumption) ?_ | (refine ba_set ?_ ?_ _; rotate_left; (first | omega | (simp; omega) | simp)))), by simp; omega⟩
  simpa using Cells.newRow wg #[.int .i64 (d0), .int .i64 (0), .int .i64 (0), .int .i64 (0), .int .i64 (d1), .int .i64 (0), .int .i64 (0), .int .i64 (0), .int .i64 (d2)] 87 (0, 0)
set_option maxRecDepth 100000 in
set_option maxHeartbeats 2000000 in
theorem rmoves_41 (mk : ByteArray) (sz ct : Int) (d0 d1 d2 d3 d4 : Int) (A : Option Addr) (c : Nat) (B : Nat) (w : World) (hB : B ≤ w.heap.size) (hA : BarAt w B A 5 ⟨mk, sz, ct, 41, [d0, d1, d2, d3, d4]⟩) (hd : 1 ≤ d0 ∧ d0 ≤ 262144 ∧ 1 ≤ d1 ∧ d1 ≤ 262144 ∧ 1 ≤ d2 ∧ d2 ≤ 262144 ∧ 1 ≤ d3 ∧ d3 ≤ 262144 ∧ 1 ≤ d4 ∧ d4 ≤ 262144) :
    Calls Tryz.prog 265 #[barV ⟨mk, sz, ct, 41, [d0, d1, d2, d3, d4]⟩ A 5 c] w (GivesPts (S.moves ⟨mk, sz, ct, 41, [d0, d1, d2, d3, d4]⟩) w) := by
  have hmv : S.moves ⟨mk, sz, ct, 41, [d0, d1, d2, d3, d4]⟩ = [⟨d0, 0, 0⟩, ⟨0, d1, 0⟩, ⟨d2, 0, 0⟩, ⟨0, -d3, 0⟩, ⟨d4, 0, 0⟩] := by simp [S.moves, S.legsOf, S.step]
  obtain ⟨bd, od, rfl, hbd, hcd⟩ := hA.cells.at_ (by simp)
  have g0 := hcd 0 (.int .i64 d0) rfl
  have g1 := hcd 1 (.int .i64 d1) rfl
  have g2 := hcd 2 (.int .i64 d2) rfl
  have g3 := hcd 3 (.int .i64 d3) rfl
  have g4 := hcd 4 (.int .i64 d4) rfl
  simp only [Nat.add_zero] at g0
  rw [hmv]
  clear hcd hA hmv
  have hn0 : bd < w.heap.size := by omega
  have hw0 : IntKind.i64.wrap (-d3) = -d3 := IntWalk.i64_in _ (by omega)
  unfold barV
  go_enter Tryz.func265, Tryz.ntmps265
  go_wp2
  refine wp_region_grow_tail 21 (by kernel_rfl) (by kernel_rfl) ?_
  simp only [List.take_succ_cons, List.take_zero, List.drop_succ_cons, List.drop_zero]
  repeat (go_big_quiet_step (fail))
  all_goals (refine wpQuiet_nil ?_; intro wg hbwg; obtain ⟨hcwg, hfwg⟩ := bcell hbwg; have hzwg_0 : w.heap.size < wg.heap.size := lt_via hbwg (by first | omega | (simp; done) | (simp; omega)))
  go_wp2
  go_ret
  refine ⟨some ⟨wg.heap.size, 0, none⟩, rfl, ?_, (by repeat (first | exact Below.refl _ _ | assumption | refine ba_alloc ?_ _ | refine ba_drew ?_ | refine ba_drewN ?_ _ | refine ba_via (by assumption) ?_ | (refine ba_set ?_ ?_ _; rotate_left; (first | omega | (simp; omega) | simp)))), by simp; omega⟩
  simpa using Cells.newRow wg #[.int .i64 (d0), .int .i64 (0), .int .i64 (0), .int .i64 (0), .int .i64 (d1), .int .i64 (0), .int .i64 (d2), .int .i64 (0), .int .i64 (0), .int .i64 (0), .int .i64 (-d3), .int .i64 (0), .int .i64 (d4), .int .i64 (0), .int .i64 (0)] 87 (0, 0)
set_option maxRecDepth 100000 in
set_option maxHeartbeats 2000000 in
theorem rmoves_51 (mk : ByteArray) (sz ct : Int) (d0 d1 d2 : Int) (A : Option Addr) (c : Nat) (B : Nat) (w : World) (hB : B ≤ w.heap.size) (hA : BarAt w B A 3 ⟨mk, sz, ct, 51, [d0, d1, d2]⟩) (hd : 1 ≤ d0 ∧ d0 ≤ 262144 ∧ 1 ≤ d1 ∧ d1 ≤ 262144 ∧ 1 ≤ d2 ∧ d2 ≤ 262144) :
    Calls Tryz.prog 265 #[barV ⟨mk, sz, ct, 51, [d0, d1, d2]⟩ A 3 c] w (GivesPts (S.moves ⟨mk, sz, ct, 51, [d0, d1, d2]⟩) w) := by
  have hmv : S.moves ⟨mk, sz, ct, 51, [d0, d1, d2]⟩ = [⟨0, -d2, 0⟩, ⟨d0, 0, 0⟩, ⟨0, d1, 0⟩, ⟨-d0, 0, 0⟩, ⟨0, -d1, 0⟩, ⟨d2, 0, 0⟩] := by simp [S.moves, S.legsOf, S.step]
  obtain ⟨bd, od, rfl, hbd, hcd⟩ := hA.cells.at_ (by simp)
  have g0 := hcd 0 (.int .i64 d0) rfl
  have g1 := hcd 1 (.int .i64 d1) rfl
  have g2 := hcd 2 (.int .i64 d2) rfl
  simp only [Nat.add_zero] at g0
  rw [hmv]
  clear hcd hA hmv
  have hn0 : bd < w.heap.size := by omega
  have hw0 : IntKind.i64.wrap (-d2) = -d2 := IntWalk.i64_in _ (by omega)
  have hw1 : IntKind.i64.wrap (-d0) = -d0 := IntWalk.i64_in _ (by omega)
  have hw2 : IntKind.i64.wrap (-d1) = -d1 := IntWalk.i64_in _ (by omega)
  unfold barV
  go_enter Tryz.func265, Tryz.ntmps265
  go_wp2
  refine wp_region_grow_tail 27 (by kernel_rfl) (by kernel_rfl) ?_
  simp only [List.take_succ_cons, List.take_zero, List.drop_succ_cons, List.drop_zero]
  repeat (go_big_quiet_step (fail))
  all_goals (refine wpQuiet_nil ?_; intro wg hbwg; obtain ⟨hcwg, hfwg⟩ := bcell hbwg; have hzwg_0 : w.heap.size < wg.heap.size := lt_via hbwg (by first | omega | (simp; done) | (simp; omega)))
  go_wp2
  go_ret
  refine ⟨some ⟨wg.heap.size, 0, none⟩, rfl, ?_, (by repeat (first | exact Below.refl _ _ | assumption | refine ba_alloc ?_ _ | refine ba_drew ?_ | refine ba_drewN ?_ _ | refine ba_via (by assumption) ?_ | (refine ba_set ?_ ?_ _; rotate_left; (first | omega | (simp; omega) | simp)))), by simp; omega⟩
  simpa using Cells.newRow wg #[.int .i64 (0), .int .i64 (-d2), .int .i64 (0), .int .i64 (d0), .int .i64 (0), .int .i64 (0), .int .i64 (0), .int .i64 (d1), .int .i64 (0), .int .i64 (-d0), .int .i64 (0), .int .i64 (0), .int .i64 (0), .int .i64 (-d1), .int .i64 (0), .int .i64 (d2), .int .i64 (0), .int .i64 (0)] 87 (0, 0)
set_option maxRecDepth 100000 in
set_option maxHeartbeats 2000000 in
theorem rmoves_98 (mk : ByteArray) (sz ct : Int) (d0 d1 d2 : Int) (A : Option Addr) (c : Nat) (B : Nat) (w : World) (hB : B ≤ w.heap.size) (hA : BarAt w B A 3 ⟨mk, sz, ct, 98, [d0, d1, d2]⟩) (hd : 1 ≤ d0 ∧ d0 ≤ 262144 ∧ 1 ≤ d1 ∧ d1 ≤ 262144 ∧ 1 ≤ d2 ∧ d2 ≤ 262144) :
    Calls Tryz.prog 265 #[barV ⟨mk, sz, ct, 98, [d0, d1, d2]⟩ A 3 c] w (GivesPts (S.moves ⟨mk, sz, ct, 98, [d0, d1, d2]⟩) w) := by
  have hmv : S.moves ⟨mk, sz, ct, 98, [d0, d1, d2]⟩ = [⟨0, 0, d0⟩, ⟨0, -d1, 0⟩, ⟨d2, 0, 0⟩, ⟨0, d1, 0⟩, ⟨0, 0, d0⟩] := by simp [S.moves, S.legsOf, S.step]
  obtain ⟨bd, od, rfl, hbd, hcd⟩ := hA.cells.at_ (by simp)
  have g0 := hcd 0 (.int .i64 d0) rfl
  have g1 := hcd 1 (.int .i64 d1) rfl
  have g2 := hcd 2 (.int .i64 d2) rfl
  simp only [Nat.add_zero] at g0
  rw [hmv]
  clear hcd hA hmv
  have hn0 : bd < w.heap.size := by omega
  have hw0 : IntKind.i64.wrap (-d1) = -d1 := IntWalk.i64_in _ (by omega)
  unfold barV
  go_enter Tryz.func265, Tryz.ntmps265
  go_wp2
  refine wp_region_grow_tail 21 (by kernel_rfl) (by kernel_rfl) ?_
  simp only [List.take_succ_cons, List.take_zero, List.drop_succ_cons, List.drop_zero]
  repeat (go_big_quiet_step (fail))
  all_goals (refine wpQuiet_nil ?_; intro wg hbwg; obtain ⟨hcwg, hfwg⟩ := bcell hbwg; have hzwg_0 : w.heap.size < wg.heap.size := lt_via hbwg (by first | omega | (simp; done) | (simp; omega)))
  go_wp2
  go_ret
  refine ⟨some ⟨wg.heap.size, 0, none⟩, rfl, ?_, (by repeat (first | exact Below.refl _ _ | assumption | refine ba_alloc ?_ _ | refine ba_drew ?_ | refine ba_drewN ?_ _ | refine ba_via (by assumption) ?_ | (refine ba_set ?_ ?_ _; rotate_left; (first | omega | (simp; omega) | simp)))), by simp; omega⟩
  simpa using Cells.newRow wg #[.int .i64 (0), .int .i64 (0), .int .i64 (d0), .int .i64 (0), .int .i64 (-d1), .int .i64 (0), .int .i64 (d2), .int .i64 (0), .int .i64 (0), .int .i64 (0), .int .i64 (d1), .int .i64 (0), .int .i64 (0), .int .i64 (0), .int .i64 (d0)] 87 (0, 0)
theorem rmoves_any (b : Bar) (A : Option Addr) (n c : Nat) (B : Nat) (w : World) (hB : B ≤ w.heap.size) (hA : BarAt w B A n b) (h : S.bar b = true) :
    Calls Tryz.prog 265 #[barV b A n c] w (GivesPts (S.moves b) w) := by
  obtain rfl := hA.len
  obtain ⟨mk, sz, ct, cd, ds⟩ := b
  rcases bar_codes h with ⟨hc, a, e, h1, h2⟩ | ⟨hc, a, a2, e, h1, h2, h3⟩ | ⟨hc, a, a2, a3, e, h1, h2, h3, h4⟩ | ⟨hc, a, a2, a3, a4, a5, e, h1, h2, h3, h4, h5, h6⟩
  · simp only [] at hc e
    subst hc e
    exact rmoves_0 mk sz ct a A c B w hB hA (by omega)
  · simp only [] at hc e
    subst hc e
    exact rmoves_11 mk sz ct a a2 A c B w hB hA (by omega)
  · simp only [] at hc e
    rcases hc with hc | hc | hc | hc | hc <;> subst hc e
    · exact rmoves_21 mk sz ct a a2 a3 A c B w hB hA (by omega)
    · exact rmoves_26 mk sz ct a a2 a3 A c B w hB hA (by omega)
    · exact rmoves_31 mk sz ct a a2 a3 A c B w hB hA (by omega)
    · exact rmoves_51 mk sz ct a a2 a3 A c B w hB hA (by omega)
    · exact rmoves_98 mk sz ct a a2 a3 A c B w hB hA (by omega)
  · simp only [] at hc e
    subst hc e
    exact rmoves_41 mk sz ct a a2 a3 a4 a5 A c B w hB hA (by omega)
def S.abs (n : Int) : Int := if n < 0 then 0 - n else n
end Go.Proofs.YtffkmgjmlahfpaaGreat
set_option linter.unusedVariables false
set_option linter.unusedSimpArgs false
namespace Go.Proofs.YtffkmgjmlahfpaaGreat
open Go.RowKit
theorem move_at (b : Bar) (h : S.bar b = true) {k : Nat} (hk : k < (S.legsOf b.code).length) : ∃ P n, (S.moves b)[k]? = some P ∧ (S.legLens b)[k]? = some n ∧ 1 ≤ n ∧ n ≤ 262144 ∧ Within P 262144 ∧
    S.abs P.x + S.abs P.y + S.abs P.z = n ∧ 0 ≤ S.abs P.x ∧ 0 ≤ S.abs P.y ∧ 0 ≤ S.abs P.z ∧ S.ptAt b (k + 1) = ⟨(S.ptAt b k).x + P.x, (S.ptAt b k).y + P.y, (S.ptAt b k).z + P.z⟩ := by
  obtain ⟨n, _, g2, g3, g4, g5⟩ := lens_get b h hk
  refine ⟨S.step ⟨0, 0, 0⟩ (S.legsOf b.code)[k].2 n, n, ?_, g2, g3, g4, ?_⟩
  · unfold S.legLens at g2
    rw [List.getElem?_map, List.getElem?_eq_getElem hk] at g2
    unfold S.moves
    rw [List.getElem?_map, List.getElem?_eq_getElem hk]
    simp only [Option.map_some, Option.some.injEq] at g2 ⊢
    rw [g2]
  · rw [g5]
    rcases legs_way b.code hk with hw | hw | hw | hw | hw
    all_goals (
      rw [hw]
      refine ⟨?_, ?_, ?_, ?_, ?_, ?_⟩
      · simp [Within, S.step]; omega
      · simp [S.abs, S.step]; try (first | omega | (intro _; omega) | (split <;> omega))
      · simp [S.abs, S.step]; try (first | omega | (intro _; omega) | (split <;> omega))
      · simp [S.abs, S.step]; try (first | omega | (intro _; omega) | (split <;> omega))
      · simp [S.abs, S.step]; try (first | omega | (intro _; omega) | (split <;> omega))
      · simp [S.step]; try omega)
theorem ptAt_in (b : Bar) (h : S.bar b = true) (k : Nat) (hk : k ≤ (S.legsOf b.code).length) : Within (S.ptAt b k) 524288 := by
  have hD := bar_head h
  have hd : ∀ k (hk : k < (S.legsOf b.code).length), (S.legsOf b.code)[k].1 < b.dims.length := fun k hk => by have := legs_dim b.code hk; omega
  have h1 := ptAt_sum h hd k
  have h2 := sum_take_le (lens_pos h) k
  have h3 := (legs_sum h).1
  unfold Within at h1 ⊢
  omega
set_option maxRecDepth 100000 in
set_option maxHeartbeats 2000000 in
theorem rpath_yes (b : Bar) (A : Option Addr) (n c : Nat) (B : Nat) (w : World) (hB : B ≤ w.heap.size) (hA : BarAt w B A n b) (h : S.bar b = true) (L : Nat) (hL : (S.legsOf b.code).length = L) :
    Calls Tryz.prog 234 #[barV b A n c] w fun e w' => ∃ A' c', e = .returned (.slice A' (L + 1) c') ∧ w'.ownsRow w.heap.size 87 3 (.slice A' (L + 1) c') (L + 1) ((S.path b).flatMap ptC) ∧ Below w.heap.size w w' := by
  have HA := Lib.hid hA
  have hl6 := legs_len b.code
  have HM := Lib.hid (show ∀ k, k < (S.legsOf b.code).length → _ from fun k hk => move_at b h hk)
  have HPI := Lib.hid (fun k hk => ptAt_in b h k hk)
  have HML := Lib.hid (moves_len b)
  have HSN := Lib.hid (fun m => pathTo_snoc b m)
  have HPA := Lib.hid (show S.path b = S.pathTo b ((S.legsOf b.code).length + 1) from rfl)
  have HL := Lib.hid hL
  rw [hL] at hl6
  clear hA hL
  unfold barV
  go_enter Tryz.func234, Tryz.ntmps234
  go_wp2_with (go_at_call 265; (with_reducible refine (rmoves_any b A n c B _ (by simp; omega) (BarAt.at_ HA.out hB (by repeat (first | exact Below.refl _ _ | assumption | refine ba_alloc ?_ _ | refine ba_drew ?_ | refine ba_drewN ?_ _ | refine ba_via (by assumption) ?_ | (refine ba_set ?_ ?_ _; rotate_left; (first | omega | (simp; omega) | simp))))) h).mono ?_); rintro e w2 ⟨A2, rfl, hs, hb2, hz2'⟩; obtain ⟨hcw2, hfw2⟩ := bcell hb2; have hz2 : w.heap.size < w2.heap.size := lt_via hb2 (by simp); have hlen : (S.moves b).length = L := HML.out.trans HL.out; simp only [hlen])
  have hbw2 : Below w.heap.size w w2 := (by repeat (first | exact Below.refl _ _ | assumption | refine ba_alloc ?_ _ | refine ba_drew ?_ | refine ba_drewN ?_ _ | refine ba_via (by assumption) ?_ | (refine ba_set ?_ ?_ _; rotate_left; (first | omega | (simp; omega) | simp))))
  have hbw : Below w.heap.size w ((w2.alloc (.cells #[.int .i64 0, .int .i64 0, .int .i64 0] 87)).alloc (.cells #[.int .i64 0, .int .i64 0, .int .i64 0] 87)) := (by repeat (first | exact Below.refl _ _ | assumption | refine ba_alloc ?_ _ | refine ba_drew ?_ | refine ba_drewN ?_ _ | refine ba_via (by assumption) ?_ | (refine ba_set ?_ ?_ _; rotate_left; (first | omega | (simp; omega) | simp))))
  have hK0 : Blk ((w2.alloc (.cells #[.int .i64 0, .int .i64 0, .int .i64 0] 87)).alloc (.cells #[.int .i64 0, .int .i64 0, .int .i64 0] 87)) w2.heap.size 87 #[.int .i64 0, .int .i64 0, .int .i64 0] := (Blk.new _ _ _).alloc _
  have hsM := (hs.alloc (Nat.le_refl _) (.cells #[.int .i64 0, .int .i64 0, .int .i64 0] 87)).alloc (by simp) (.cells #[.int .i64 0, .int .i64 0, .int .i64 0] 87)
  have hrow : Row ((w2.alloc (.cells #[.int .i64 0, .int .i64 0, .int .i64 0] 87)).alloc (.cells #[.int .i64 0, .int .i64 0, .int .i64 0] 87)) ((w2.alloc (.cells #[.int .i64 0, .int .i64 0, .int .i64 0] 87)).alloc (.cells #[.int .i64 0, .int .i64 0, .int .i64 0] 87)) (some (w2.heap.size + 1)) w.heap.size 87 3 (.slice (some ⟨w2.heap.size + 1, 0, none⟩) 1 1) 1 ((S.pathTo b 1).flatMap ptC) := by
    refine ⟨?_, fun k hk => .inl (by simpa [Value.ownBlock] using hk.symm)⟩
    have h1 := World.ownsRow_lit (base := w.heap.size) (e := 87) (size := 3) (w2.alloc (.cells #[.int .i64 0, .int .i64 0, .int .i64 0] 87)) #[.int .i64 0, .int .i64 0, .int .i64 0] 1 (by simp; omega) (by unfold maxLen; omega) rfl
    simpa [S.pathTo, S.ptAt, List.range_succ] using h1
  have hzW : ((w2.alloc (.cells #[.int .i64 0, .int .i64 0, .int .i64 0] 87)).alloc (.cells #[.int .i64 0, .int .i64 0, .int .i64 0] 87)).heap.size = w2.heap.size + 2 := by simp
  clear hcw2 hfw2 hb2
  generalize (w2.alloc (.cells #[.int .i64 0, .int .i64 0, .int .i64 0] 87)).alloc (.cells #[.int .i64 0, .int .i64 0, .int .i64 0] 87) = W0 at *
  go_loopw [5, 6] (fun v i wr => ∃ (k : Nat) (A3 : Option Addr) (c3 : Nat), k ≤ L ∧ i = .int .i64 k ∧ v = .slice A3 (k + 1) c3 ∧ Row W0 wr (some (w2.heap.size + 1)) w.heap.size 87 3 (.slice A3 (k + 1) c3) (k + 1) ((S.pathTo b (k + 1)).flatMap ptC) ∧ Exc [w2.heap.size, w2.heap.size + 1] W0 wr ∧ Blk wr w2.heap.size 87 #[.int .i64 (S.ptAt b k).x, .int .i64 (S.ptAt b k).y, .int .i64 (S.ptAt b k).z]) (fun _ i _ => L - (intOf i).toNat)
  case atStart => exact ⟨0, _, 1, Nat.zero_le _, rfl, rfl, hrow, Exc.refl _ _, hK0⟩
  case round =>
    obtain ⟨k, A3, c3, hk, rfl, rfl, hR, hX, hK⟩ := hrel
    clear hrow hK0
    have hsz := hX.size
    by_cases hlt : k < L
    · have hs' := hsM.below (hX.below (B := w2.heap.size) (by omega) (by intro j hj; simp at hj; omega))
      obtain ⟨b4, o4, rfl, hbl, _⟩ := hs'.at_ (by rw [flat_len ptC 3 ptC_len]; omega)
      obtain ⟨P, q, g1, g2, g3, g4, gw, _, _, _, _, gp⟩ := HM.out k (by have := HL.out; omega)
      obtain ⟨c1, c2, c3'⟩ := hs'.pts g1
      have hin := HPI.out k (by have := HL.out; omega)
      unfold Within at gw hin
      have k0 := hK.cell 0
      have k1 := hK.cell 1
      have k2 := hK.cell 2
      have kf0 := hK.frozen 0
      have kf1 := hK.frozen 1
      have kf2 := hK.frozen 2
      simp only [List.getElem?_toArray, List.getElem?_cons_zero, List.getElem?_cons_succ] at k0 k1 k2
      have hown : ∀ j, Value.ownBlock (.slice A3 (k + 1) c3) = some j → j ≠ w2.heap.size := fun j hj' => by
        rcases hR.place j hj' with h1 | h1
        · injection h1 with h1; omega
        · omega
      have HOWN := Lib.hid hown
      have HST := Lib.hid gp
      have HS1 := Lib.hid (HSN.out (k + 1))
      have hkl : (k : Int) < (L : Int) := by omega
      have hb4r : b4 < wr.heap.size := by omega
      have hg2 : w2.heap.size < wr.heap.size := hK.lt
      clear gp hown g1 g2
      generalize S.ptAt b k = p at *
      have e1 : IntKind.i64.wrap (p.x + P.x) = p.x + P.x := IntWalk.i64_in _ (by omega)
      have e2 : IntKind.i64.wrap (p.y + P.y) = p.y + P.y := IntWalk.i64_in _ (by omega)
      have e3 : IntKind.i64.wrap (p.z + P.z) = p.z + P.z := IntWalk.i64_in _ (by omega)
      go_wp2
      refine wp_region_grow_tail 25 (by kernel_rfl) (by kernel_rfl) ?_
      simp only [List.take_succ_cons, List.take_zero, List.drop_succ_cons, List.drop_zero]
      repeat (go_big_quiet_step (fail))
      all_goals (refine wpQuiet_nil ?_; intro wg hbwg; obtain ⟨hcwg, hfwg⟩ := bcell hbwg)
      have hK2 : Blk ((((wg.setCell ⟨w2.heap.size, 0, none⟩ (.int .i64 (p.x + P.x))).setCell ⟨w2.heap.size, 1, none⟩ (.int .i64 (p.y + P.y))).setCell ⟨w2.heap.size, 2, none⟩ (.int .i64 (p.z + P.z))).alloc (.cells #[.int .i64 (p.x + P.x), .int .i64 (p.y + P.y), .int .i64 (p.z + P.z)] 87)) w2.heap.size 87 #[.int .i64 (p.x + P.x), .int .i64 (p.y + P.y), .int .i64 (p.z + P.z)] := by
        have h6 := (((((hK.via hbwg).set 0 (.int .i64 (p.x + P.x))).set 1 (.int .i64 (p.y + P.y))).set 2 (.int .i64 (p.z + P.z))).alloc (.cells #[.int .i64 (p.x + P.x), .int .i64 (p.y + P.y), .int .i64 (p.z + P.z)] 87))
        simp only [List.setIfInBounds_toArray, List.set_cons_zero, List.set_cons_succ] at h6
        exact h6
      have hg3 : w2.heap.size < wg.heap.size := lt_via hbwg hg2
      go_wp2_with (at_builtin; refine wpList_push rfl (.tmp 43) (.tmp 45) _ rfl elemPt (((((hR.via hbwg).set (p := ⟨w2.heap.size, 0, none⟩) HOWN.out _).set (p := ⟨w2.heap.size, 1, none⟩) HOWN.out _).set (p := ⟨w2.heap.size, 2, none⟩) HOWN.out _).alloc _) (((((Exc.via hbwg hX).set (p := ⟨w2.heap.size, 0, none⟩) (.inl (by simp)) _).set (p := ⟨w2.heap.size, 1, none⟩) (.inl (by simp)) _).set (p := ⟨w2.heap.size, 2, none⟩) (.inl (by simp)) _).alloc _) (by simp) hbw.size rfl wg.heap.size 1 1 [.int .i64 (p.x + P.x), .int .i64 (p.y + P.y), .int .i64 (p.z + P.z)] rfl rfl ?_ (by simp [Value.oneCell']) (by unfold maxLen; omega) (by omega) ?_; (· intro j u hu; have := (Cells.newRow (((wg.setCell ⟨w2.heap.size, 0, none⟩ (.int .i64 (p.x + P.x))).setCell ⟨w2.heap.size, 1, none⟩ (.int .i64 (p.y + P.y))).setCell ⟨w2.heap.size, 2, none⟩ (.int .i64 (p.z + P.z))) #[.int .i64 (p.x + P.x), .int .i64 (p.y + P.y), .int .i64 (p.z + P.z)] 87 (0, 0)).get (k := j) (v := u) hu; simpa using this); intro v' w' hR' hX' hO')
      obtain ⟨A5, c5, rfl, _, _, _⟩ := own_form hR'.own
      go_roundw
      case rel => exact ⟨k + 1, A5, c5, by omega, by go_num, rfl, by rw [HS1.out, HST.out, List.flatMap_append]; exact hR', hX', by rw [HST.out]; exact (hO' _ hK2.lt (fun h => HOWN.out _ h rfl)).trans hK2⟩
      case measure => simp [intOf]; omega
    · have he : k = L := by omega
      have HE := Lib.hid he
      clear he
      go_wp2
      go_ret
      refine ⟨A3, c3, by rw [HE.out]; rfl, ?_, ?_⟩
      · have := hR.own
        rw [HPA.out, HL.out]
        rwa [HE.out] at this
      · exact hbw.trans (hX.below (by have := hbw2.size; omega) (by intro j hj; simp at hj; have := hbw2.size; omega))
end Go.Proofs.YtffkmgjmlahfpaaGreat
set_option linter.unusedVariables false
set_option linter.unusedSimpArgs false
namespace Go.Proofs.YtffkmgjmlahfpaaGreat
open Go.RowKit
section
variable {P : Program} {ops : Array Oper} {md : Region.Mode} {C : World → Prop} {n : Nat}
def sink1B (md : Region.Mode) (ops : Array Oper) (n : Nat) : Bool :=
  (List.range n).all fun i => decide (i < 1) || (List.range (n + 1)).any fun j => decide (i < j) && Region.waitsFor md ops j i
theorem tail_waits1 {listed : Array Bool} (hs : sink1B md ops n = true) (hc : Region.chainB md ops n = true) (hn : n < ops.size) (inv : HeadInv md ops n listed) :
    ∀ (d i : Nat), n - i = d → 1 ≤ i → i < n → listed.getD i true = false → ∀ t, n ≤ t → t ∉ Region.ready md ops listed := by
  intro d
  induction d using Nat.strongRecOn with
  | _ d ih =>
    intro i hd h1i hi hun t ht hr
    obtain ⟨_, ot, hot, hall⟩ := mem_ready.1 hr
    have htlt : t < ops.size := (Array.getElem?_eq_some_iff.1 hot).1
    by_cases htn : t = n
    · subst htn
      have h1 := List.all_eq_true.1 hs i (List.mem_range.2 hi)
      simp only [Bool.or_eq_true, decide_eq_true_eq] at h1
      replace h1 := h1.resolve_left (by omega)
      obtain ⟨j, hj, hj2⟩ := List.any_eq_true.1 h1
      simp only [Bool.and_eq_true, decide_eq_true_eq] at hj2
      obtain ⟨oj, hoj, e, he, hb, hon⟩ := Region.waitsFor_spec hj2.2
      have hjle : j ≤ t := by have := List.mem_range.1 hj; omega
      by_cases hjt : j = t
      · subst hjt
        have : oj = ot := Option.some.inj (hoj.symm.trans hot)
        subst this
        have h2 := hall e he hb
        rw [hon, getD_both hun] at h2
        cases h2
      · cases hl : listed.getD j false with
        | true =>
          have h2 := inv.closed j oj hoj hl e he hb
          rw [hon, getD_both hun] at h2
          cases h2
        | false =>
          have hjs : j < listed.size := by rw [inv.size]; omega
          exact ih (t - j) (by omega) j rfl (by omega) (by omega) (getD_in hjs hl) t (Nat.le_refl _) hr
    · have h1 := List.all_eq_true.1 hc t (List.mem_range.2 htlt)
      simp only [Bool.or_eq_true, decide_eq_true_eq] at h1
      rcases h1 with h1 | h1
      · omega
      · obtain ⟨o', ho', e, he, hb, hon⟩ := Region.waitsFor_spec h1
        have : o' = ot := Option.some.inj (ho'.symm.trans hot)
        subst this
        have h2 := hall e he hb
        rw [hon, getD_both (inv.tail (t - 1) (by omega) (by omega))] at h2
        cases h2
theorem headQ_first1 {i : Nat} {oi : Oper} {v : Value} {L : Array Bool → Act → Prop} (hi : ops[i]? = some oi) (hsel : ∀ (j : Nat) (o : Oper) cs b, ops[j]? = some o → o.op ≠ .select cs b)
    (hs : sink1B md ops n = true) (hc : Region.chainB md ops n = true) (hn : n < ops.size) (h1i : 1 ≤ i) (hin : i < n) (hdone : ∀ listed a, L listed a → ∀ j, j ∈ Region.ready md ops listed → n ≤ j) :
    ∀ (f : Nat) (listed : Array Bool) (a : Act), HeadInv md ops n listed →
      (∀ j oj, ops[j]? = some oj → j ≠ i → listed.getD j true = false → (∀ e ∈ oj.after, Region.binds md e = true → e.on ≠ i) → oi.apart ops oj = true) →
      i ∈ Region.ready md ops listed → YieldsIn P ops C oi v a → headQ P md ops C n L f (listed.setIfInBounds i true) (a.put oi.dst v) → headQ P md ops C n L (f + 1) listed a := by
  intro f
  induction f with
  | zero =>
    intro listed a inv _ hr hy H
    refine ⟨fun h => by rw [h] at hr; exact absurd hr (by simp), fun j hj => ?_⟩
    have hjn : j < n := Nat.lt_of_not_le fun h => tail_waits1 hs hc hn inv _ i rfl h1i hin (mem_ready.1 hr).1 j h hj
    refine ⟨hjn, ?_⟩
    by_cases hji : j = i
    · subst hji
      exact hy.qOp hi H
    · exact absurd (hdone _ _ H j (ready_mono hj hji)) (by omega)
  | succ f ih =>
    intro listed a inv hfree hr hy H
    refine ⟨fun h => by rw [h] at hr; exact absurd hr (by simp), fun j hj => ?_⟩
    have hjn : j < n := Nat.lt_of_not_le fun h => tail_waits1 hs hc hn inv _ i rfl h1i hin (mem_ready.1 hr).1 j h hj
    refine ⟨hjn, ?_⟩
    by_cases hji : j = i
    · subst hji
      exact hy.qOp hi H
    · obtain ⟨hjun, oj, hoj, hall⟩ := mem_ready.1 hj
      have hnot : ∀ e ∈ oj.after, Region.binds md e = true → e.on ≠ i := fun e he hb heq => by
        have h1 := hall e he hb
        rw [heq, getD_both (mem_ready.1 hr).1] at h1
        exact absurd h1 (by simp)
      have h2 := qOp_put hoj (hfree j oj hoj hji hjun hnot) (fun cs b => hsel i oi cs b hi) (fun cs b => hsel j oj cs b hoj) hy (H.2 j (ready_mono hj hji)).2
      refine qOp_mono (fun a' h3 => ih (listed.setIfInBounds j true) a' (inv.set hj hjn) (fun k ok hk hki hun hno => ?_) (ready_mono hr (Ne.symm hji)) h3.1 ?_) h2
      · refine hfree k ok hk hki ?_ hno
        by_cases hjk : j = k
        · subst hjk
          exact hjun
        · rwa [getD_set_ne true hjk] at hun
      · rw [Array.setIfInBounds_comm _ _ hji]
        exact h3.2
theorem headQ_lex1 {g : Nat} {Lq : Act → Prop} (hsel : Region.noSelect ops = true) (hs : sink1B md ops n = true) (hc : Region.chainB md ops n = true) (hn : n < ops.size) :
    ∀ (l : List Oper) (k : Nat) (listed : Array Bool) (a : Act), 1 ≤ k → (∀ j, j < l.length → l[j]? = ops[k + j]?) → k + l.length = n → HeadInv md ops n listed →
    Region.lexHead md ops g l.length k listed = true → wpQuiet P ops C Lq l a →
    headQ P md ops C n (fun listed' a' => Region.seqB md ops g n listed' = true ∧ Lq a') l.length listed a := by
  intro l
  induction l with
  | nil =>
    intro k listed a _ _ hk _ hB h
    obtain rfl : k = n := by simpa using hk
    exact ⟨by simpa [Region.lexHead] using hB, h⟩
  | cons o l ih =>
    intro k listed a hk1 hl hk inv hB h
    have h0 : ops[k]? = some o := by simpa using (hl 0 (by simp)).symm
    simp only [List.length_cons, Region.lexHead, Bool.and_eq_true] at hB
    simp only [List.length_cons] at hk
    have hr' : k ∈ Region.ready md ops listed := by simpa using hB.1.1
    have hst : qOp P ops C k (wpQuiet P ops C Lq l) a := by
      unfold qOp
      simp only [h0]
      exact h
    obtain ⟨v, hy, hK⟩ := yieldsIn_of_qOp h0 hst
    refine headQ_first1 h0 (Region.noSelect_spec hsel) hs hc hn hk1 (by omega) (fun listed' a' hL => seqB_ready hL.1) l.length listed a inv (Region.free_spec h0 hB.1.2) hr' hy ?_
    refine ih (k + 1) _ _ (by omega) (fun j hj => ?_) (by omega) (inv.set hr' (by omega)) hB.2 hK
    have := hl (j + 1) (by simp; omega)
    simpa [Nat.add_assoc, Nat.add_comm 1 j] using this
end
def lexTail1B (md : Region.Mode) (ops : Array Oper) (n : Nat) : Bool :=
  Region.noSelect ops && decide (1 ≤ n) && decide (n < ops.size) && sink1B md ops n && Region.chainB md ops n && Region.free md ops (Array.replicate ops.size false) 0 && (Region.ready md ops (Array.replicate ops.size false)).contains 0 &&
    Region.lexHead md ops (ops.size - n) (n - 1) 1 ((Array.replicate ops.size false).setIfInBounds 0 true)
/-- The first operation yields v in every world; the next ones up to m read or call for plain values; the rest write, in the order of the text. -/
theorem wp_region_grow_tail1 {P : Program} {id : Nat} {Q : Exit → Act → World → Prop} {a : Act} {w : World} {o : Oper} {l : List Oper} {v : Value} (m : Nat) (hm : P.follows .mixedOrders = true) (hB : lexTail1B .any (o :: l).toArray m = true)
    (hQ : ∀ c a w, Q (.panic c) (a.put o.dst v) w → Q (.panic c) a w) (hy : Yields P (o :: l).toArray o v a)
    (h : wpQuiet P (o :: l).toArray (fun w' => ∃ g, w' = grow w g) (fun a' => ∀ w', Below w.heap.size w w' → wpList P (o :: l).toArray Q ((o :: l).drop m) a' w') (((o :: l).take m).drop 1) (a.put o.dst v)) : (Code.region id (o :: l).toArray true).wp P Q a w := by
  simp only [lexTail1B, Bool.and_eq_true, decide_eq_true_eq] at hB
  obtain ⟨⟨⟨⟨⟨⟨⟨hsel, h1⟩, hn⟩, hs⟩, hc⟩, hfr⟩, hrd⟩, hlex⟩ := hB
  have hn' : m < l.length + 1 := by simpa using hn
  have htl : (((o :: l).take m).drop 1).length = m - 1 := by simp; omega
  have hdl : ((o :: l).drop m).length = (o :: l).toArray.size - m := by simp
  have h00 : (o :: l).toArray[0]? = some o := by simp
  have inv0 : HeadInv .any (o :: l).toArray m (Array.replicate (o :: l).toArray.size false) :=
    ⟨by simp, fun j oj _ hl => by rw [getD_replicate_false] at hl; exact absurd hl (by simp), fun t _ ht => getD_in (by simpa using ht) (getD_replicate_false _ _)⟩
  have inv1 := inv0.set (i := 0) (by simpa using hrd) (by omega)
  have H := headQ_lex1 (C := fun w' => ∃ g, w' = grow w g) (md := .any) (g := (o :: l).toArray.size - m) hsel hs hc hn (((o :: l).take m).drop 1) 1 _ (a.put o.dst v) (Nat.le_refl _) (fun j hj => by
    have hj' : j < m - 1 := by rw [htl] at hj; exact hj
    rw [List.getElem?_drop, List.getElem?_take_of_lt (by omega)]; simp) (by rw [htl]; omega) inv1 (by rw [htl]; exact hlex) h
  refine wp_region_any hm ?_
  have h3 := headQ_any (Q' := Q) (g := (o :: l).toArray.size - m) (fun listed a' w' hw' hL => by
    obtain ⟨g, rfl⟩ := hw'
    have := wpAny_of_seq (md := .any) (Q' := Q) ((o :: l).drop m) m listed a' (grow w g) (fun j => by simp [List.getElem?_drop]) (by rw [hdl]; exact hL.1) (hL.2 _ (grow_below w g))
    rwa [hdl] at this) _ _ _ w.drew ⟨w.drew, (grow_eq (Below.drew (Below.refl _ _))).symm⟩ H
  have h4 := wpAny_take (Q := Q) h00 hsel hfr hrd hQ hy h3
  rw [htl, show m - 1 + ((o :: l).toArray.size - m) + 1 = (o :: l).toArray.size by omega] at h4
  exact h4
end Go.Proofs.YtffkmgjmlahfpaaGreat
set_option linter.unusedVariables false
set_option linter.unusedSimpArgs false
namespace Go.Proofs.YtffkmgjmlahfpaaGreat
open Go.RowKit
theorem path_in {b : Bar} (h : S.bar b = true) {i : Nat} {p : Pt} (hp : (S.path b)[i]? = some p) : S.near1 p 1048576 = true := by
  obtain ⟨hi, rfl⟩ := List.getElem?_eq_some_iff.1 hp
  exact near_in (path_near h) hi
theorem laidPath_len (b : Bar) (r : Rn) (k : Nat) : (S.laidPath b r k).length = (S.legsOf b.code).length + 1 := by
  unfold S.laidPath; rw [List.length_map, path_len]
theorem plus_times (a s : Pt) (k : Int) : S.padd a (S.times k s) = S.plus a s k := rfl
theorem placed_padd (x y : Int) (a p : Pt) : S.padd a (S.image x y p) = S.placed x y a p := rfl
theorem times_lim {n : Int} {p : Pt} (hn : 0 ≤ n ∧ n ≤ 1000) (hp : S.near1 p 2097152 = true) : S.near1 (S.times n p) 2097152000 = true := by
  obtain ⟨hx, hy, hz⟩ := near1_out hp
  have hm : ∀ q : Int, -2097152 ≤ q ∧ q ≤ 2097152 → -2097152000 ≤ n * q ∧ n * q ≤ 2097152000 := fun q hq => by
    have h1 : n * q ≤ n * 2097152 := Int.mul_le_mul_of_nonneg_left hq.2 hn.1
    have h2 : n * (-2097152) ≤ n * q := Int.mul_le_mul_of_nonneg_left hq.1 hn.1
    omega
  have a1 := hm _ hx
  have a2 := hm _ hy
  have a3 := hm _ hz
  rw [show S.times n p = ⟨n * p.x, n * p.y, n * p.z⟩ from rfl]
  simp only [S.near1, Bool.and_eq_true, decide_eq_true_eq]
  generalize n * p.x = u1 at *
  generalize n * p.y = u2 at *
  generalize n * p.z = u3 at *
  omega
theorem Exc.of_below1 {M : List Nat} {W w : World} (h : Below W.heap.size W w) : Exc M W w := ⟨h.os, h.tape, h.output, h.size, fun k hk _ => h.block k hk⟩
set_option maxRecDepth 20000 in
set_option maxHeartbeats 4000000 in
theorem rpoints_any (b : Bar) (r : Rn) (k0 : Nat) (A : Option Addr) (n c : Nat) (B : Nat) (w : World) (hB : B ≤ w.heap.size) (hA : BarAt w B A n b) (h : S.bar b = true) (ht : S.turn r.tx r.ty = true) (ha : S.near1 r.at_ 1048576 = true)
    (hk0 : k0 ≤ 1000) (hst : 0 < k0 → S.near1 r.step 2097152 = true) (L : Nat) (hL : (S.legsOf b.code).length = L) :
    Calls Tryz.prog 179 #[barV b A n c, rnV r, .int .i64 k0] w (GivesOne 87 3 (L + 1) ((S.laidPath b r k0).flatMap ptC) w) := by
  have HP := Lib.hid (fun (W : World) (hw : B ≤ W.heap.size) (hh : BarAt W B A n b) => rpath_yes b A n c B W hw hh h L hL)
  have HA := Lib.hid hA
  have hl6 := legs_len b.code
  rw [hL] at hl6
  have HLP := Lib.hid (show (S.path b).length = L + 1 by rw [path_len, hL])
  have HPI := Lib.hid (fun (i : Nat) (p : Pt) (hp : (S.path b)[i]? = some p) => path_in h hp)
  have HIM := Lib.hid (fun (p : Pt) (hp : S.near1 p 1048576 = true) (w : World) => rimage_any r.tx r.ty ht p hp w)
  have hAT : S.near1 (S.plus r.at_ r.step k0) 2098200576 = true := by
    by_cases hk : 0 < k0
    · have := padd_near ha (times_lim (n := k0) (by omega) (hst hk))
      exact near1_mono0 this (by omega)
    · have : k0 = 0 := by omega
      subst this
      have e : S.plus r.at_ r.step ((0 : Nat) : Int) = r.at_ := by simp [S.plus]
      rw [e]
      exact near1_mono0 ha (by omega)
  have HPL := Lib.hid (fun (p : Pt) (hp : S.near1 p 1048576 = true) (w : World) => rplus_any (S.plus r.at_ r.step k0) (S.image r.tx r.ty p) (near1_mono0 (padd_near hAT (image_near ht hp)) (by omega)) w)
  have HLD := Lib.hid (show S.laidPath b r k0 = (S.path b).map (fun p => S.padd (S.plus r.at_ r.step k0) (S.image r.tx r.ty p)) from rfl)
  have HTM := Lib.hid (fun (hk : 0 < k0) (w : World) => rtimes16_any r.step k0 (near1_mono0 (times_lim (n := k0) (by omega) (hst hk)) (by omega)) w)
  have HAD := Lib.hid (fun (hk : 0 < k0) (w : World) => rplus_any r.at_ (S.times k0 r.step) (near1_mono0 (padd_near ha (times_lim (n := k0) (by omega) (hst hk))) (by omega)) w)
  have HZ := Lib.hid (fun (hk : ¬ 0 < k0) => show S.plus r.at_ r.step k0 = r.at_ by
    have : k0 = 0 := by omega
    subst this
    simp [S.plus])
  clear hA h ht ha hst hL hAT
  rw [HLD.out]
  unfold ptV at HIM HPL HTM HAD
  unfold turnV at HIM
  unfold barV at HP
  unfold barV rnV
  go_enter Tryz.func179, Tryz.ntmps179
  go_upto_region 3 with (first
    | (go_at_call 234; (with_reducible refine (HP.out _ (size_via hB (by repeat (first | exact Below.refl _ _ | assumption | refine ba_alloc ?_ _ | refine ba_drew ?_ | refine ba_drewN ?_ _ | refine ba_via (by assumption) ?_ | (refine ba_set ?_ ?_ _; rotate_left; (first | omega | (simp; omega) | simp))))) (HA.out.at_ hB (by repeat (first | exact Below.refl _ _ | assumption | refine ba_alloc ?_ _ | refine ba_drew ?_ | refine ba_drewN ?_ _ | refine ba_via (by assumption) ?_ | (refine ba_set ?_ ?_ _; rotate_left; (first | omega | (simp; omega) | simp)))))).mono ?_); rintro e w1 ⟨Aw1, cw1, rfl, how1, hbw1⟩; obtain ⟨hcw1, hfw1⟩ := bcell hbw1; have hzw1_0 : w.heap.size < w1.heap.size := lt_via hbw1 (by first | omega | (simp; done) | (simp; omega)); have hzw1_1 : w.heap.size + 1 < w1.heap.size := lt_via hbw1 (by first | omega | (simp; done) | (simp; omega))))
  have hbel1 : Below w.heap.size w w1 := (by repeat (first | exact Below.refl _ _ | assumption | refine ba_alloc ?_ _ | refine ba_drew ?_ | refine ba_drewN ?_ _ | refine ba_via (by assumption) ?_ | (refine ba_set ?_ ?_ _; rotate_left; (first | omega | (simp; omega) | simp))))
  have hK1 : Blk (w1.alloc (.cells #[.int .i64 r.at_.x, .int .i64 r.at_.y, .int .i64 r.at_.z] 87)) w1.heap.size 87 #[.int .i64 r.at_.x, .int .i64 r.at_.y, .int .i64 r.at_.z] := Blk.new _ _ _
  have hRB1 : Blk (w1.alloc (.cells #[.int .i64 r.at_.x, .int .i64 r.at_.y, .int .i64 r.at_.z] 87)) (w.heap.size + 1) 183 #[.string r.mark, .int .i64 r.tx, .int .i64 r.ty, .int .i64 r.at_.x, .int .i64 r.at_.y, .int .i64 r.at_.z, .int .i64 r.step.x, .int .i64 r.step.y, .int .i64 r.step.z, .int .i64 r.count] :=
    (Blk.via (by simpa using Blk.new (w.alloc (.cells #[.string b.mark, .int .i64 b.size, .int .i64 b.count, .int .i64 b.code, .slice A n c] 158)) 183 #[.string r.mark, .int .i64 r.tx, .int .i64 r.ty, .int .i64 r.at_.x, .int .i64 r.at_.y, .int .i64 r.at_.z, .int .i64 r.step.x, .int .i64 r.step.y, .int .i64 r.step.z, .int .i64 r.count]) hbw1).alloc _
  have hsP := ((own_cells how1 (by unfold maxLen; omega)).1).alloc (Nat.le_refl _) (.cells #[.int .i64 r.at_.x, .int .i64 r.at_.y, .int .i64 r.at_.z] 87)
  have hbel : Below w.heap.size w (w1.alloc (.cells #[.int .i64 r.at_.x, .int .i64 r.at_.y, .int .i64 r.at_.z] 87)) := ba_alloc hbel1 _
  have hz11 : w1.heap.size < (w1.alloc (.cells #[.int .i64 r.at_.x, .int .i64 r.at_.y, .int .i64 r.at_.z] 87)).heap.size := by simp
  clear hcw1 hfw1 how1 hbw1 HP HA
  generalize (w1.alloc (.cells #[.int .i64 r.at_.x, .int .i64 r.at_.y, .int .i64 r.at_.z] 87)) = W1 at *
  have hrl := hRB1.lt
  by_cases hk : 0 < k0
  case' pos =>
    have hki : (0 : Int) < (k0 : Int) := by omega
    have HTMk := Lib.hid (HTM.out hk)
    have HADk := Lib.hid (HAD.out hk)
    have r6 := hRB1.cell 6
    have r7 := hRB1.cell 7
    have r8 := hRB1.cell 8
    have q0 := hK1.cell 0
    have q1 := hK1.cell 1
    have q2 := hK1.cell 2
    simp only [List.getElem?_toArray, List.getElem?_cons_zero, List.getElem?_cons_succ] at r6 r7 r8 q0 q1 q2
    have f0 := hK1.frozen 0
    have f1 := hK1.frozen 1
    have f2 := hK1.frozen 2
    rw [plus_times] at HADk
    generalize S.times k0 r.step = T at *
    generalize hQ : S.plus r.at_ r.step k0 = Q at *
    have HQ := Lib.hid hQ
    clear hQ
    go_wp2
    refine wp_region_grow_tail 6 (by kernel_rfl) (by kernel_rfl) ?_
    simp only [List.take_succ_cons, List.take_zero, List.drop_succ_cons, List.drop_zero]
    repeat (go_big_quiet_step ((first
      | (go_at_call 236; with_reducible exact grow_of (HTMk.out _))
      | (go_at_call 235; with_reducible exact grow_of (HADk.out _)))))
    all_goals (refine wpQuiet_nil ?_; intro wg hbwg; obtain ⟨hcwg, hfwg⟩ := bcell hbwg)
    go_upto_region 5 with fail
    have hK2 : Blk (((wg.setCell ⟨w1.heap.size, 0, none⟩ (.int .i64 Q.x)).setCell ⟨w1.heap.size, 1, none⟩ (.int .i64 Q.y)).setCell ⟨w1.heap.size, 2, none⟩ (.int .i64 Q.z)) w1.heap.size 87 #[.int .i64 Q.x, .int .i64 Q.y, .int .i64 Q.z] := by
      have h6 := (((hK1.via hbwg).set 0 (.int .i64 Q.x)).set 1 (.int .i64 Q.y)).set 2 (.int .i64 Q.z)
      simp only [List.setIfInBounds_toArray, List.set_cons_zero, List.set_cons_succ] at h6
      exact h6
    have hne : w.heap.size + 1 ≠ w1.heap.size := by omega
    have hRB2 : Blk (((wg.setCell ⟨w1.heap.size, 0, none⟩ (.int .i64 Q.x)).setCell ⟨w1.heap.size, 1, none⟩ (.int .i64 Q.y)).setCell ⟨w1.heap.size, 2, none⟩ (.int .i64 Q.z)) (w.heap.size + 1) 183 #[.string r.mark, .int .i64 r.tx, .int .i64 r.ty, .int .i64 r.at_.x, .int .i64 r.at_.y, .int .i64 r.at_.z, .int .i64 r.step.x, .int .i64 r.step.y, .int .i64 r.step.z, .int .i64 r.count] := (((hRB1.via hbwg).far hne _).far hne _).far hne _
    have hX2 : Exc [w1.heap.size] W1 (((wg.setCell ⟨w1.heap.size, 0, none⟩ (.int .i64 Q.x)).setCell ⟨w1.heap.size, 1, none⟩ (.int .i64 Q.y)).setCell ⟨w1.heap.size, 2, none⟩ (.int .i64 Q.z)) := (((Exc.of_below1 hbwg).set (.inl (by simp)) _).set (.inl (by simp)) _).set (.inl (by simp)) _
    have hb2 : Below w.heap.size w (((wg.setCell ⟨w1.heap.size, 0, none⟩ (.int .i64 Q.x)).setCell ⟨w1.heap.size, 1, none⟩ (.int .i64 Q.y)).setCell ⟨w1.heap.size, 2, none⟩ (.int .i64 Q.z)) := hbel.trans (hX2.below hbel.size (by intro g hg; simp at hg; have := hbel1.size; omega))
    have hs2 := hsP.below (hX2.below (B := w1.heap.size) (by omega) (by intro g hg; simp at hg; omega))
    have hz2 : w1.heap.size < (((wg.setCell ⟨w1.heap.size, 0, none⟩ (.int .i64 Q.x)).setCell ⟨w1.heap.size, 1, none⟩ (.int .i64 Q.y)).setCell ⟨w1.heap.size, 2, none⟩ (.int .i64 Q.z)).heap.size := hK2.lt
    clear hcwg hfwg r6 r7 r8 q0 q1 q2 f0 f1 f2 HTMk HADk hK1 hRB1 hX2
    clear hbwg hsP
    generalize (((wg.setCell ⟨w1.heap.size, 0, none⟩ (.int .i64 Q.x)).setCell ⟨w1.heap.size, 1, none⟩ (.int .i64 Q.y)).setCell ⟨w1.heap.size, 2, none⟩ (.int .i64 Q.z)) = W2 at *
  case' neg =>
    have hb2 := hbel
    have hz2 := hz11
    have hK2 := hK1
    have hRB2 := hRB1
    have hs2 := hsP
    rw [← HZ.out hk] at hK2
    clear hK1 hRB1 hbel hsP
    generalize hQ : S.plus r.at_ r.step k0 = Q at *
    have HQ := Lib.hid hQ
    clear hQ
    generalize W1 = W2 at *
    have hki : ¬ (0 : Int) < (k0 : Int) := by omega
  all_goals (
    have hHL := Lib.hid (show ∀ i (p : Pt), (S.path b)[i]? = some p → (((S.path b).take (i + 1)).map (fun p => S.padd Q (S.image r.tx r.ty p))).flatMap ptC = (((S.path b).take i).map (fun p => S.padd Q (S.image r.tx r.ty p))).flatMap ptC ++ ptC (S.padd Q (S.image r.tx r.ty p)) from fun i p hp => by
      obtain ⟨hi, rfl⟩ := List.getElem?_eq_some_iff.1 hp
      rw [List.take_succ_eq_append_getElem hi, List.map_append, List.flatMap_append]
      simp)
    have hL6 := hl6
    have hrl2 := hRB2.lt
    go_wp2
    go_loopw [9, 10] (fun v i wr => ∃ (k : Nat) (A3 : Option Addr) (c3 : Nat), k ≤ L + 1 ∧ i = .int .i64 k ∧ v = .slice A3 k c3 ∧ Row W2 wr none w.heap.size 87 3 (.slice A3 k c3) k ((((S.path b).take k).map (fun p => S.padd Q (S.image r.tx r.ty p))).flatMap ptC) ∧ Exc [] W2 wr) (fun _ i _ => L + 1 - (intOf i).toNat)
    case atStart => exact ⟨0, none, 0, Nat.zero_le _, rfl, rfl, by simpa using Row.none_ _ _ _ _, Exc.refl _ _⟩
    case round =>
      obtain ⟨k, A3, c3, hk, rfl, rfl, hR, hX⟩ := hrel
      have hbx : Below W2.heap.size W2 wr := hX.below (Nat.le_refl _) (by simp)
      by_cases hlt : k < L + 1
      · have hkx : k < (S.path b).length := by have := HLP.out; omega
        have hs' := hs2.below (hbx.mono (Nat.le_of_lt hz2))
        obtain ⟨b4, o4, rfl, hbl, _⟩ := hs'.at_ (by rw [flat_len ptC 3 ptC_len]; omega)
        obtain ⟨c0, c1, c2⟩ := hs'.pts (List.getElem?_eq_getElem hkx)
        have HT := Lib.hid (hHL.out k _ (List.getElem?_eq_getElem hkx))
        have hpi := HPI.out k _ (List.getElem?_eq_getElem hkx)
        have HIMk := Lib.hid (HIM.out _ hpi)
        have HPLk := Lib.hid (HPL.out _ hpi)
        clear hs' hpi
        generalize (S.path b)[k] = p at *
        generalize S.image r.tx r.ty p = I at *
        generalize S.padd Q I = R at *
        have hsz := hbx.size
        have q0 := (hK2.via hbx).cell 0
        have q1 := (hK2.via hbx).cell 1
        have q2 := (hK2.via hbx).cell 2
        have r1 := (hRB2.via hbx).cell 1
        have r2 := (hRB2.via hbx).cell 2
        simp only [List.getElem?_toArray, List.getElem?_cons_zero, List.getElem?_cons_succ] at q0 q1 q2 r1 r2
        have hl1 : b4 < wr.heap.size := by omega
        have hl2 : w1.heap.size < wr.heap.size := by omega
        have hl3 : w.heap.size + 1 < wr.heap.size := by omega
        have hki : (k : Int) < ((L + 1 : Nat) : Int) := by omega
        have hk8 : k ≤ 8 := by omega
        go_wp2
        refine wp_region_grow_tail1 10 (by kernel_rfl) (by kernel_rfl) (fun _ _ _ h => h) (Or.inl ⟨by rfl, fun _ => by rfl⟩) ?_
        simp only [List.take_succ_cons, List.take_zero, List.drop_succ_cons, List.drop_zero, go_sem, List.setIfInBounds_toArray, List.set_cons_succ, List.set_cons_zero, Array.getD_eq_getD_getElem?, List.getElem?_toArray, List.getElem?_cons_succ, List.getElem?_cons_zero, Option.getD_some]
        repeat (go_big_quiet_step ((first
          | (go_at_call 237; with_reducible exact grow_of (HIMk.out _))
          | (go_at_call 235; with_reducible exact grow_of (HPLk.out _)))))
        all_goals (refine wpQuiet_nil ?_; intro wg hbwg; obtain ⟨hcwg, hfwg⟩ := bcell hbwg)
        go_wp2_with (at_builtin; refine wpList_push rfl (.tmp 29) (.tmp 39) _ rfl elemPt ((hR.via hbwg).alloc _) ((Exc.via hbwg hX).alloc _) (by simp) hb2.size rfl (wg.heap.size) 1 1 [.int .i64 R.x, .int .i64 R.y, .int .i64 R.z] rfl rfl ?_ (by simp [Value.oneCell']) (by unfold maxLen; omega) (by omega) ?_; (· intro j u hu; exact by have := (Cells.newRow wg #[.int .i64 R.x, .int .i64 R.y, .int .i64 R.z] 87 (0, 0)).get (k := j) (v := u) hu; rwa [Nat.zero_add] at this); intro v' w' hR' hX' hO'; clear hcwg hfwg)
        obtain ⟨A5, c5, rfl, _, _, _⟩ := own_form hR'.own
        go_roundw
        case rel => exact ⟨k + 1, A5, c5, by omega, by go_num, rfl, by rw [HT.out]; exact hR', hX'⟩
        case measure => simp [intOf]; omega
      · have he : k = L + 1 := by omega
        have HT := Lib.hid (show (S.path b).take k = S.path b from List.take_of_length_le (by have := HLP.out; omega))
        subst he
        go_wp2
        go_ret
        refine ⟨A3, c3, rfl, ?_, ba_via hbx hb2⟩
        have := hR.own
        rw [HT.out, ← HQ.out] at this
        exact this)
end Go.Proofs.YtffkmgjmlahfpaaGreat
