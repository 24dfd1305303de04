/- Contract of the reference: Bent. Contracts of the reference for layer 24: Up, Basic, Length. Two small laws on blocks and guarded loads. Contract: slices.Equal over integers (out of the text of slices -/
import Derived.Test.YtffkmgjmlahfpaaGreatPAB
import Derived.Test.YtffkmgjmlahfpaaGreatPS
import Derived.Test.YtffkmgjmlahfpaaGreatPAD
import Derived.Test.YtffkmgjmlahfpaaGreatPX
import Derived.Test.YtffkmgjmlahfpaaGreatPD
import Derived.Test.YtffkmgjmlahfpaaGreatPR
set_option linter.unusedVariables false
set_option linter.unusedSimpArgs false
namespace Go.Proofs.YtffkmgjmlahfpaaGreat
open Go.RowKit
abbrev S.pbox (p : Pt) : Bx := ⟨p, p⟩
def S.touch (xs : List Bx) (j : Nat) (p : Pt) : Bool := S.cont (xs.getD j S.zbox) (S.pbox p)
def S.bent (xs : List Bx) (k : Nat) (p : Pt) : Bool := (decide (0 < k) && S.touch xs (k - 1) p) || (decide (k + 1 < xs.length) && S.touch xs (k + 1) p)
set_option maxRecDepth 100000 in
set_option maxHeartbeats 4000000 in
theorem rbent_00 (A : Option Addr) (n c : Nat) (xs : List Bx) (p : Pt) (B : Nat) (w : World) (hn : xs.length = n) (hm : n ≤ 1000000) (hB : B ≤ w.heap.size) (hs : Cells w B A (xs.flatMap boxC)) (h1 : n = 1) :
    Calls Tryz.prog 221 #[.slice A n c, .int .i64 0, ptVal p] w fun e w' => e = .returned (.bool (S.bent xs 0 p)) ∧ Below w.heap.size w w' := by
  have H := Lib.hid (show S.bent xs 0 p = false by simp [S.bent, hn, h1])
  have hni : ¬ (0 : Int) + 1 < n := by omega
  have hni2 : ¬ (1 : Int) < n := by omega
  unfold ptVal
  go_enter Tryz.func221, Tryz.ntmps221
  go_wp2
  refine wp_region_grow (by kernel_rfl) (by kernel_rfl) ?_
  repeat (go_big_quiet_step (fail))
  all_goals (refine wpQuiet_nil ?_; intro wg hbwg; obtain ⟨hcwg, hfwg⟩ := bcell hbwg)
  go_wp2
  go_ret
  exact ⟨ret_b H.out.symm, bel⟩
set_option maxRecDepth 100000 in
set_option maxHeartbeats 4000000 in
theorem rbent_01 (A : Option Addr) (n c : Nat) (xs : List Bx) (p : Pt) (B : Nat) (w : World) (hn : xs.length = n) (hm : n ≤ 1000000) (hB : B ≤ w.heap.size) (hs : Cells w B A (xs.flatMap boxC)) (h1 : 1 < n) :
    Calls Tryz.prog 221 #[.slice A n c, .int .i64 0, ptVal p] w fun e w' => e = .returned (.bool (S.bent xs 0 p)) ∧ Below w.heap.size w w' := by
  have H := Lib.hid (show S.bent xs 0 p = S.touch xs 1 p by simp [S.bent, hn, h1])
  have hni2 : (1 : Int) < n := by omega
  have hk1 : 1 < xs.length := by omega
  have HC := Lib.hid (fun w => rcontains_any (xs.getD 1 S.zbox) (S.pbox p) w (Int.le_refl _) (Int.le_refl _) (Int.le_refl _))
  obtain ⟨b, o, rfl, hb, _⟩ := hs.at_ (by rw [flat_len boxC 6 boxC_len]; omega)
  obtain ⟨c0, c1, c2, c3, c4, c5⟩ := hs.boxes (List.getElem?_eq_getElem hk1)
  simp only [Nat.one_mul, Nat.add_assoc, Nat.reduceAdd] at c0 c1 c2 c3 c4 c5
  rw [show xs.getD 1 S.zbox = xs[1] by simp [List.getD_eq_getElem?_getD, hk1]] at HC
  unfold S.touch at H
  rw [show xs.getD 1 S.zbox = xs[1] by simp [List.getD_eq_getElem?_getD, hk1]] at H
  generalize S.cont xs[1] (S.pbox p) = t at *
  generalize xs[1] = X at *
  have hbw : b < w.heap.size := by omega
  have hbw2 : b < w.heap.size + 1 + 1 := by omega
  unfold ptVal
  unfold boxV at HC
  cases t
  all_goals (
    go_enter Tryz.func221, Tryz.ntmps221
    go_wp2
    refine wp_region_grow (by kernel_rfl) (by kernel_rfl) ?_
    repeat (go_big_quiet_step ((go_at_call 261; exact grow_of (HC.out _))))
    all_goals (refine wpQuiet_nil ?_; intro wg hbwg; obtain ⟨hcwg, hfwg⟩ := bcell hbwg)
    go_wp2
    go_ret
    exact ⟨ret_b H.out.symm, bel⟩)
set_option maxRecDepth 100000 in
set_option maxHeartbeats 4000000 in
theorem rbent_10 (A : Option Addr) (n c k : Nat) (xs : List Bx) (p : Pt) (B : Nat) (w : World) (hn : xs.length = n) (hm : n ≤ 1000000) (hB : B ≤ w.heap.size) (hs : Cells w B A (xs.flatMap boxC)) (h0 : 0 < k) (hk : k < n) (h1 : ¬ k + 1 < n) :
    Calls Tryz.prog 221 #[.slice A n c, .int .i64 k, ptVal p] w fun e w' => e = .returned (.bool (S.bent xs k p)) ∧ Below w.heap.size w w' := by
  have hH : S.bent xs k p = S.touch xs (k - 1) p := by simp [S.bent, hn, h1, h0]
  obtain ⟨j, hj⟩ : ∃ j, j = k - 1 := ⟨_, rfl⟩
  obtain ⟨q, hq⟩ : ∃ q, q = k + 1 := ⟨_, rfl⟩
  have e1 : (k : Int) - 1 = (j : Int) := by omega
  have e2 : (k : Int) + 1 = (q : Int) := by omega
  have e3 : IntKind.i64.wrap (j : Int) = (j : Int) := IntWalk.i64_in _ (by omega)
  have e4 : IntKind.i64.wrap (q : Int) = (q : Int) := IntWalk.i64_in _ (by omega)
  have g1 : (0 : Int) < (k : Int) := by omega
  have g2 : ¬ (q : Int) < (n : Int) := by omega
  have hqd : decide (q < n) = false := by simp; omega
  have g3 : (j : Int) < (n : Int) := by omega
  have hj1 : j < n := by omega
  have hjx : j < xs.length := by omega
  rw [← hj] at hH
  have HC := Lib.hid (fun w => rcontains_any (xs.getD j S.zbox) (S.pbox p) w (Int.le_refl _) (Int.le_refl _) (Int.le_refl _))
  obtain ⟨b, o, rfl, hb, _⟩ := hs.at_ (by rw [flat_len boxC 6 boxC_len]; omega)
  obtain ⟨c0, c1, c2, c3, c4, c5⟩ := hs.boxes (List.getElem?_eq_getElem hjx)
  unfold S.touch at hH
  rw [show xs.getD j S.zbox = xs[j] by simp [List.getD_eq_getElem?_getD, hjx]] at HC hH
  have H := Lib.hid hH
  clear hH hj hq
  generalize S.cont xs[j] (S.pbox p) = t at *
  generalize xs[j] = X at *
  have hbw : b < w.heap.size := by omega
  have hbw2 : b < w.heap.size + 1 + 1 := by omega
  unfold ptVal
  unfold boxV at HC
  cases t
  all_goals (
    go_enter Tryz.func221, Tryz.ntmps221
    go_wp2
    refine wp_region_grow (by kernel_rfl) (by kernel_rfl) ?_
    repeat (go_big_quiet_step ((go_at_call 261; exact grow_of (HC.out _))))
    all_goals (refine wpQuiet_nil ?_; intro wg hbwg; obtain ⟨hcwg, hfwg⟩ := bcell hbwg)
    go_wp2
    go_ret
    exact ⟨ret_b H.out.symm, bel⟩)
set_option maxRecDepth 100000 in
set_option maxHeartbeats 4000000 in
theorem rbent_11 (A : Option Addr) (n c k : Nat) (xs : List Bx) (p : Pt) (B : Nat) (w : World) (hn : xs.length = n) (hm : n ≤ 1000000) (hB : B ≤ w.heap.size) (hs : Cells w B A (xs.flatMap boxC)) (h0 : 0 < k) (h1 : k + 1 < n) :
    Calls Tryz.prog 221 #[.slice A n c, .int .i64 k, ptVal p] w fun e w' => e = .returned (.bool (S.bent xs k p)) ∧ Below w.heap.size w w' := by
  have hH : S.bent xs k p = (S.touch xs (k - 1) p || S.touch xs (k + 1) p) := by simp [S.bent, hn, h1, h0]
  obtain ⟨j, hj⟩ : ∃ j, j = k - 1 := ⟨_, rfl⟩
  obtain ⟨q, hq⟩ : ∃ q, q = k + 1 := ⟨_, rfl⟩
  have e1 : (k : Int) - 1 = (j : Int) := by omega
  obtain ⟨z, hz⟩ : ∃ z : Int, z = (q : Int) := ⟨_, rfl⟩
  have e2 : (k : Int) + 1 = z := by omega
  have e5 : z.toNat = q := by omega
  have e3 : IntKind.i64.wrap (j : Int) = (j : Int) := IntWalk.i64_in _ (by omega)
  have e4 : IntKind.i64.wrap z = z := IntWalk.i64_in _ (by omega)
  have g1 : (0 : Int) < (k : Int) := by omega
  have g2 : z < (n : Int) := by omega
  have g4 : 0 ≤ z := by omega
  have g3 : (j : Int) < (n : Int) := by omega
  have hj1 : j < n := by omega
  have hq1 : q < n := by omega
  have hjx : j < xs.length := by omega
  have hqx : q < xs.length := by omega
  rw [← hj, ← hq] at hH
  have HC := Lib.hid (fun w => rcontains_any (xs.getD j S.zbox) (S.pbox p) w (Int.le_refl _) (Int.le_refl _) (Int.le_refl _))
  have HD := Lib.hid (fun w => rcontains_any (xs.getD q S.zbox) (S.pbox p) w (Int.le_refl _) (Int.le_refl _) (Int.le_refl _))
  obtain ⟨b, o, rfl, hb, _⟩ := hs.at_ (by rw [flat_len boxC 6 boxC_len]; omega)
  obtain ⟨c0, c1, c2, c3, c4, c5⟩ := hs.boxes (List.getElem?_eq_getElem hjx)
  obtain ⟨d0, d1, d2, d3, d4, d5⟩ := hs.boxes (List.getElem?_eq_getElem hqx)
  unfold S.touch at hH
  rw [show xs.getD j S.zbox = xs[j] by simp [List.getD_eq_getElem?_getD, hjx]] at HC hH
  rw [show xs.getD q S.zbox = xs[q] by simp [List.getD_eq_getElem?_getD, hqx]] at HD hH
  have H := Lib.hid hH
  clear hH hj hq hz
  generalize S.cont xs[j] (S.pbox p) = t at *
  generalize S.cont xs[q] (S.pbox p) = u at *
  generalize xs[j] = X at *
  generalize xs[q] = Y at *
  have hbw : b < w.heap.size := by omega
  have hbw2 : b < w.heap.size + 1 + 1 := by omega
  unfold ptVal
  unfold boxV at HC HD
  cases t <;> cases u
  all_goals (
    go_enter Tryz.func221, Tryz.ntmps221
    go_wp2
    refine wp_region_grow (by kernel_rfl) (by kernel_rfl) ?_
    repeat (go_big_quiet_step ((first | (go_at_call 261; with_reducible exact grow_of (HC.out _)) | (go_at_call 261; with_reducible exact grow_of (HD.out _)))))
    all_goals (refine wpQuiet_nil ?_; intro wg hbwg; obtain ⟨hcwg, hfwg⟩ := bcell hbwg)
    go_wp2
    go_ret
    exact ⟨ret_b H.out.symm, bel⟩)
theorem rbent_any (A : Option Addr) (n c k : Nat) (xs : List Bx) (p : Pt) (B : Nat) (w : World) (hn : xs.length = n) (hm : n ≤ 1000000) (hB : B ≤ w.heap.size) (hs : Cells w B A (xs.flatMap boxC)) (hk : k < n) :
    Calls Tryz.prog 221 #[.slice A n c, .int .i64 k, ptVal p] w fun e w' => e = .returned (.bool (S.bent xs k p)) ∧ Below w.heap.size w w' := by
  by_cases h0 : 0 < k
  · by_cases h1 : k + 1 < n
    · exact rbent_11 A n c k xs p B w hn hm hB hs h0 h1
    · exact rbent_10 A n c k xs p B w hn hm hB hs h0 hk h1
  · obtain rfl : k = 0 := by omega
    by_cases h1 : 1 < n
    · exact rbent_01 A n c xs p B w hn hm hB hs h1
    · exact rbent_00 A n c xs p B w hn hm hB hs (by omega)
theorem rup_any (n p q : Int) (w : World) (h2 : 1 ≤ q) (h3 : q ≤ 1000000) (hlo : 0 ≤ n * p) (hp : n * p ≤ 4611686018427387904) :
    Calls Tryz.prog 131 #[.int .i64 n, .int .i64 p, .int .i64 q] w fun e w' => e = .returned (.int .i64 (S.up n p q)) ∧ w = w' := by
  have hq : (q == 0) = false := by simp; omega
  go_enter Tryz.func131, Tryz.ntmps131
  go_wp2
  go_ret
  exact ⟨rfl, rfl⟩
theorem rbasic_any (r : Rule) (d : Int) (w : World) (hr : RuleOk r) (h0 : 0 ≤ d) (h1 : d ≤ 40) :
    Calls Tryz.prog 193 #[ruleV r, .int .i64 d] w fun e w' => e = .returned (.int .i64 (S.basic r d)) ∧ Below w.heap.size w w' := by
  have H := Lib.hid (basic_eq r d)
  have hp := mul_bd h0 h1 (by have := hr.num; omega) hr.num.2
  have hd := hr.den
  unfold ruleV
  go_enter Tryz.func193, Tryz.ntmps193
  go_wp2_with (go_at_call 131; refine (rup_any _ _ _ _ ?_ ?_ ?_ ?_).mono ?_; (· omega); (· omega); (· omega); (· omega); rintro e w1 ⟨rfl, rfl⟩)
  all_goals (go_ret; exact ⟨ret_i (by rw [H.out]; omega), by go_grown⟩)
theorem rlength_any (r : Rule) (d : Int) (poor bent : Bool) (w : World) (hr : RuleOk r) (h0 : 0 ≤ d) (h1 : d ≤ 40) :
    Calls Tryz.prog 132 #[ruleV r, .int .i64 d, .bool poor, .bool bent] w fun e w' => e = .returned (.int .i64 (S.length r d poor bent)) ∧ Below w.heap.size w w' := by
  have b1 := basic_bd hr h0 h1
  have hd := hr.pden
  have hd2 := hr.bden
  have m1 := mul_bd b1.1 b1.2 (by have := hr.pnum; omega) hr.pnum.2
  have b2 : 0 ≤ S.up (S.basic r d) r.pnum r.pden ∧ S.up (S.basic r d) r.pnum r.pden ≤ 40000000 := poorUp_bd hr true b1.1 b1.2
  have m2 := mul_bd b2.1 b2.2 (by have := hr.bnum; omega) hr.bnum.2
  have m3 := mul_bd b1.1 b1.2 (by have := hr.bnum; omega) hr.bnum.2
  cases poor <;> cases bent
  all_goals
    have H := Lib.hid (fun n => max_eq r n)
    unfold ruleV
    go_enter Tryz.func132, Tryz.ntmps132
    go_wp2_with (first
      | (go_at_call 193; refine (rbasic_any r d _ hr h0 h1).mono ?_; rintro e w1 ⟨rfl, hb1⟩; obtain ⟨hc, hf⟩ := bcell hb1)
      | (go_at_call 131; refine (rup_any _ _ _ _ ?_ ?_ ?_ ?_).mono ?_; (· omega); (· omega); (· omega); (· omega); rintro e w2 ⟨rfl, rfl⟩))
    all_goals (go_ret; exact ⟨ret_i (by simp only [S.length, S.poorUp, S.bentUp, ← H.out, if_true, if_false, Bool.false_eq_true]; omega), via hb1 (by go_grown) (Nat.le_refl _)⟩)
theorem wpList_load_gdF {P : Program} {ops : Array Oper} {rest : List Oper} {op : Oper} {a : Act} {w : World} {Q : Exit → Act → World → Prop} (hw : Region.wanted op (yielded ops a.tmps) = true) (ty : TypeId) (x : Operand) (ho : op.op = .load ty x)
    (b o : Nat) (hx : a.eval x = .pointer (some ⟨b, o, none⟩)) (cs : List Value) (d : TypeDesc) (hc : w.rangeAt b o cs)
    (hu : P.underlying ty = some d) (hd : d.isRow = true) (hi : (P.info? ty).map (·.size) = some cs.length)
    (h : wpList P ops Q rest (a.put op.dst (.agg cs.toArray)) w) : wpList P ops Q (op :: rest) a w := by
  unfold wpList
  rw [if_pos hw]
  exact .inl (wp_load_mid ty x ho b o hx cs d hc hu hd hi h)
theorem quietBy {w : World} {b o : Nat} {cs : List Value} (h : ∀ W, Below w.heap.size w W → W.rangeAt b o cs) : ∀ W, (∃ g, W = grow w g) → W.rangeAt b o cs := by
  rintro W ⟨g, rfl⟩
  exact h _ (grow_below _ _)
theorem quietLoad {P : Program} {ops : Array Oper} {C : World → Prop} {Q : Act → Prop} {rest : List Oper} {op : Oper} {a : Act} (hw : Region.wanted op (yielded ops a.tmps) = true) (ty : TypeId) (x : Operand) (ho : op.op = .load ty x)
    (b o : Nat) (hx : a.eval x = .pointer (some ⟨b, o, none⟩)) (cs : List Value) (d : TypeDesc) (hS : ∀ w, C w → w.rangeAt b o cs)
    (hu : P.underlying ty = some d) (hd : d.isRow = true) (hi : (P.info? ty).map (·.size) = some cs.length)
    (h : ∀ a', a.put op.dst (.agg cs.toArray) = a' → wpQuiet P ops C Q rest a') : wpQuiet P ops C Q (op :: rest) a := by
  unfold wpQuiet
  rw [if_pos hw]
  refine ⟨.agg cs.toArray, fun w hw' => ?_, h _ rfl⟩
  unfold Oper.quietAt execOp
  simp only [ho, hx, Instr.loadAt, Instr.sureAddr, Sem.run_bind, Sem.run_pure, Result.andThen_ok, run_loadVar_mid w b o ty cs d (hS w hw') hu hd hi]
  exact ⟨rfl, rfl⟩
def S.eqi (xs ys : List Int) : Bool := decide (xs = ys)
theorem eqi_no_len {xs ys : List Int} (h : xs.length ≠ ys.length) : S.eqi xs ys = false := by
  simp only [S.eqi, decide_eq_false_iff_not]
  exact fun e => h (by rw [e])
theorem eqi_no_at {xs ys : List Int} {k : Nat} (hx : k < xs.length) (hy : k < ys.length) (h : xs[k] ≠ ys[k]) : S.eqi xs ys = false := by
  simp only [S.eqi, decide_eq_false_iff_not]
  rintro rfl
  exact h rfl
theorem eqi_yes {xs ys : List Int} (hl : xs.length = ys.length) (h : ∀ j (hx : j < xs.length) (hy : j < ys.length), xs[j] = ys[j]) : S.eqi xs ys = true := by
  simp only [S.eqi, decide_eq_true_eq]
  exact List.ext_getElem hl fun j h1 h2 => h j h1 h2
set_option maxHeartbeats 1000000 in
theorem equal_any (A A' : Option Addr) (n m c c' : Nat) (xs ys : List Int) (B : Nat) (w : World) (hB : B ≤ w.heap.size) (hn : xs.length = n) (hm : ys.length = m) (hn' : n ≤ 9223372036854775807) (hm' : m ≤ 9223372036854775807) (hx : Cells w B A (i64s xs)) (hy : Cells w B A' (i64s ys)) :
    Calls Tryz.prog 24 #[.slice A n c, .slice A' m c'] w fun e w' => e = .returned (.bool (S.eqi xs ys)) ∧ Below w.heap.size w w' := by
  have HN := Lib.hid hn
  have HM := Lib.hid hm
  clear hn hm
  by_cases hl : n = m
  · have hl' : ((n : Int) != (m : Int)) = false := by simp [hl]
    have HL := Lib.hid hl
    clear hl
    go_enter Tryz.func24, Tryz.ntmps24
    go_wp2
    go_loopw [13] (fun i wr => ∃ k : Nat, k ≤ n ∧ i = .int .i64 k ∧ Hid (∀ j (hx : j < xs.length) (hy : j < ys.length), j < k → xs[j] = ys[j]) ∧ Below w.heap.size w wr) (fun i _ => n - (intOf i).toNat)
    case atStart => exact ⟨0, Nat.zero_le _, rfl, Lib.hid fun j _ _ h => absurd h (by omega), Below.refl _ _⟩
    case round =>
      obtain ⟨k, hk, rfl, HNO, hbr⟩ := hrel
      by_cases hlt : k < n
      · have hkx : k < xs.length := by have := HN.out; omega
        have hky : k < ys.length := by have := HM.out; have := HL.out; omega
        have hkm : k < m := by have := HL.out; omega
        obtain ⟨b1, o1, rfl, _, hc1⟩ := (hx.below (hbr.mono hB)).at_ (by simp; omega)
        obtain ⟨b2, o2, rfl, _, hc2⟩ := (hy.below (hbr.mono hB)).at_ (by simp; omega)
        have e1 := hc1 k _ (i64s_get hkx)
        have e2 := hc2 k _ (i64s_get hky)
        clear hc1 hc2
        have hkn' : (k : Int) < (n : Int) := by omega
        have hkm' : (k : Int) < (m : Int) := by omega
        by_cases hq : xs[k] = ys[k]
        · have hq' : (xs[k] != ys[k]) = false := by simp [hq]
          have HQ := Lib.hid hq
          clear hq
          go_wp2
          go_quiet (fail)
          go_wp2
          go_roundw
          case rel =>
            refine ⟨k + 1, by omega, by go_num, Lib.hid fun j h1 h2 h3 => ?_, bel⟩
            by_cases hjk : j = k
            · subst hjk; exact HQ.out
            · exact HNO.out j h1 h2 (by omega)
          case measure => simp [intOf]; omega
        · have hq' : (xs[k] != ys[k]) = true := by simp [hq]
          have HQ := Lib.hid (eqi_no_at hkx hky hq)
          clear hq
          go_wp2
          go_quiet (fail)
          go_wp2
          go_ret
          exact ⟨ret_b HQ.out.symm, bel⟩
      · go_wp2
        go_ret
        exact ⟨ret_b (eqi_yes (by have := HN.out; have := HM.out; have := HL.out; omega) (fun j h1 h2 => HNO.out j h1 h2 (by have := HN.out; omega))).symm, bel⟩
  · have hl' : ((n : Int) != (m : Int)) = true := by simp; omega
    have HL := Lib.hid (eqi_no_len (xs := xs) (ys := ys) (by have := HN.out; have := HM.out; omega))
    clear hl
    go_enter Tryz.func24, Tryz.ntmps24
    go_wp2
    go_ret
    exact ⟨ret_b HL.out.symm, bel⟩
theorem length_bd {r : Rule} {d : Int} (hr : RuleOk r) (hd : 0 ≤ d) (hd' : d ≤ 40) (p b : Bool) : 0 ≤ S.length r d p b ∧ S.length r d p b ≤ 40000000000 := by
  have h1 := basic_bd hr hd hd'
  have h2 := poorUp_bd hr p h1.1 h1.2
  have h3 := bentUp_bd hr b h2.1 h2.2
  have h4 := hr.least
  unfold S.length S.atLeast
  split <;> omega
end Go.Proofs.YtffkmgjmlahfpaaGreat
