/- Contracts: laid.Count, lap.Valid, lap.Chains, lap.Check without laps; Contains over joints and over bools. Contracts: slices.Contains over joints and over bools. The walk through the law LapChains, of details that are not small, or not valid. The walk through the law LapChains: valid details. The walk through the law LapChains: every detail. -/
import Derived.Test.YtplaghmehbkcnaaChL
import Derived.Test.YtplaghmehbkcnaaDetail
import Derived.Test.YtplaghmehbkcnaaAwake
import Derived.Deep.OwnRows
import Derived.Laws.OwnMore
set_option linter.unusedVariables false
set_option linter.unusedSimpArgs false
namespace Go.Proofs.Ytplaghmehbkcnaa
open Go.RowKit
set_option maxHeartbeats 2000000 in
theorem count_yes (x : Dt) (B : Nat) (w : World) (hB : B ≤ w.heap.size) (hA : DtAt w B x) (h : S.laid (bars x.bs) x.rs = true) :
    Calls Try.prog 23 #[.slice x.bA x.bn x.bc, .slice x.rA x.rn x.rc] w fun e w' => e = .returned (.tuple #[.int .i64 (S.mains (bars x.bs) x.rs).length, .int .i64 0]) ∧ Below w.heap.size w w' := by
  have HA := Lib.hid hA
  have HF := Lib.hid (fun (k : Nat) (hk : k < x.rs.length) => run_facts (x := x) (B := B) (w := w) h hk)
  have HL := Lib.hid (fun (W : World) (hw : B ≤ W.heap.size) (hh : BarsAt W B x.bA x.bn x.bs) (hr : RunsAt W B x.rA x.rn x.rs) => h ▸ laid_any x.bs x.rs x.bA x.bn x.bc x.rA x.rn x.rc B W hw hh hr)
  have hrl := hA.runs.len
  have hrm := hA.runs.max
  clear hA h
  generalize hrA : x.rA = rA at *
  have HrA := Lib.hid hrA
  clear hrA
  go_enter Try.func23, Try.ntmps23
  go_wp2_with (first
    | (go_at_call 45; (with_reducible refine (HL.out _ hB HA.out.bars (HrA.out ▸ HA.out.runs)).mono ?_); rintro e w1 ⟨rfl, hbw1⟩; obtain ⟨hcw1, hfw1⟩ := bcell hbw1))
  go_loopw [15, 6] (fun i s wr => ∃ k : Nat, k ≤ x.rn ∧ i = .int .i64 k ∧ s = .int .i64 (S.mains (bars x.bs) (x.rs.take k)).length ∧ Below w.heap.size w wr) (fun i _ _ => x.rn - (intOf i).toNat)
  case atStart => exact ⟨0, Nat.zero_le _, rfl, by simp [S.mains], hbw1⟩
  case round =>
    obtain ⟨k, hk, rfl, rfl, hbr⟩ := hrel
    by_cases hlt : k < x.rn
    · have hkx : k < x.rs.length := by omega
      have hki : (k : Int) < x.rn := by omega
      have hs' := (HA.out.at_ hB hbr).runs.cells
      rw [HrA.out] at hs'
      obtain ⟨b, o, hAe, hbB, _⟩ := hs'.at_ (by rw [flat_len rnC 10 rnC_len]; omega)
      subst hAe
      have c0 := hs'.row0 rnC_len hkx rfl
      have c1 := hs'.rowj rnC_len hkx 1 rfl
      have c2 := hs'.rowj rnC_len hkx 2 rfl
      have c3 := hs'.rowj rnC_len hkx 3 rfl
      have c4 := hs'.rowj rnC_len hkx 4 rfl
      have c5 := hs'.rowj rnC_len hkx 5 rfl
      have c6 := hs'.rowj rnC_len hkx 6 rfl
      have c7 := hs'.rowj rnC_len hkx 7 rfl
      have c8 := hs'.rowj rnC_len hkx 8 rfl
      have c9 := hs'.rowj rnC_len hkx 9 rfl
      obtain ⟨k0, br, _, hok, _, _, hle⟩ := HF.out k hkx
      have hcnt := hok.count
      have hsn := mains_snoc (bars x.bs) x.rs hkx hok.at_
      have hln : ((S.mains (bars x.bs) (x.rs.take (k + 1))).length : Int) = (S.mains (bars x.bs) (x.rs.take k)).length + x.rs[k].count := by
        rw [hsn, List.length_append, mainsOf_len]
        omega
      have HLN := Lib.hid hln
      clear hs' hok hsn hln
      generalize (S.mains (bars x.bs) (x.rs.take k)).length = sm at *
      generalize x.rs[k] = r at *
      have e1 : IntKind.i64.wrap ((sm : Int) + r.count) = sm + r.count := IntWalk.i64_in _ (by omega)
      go_wp2
      go_roundw
      case rel => exact ⟨k + 1, by omega, by go_num, by rw [HLN.out], (by repeat (first | exact Below.refl _ _ | assumption | refine ba_alloc ?_ _ | refine ba_drew ?_ | refine ba_drewN ?_ _ | refine ba_via (by assumption) ?_ | (refine ba_set ?_ ?_ _; rotate_left; (first | omega | (simp; omega) | simp))))⟩
      case measure => simp [intOf]; omega
    · have hke : k = x.rn := by omega
      have HTK := Lib.hid (show x.rs.take k = x.rs from List.take_of_length_le (by omega))
      rw [HTK.out]
      go_wp2
      go_ret2
      exact ⟨rfl, hbr⟩
set_option maxRecDepth 20000 in
set_option maxHeartbeats 2000000 in
theorem lvalid_any (x : Dt) (t : Bool) (B : Nat) (n : Nat) (xs : List Value) (w : World) (hB : B ≤ w.heap.size)
    (hL : ∀ W, Below w.heap.size w W → Calls Try.prog 43 #[dtV x] W (GivesLook t n xs W)) :
    Calls Try.prog 22 #[dtV x] w fun e w' => e = .returned (.bool t) ∧ Below w.heap.size w w' := by
  have HL := Lib.hid hL
  clear hL
  unfold dtV at HL
  unfold dtV
  have hDB := (Blk.new w 55 #[.string x.m.name, .slice x.mA x.mn x.mc, .slice x.hA x.hn x.hc, .int .i64 x.m.cover, .int .i64 x.m.aggr, .int .i64 x.m.poker, .slice x.bA x.bn x.bc, .slice x.rA x.rn x.rc, .slice x.jA x.jn x.jc, .slice x.dA x.dn x.dc, .int .i64 x.rule.num, .int .i64 x.rule.den, .int .i64 x.rule.pnum, .int .i64 x.rule.pden, .int .i64 x.rule.bnum, .int .i64 x.rule.bden, .int .i64 x.rule.lnum, .int .i64 x.rule.lden, .int .i64 x.rule.least])
  have hRG := hDB.range
  go_enter Try.func22, Try.ntmps22
  go_wp2_with (first
    | (refine wpList_load_mid rfl 55 (.tmp 1) rfl _ _ rfl _ _ hRG Try.underlying55 rfl (by kernel_rfl) ?_)
    | (go_at_call 43; (with_reducible refine (HL.out _ (by repeat (first | exact Below.refl _ _ | assumption | refine ba_alloc ?_ _ | refine ba_drew ?_ | refine ba_drewN ?_ _ | refine ba_via (by assumption) ?_ | (refine ba_set ?_ ?_ _; rotate_left; (first | omega | (simp; omega) | simp))))).mono ?_); rintro e w1 ⟨A1, c1', rfl, how1, hbw1⟩))
  go_ret
  exact ⟨rfl, (by repeat (first | exact Below.refl _ _ | assumption | refine ba_alloc ?_ _ | refine ba_drew ?_ | refine ba_drewN ?_ _ | refine ba_via (by assumption) ?_ | (refine ba_set ?_ ?_ _; rotate_left; (first | omega | (simp; omega) | simp))))⟩
/-- A call hands back chains and no error. -/
def GivesChE (L : List (List Int)) (w : World) (e : Ending) (w' : World) : Prop :=
  ∃ (A : Option Addr) (c : Nat) (rs : List Chn), e = .returned (.tuple #[.slice A rs.length c, .int .i64 0]) ∧ rs.map (·.l) = L ∧ rs.length ≤ c ∧ Cells w' w'.heap.size A (rs.map chV) ∧ (∀ r, r ∈ rs → Cells w' w'.heap.size r.A (i64s r.l) ∧ r.l.length ≤ r.c) ∧ Below w.heap.size w w'
set_option maxRecDepth 20000 in
set_option maxHeartbeats 2000000 in
theorem lchains_yes (x : Dt) (B : Nat) (n : Nat) (xs : List Value) (L : List (List Int)) (w : World) (hB : B ≤ w.heap.size) (hn : n ≤ 2000)
    (hL : ∀ W, Below w.heap.size w W → Calls Try.prog 43 #[dtV x] W (GivesLook true n xs W)) (hC : ∀ W, Below w.heap.size w W → Calls Try.prog 44 #[dtV x, .int .i64 n] W (GivesChs L W)) :
    Calls Try.prog 21 #[dtV x] w (GivesChE L w) := by
  have HL := Lib.hid hL
  have HC := Lib.hid hC
  clear hL hC
  unfold dtV at HL HC
  unfold dtV
  have hDB := (Blk.new w 55 #[.string x.m.name, .slice x.mA x.mn x.mc, .slice x.hA x.hn x.hc, .int .i64 x.m.cover, .int .i64 x.m.aggr, .int .i64 x.m.poker, .slice x.bA x.bn x.bc, .slice x.rA x.rn x.rc, .slice x.jA x.jn x.jc, .slice x.dA x.dn x.dc, .int .i64 x.rule.num, .int .i64 x.rule.den, .int .i64 x.rule.pnum, .int .i64 x.rule.pden, .int .i64 x.rule.bnum, .int .i64 x.rule.bden, .int .i64 x.rule.lnum, .int .i64 x.rule.lden, .int .i64 x.rule.least])
  have hRG := hDB.range
  go_enter Try.func21, Try.ntmps21
  go_wp2_with (first
    | (refine wpList_load_mid rfl 55 (.tmp 1) rfl _ _ rfl _ _ hRG Try.underlying55 rfl (by kernel_rfl) ?_)
    | (refine wpList_load_mid rfl 55 (.tmp 1) rfl _ _ rfl _ _ hRG1 Try.underlying55 rfl (by kernel_rfl) ?_)
    | (go_at_call 43; (with_reducible refine (HL.out _ (by repeat (first | exact Below.refl _ _ | assumption | refine ba_alloc ?_ _ | refine ba_drew ?_ | refine ba_drewN ?_ _ | refine ba_via (by assumption) ?_ | (refine ba_set ?_ ?_ _; rotate_left; (first | omega | (simp; omega) | simp))))).mono ?_); rintro e w1 ⟨A1, c1', rfl, how1, hbw1⟩; have hRG1 := (hDB.via hbw1).range)
    | (go_at_call 44; (with_reducible refine (HC.out _ (by repeat (first | exact Below.refl _ _ | assumption | refine ba_alloc ?_ _ | refine ba_drew ?_ | refine ba_drewN ?_ _ | refine ba_via (by assumption) ?_ | (refine ba_set ?_ ?_ _; rotate_left; (first | omega | (simp; omega) | simp))))).mono ?_); rintro e w2 ⟨A2, c2, rs, rfl, hrs, hrc, hcc, hce, hbw2⟩))
  go_ret2
  exact ⟨A2, c2, rs, rfl, hrs, hrc, hcc, hce, (by repeat (first | exact Below.refl _ _ | assumption | refine ba_alloc ?_ _ | refine ba_drew ?_ | refine ba_drewN ?_ _ | refine ba_via (by assumption) ?_ | (refine ba_set ?_ ?_ _; rotate_left; (first | omega | (simp; omega) | simp))))⟩
set_option maxRecDepth 20000 in
set_option maxHeartbeats 2000000 in
theorem lchains_no (x : Dt) (B : Nat) (w : World) (hB : B ≤ w.heap.size)
    (hL : ∀ W, Below w.heap.size w W → Calls Try.prog 43 #[dtV x] W (GivesLook false 0 [] W)) :
    Calls Try.prog 21 #[dtV x] w fun e w' => e = .returned (.tuple #[.slice none 0 0, .int .i64 1]) ∧ Below w.heap.size w w' := by
  have HL := Lib.hid hL
  clear hL
  unfold dtV at HL
  unfold dtV
  have hDB := (Blk.new w 55 #[.string x.m.name, .slice x.mA x.mn x.mc, .slice x.hA x.hn x.hc, .int .i64 x.m.cover, .int .i64 x.m.aggr, .int .i64 x.m.poker, .slice x.bA x.bn x.bc, .slice x.rA x.rn x.rc, .slice x.jA x.jn x.jc, .slice x.dA x.dn x.dc, .int .i64 x.rule.num, .int .i64 x.rule.den, .int .i64 x.rule.pnum, .int .i64 x.rule.pden, .int .i64 x.rule.bnum, .int .i64 x.rule.bden, .int .i64 x.rule.lnum, .int .i64 x.rule.lden, .int .i64 x.rule.least])
  have hRG := hDB.range
  go_enter Try.func21, Try.ntmps21
  go_wp2_with (first
    | (refine wpList_load_mid rfl 55 (.tmp 1) rfl _ _ rfl _ _ hRG Try.underlying55 rfl (by kernel_rfl) ?_)
    | (go_at_call 43; (with_reducible refine (HL.out _ (by repeat (first | exact Below.refl _ _ | assumption | refine ba_alloc ?_ _ | refine ba_drew ?_ | refine ba_drewN ?_ _ | refine ba_via (by assumption) ?_ | (refine ba_set ?_ ?_ _; rotate_left; (first | omega | (simp; omega) | simp))))).mono ?_); rintro e w1 ⟨A1, c1', rfl, how1, hbw1⟩))
  go_ret2
  exact ⟨rfl, (by repeat (first | exact Below.refl _ _ | assumption | refine ba_alloc ?_ _ | refine ba_drew ?_ | refine ba_drewN ?_ _ | refine ba_via (by assumption) ?_ | (refine ba_set ?_ ?_ _; rotate_left; (first | omega | (simp; omega) | simp))))⟩
set_option maxRecDepth 20000 in
set_option maxHeartbeats 2000000 in
theorem lcheck_nil (x : Dt) (B : Nat) (n : Nat) (xs : List Value) (w : World) (hB : B ≤ w.heap.size) (hj : x.jA = none ∧ x.jn = 0 ∧ x.jc = 0)
    (hL : ∀ W, Below w.heap.size w W → Calls Try.prog 43 #[dtV x] W (GivesLook true n xs W)) :
    Calls Try.prog 26 #[dtV x] w fun e w' => e = .returned (.tuple #[.slice none 0 0, .int .i64 0]) ∧ Below w.heap.size w w' := by
  have HL := Lib.hid hL
  clear hL
  unfold dtV at HL
  unfold dtV
  rw [hj.1, hj.2.1, hj.2.2] at HL ⊢
  have hDB := (Blk.new w 55 #[.string x.m.name, .slice x.mA x.mn x.mc, .slice x.hA x.hn x.hc, .int .i64 x.m.cover, .int .i64 x.m.aggr, .int .i64 x.m.poker, .slice x.bA x.bn x.bc, .slice x.rA x.rn x.rc, .slice none 0 0, .slice x.dA x.dn x.dc, .int .i64 x.rule.num, .int .i64 x.rule.den, .int .i64 x.rule.pnum, .int .i64 x.rule.pden, .int .i64 x.rule.bnum, .int .i64 x.rule.bden, .int .i64 x.rule.lnum, .int .i64 x.rule.lden, .int .i64 x.rule.least])
  have hRG := hDB.range
  go_enter Try.func26, Try.ntmps26
  go_upto_region 5 with (first
    | (refine wpList_load_mid rfl 55 (.tmp 1) rfl _ _ rfl _ _ hRG Try.underlying55 rfl (by kernel_rfl) ?_)
    | (go_at_call 43; (with_reducible refine (HL.out _ (by repeat (first | exact Below.refl _ _ | assumption | refine ba_alloc ?_ _ | refine ba_drew ?_ | refine ba_drewN ?_ _ | refine ba_via (by assumption) ?_ | (refine ba_set ?_ ?_ _; rotate_left; (first | omega | (simp; omega) | simp))))).mono ?_); rintro e w1 ⟨A1, c1', rfl, how1, hbw1⟩))
  have hbw : Below w.heap.size w w1 := (by repeat (first | exact Below.refl _ _ | assumption | refine ba_alloc ?_ _ | refine ba_drew ?_ | refine ba_drewN ?_ _ | refine ba_via (by assumption) ?_ | (refine ba_set ?_ ?_ _; rotate_left; (first | omega | (simp; omega) | simp))))
  have d8 := (hDB.via hbw1).cell 8
  simp only [List.getElem?_toArray, List.getElem?_cons_zero, List.getElem?_cons_succ] at d8
  go_wp2
  refine wp_loop_rounds 1 ?_
  rw [rounds_succ]
  go_wp2
  go_ret2
  exact ⟨rfl, hbw⟩
def S.isJn (j y : Jn) : Bool := (j.first == y.first) && (j.second == y.second)
theorem indexJ_any (l : List Jn) (j : Jn) (A : Option Addr) (n c : Nat) (B : Nat) (w : World) (hn : l.length = n) (hm : n ≤ 9223372036854775807) (hB : B ≤ w.heap.size) (hs : Cells w B A (l.flatMap jnC)) :
    Calls Try.prog 46 #[.slice A n c, .agg #[.int .i64 j.first, .int .i64 j.second]] w fun e w' => e = .returned (.int .i64 (idxf l (S.isJn j))) ∧ Below w.heap.size w w' := by
  have HN := Lib.hid hn
  clear hn
  have hbl : ∀ b, b < B → b < w.heap.size + 1 := fun b hb => by omega
  go_enter Try.func46, Try.ntmps46
  go_wp2
  have hb1 : Below w.heap.size w (w.alloc (.cells #[.int .i64 j.first, .int .i64 j.second] 65)) := ba_alloc (Below.refl _ _) _
  have hJ := Blk.new w 65 #[.int .i64 j.first, .int .i64 j.second]
  have hsz : w.heap.size + 1 ≤ (w.alloc (.cells #[.int .i64 j.first, .int .i64 j.second] 65)).heap.size := by simp
  generalize (w.alloc (.cells #[.int .i64 j.first, .int .i64 j.second] 65)) = w1 at *
  go_loopw [8] (fun i wr => ∃ k : Nat, k ≤ n ∧ i = .int .i64 k ∧ (∀ m (h : m < l.length), m < k → S.isJn j l[m] = false) ∧ Below w1.heap.size w1 wr) (fun i _ => n - (intOf i).toNat)
  case atStart => exact ⟨0, Nat.zero_le _, rfl, fun m _ hm => absurd hm (by omega), Below.refl _ _⟩
  case round =>
    obtain ⟨k, hk, rfl, hno, hbr⟩ := hrel
    have HNO := Lib.hid hno
    clear hno
    have hbw : Below w.heap.size w wr := hb1.trans (hbr.mono (by omega))
    by_cases hlt : k < n
    · have hkx : k < l.length := by have := HN.out; omega
      have hki : (k : Int) < n := by omega
      have hs' := hs.below (hbw.mono hB)
      obtain ⟨b, o, rfl, hbB, _⟩ := hs'.at_ (by rw [flat_len jnC 2 jnC_len]; omega)
      have c0 := hs'.row0 jnC_len hkx rfl
      have c1 := hs'.rowj jnC_len hkx 1 rfl
      have hJr := hJ.via hbr
      have j0 := hJr.cell 0
      have j1 := hJr.cell 1
      simp only [List.getElem?_toArray, List.getElem?_cons_zero, List.getElem?_cons_succ] at j0 j1
      have HHIT := Lib.hid (fun (h : S.isJn j l[k] = true) => idxf_hit (p := S.isJn j) hkx h HNO.out)
      have HGO := Lib.hid (fun (h : S.isJn j l[k] = false) (m : Nat) (hm : m < l.length) (hmk : m < k + 1) => show S.isJn j l[m] = false from by
        by_cases hmk' : m = k
        · subst hmk'; exact h
        · exact HNO.out m hm (by omega))
      have HE := Lib.hid (show S.isJn j l[k] = ((j.first == l[k].first) && (j.second == l[k].second)) from rfl)
      clear hs' hJr
      generalize S.isJn j l[k] = t at *
      generalize l[k] = y at *
      cases h1 : (j.first == y.first)
      · have HG := Lib.hid (HGO.out (by rw [HE.out, h1]; rfl))
        go_wp2
        go_quiet (fail)
        go_wp2
        go_roundw
        case rel => exact ⟨k + 1, by omega, by go_num, HG.out, (by repeat (first | exact Below.refl _ _ | assumption | refine ba_alloc ?_ _ | refine ba_drew ?_ | refine ba_drewN ?_ _ | refine ba_via (by assumption) ?_ | (refine ba_set ?_ ?_ _; rotate_left; (first | omega | (simp; omega) | simp))))⟩
        case measure => simp [intOf]; omega
      · cases h2 : (j.second == y.second)
        · have HG := Lib.hid (HGO.out (by rw [HE.out, h1, h2]; rfl))
          go_wp2
          go_quiet (fail)
          go_wp2
          go_roundw
          case rel => exact ⟨k + 1, by omega, by go_num, HG.out, (by repeat (first | exact Below.refl _ _ | assumption | refine ba_alloc ?_ _ | refine ba_drew ?_ | refine ba_drewN ?_ _ | refine ba_via (by assumption) ?_ | (refine ba_set ?_ ?_ _; rotate_left; (first | omega | (simp; omega) | simp))))⟩
          case measure => simp [intOf]; omega
        · have HG := Lib.hid (HHIT.out (by rw [HE.out, h1, h2]; rfl))
          go_wp2
          go_quiet (fail)
          go_wp2
          go_ret
          exact ⟨ret_i HG.out.symm, ba_drewN hbw _⟩
    · go_wp2
      go_ret
      exact ⟨ret_i (idxf_miss (fun m hm => HNO.out m hm (by have := HN.out; omega))).symm, hbw⟩
theorem containsJ_any (l : List Jn) (j : Jn) (A : Option Addr) (n c : Nat) (B : Nat) (w : World) (hn : l.length = n) (hm : n ≤ 9223372036854775807) (hB : B ≤ w.heap.size) (hs : Cells w B A (l.flatMap jnC)) :
    Calls Try.prog 24 #[.slice A n c, .agg #[.int .i64 j.first, .int .i64 j.second]] w fun e w' => e = .returned (.bool (anyb l (S.isJn j))) ∧ Below w.heap.size w w' := by
  have H := Lib.hid (fun (W : World) (hw : Below w.heap.size w W) => indexJ_any l j A n c B W hn hm (Nat.le_trans hB hw.size) (hs.below (hw.mono hB)))
  have he : decide (0 ≤ idxf l (S.isJn j)) = anyb l (S.isJn j) := idxf_ge l _
  clear hn hs
  go_enter Try.func24, Try.ntmps24
  go_wp2_with (go_at_call 46; (with_reducible refine (H.out _ (by repeat (first | exact Below.refl _ _ | assumption | refine ba_alloc ?_ _ | refine ba_drew ?_ | refine ba_drewN ?_ _ | refine ba_via (by assumption) ?_ | (refine ba_set ?_ ?_ _; rotate_left; (first | omega | (simp; omega) | simp))))).mono ?_); rintro e w1 ⟨rfl, hbw1⟩; obtain ⟨hcw1, hfw1⟩ := bcell hbw1)
  go_ret
  exact ⟨rfl, (by repeat (first | exact Below.refl _ _ | assumption | refine ba_alloc ?_ _ | refine ba_drew ?_ | refine ba_drewN ?_ _ | refine ba_via (by assumption) ?_ | (refine ba_set ?_ ?_ _; rotate_left; (first | omega | (simp; omega) | simp))))⟩
theorem indexB_any (l : List Bool) (A : Option Addr) (n c : Nat) (B : Nat) (w : World) (hn : l.length = n) (hm : n ≤ 9223372036854775807) (hB : B ≤ w.heap.size) (hs : Cells w B A (l.map Value.bool)) :
    Calls Try.prog 47 #[.slice A n c, .bool false] w fun e w' => e = .returned (.int .i64 (idxf l (fun b => !b))) ∧ Below w.heap.size w w' := by
  have HN := Lib.hid hn
  clear hn
  go_enter Try.func47, Try.ntmps47
  go_wp2
  go_loopw [8] (fun i wr => ∃ k : Nat, k ≤ n ∧ i = .int .i64 k ∧ (∀ m (h : m < l.length), m < k → (fun b => !b) l[m] = false) ∧ Below w.heap.size w wr) (fun i _ => n - (intOf i).toNat)
  case atStart => exact ⟨0, Nat.zero_le _, rfl, fun m _ hm => absurd hm (by omega), Below.refl _ _⟩
  case round =>
    obtain ⟨k, hk, rfl, hno, hbr⟩ := hrel
    have HNO := Lib.hid hno
    clear hno
    by_cases hlt : k < n
    · have hkx : k < l.length := by have := HN.out; omega
      have hki : (k : Int) < n := by omega
      have hs' := hs.below (hbr.mono hB)
      obtain ⟨b, o, rfl, hbB, hxx⟩ := hs'.at_ (by rw [List.length_map]; omega)
      clear hxx
      have c0 := hs'.get (k := k) (v := .bool l[k]) (by simp [hkx])
      have HHIT := Lib.hid (fun (h : l[k] = false) => idxf_hit (p := fun b => !b) hkx (by simp [h]) HNO.out)
      have HGO := Lib.hid (fun (h : l[k] = true) (m : Nat) (hm : m < l.length) (hmk : m < k + 1) => show (fun b => !b) l[m] = false from by
        by_cases hmk' : m = k
        · subst hmk'; simp [h]
        · exact HNO.out m hm (by omega))
      clear hs'
      generalize l[k] = t at *
      cases t
      · have HG := Lib.hid (HHIT.out rfl)
        go_wp2
        go_ret
        exact ⟨ret_i HG.out.symm, hbr⟩
      · have HG := Lib.hid (HGO.out rfl)
        go_wp2
        go_roundw
        case rel => exact ⟨k + 1, by omega, by go_num, HG.out, (by repeat (first | exact Below.refl _ _ | assumption | refine ba_alloc ?_ _ | refine ba_drew ?_ | refine ba_drewN ?_ _ | refine ba_via (by assumption) ?_ | (refine ba_set ?_ ?_ _; rotate_left; (first | omega | (simp; omega) | simp))))⟩
        case measure => simp [intOf]; omega
    · go_wp2
      go_ret
      exact ⟨ret_i (idxf_miss (fun m hm => HNO.out m hm (by have := HN.out; omega))).symm, hbr⟩
theorem containsB_any (l : List Bool) (A : Option Addr) (n c : Nat) (B : Nat) (w : World) (hn : l.length = n) (hm : n ≤ 9223372036854775807) (hB : B ≤ w.heap.size) (hs : Cells w B A (l.map Value.bool)) :
    Calls Try.prog 25 #[.slice A n c, .bool false] w fun e w' => e = .returned (.bool (anyb l (fun b => !b))) ∧ Below w.heap.size w w' := by
  have H := Lib.hid (fun (W : World) (hw : Below w.heap.size w W) => indexB_any l A n c B W hn hm (Nat.le_trans hB hw.size) (hs.below (hw.mono hB)))
  have he : decide (0 ≤ idxf l (fun b => !b)) = anyb l (fun b => !b) := idxf_ge l _
  clear hn hs
  go_enter Try.func25, Try.ntmps25
  go_wp2_with (go_at_call 47; (with_reducible refine (H.out _ (by repeat (first | exact Below.refl _ _ | assumption | refine ba_alloc ?_ _ | refine ba_drew ?_ | refine ba_drewN ?_ _ | refine ba_via (by assumption) ?_ | (refine ba_set ?_ ?_ _; rotate_left; (first | omega | (simp; omega) | simp))))).mono ?_); rintro e w1 ⟨rfl, hbw1⟩; obtain ⟨hcw1, hfw1⟩ := bcell hbw1)
  go_ret
  exact ⟨rfl, (by repeat (first | exact Below.refl _ _ | assumption | refine ba_alloc ?_ _ | refine ba_drew ?_ | refine ba_drewN ?_ _ | refine ba_via (by assumption) ?_ | (refine ba_set ?_ ?_ _; rotate_left; (first | omega | (simp; omega) | simp))))⟩
theorem wpList_load_gd {P : Program} {ops : Array Oper} {rest : List Oper} {op : Oper} {a : Act} {w : World} {Q : Exit → Act → World → Prop} (hw : Region.wanted op (yielded ops a.tmps) = true) (ty : TypeId) (x : Operand) (ho : op.op = .load ty x)
    (b o : Nat) (hx : a.eval x = .pointer (some ⟨b, o, none⟩)) (cs : List Value) (d : TypeDesc) (hc : w.rangeAt b o cs)
    (hu : P.underlying ty = some d) (hd : d.isRow = true) (hi : (P.info? ty).map (·.size) = some cs.length)
    (h : wpList P ops Q rest (a.put op.dst (.agg cs.toArray)) w) : wpList P ops Q (op :: rest) a w := by
  unfold wpList
  rw [if_pos hw]
  exact .inl (wp_load_mid ty x ho b o hx cs d hc hu hd hi h)
/-- The cells of the bars that have been seen. -/
def seenL (n : Nat) (d : List Int) : List Bool := (List.range n).map fun i => decide (((i : Nat) : Int) ∈ d)
def seenA (n : Nat) (d : List Int) : Array Value := ((seenL n d).map Value.bool).toArray
theorem seenA_get {n k : Nat} (hk : k < n) (d : List Int) : (seenA n d)[k]? = some (.bool (decide ((k : Int) ∈ d))) := by
  simp [seenA, seenL, hk]
theorem seenA_set {n k : Nat} (d : List Int) : (seenA n d).setIfInBounds k (.bool true) = seenA n (d ++ [(k : Int)]) := by
  apply Array.ext_getElem?
  intro m
  rw [Array.getElem?_setIfInBounds]
  by_cases hm : m < n
  · rw [seenA_get hm, seenA_get hm]
    by_cases hk : k = m
    · subst hk
      rw [if_pos rfl, if_pos (by simp [seenA, seenL]; exact hm)]
      simp
    · rw [if_neg hk]
      have : ¬ ((m : Int) = (k : Int)) := by omega
      simp [this]
  · have h1 : ∀ d, (seenA n d)[m]? = none := fun d => by
      rw [Array.getElem?_eq_none]
      simp [seenA, seenL]
      omega
    rw [h1, h1]
    split
    · split
      · rename_i h2
        simp [seenA, seenL] at h2
        omega
      · rfl
    · rfl
theorem seenA_nil (n : Nat) : madeCells #[Value.bool false] n = seenA n [] := by
  apply Array.ext_getElem?
  intro m
  by_cases hm : m < n
  · rw [seenA_get hm]
    simp [madeCells, hm, Nat.mod_one]
  · rw [Array.getElem?_eq_none (by simp [madeCells]; omega), Array.getElem?_eq_none (by simp [seenA, seenL]; omega)]
theorem boolInfo : (Try.prog.info? 4).map (fun i => (i.zero, i.size, i.bytes)) = some (some (.bool false), 1, 1) := by kernel_rfl
theorem flat_take {C : List (List Int)} {q : Nat} (hq : q < C.length) : (C.take (q + 1)).flatten = (C.take q).flatten ++ C[q] := by
  rw [List.take_succ_eq_append_getElem hq, List.flatten_append]
  simp
theorem fresh_of {C : List (List Int)} (h : C.flatten.Nodup) {q j : Nat} (hq : q < C.length) (hj : j < C[q].length) : C[q][j] ∉ (C.take q).flatten ++ C[q].take j := by
  have e : C.flatten = ((C.take q).flatten ++ C[q].take j) ++ (C[q].drop j ++ (C.drop (q + 1)).flatten) := by
    have h1 : C = C.take (q + 1) ++ C.drop (q + 1) := (List.take_append_drop _ _).symm
    have h2 : C[q] = C[q].take j ++ C[q].drop j := (List.take_append_drop _ _).symm
    calc C.flatten = (C.take (q + 1) ++ C.drop (q + 1)).flatten := by rw [List.take_append_drop]
      _ = ((C.take q).flatten ++ C[q]) ++ (C.drop (q + 1)).flatten := by rw [List.flatten_append, flat_take hq]
      _ = ((C.take q).flatten ++ (C[q].take j ++ C[q].drop j)) ++ (C.drop (q + 1)).flatten := by rw [List.take_append_drop]
      _ = _ := by simp only [List.append_assoc]
  rw [e, List.nodup_append] at h
  intro hm
  refine h.2.2 _ hm _ ?_ rfl
  refine List.mem_append.2 (.inl ?_)
  rw [List.drop_eq_getElem_cons hj]
  exact List.mem_cons_self
theorem jn_in {js : List Jn} {a b : Int} (h : (⟨a, b⟩ : Jn) ∈ js) : anyb js (S.isJn ⟨a, b⟩) = true := by
  unfold anyb
  rw [List.any_eq_true]
  exact ⟨_, h, by simp [S.isJn]⟩
/-- What lies in memory for a detail, its demands too. -/
structure DtOk (w : World) (x : Dt) (ds : List Dm) : Prop where
  at_ : DtAt w w.heap.size x
  dems : DemsAt w w.heap.size x.dA x.dn ds
  cap : x.dn ≤ x.dc
abbrev noLaps (x : Dt) : Dt := { x with js := [], jA := none, jn := 0, jc := 0 }
theorem noLaps_at {w : World} {B : Nat} {x : Dt} (h : DtAt w B x) : DtAt w B (noLaps x) := ⟨h.sol, h.name, h.bars, h.runs, rfl, Nat.zero_le _, .inl rfl⟩
theorem noLaps_look {x : Dt} {td : Bool} (h : S.look x td = true) : S.look (noLaps x) td = true := by
  simp only [S.look, Bool.and_eq_true, decide_eq_true_eq] at h ⊢
  exact ⟨⟨h.1.1, Nat.zero_le _⟩, rfl⟩
set_option maxRecDepth 20000 in
set_option maxHeartbeats 8000000 in
theorem lapchains_big (x : Dt) (ds : List Dm) (w : World) (h : DtOk w x ds) (hsm : S.small25 x ds = false) :
    Calls Try.prog 6 #[dtV x] w fun e w' => e = .returned (.bool true) ∧ Below w.heap.size w w' := by
  have HA := Lib.hid (fun w => awake_any w)
  have HSM := Lib.hid (fun (W : World) (hw : Below w.heap.size w W) => small25_any x ds w.heap.size W hw.size (h.at_.at_ (Nat.le_refl _) hw) (h.dems.at_ (Nat.le_refl _) hw))
  have hDV : ∀ W, Below w.heap.size w W → Calls Try.prog 58 #[.slice x.dA x.dn x.dc] W fun e w' => e = .returned (.bool (S.dems ds)) ∧ Below W.heap.size W w' := fun W hw => dvalid_any ds x.dA x.dn x.dc w.heap.size W hw.size h.cap (h.dems.at_ (Nat.le_refl _) hw)
  have hDB := Blk.new w 55 #[.string x.m.name, .slice x.mA x.mn x.mc, .slice x.hA x.hn x.hc, .int .i64 x.m.cover, .int .i64 x.m.aggr, .int .i64 x.m.poker, .slice x.bA x.bn x.bc, .slice x.rA x.rn x.rc, .slice x.jA x.jn x.jc, .slice x.dA x.dn x.dc, .int .i64 x.rule.num, .int .i64 x.rule.den, .int .i64 x.rule.pnum, .int .i64 x.rule.pden, .int .i64 x.rule.bnum, .int .i64 x.rule.bden, .int .i64 x.rule.lnum, .int .i64 x.rule.lden, .int .i64 x.rule.least]
  have HRG := Lib.hid (fun (W : World) (hw : Below (w.alloc (.cells #[.string x.m.name, .slice x.mA x.mn x.mc, .slice x.hA x.hn x.hc, .int .i64 x.m.cover, .int .i64 x.m.aggr, .int .i64 x.m.poker, .slice x.bA x.bn x.bc, .slice x.rA x.rn x.rc, .slice x.jA x.jn x.jc, .slice x.dA x.dn x.dc, .int .i64 x.rule.num, .int .i64 x.rule.den, .int .i64 x.rule.pnum, .int .i64 x.rule.pden, .int .i64 x.rule.bnum, .int .i64 x.rule.bden, .int .i64 x.rule.lnum, .int .i64 x.rule.lden, .int .i64 x.rule.least] 55)).heap.size (w.alloc (.cells #[.string x.m.name, .slice x.mA x.mn x.mc, .slice x.hA x.hn x.hc, .int .i64 x.m.cover, .int .i64 x.m.aggr, .int .i64 x.m.poker, .slice x.bA x.bn x.bc, .slice x.rA x.rn x.rc, .slice x.jA x.jn x.jc, .slice x.dA x.dn x.dc, .int .i64 x.rule.num, .int .i64 x.rule.den, .int .i64 x.rule.pnum, .int .i64 x.rule.pden, .int .i64 x.rule.bnum, .int .i64 x.rule.bden, .int .i64 x.rule.lnum, .int .i64 x.rule.lden, .int .i64 x.rule.least] 55)) W) => (hDB.via hw).range)
  rw [hsm] at HSM
  clear hDV h hsm
  unfold dtV at HSM
  unfold dtV
  go_enter Try.func6, Try.ntmps6
  go_wp2_with (first
    | (go_at_call 7; (with_reducible refine (HA.out _).mono ?_); rintro e w1 ⟨rfl, hbw1⟩; obtain ⟨hcw1, hfw1⟩ := bcell hbw1; have hzw1_0 : w.heap.size < w1.heap.size := lt_via hbw1 (by first | omega | (simp; done) | (simp; omega)))
    | (refine wpList_load_mid rfl 55 (.tmp 1) rfl _ _ rfl _ _ (HRG.out _ (by repeat (first | exact Below.refl _ _ | assumption | refine ba_alloc ?_ _ | refine ba_drew ?_ | refine ba_drewN ?_ _ | refine ba_via (by assumption) ?_ | (refine ba_set ?_ ?_ _; rotate_left; (first | omega | (simp; omega) | simp))))) Try.underlying55 rfl (by kernel_rfl) ?_)
    | (go_at_call 20; (with_reducible refine (HSM.out _ (by repeat (first | exact Below.refl _ _ | assumption | refine ba_alloc ?_ _ | refine ba_drew ?_ | refine ba_drewN ?_ _ | refine ba_via (by assumption) ?_ | (refine ba_set ?_ ?_ _; rotate_left; (first | omega | (simp; omega) | simp))))).mono ?_); rintro e w2 ⟨rfl, hbw2⟩; obtain ⟨hcw2, hfw2⟩ := bcell hbw2; have hzw2_0 : w.heap.size < w2.heap.size := lt_via hbw2 (by first | omega | (simp; done) | (simp; omega))))
  go_ret
  exact ⟨rfl, (by repeat (first | exact Below.refl _ _ | assumption | refine ba_alloc ?_ _ | refine ba_drew ?_ | refine ba_drewN ?_ _ | refine ba_via (by assumption) ?_ | (refine ba_set ?_ ?_ _; rotate_left; (first | omega | (simp; omega) | simp))))⟩
set_option maxRecDepth 20000 in
set_option maxHeartbeats 8000000 in
theorem lapchains_bad (x : Dt) (ds : List Dm) (w : World) (h : DtOk w x ds) (hsm : S.small25 x ds = true) (hlk : S.look x (S.dems ds) = false) :
    Calls Try.prog 6 #[dtV x] w fun e w' => e = .returned (.bool true) ∧ Below w.heap.size w w' := by
  have HA := Lib.hid (fun w => awake_any w)
  have HSM := Lib.hid (fun (W : World) (hw : Below w.heap.size w W) => small25_any x ds w.heap.size W hw.size (h.at_.at_ (Nat.le_refl _) hw) (h.dems.at_ (Nat.le_refl _) hw))
  have hDV : ∀ W, Below w.heap.size w W → Calls Try.prog 58 #[.slice x.dA x.dn x.dc] W fun e w' => e = .returned (.bool (S.dems ds)) ∧ Below W.heap.size W w' := fun W hw => dvalid_any ds x.dA x.dn x.dc w.heap.size W hw.size h.cap (h.dems.at_ (Nat.le_refl _) hw)
  have hDB := Blk.new w 55 #[.string x.m.name, .slice x.mA x.mn x.mc, .slice x.hA x.hn x.hc, .int .i64 x.m.cover, .int .i64 x.m.aggr, .int .i64 x.m.poker, .slice x.bA x.bn x.bc, .slice x.rA x.rn x.rc, .slice x.jA x.jn x.jc, .slice x.dA x.dn x.dc, .int .i64 x.rule.num, .int .i64 x.rule.den, .int .i64 x.rule.pnum, .int .i64 x.rule.pden, .int .i64 x.rule.bnum, .int .i64 x.rule.bden, .int .i64 x.rule.lnum, .int .i64 x.rule.lden, .int .i64 x.rule.least]
  have HRG := Lib.hid (fun (W : World) (hw : Below (w.alloc (.cells #[.string x.m.name, .slice x.mA x.mn x.mc, .slice x.hA x.hn x.hc, .int .i64 x.m.cover, .int .i64 x.m.aggr, .int .i64 x.m.poker, .slice x.bA x.bn x.bc, .slice x.rA x.rn x.rc, .slice x.jA x.jn x.jc, .slice x.dA x.dn x.dc, .int .i64 x.rule.num, .int .i64 x.rule.den, .int .i64 x.rule.pnum, .int .i64 x.rule.pden, .int .i64 x.rule.bnum, .int .i64 x.rule.bden, .int .i64 x.rule.lnum, .int .i64 x.rule.lden, .int .i64 x.rule.least] 55)).heap.size (w.alloc (.cells #[.string x.m.name, .slice x.mA x.mn x.mc, .slice x.hA x.hn x.hc, .int .i64 x.m.cover, .int .i64 x.m.aggr, .int .i64 x.m.poker, .slice x.bA x.bn x.bc, .slice x.rA x.rn x.rc, .slice x.jA x.jn x.jc, .slice x.dA x.dn x.dc, .int .i64 x.rule.num, .int .i64 x.rule.den, .int .i64 x.rule.pnum, .int .i64 x.rule.pden, .int .i64 x.rule.bnum, .int .i64 x.rule.bden, .int .i64 x.rule.lnum, .int .i64 x.rule.lden, .int .i64 x.rule.least] 55)) W) => (hDB.via hw).range)
  rw [hsm] at HSM
  have HLN := fun (W : World) (hw : Below w.heap.size w W) => look_no x (S.dems ds) w.heap.size W hw.size (h.at_.at_ (Nat.le_refl _) hw) (fun V hV => hDV V (hw.trans (hV.mono hw.size))) hlk
  have HCN := Lib.hid (fun (W : World) (hw : Below w.heap.size w W) => lchains_no x w.heap.size W hw.size (fun V hV => HLN V (hw.trans (hV.mono hw.size))))
  have HVN := Lib.hid (fun (W : World) (hw : Below w.heap.size w W) => lvalid_any x false w.heap.size 0 [] W hw.size (fun V hV => HLN V (hw.trans (hV.mono hw.size))))
  clear hDV h hsm hlk HLN
  unfold dtV at HSM HCN HVN
  unfold dtV
  go_enter Try.func6, Try.ntmps6
  go_wp2_with (first
    | (go_at_call 7; (with_reducible refine (HA.out _).mono ?_); rintro e w1 ⟨rfl, hbw1⟩; obtain ⟨hcw1, hfw1⟩ := bcell hbw1; have hzw1_0 : w.heap.size < w1.heap.size := lt_via hbw1 (by first | omega | (simp; done) | (simp; omega)))
    | (refine wpList_load_mid rfl 55 (.tmp 1) rfl _ _ rfl _ _ (HRG.out _ (by repeat (first | exact Below.refl _ _ | assumption | refine ba_alloc ?_ _ | refine ba_drew ?_ | refine ba_drewN ?_ _ | refine ba_via (by assumption) ?_ | (refine ba_set ?_ ?_ _; rotate_left; (first | omega | (simp; omega) | simp))))) Try.underlying55 rfl (by kernel_rfl) ?_)
    | (refine wpList_load_gd (by rfl) 55 (.tmp 1) rfl _ _ rfl _ _ (HRG.out _ (by repeat (first | exact Below.refl _ _ | assumption | refine ba_alloc ?_ _ | refine ba_drew ?_ | refine ba_drewN ?_ _ | refine ba_via (by assumption) ?_ | (refine ba_set ?_ ?_ _; rotate_left; (first | omega | (simp; omega) | simp))))) Try.underlying55 rfl (by kernel_rfl) ?_)
    | (refine wp_load_mid 55 (.tmp 1) rfl _ _ rfl _ _ (HRG.out _ (by repeat (first | exact Below.refl _ _ | assumption | refine ba_alloc ?_ _ | refine ba_drew ?_ | refine ba_drewN ?_ _ | refine ba_via (by assumption) ?_ | (refine ba_set ?_ ?_ _; rotate_left; (first | omega | (simp; omega) | simp))))) Try.underlying55 rfl (by kernel_rfl) ?_)
    | (go_at_call 20; (with_reducible refine (HSM.out _ (by repeat (first | exact Below.refl _ _ | assumption | refine ba_alloc ?_ _ | refine ba_drew ?_ | refine ba_drewN ?_ _ | refine ba_via (by assumption) ?_ | (refine ba_set ?_ ?_ _; rotate_left; (first | omega | (simp; omega) | simp))))).mono ?_); rintro e w2 ⟨rfl, hbw2⟩; obtain ⟨hcw2, hfw2⟩ := bcell hbw2; have hzw2_0 : w.heap.size < w2.heap.size := lt_via hbw2 (by first | omega | (simp; done) | (simp; omega)))
    | (go_at_call 21; (with_reducible refine (HCN.out _ (by repeat (first | exact Below.refl _ _ | assumption | refine ba_alloc ?_ _ | refine ba_drew ?_ | refine ba_drewN ?_ _ | refine ba_via (by assumption) ?_ | (refine ba_set ?_ ?_ _; rotate_left; (first | omega | (simp; omega) | simp))))).mono ?_); rintro e w3 ⟨rfl, hbw3⟩; obtain ⟨hcw3, hfw3⟩ := bcell hbw3; have hzw3_0 : w.heap.size < w3.heap.size := lt_via hbw3 (by first | omega | (simp; done) | (simp; omega)))
    | (go_at_call 22; (with_reducible refine (HVN.out _ (by repeat (first | exact Below.refl _ _ | assumption | refine ba_alloc ?_ _ | refine ba_drew ?_ | refine ba_drewN ?_ _ | refine ba_via (by assumption) ?_ | (refine ba_set ?_ ?_ _; rotate_left; (first | omega | (simp; omega) | simp))))).mono ?_); rintro e w4 ⟨rfl, hbw4⟩; obtain ⟨hcw4, hfw4⟩ := bcell hbw4; have hzw4_0 : w.heap.size < w4.heap.size := lt_via hbw4 (by first | omega | (simp; done) | (simp; omega))))
  go_ret
  exact ⟨rfl, (by repeat (first | exact Below.refl _ _ | assumption | refine ba_alloc ?_ _ | refine ba_drew ?_ | refine ba_drewN ?_ _ | refine ba_via (by assumption) ?_ | (refine ba_set ?_ ?_ _; rotate_left; (first | omega | (simp; omega) | simp))))⟩
theorem Blk.there {w : World} {g : Nat} {t : TypeId} {cs : Array Value} (h : Blk w g t cs) {n : Nat} (hn : n ≤ cs.size) : w.there g 0 n := fun j hj => ⟨by rw [Nat.zero_add, h.cell]; simp; omega, h.frozen _⟩
theorem Blk.put {t : TypeId} {g : Nat} : ∀ (vs : List Value) (o : Nat) (w : World) (cs : Array Value), Blk w g t cs → o + vs.length ≤ cs.size →
    ∃ cs', Blk (w.setCells g o vs) g t cs' ∧ cs'.size = cs.size ∧ ∀ j, cs'[j]? = if o ≤ j ∧ j < o + vs.length then vs[j - o]? else cs[j]? := by
  intro vs
  induction vs with
  | nil => intro o w cs h _; exact ⟨cs, h, rfl, fun j => by rw [if_neg (by simp)]⟩
  | cons v r ih =>
    intro o w cs h hl
    simp only [List.length_cons] at hl
    obtain ⟨cs', h1, h2, h3⟩ := ih (o + 1) _ _ (h.set o v) (by simp; omega)
    refine ⟨cs', h1, by simpa using h2, fun j => ?_⟩
    rw [h3 j, Array.getElem?_setIfInBounds]
    simp only [List.length_cons]
    by_cases e : o = j
    · subst e
      rw [if_neg (by omega), if_pos rfl, if_pos (by omega), if_pos (by omega), Nat.sub_self]
      rfl
    · by_cases e2 : o + 1 ≤ j ∧ j < o + 1 + r.length
      · rw [if_pos e2, if_pos (by omega)]
        obtain ⟨m, rfl⟩ : ∃ m, j = o + 1 + m := ⟨j - (o + 1), by omega⟩
        rw [show o + 1 + m - (o + 1) = m by omega, show o + 1 + m - o = m + 1 by omega]
        rfl
      · rw [if_neg e2, if_neg e, if_neg (by omega)]
theorem Blk.put0 {t : TypeId} {g : Nat} {w : World} {cs : Array Value} (h : Blk w g t cs) (vs : Array Value) (hl : vs.size = cs.size) : Blk (w.setCells g 0 vs.toList) g t vs := by
  obtain ⟨cs', h1, h2, h3⟩ := Blk.put vs.toList 0 w cs h (by simp; omega)
  have : cs' = vs := by
    apply Array.ext_getElem?
    intro j
    rw [h3 j]
    by_cases hj : j < vs.size
    · rw [if_pos ⟨by omega, by simpa using hj⟩]
      simp
    · rw [if_neg (by simp; omega), Array.getElem?_eq_none (by omega), Array.getElem?_eq_none (by omega)]
  rw [this] at h1
  exact h1
/-- A variable of our own gets what lies in another one: the block whole, the world a letter. -/
theorem wp_copy_block {P : Program} {id : Nat} {Q : Exit → Act → World → Prop} {a : Act} {w : World} {o1 o2 o3 : Oper} (g1 : o1.guard = none) (g2 : o2.guard = none) (g3 : o3.guard = none) (T : TypeId) (x y z : Operand) (b : Nat) (cs Z : List Value) (d : TypeDesc)
    (h1 : o1.op = .load T x) (hx : a.eval x = .pointer (some ⟨b, 0, none⟩)) (hc : w.rangeAt b 0 cs) (hu : P.underlying T = some d) (hd : d.isRow = true) (hi : (P.info? T).map (·.size) = some cs.length)
    (h2 : (execOp (a.put o1.dst (.agg cs.toArray)).eval o2).run P w = .ok (.value (.pointer (some ⟨w.heap.size, 0, none⟩))) (w.alloc (.cells Z.toArray T))) (hZ : Z.length = cs.length)
    (h3 : o3.op = .store T y z) (hy : ((a.put o1.dst (.agg cs.toArray)).put o2.dst (.pointer (some ⟨w.heap.size, 0, none⟩))).eval y = .pointer (some ⟨w.heap.size, 0, none⟩)) (hz : ((a.put o1.dst (.agg cs.toArray)).put o2.dst (.pointer (some ⟨w.heap.size, 0, none⟩))).eval z = .agg cs.toArray)
    (hone : cs.toArray.all (·.oneCell') = true)
    (h : ∀ W, Blk W w.heap.size T cs.toArray → Below w.heap.size w W → Q .normal (((a.put o1.dst (.agg cs.toArray)).put o2.dst (.pointer (some ⟨w.heap.size, 0, none⟩))).put o3.dst undef) W) :
    (Code.region id #[o1, o2, o3] false).wp P Q a w := by
  refine wp_region_list ?_
  refine wpList_load_mid g1 T x h1 b 0 hx cs d hc hu hd hi ?_
  refine wpList_plain g2 fun K hK => ?_
  unfold Oper.wp
  rw [h2]
  refine hK _ _ ?_
  have hB := Blk.new w T Z.toArray
  have hsz : cs.toArray.size = Z.toArray.size := by simp [hZ]
  refine wpList_store_mid g3 T y z h3 w.heap.size 0 cs.toArray hy hz (hB.there (by omega)) (by simpa using hi) hone ?_
  refine wpList_nil (h _ ?_ ?_)
  · have := hB.put0 cs.toArray hsz
    exact this
  · exact (ba_alloc (Below.refl _ _) _).trans ((exc_setCells w.heap.size _ 0 _).below (by simp) (by intro g hg; simp at hg; omega))
theorem chains_each {js : List Jn} {n : Nat} {l : List Int} (h : l ∈ S.chains js n) : l.length ≤ n + 1 := by
  unfold S.chains S.chainsTo at h
  obtain ⟨i, _, hi⟩ := List.mem_map.1 h
  rw [← hi]
  exact chainOf_le _ _ _
set_option maxRecDepth 20000 in
set_option maxHeartbeats 8000000 in
theorem lapchains_good (x : Dt) (ds : List Dm) (w : World) (h : DtOk w x ds) (hsm : S.small25 x ds = true) (hlk : S.look x (S.dems ds) = true) :
    Calls Try.prog 6 #[dtV x] w fun e w' => e = .returned (.bool true) ∧ Below w.heap.size w w' := by
  have HA := Lib.hid (fun w => awake_any w)
  have HSM := Lib.hid (fun (W : World) (hw : Below w.heap.size w W) => small25_any x ds w.heap.size W hw.size (h.at_.at_ (Nat.le_refl _) hw) (h.dems.at_ (Nat.le_refl _) hw))
  have hDV : ∀ W, Below w.heap.size w W → Calls Try.prog 58 #[.slice x.dA x.dn x.dc] W fun e w' => e = .returned (.bool (S.dems ds)) ∧ Below W.heap.size W w' := fun W hw => dvalid_any ds x.dA x.dn x.dc w.heap.size W hw.size h.cap (h.dems.at_ (Nat.le_refl _) hw)
  have hDB := Blk.new w 55 #[.string x.m.name, .slice x.mA x.mn x.mc, .slice x.hA x.hn x.hc, .int .i64 x.m.cover, .int .i64 x.m.aggr, .int .i64 x.m.poker, .slice x.bA x.bn x.bc, .slice x.rA x.rn x.rc, .slice x.jA x.jn x.jc, .slice x.dA x.dn x.dc, .int .i64 x.rule.num, .int .i64 x.rule.den, .int .i64 x.rule.pnum, .int .i64 x.rule.pden, .int .i64 x.rule.bnum, .int .i64 x.rule.bden, .int .i64 x.rule.lnum, .int .i64 x.rule.lden, .int .i64 x.rule.least]
  have HRG := Lib.hid (fun (W : World) (hw : Below (w.alloc (.cells #[.string x.m.name, .slice x.mA x.mn x.mc, .slice x.hA x.hn x.hc, .int .i64 x.m.cover, .int .i64 x.m.aggr, .int .i64 x.m.poker, .slice x.bA x.bn x.bc, .slice x.rA x.rn x.rc, .slice x.jA x.jn x.jc, .slice x.dA x.dn x.dc, .int .i64 x.rule.num, .int .i64 x.rule.den, .int .i64 x.rule.pnum, .int .i64 x.rule.pden, .int .i64 x.rule.bnum, .int .i64 x.rule.bden, .int .i64 x.rule.lnum, .int .i64 x.rule.lden, .int .i64 x.rule.least] 55)).heap.size (w.alloc (.cells #[.string x.m.name, .slice x.mA x.mn x.mc, .slice x.hA x.hn x.hc, .int .i64 x.m.cover, .int .i64 x.m.aggr, .int .i64 x.m.poker, .slice x.bA x.bn x.bc, .slice x.rA x.rn x.rc, .slice x.jA x.jn x.jc, .slice x.dA x.dn x.dc, .int .i64 x.rule.num, .int .i64 x.rule.den, .int .i64 x.rule.pnum, .int .i64 x.rule.pden, .int .i64 x.rule.bnum, .int .i64 x.rule.bden, .int .i64 x.rule.lnum, .int .i64 x.rule.lden, .int .i64 x.rule.least] 55)) W) => (hDB.via hw).range)
  rw [hsm] at HSM
  have hlk2 := hlk
  simp only [S.look, Bool.and_eq_true, decide_eq_true_eq] at hlk2
  obtain ⟨⟨⟨⟨⟨_, hlaid⟩, _⟩, _⟩, hj1000⟩, hlok⟩ := hlk2
  have hn2000 : (S.mains (bars x.bs) x.rs).length ≤ 2000 := by
    have h2 := hlaid
    simp only [S.laid, Bool.and_eq_true] at h2
    have := mains_len h2.2 (by omega)
    omega
  have HLY := fun (W : World) (hw : Below w.heap.size w W) => look_yes x (S.dems ds) w.heap.size W hw.size (h.at_.at_ (Nat.le_refl _) hw) (fun V hV => hDV V (hw.trans (hV.mono hw.size))) hlk
  have HLZ := fun (W : World) (hw : Below w.heap.size w W) => look_yes (noLaps x) (S.dems ds) w.heap.size W hw.size (noLaps_at (h.at_.at_ (Nat.le_refl _) hw)) (fun V hV => hDV V (hw.trans (hV.mono hw.size))) (noLaps_look hlk)
  have HCT := Lib.hid (fun (W : World) (hw : Below w.heap.size w W) => count_yes x w.heap.size W hw.size (h.at_.at_ (Nat.le_refl _) hw) hlaid)
  have hgood := laps_good hlok
  have hgood0 := laps_good (L := S.mains (bars x.bs) x.rs) (js := []) (f := fun _ => false) (s := fun _ => false) rfl
  have HCY := Lib.hid (fun (W : World) (hw : Below w.heap.size w W) => lchains_yes x w.heap.size _ _ _ W hw.size hn2000 (fun V hV => HLY V (hw.trans (hV.mono hw.size))) (fun V hV => chains_any x _ _ w.heap.size V (hw.trans (hV.mono hw.size)).size (h.at_.at_ (Nat.le_refl _) (hw.trans (hV.mono hw.size))) hgood hn2000 hj1000))
  have HCZ := Lib.hid (fun (W : World) (hw : Below w.heap.size w W) => lchains_yes (noLaps x) w.heap.size _ _ _ W hw.size hn2000 (fun V hV => HLZ V (hw.trans (hV.mono hw.size))) (fun V hV => chains_any (noLaps x) _ _ w.heap.size V (hw.trans (hV.mono hw.size)).size (noLaps_at (h.at_.at_ (Nat.le_refl _) (hw.trans (hV.mono hw.size)))) hgood0 hn2000 (Nat.zero_le _)))
  have HKZ := Lib.hid (fun (W : World) (hw : Below w.heap.size w W) => lcheck_nil (noLaps x) w.heap.size _ _ W hw.size ⟨rfl, rfl, rfl⟩ (fun V hV => HLZ V (hw.trans (hV.mono hw.size))))
  have HG := Lib.hid (chains_good hgood)
  have HL0 := Lib.hid (show (S.chains ([] : List Jn) (S.mains (bars x.bs) x.rs).length).length = (S.mains (bars x.bs) x.rs).length by have := chains_len hgood0; simpa using this)
  have HJ := Lib.hid (fun (j : Jn) (W : World) (hw : Below w.heap.size w W) => containsJ_any x.js j x.jA x.jn x.jc w.heap.size W h.at_.jlen h.at_.jmax hw.size (h.at_.joints.below hw))
  have hjl := h.at_.jlen
  have HCE1 := Lib.hid (fun (l : List Int) (hl : l ∈ S.chains x.js (S.mains (bars x.bs) x.rs).length) => chains_each hl)
  clear hDV h hsm hlk HLY HLZ hlaid hlok hgood hgood0
  unfold dtV at HSM HCY HCZ HKZ
  unfold dtV
  unfold noLaps at HCZ HKZ
  simp only [] at HCZ HKZ
  generalize S.mains (bars x.bs) x.rs = L at *
  generalize L.length = n at *
  generalize S.chains x.js n = C at *
  generalize S.chains ([] : List Jn) n = C0 at *
  have hlen := HG.out.len
  have hmk := run_make_row' (P := Try.prog) 61 4 (.bool false) 1 Try.underlying61 boolInfo rfl .i64 .i64 n (by omega) (by omega)
  go_enter Try.func6, Try.ntmps6
  go_upto_region 11 with (first
    | (go_at_call 7; (with_reducible refine (HA.out _).mono ?_); rintro e w1 ⟨rfl, hbw1⟩; obtain ⟨hcw1, hfw1⟩ := bcell hbw1; have hzw1_0 : w.heap.size < w1.heap.size := lt_via hbw1 (by first | omega | (simp; done) | (simp; omega)))
    | (refine wpList_load_mid rfl 55 (.tmp 1) rfl _ _ rfl _ _ (HRG.out _ (by repeat (first | exact Below.refl _ _ | assumption | refine ba_alloc ?_ _ | refine ba_drew ?_ | refine ba_drewN ?_ _ | refine ba_via (by assumption) ?_ | (refine ba_set ?_ ?_ _; rotate_left; (first | omega | (simp; omega) | simp))))) Try.underlying55 rfl (by kernel_rfl) ?_)
    | (go_at_call 20; (with_reducible refine (HSM.out _ (by repeat (first | exact Below.refl _ _ | assumption | refine ba_alloc ?_ _ | refine ba_drew ?_ | refine ba_drewN ?_ _ | refine ba_via (by assumption) ?_ | (refine ba_set ?_ ?_ _; rotate_left; (first | omega | (simp; omega) | simp))))).mono ?_); rintro e w2 ⟨rfl, hbw2⟩; obtain ⟨hcw2, hfw2⟩ := bcell hbw2; have hzw2_0 : w.heap.size < w2.heap.size := lt_via hbw2 (by first | omega | (simp; done) | (simp; omega)))
    | (go_at_call 21; go_loud (with_reducible refine (HCY.out _ (by repeat (first | exact Below.refl _ _ | assumption | refine ba_alloc ?_ _ | refine ba_drew ?_ | refine ba_drewN ?_ _ | refine ba_via (by assumption) ?_ | (refine ba_set ?_ ?_ _; rotate_left; (first | omega | (simp; omega) | simp))))).mono ?_); go_loud (rintro e w3 ⟨A, c, rs, rfl, hrs, hrc, hcc, hce, hbw3⟩); go_loud (obtain ⟨hcw3, hfw3⟩ := bcell hbw3); go_loud (have hzw3_0 : w.heap.size < w3.heap.size := lt_via hbw3 (by first | omega | (simp; done) | (simp; omega))); go_loud (have hrl : rs.length = C.length := by (have := congrArg List.length hrs; simpa using this)); go_loud (have e9 : IntKind.i64.wrap ((n : Int) - (x.jn : Int)) = (rs.length : Int) := by (rw [IntWalk.i64_in _ (by omega)]; omega)))
    | (go_at_call 23; (with_reducible refine (HCT.out _ (by repeat (first | exact Below.refl _ _ | assumption | refine ba_alloc ?_ _ | refine ba_drew ?_ | refine ba_drewN ?_ _ | refine ba_via (by assumption) ?_ | (refine ba_set ?_ ?_ _; rotate_left; (first | omega | (simp; omega) | simp))))).mono ?_); rintro e w4 ⟨rfl, hbw4⟩; obtain ⟨hcw4, hfw4⟩ := bcell hbw4; have hzw4_0 : w.heap.size < w4.heap.size := lt_via hbw4 (by first | omega | (simp; done) | (simp; omega))))
  have hB4 : Below (w.alloc (.cells #[.string x.m.name, .slice x.mA x.mn x.mc, .slice x.hA x.hn x.hc, .int .i64 x.m.cover, .int .i64 x.m.aggr, .int .i64 x.m.poker, .slice x.bA x.bn x.bc, .slice x.rA x.rn x.rc, .slice x.jA x.jn x.jc, .slice x.dA x.dn x.dc, .int .i64 x.rule.num, .int .i64 x.rule.den, .int .i64 x.rule.pnum, .int .i64 x.rule.pden, .int .i64 x.rule.bnum, .int .i64 x.rule.bden, .int .i64 x.rule.lnum, .int .i64 x.rule.lden, .int .i64 x.rule.least] 55)).heap.size (w.alloc (.cells #[.string x.m.name, .slice x.mA x.mn x.mc, .slice x.hA x.hn x.hc, .int .i64 x.m.cover, .int .i64 x.m.aggr, .int .i64 x.m.poker, .slice x.bA x.bn x.bc, .slice x.rA x.rn x.rc, .slice x.jA x.jn x.jc, .slice x.dA x.dn x.dc, .int .i64 x.rule.num, .int .i64 x.rule.den, .int .i64 x.rule.pnum, .int .i64 x.rule.pden, .int .i64 x.rule.bnum, .int .i64 x.rule.bden, .int .i64 x.rule.lnum, .int .i64 x.rule.lden, .int .i64 x.rule.least] 55)) w4 := (by repeat (first | exact Below.refl _ _ | assumption | refine ba_alloc ?_ _ | refine ba_drew ?_ | refine ba_drewN ?_ _ | refine ba_via (by assumption) ?_ | (refine ba_set ?_ ?_ _; rotate_left; (first | omega | (simp; omega) | simp))))
  have hb4 : Below w.heap.size w w4 := ba_via hB4 (ba_alloc (Below.refl _ _) _)
  have HD8 := Lib.hid (fun (W : World) (hw : Below w4.heap.size w4 W) => show W.cell? ⟨w.heap.size, 8, none⟩ = some (.slice x.jA x.jn x.jc) from (hDB.via (hB4.trans (hw.mono hB4.size))).cell 8)
  have HRG := Lib.hid (fun (W : World) (hw : Below w4.heap.size w4 W) => (hDB.via (hB4.trans (hw.mono hB4.size))).range)
  have h34 := hbw4.size
  have HCC := Lib.hid (fun (W : World) (hw : Below w4.heap.size w4 W) => hcc.below (hbw4.trans (hw.mono hbw4.size)))
  have HCE := Lib.hid (fun r hr (W : World) (hw : Below w4.heap.size w4 W) => (hce r hr).1.below (hbw4.trans (hw.mono hbw4.size)))
  clear hcw1 hfw1 hcw2 hfw2 hcw3 hfw3 hcw4 hfw4 HSM HCY HCT hcc hce hDB hbw1 hbw2 hbw3
  go_upto_region 13 with fail
  have hS0 : Blk (w4.alloc (.cells (madeCells #[.bool false] n) 4)) w4.heap.size 4 (seenA n (C.take 0).flatten) := by
    rw [show (C.take 0).flatten = [] from rfl, ← seenA_nil]
    exact Blk.new _ _ _
  have hb5 : Below w4.heap.size w4 (w4.alloc (.cells (madeCells #[.bool false] n) 4)) := ba_alloc (Below.refl _ _) _
  have hs5 : w4.heap.size + 1 ≤ (w4.alloc (.cells (madeCells #[.bool false] n) 4)).heap.size := by simp
  clear hmk
  generalize (w4.alloc (.cells (madeCells #[.bool false] n) 4)) = w5 at *
  have hw4 : w.heap.size < w4.heap.size := by omega
  have HRL := Lib.hid hrl
  clear hrl
  go_wp2
  go_loopw [66, 8] (fun i z wr => ∃ (q : Nat) (zz : Int), q ≤ rs.length ∧ i = .int .i64 q ∧ z = .int .i64 zz ∧ (∀ i t, C[q]? = some (i :: t) → zz < i) ∧ Blk wr w4.heap.size 4 (seenA n (C.take q).flatten) ∧ Exc [w4.heap.size] w5 wr) (fun i _ _ => rs.length - (intOf i).toNat)
  case atStart =>
    refine ⟨0, -1, Nat.zero_le _, rfl, rfl, fun i t h => ?_, hS0, Exc.refl _ _⟩
    obtain ⟨i', t', he, h0⟩ := HG.out.head 0 _ h
    injection he with he _
    omega
  case round =>
    generalize wr = wq at *
    obtain ⟨q, zz, hq, rfl, rfl, hzz, hS, hX⟩ := hrel
    have hb5q : Below w4.heap.size w4 wq := hb5.trans (hX.below (by omega) (by intro g hg; simp at hg; omega))
    have hsq := hb5q.size
    by_cases hlt : q < rs.length
    · have hqC : q < C.length := by have := HRL.out; omega
      have hqi : (q : Int) < rs.length := by omega
      have HQ := Lib.hid (show q + 1 ≤ rs.length by omega)
      have hcq := HCC.out wq hb5q
      obtain ⟨bA, oA, hAe, hbA, hxx⟩ := hcq.at_ (by rw [List.length_map]; omega)
      clear hxx
      subst hAe
      have c0 := hcq.get (k := q) (v := chV rs[q]) (by rw [List.getElem?_map, List.getElem?_eq_getElem hlt]; rfl)
      have HCI := Lib.hid (HCE.out rs[q] (List.getElem_mem hlt))
      have hrq : rs[q].l = C[q] := by
        have h1 : (rs.map (·.l))[q]? = C[q]? := by rw [hrs]
        rw [List.getElem?_map, List.getElem?_eq_getElem hlt, List.getElem?_eq_getElem hqC] at h1
        exact Option.some.inj h1
      obtain ⟨i0, t0, he, hi0⟩ := HG.out.head q C[q] (List.getElem?_eq_getElem hqC)
      have hz1 := hzz i0 t0 (by rw [List.getElem?_eq_getElem hqC, he])
      have HUP := Lib.hid (fun i t (h : C[q + 1]? = some (i :: t)) => HG.out.up (q + 1) q i i0 t t0 (by omega) h (by rw [List.getElem?_eq_getElem hqC, he]))
      have HFR := Lib.hid (fun j hj => fresh_of HG.out.nodup hqC (j := j) hj)
      have HRN := Lib.hid (fun (b : Int) (hb : b ∈ C[q]) => HG.out.range C[q] (List.getElem_mem hqC) b hb)
      have HLK := Lib.hid (fun (i : Nat) (a b : Int) (h1 : C[q][i]? = some a) (h2 : C[q][i + 1]? = some b) => HG.out.link C[q] (List.getElem_mem hqC) i a b h1 h2)
      have HTK := Lib.hid (flat_take hqC)
      have HLE := Lib.hid (HCE1.out C[q] (List.getElem_mem hqC))
      rw [hrq] at HCI
      have c0' : wq.cell? ⟨bA, oA + q, none⟩ = some (.slice rs[q].A C[q].length rs[q].c) := by rw [c0, ← hrq]
      clear c0 hcq hrq hzz
      generalize rs[q].A = rA at *
      generalize rs[q].c = rc at *
      generalize (C.take q).flatten = done at *
      generalize C[q] = lq at *
      have hl0 : 0 < lq.length := by rw [he]; simp
      have hlq := HLE.out
      obtain ⟨bR, oR, hRe, hbR, hxx⟩ := (HCI.out wq hb5q).at_ (by simpa using hl0)
      clear hxx
      subst hRe
      have hl0b : ((lq.length : Int) == 0) = false := by rw [beq_eq_false_iff_ne]; omega
      have hl0i : (0 : Int) < lq.length := by omega
      have hz2 : ¬ i0 ≤ zz := by omega
      have c1 := (HCI.out wq hb5q).get (k := 0) (v := .int .i64 i0) (by rw [he]; rfl)
      rw [Nat.add_zero] at c1
      clear he
      go_wp2
      go_loopw [85] (fun s wx => ∃ j : Nat, j ≤ lq.length ∧ s = .int .i64 j ∧ Blk wx w4.heap.size 4 (seenA n (done ++ lq.take j)) ∧ Exc [w4.heap.size] w5 wx) (fun s _ => lq.length - (intOf s).toNat)
      case atStart => exact ⟨0, Nat.zero_le _, rfl, by simpa using hS, hX⟩
      case round =>
        generalize wr = wx at *
        obtain ⟨j, hj, rfl, hSx, hXx⟩ := hrel
        have hb5x : Below w4.heap.size w4 wx := hb5.trans (hXx.below (by omega) (by intro g hg; simp at hg; omega))
        have hbx : Below w.heap.size w wx := hb4.trans (hb5x.mono hb4.size)
        by_cases hltj : j < lq.length
        · have hji : (j : Int) < lq.length := by omega
          have hin := HRN.out lq[j] (List.getElem_mem hltj)
          have hfr := HFR.out j hltj
          have cj := (HCI.out wx hb5x).get (k := j) (v := .int .i64 lq[j]) (by simp [hltj])
          have HTJ := Lib.hid (List.take_succ_eq_append_getElem hltj)
          obtain ⟨bn, hbn⟩ : ∃ bn : Nat, lq[j] = (bn : Int) := ⟨lq[j].toNat, by omega⟩
          have HLJ := Lib.hid (fun (j' : Nat) (a : Int) (h1 : j = j' + 1) (h2 : lq[j']? = some a) => jn_in (HLK.out j' a lq[j] h2 (by rw [← h1]; exact List.getElem?_eq_getElem hltj)))
          rw [hbn] at hin hfr cj HTJ HLJ
          have hbnn : bn < n := by omega
          have hbi : (bn : Int) < n := by omega
          have hb0 : decide ((bn : Int) < 0) = false := by rw [decide_eq_false_iff_not]; omega
          have hb1 : decide ((n : Int) ≤ bn) = false := by rw [decide_eq_false_iff_not]; omega
          have hb2 : (0 : Int) ≤ bn := by omega
          have hb3 : decide (n ≤ bn) = false := by rw [decide_eq_false_iff_not]; omega
          have hltS := hSx.lt
          have hltR : bR < wx.heap.size := by have := hb5x.size; omega
          have hltW : w.heap.size < wx.heap.size := by have := hb5x.size; omega
          have fx := hSx.frozen bn
          have sx := hSx.cell bn
          rw [seenA_get hbnn, decide_eq_false hfr] at sx
          have HJQ := Lib.hid (show j + 1 ≤ lq.length by omega)
          have d8 := HD8.out wx hb5x
          have HS2 := Lib.hid hSx
          have HX2 := Lib.hid hXx
          have HFN := Lib.hid (decide_eq_false hfr)
          clear hSx hXx hbn hfr
          have hsx := hb5x.size
          cases j with
          | zero =>
            rw [Nat.add_zero] at cj
            go_wp2
            refine wp_region_grow (by kernel_rfl) (by kernel_rfl) ?_
            repeat (go_big_quiet_step (fail))
            all_goals (refine wpQuiet_nil ?_; intro wg hbwg; obtain ⟨hcwg, hfwg⟩ := bcell hbwg)
            have hSg := HS2.out.via hbwg
            have sg := hSg.cell bn
            rw [seenA_get hbnn, HFN.out] at sg
            have fg := hSg.frozen bn
            go_wp2
            go_roundw
            case rel =>
              refine ⟨0 + 1, HJQ.out, by go_num, ?_, (Exc.via hbwg HX2.out).set (.inl (by simp)) _⟩
              have := hSg.set bn (.bool true)
              rw [seenA_set] at this
              rw [HTJ.out, ← List.append_assoc]
              exact this
            case measure => have := HJQ.out; simp [intOf]; omega
          | succ j' =>
            have hj' : j' < lq.length := by omega
            have cp := (HCI.out wx hb5x).get (k := j') (v := .int .i64 lq[j']) (by simp [hj'])
            have HCJ := Lib.hid (fun (W : World) (hw : Below w.heap.size w W) => HLJ.out j' lq[j'] rfl (List.getElem?_eq_getElem hj') ▸ HJ.out ⟨lq[j'], bn⟩ W hw)
            simp only [] at HCJ
            generalize lq[j'] = a at *
            have hjp : (0 : Int) < ((j' + 1 : Nat) : Int) := by omega
            have e1 : IntKind.i64.wrap (((j' + 1 : Nat) : Int) - 1) = (j' : Nat) := by rw [IntWalk.i64_in _ (by omega)]; omega
            have hjl' : (j' : Int) < lq.length := by omega
            go_wp2
            refine wp_region_grow (by kernel_rfl) (by kernel_rfl) ?_
            repeat (go_big_quiet_step ((first
              | (go_at_call 24; exact grow_of (HCJ.out _ (ba_via (grow_below _ _) (by repeat (first | exact Below.refl _ _ | assumption | refine ba_alloc ?_ _ | refine ba_drew ?_ | refine ba_drewN ?_ _ | refine ba_via (by assumption) ?_ | (refine ba_set ?_ ?_ _; rotate_left; (first | omega | (simp; omega) | simp))))))))))
            all_goals (refine wpQuiet_nil ?_; intro wg hbwg; obtain ⟨hcwg, hfwg⟩ := bcell hbwg)
            have hSg := HS2.out.via hbwg
            have sg := hSg.cell bn
            rw [seenA_get hbnn, HFN.out] at sg
            have fg := hSg.frozen bn
            go_wp2
            go_roundw
            case rel =>
              refine ⟨j' + 1 + 1, HJQ.out, by go_num, ?_, (Exc.via hbwg HX2.out).set (.inl (by simp)) _⟩
              have := hSg.set bn (.bool true)
              rw [seenA_set] at this
              rw [HTJ.out, ← List.append_assoc]
              exact this
            case measure => have := HJQ.out; simp [intOf]; omega
        · have hje : lq.take j = lq := List.take_of_length_le (by omega)
          rw [hje] at hSx
          have hji : ¬ ((j : Int) < lq.length) := by omega
          clear hltj hj
          go_wp2
          go_roundw
          case rel => exact ⟨q + 1, i0, HQ.out, by go_num, rfl, HUP.out, by rw [HTK.out]; exact hSx, hXx⟩
          case measure => have := HQ.out; simp [intOf]; omega
    · have hTK : C.take q = C := List.take_of_length_le (by have := HRL.out; omega)
      rw [hTK] at hS
      have hB4q : Below w.heap.size w wq := hb4.trans (hb5q.mono hb4.size)
      have hall : anyb (seenL n C.flatten) (fun b => !b) = false := by
        unfold anyb
        rw [List.any_eq_false]
        intro b hb
        simp only [seenL, List.mem_map, List.mem_range] at hb
        obtain ⟨i, hi, rfl⟩ := hb
        simpa using HG.out.all (i : Int) (by omega) (by omega)
      have hcb := containsB_any (seenL n C.flatten) (some ⟨w4.heap.size, 0, none⟩) n n wq.heap.size wq (by simp [seenL]) (by omega) (Nat.le_refl _) (.inr ⟨w4.heap.size, 0, rfl, hS.lt, fun j v hv => by rw [Nat.zero_add]; exact (hS.cell j).trans (by simpa [seenA] using hv)⟩)
      rw [hall] at hcb
      have hqn : ¬ ((q : Int) < rs.length) := by omega
      have hqc : ¬ ((q : Int) < C.length) := by have := HRL.out; omega
      have hqc2 : ¬ (q < C.length) := by have := HRL.out; omega
      clear hall hS hX hzz hlt hq
      go_upto_region 29 with (first
        | (go_at_call 25; (with_reducible refine (hcb).mono ?_); rintro e w6 ⟨rfl, hbw6⟩; obtain ⟨hcw6, hfw6⟩ := bcell hbw6))
      have hRG6 := HRG.out w6 (hb5q.trans (hbw6.mono hb5q.size))
      have hq6 : Below w.heap.size w w6 := hB4q.trans (hbw6.mono hB4q.size)
      clear hcb hcw6 hfw6
      refine wp_copy_block rfl rfl rfl 55 (.tmp 1) (.tmp 13) (.tmp 127) w.heap.size [.string x.m.name, .slice x.mA x.mn x.mc, .slice x.hA x.hn x.hc, .int .i64 x.m.cover, .int .i64 x.m.aggr, .int .i64 x.m.poker, .slice x.bA x.bn x.bc, .slice x.rA x.rn x.rc, .slice x.jA x.jn x.jc, .slice x.dA x.dn x.dc, .int .i64 x.rule.num, .int .i64 x.rule.den, .int .i64 x.rule.pnum, .int .i64 x.rule.pden, .int .i64 x.rule.bnum, .int .i64 x.rule.bden, .int .i64 x.rule.lnum, .int .i64 x.rule.lden, .int .i64 x.rule.least] [.string ⟨#[]⟩, .slice none 0 0, .slice none 0 0, .int .i64 0, .int .i64 0, .int .i64 0, .slice none 0 0, .slice none 0 0, .slice none 0 0, .slice none 0 0, .int .i64 0, .int .i64 0, .int .i64 0, .int .i64 0, .int .i64 0, .int .i64 0, .int .i64 0, .int .i64 0, .int .i64 0] _ rfl rfl hRG6 Try.underlying55 rfl (by kernel_rfl) (by kernel_rfl) rfl rfl rfl rfl (by simp [Value.oneCell']) ?_
      intro w7 hD7 hqX
      clear hRG6
      have c78 := hD7.cell 8
      have f78 := hD7.frozen 8
      simp only [List.getElem?_toArray, List.getElem?_cons_zero, List.getElem?_cons_succ] at c78
      have hD8 : Blk (w7.setCell ⟨w6.heap.size, 8, none⟩ (.slice none 0 0)) w6.heap.size 55 #[.string x.m.name, .slice x.mA x.mn x.mc, .slice x.hA x.hn x.hc, .int .i64 x.m.cover, .int .i64 x.m.aggr, .int .i64 x.m.poker, .slice x.bA x.bn x.bc, .slice x.rA x.rn x.rc, .slice none 0 0, .slice x.dA x.dn x.dc, .int .i64 x.rule.num, .int .i64 x.rule.den, .int .i64 x.rule.pnum, .int .i64 x.rule.pden, .int .i64 x.rule.bnum, .int .i64 x.rule.bden, .int .i64 x.rule.lnum, .int .i64 x.rule.lden, .int .i64 x.rule.least] := hD7.set 8 (.slice none 0 0)
      have hq7 : Below w.heap.size w (w7.setCell ⟨w6.heap.size, 8, none⟩ (.slice none 0 0)) := ba_set (hq6.trans (hqX.mono hq6.size)) hq6.size _
      clear hD7 hqX
      go_upto_region 31 with fail
      clear c78 f78
      generalize (w7.setCell ⟨w6.heap.size, 8, none⟩ (.slice none 0 0)) = w8' at *
      have hRG8 := hD8.range
      go_wp2_with (first
        | (refine wpList_load_mid rfl 55 (.tmp 13) rfl _ _ rfl _ _ hRG8 Try.underlying55 rfl (by kernel_rfl) ?_)
        | (refine wpList_load_mid rfl 55 (.tmp 13) rfl _ _ rfl _ _ hRG9 Try.underlying55 rfl (by kernel_rfl) ?_)
        | (go_at_call 26; (with_reducible refine (HKZ.out _ (by repeat (with_reducible first | exact Below.refl _ _ | assumption | refine ba_alloc ?_ _ | refine ba_drew ?_ | refine ba_drewN ?_ _ | refine ba_via (by assumption) ?_ | (refine ba_set ?_ ?_ _; rotate_left; (first | omega | (simp; omega) | simp))))).mono ?_); rintro e w8 ⟨rfl, hbw8⟩; have hRG9 := (hD8.via hbw8).range)
        | (go_at_call 21; (with_reducible refine (HCZ.out _ (by repeat (with_reducible first | exact Below.refl _ _ | assumption | refine ba_alloc ?_ _ | refine ba_drew ?_ | refine ba_drewN ?_ _ | refine ba_via (by assumption) ?_ | (refine ba_set ?_ ?_ _; rotate_left; (first | omega | (simp; omega) | simp))))).mono ?_); rintro e w9 ⟨A', c', rs', rfl, hrs', _, _, _, hbw9⟩; have hrl' : ((rs'.length : Int) == (n : Int)) = true := by (have h5 := congrArg List.length hrs'; rw [List.length_map, HL0.out] at h5; rw [h5]; exact beq_self_eq_true _)))
      go_ret
      exact ⟨rfl, (by repeat (with_reducible first | exact Below.refl _ _ | assumption | refine ba_alloc ?_ _ | refine ba_drew ?_ | refine ba_drewN ?_ _ | refine ba_via (by assumption) ?_ | (refine ba_set ?_ ?_ _; rotate_left; (first | omega | (simp; omega) | simp))))⟩
theorem lapchains_walk (x : Dt) (ds : List Dm) (w : World) (h : DtOk w x ds) :
    Calls Try.prog 6 #[dtV x] w fun e w' => e = .returned (.bool true) ∧ Below w.heap.size w w' := by
  cases hsm : S.small25 x ds with
  | false => exact lapchains_big x ds w h hsm
  | true =>
    cases hlk : S.look x (S.dems ds) with
    | false => exact lapchains_bad x ds w h hsm hlk
    | true => exact lapchains_good x ds w h hsm hlk
end Go.Proofs.Ytplaghmehbkcnaa
