/- Contracts of the reference for layer 25: Main, Size, Mark, Count. The walk through the law SupplyBars. Opening arguments: integers, bools, and a rule by value. -/
import Derived.Test.YtffkmgjmlahfpaaGreatQO
import Derived.Test.YtffkmgjmlahfpaaGreatQJ
import Derived.Test.YtffkmgjmlahfpaaGreatQAA
import Derived.Test.YtffkmgjmlahfpaaGreatQC
set_option linter.unusedVariables false
set_option linter.unusedSimpArgs false
namespace Go.Proofs.YtffkmgjmlahfpaaGreat
open Go.RowKit
theorem mnOf_size (s : Int) (m : ByteArray) (o : Option Bx) : (S.mnOf s m o).size = s := by cases o <;> rfl
set_option maxRecDepth 20000 in
set_option maxHeartbeats 2000000 in
theorem rsize25_any (x : Dt) (B : Nat) (w : World) (hB : B ≤ w.heap.size) (hA : DtAt w B x) (h : S.laid (bars x.bs) x.rs = true) (i : Nat) (m : Mn) (hm : (S.mains (bars x.bs) x.rs)[i]? = some m) :
    Calls Tryz.prog 47 #[dtV x, .int .i64 i] w fun e w' => e = .returned (.int .i64 m.size) ∧ Below w.heap.size w w' := by
  obtain ⟨k, j, k0, r, hL⟩ := lies_of h (List.getElem?_eq_some_iff.1 hm).1
  have hmn : m = S.mnOf r.b.size r.b.mark (S.mainLeg (S.laidPath r.b (x.rs[k]'hL.st.lt) j)) := by
    have := hL.st.get
    rw [hm] at this
    injection this
  have HE := Lib.hid (show m.size = r.b.size by rw [hmn, mnOf_size])
  have HA := Lib.hid hA
  have HLG := Lib.hid (fun (W : World) (hw : B ≤ W.heap.size) (hh : DtAt W B x) => rbar16_any x.bs x.rs x.bA x.bn x.bc x.rA x.rn x.rc B W hw hh.bars hh.runs i k j k0 r hL)
  clear hA hm hmn hL
  unfold dtV
  unfold barV at HLG
  have f1 : ∀ W, (Instr.field 158 (.agg #[.string r.b.mark, .int .i64 r.b.size, .int .i64 r.b.count, .int .i64 r.b.code, .slice r.A r.n r.c]) 1).run Tryz.prog W = .ok (.int .i64 r.b.size) W := fun _ => by kernel_rfl
  go_enter Tryz.func47, Tryz.ntmps47
  go_wp2_with (first
    | (go_at_call 102; (with_reducible refine (HLG.out _ (size_via hB (by repeat (first | exact Below.refl _ _ | assumption | refine ba_alloc ?_ _ | refine ba_drew ?_ | refine ba_drewN ?_ _ | refine ba_via (by assumption) ?_ | (refine ba_set ?_ ?_ _; rotate_left; (first | omega | (simp; omega) | simp))))) (HA.out.at_ hB (by repeat (first | exact Below.refl _ _ | assumption | refine ba_alloc ?_ _ | refine ba_drew ?_ | refine ba_drewN ?_ _ | refine ba_via (by assumption) ?_ | (refine ba_set ?_ ?_ _; rotate_left; (first | omega | (simp; omega) | simp)))))).mono ?_); rintro e w1 ⟨rfl, hbw1⟩; obtain ⟨hcw1, hfw1⟩ := bcell hbw1; have hzw1_0 : w.heap.size < w1.heap.size := lt_via hbw1 (by first | omega | (simp; done) | (simp; omega))))
  go_ret
  exact ⟨ret_i HE.out.symm, (by repeat (first | exact Below.refl _ _ | assumption | refine ba_alloc ?_ _ | refine ba_drew ?_ | refine ba_drewN ?_ _ | refine ba_via (by assumption) ?_ | (refine ba_set ?_ ?_ _; rotate_left; (first | omega | (simp; omega) | simp))))⟩
theorem laid_len {bs : List Bar} {rs : List Rn} (h : S.laid bs rs = true) : ((S.mains bs rs).length : Int) = S.sumAll rs := by
  simp only [S.laid, Bool.and_eq_true, decide_eq_true_eq] at h
  have := mains_sum h.1.1 (fun r hr => runs_in h.2 hr) (k := rs.length) (Nat.le_refl _)
  rwa [List.take_length] at this
theorem rcount25_any (x : Dt) (B : Nat) (w : World) (hB : B ≤ w.heap.size) (hA : DtAt w B x) (h : S.laid (bars x.bs) x.rs = true) :
    Calls Tryz.prog 42 #[dtV x] w fun e w' => e = .returned (.int .i64 (S.mains (bars x.bs) x.rs).length) ∧ Below w.heap.size w w' := by
  have HA := Lib.hid hA
  have hrs : ∀ k (hk : k < x.rs.length), 0 ≤ x.rs[k].count ∧ x.rs[k].count ≤ 1000 := fun k hk => by
    have h2 := h
    simp only [S.laid, Bool.and_eq_true, decide_eq_true_eq] at h2
    have := right_count (runs_in h2.2 (List.getElem_mem hk))
    omega
  have h60 : x.rn ≤ 60 := by
    have h2 := h
    simp only [S.laid, Bool.and_eq_true, decide_eq_true_eq] at h2
    have := hA.runs.len
    omega
  have HC := Lib.hid (fun (W : World) (hw : B ≤ W.heap.size) (hh : DtAt W B x) => (laid_len h).symm ▸ rcount16_any x.rs x.rA x.rn x.rc B W hw hh.runs h60 hrs)
  clear hA hrs h60 h
  unfold dtV
  go_enter Tryz.func42, Tryz.ntmps42
  go_wp2_with (first
    | (go_at_call 94; (with_reducible refine (HC.out _ (size_via hB (by repeat (first | exact Below.refl _ _ | assumption | refine ba_alloc ?_ _ | refine ba_drew ?_ | refine ba_drewN ?_ _ | refine ba_via (by assumption) ?_ | (refine ba_set ?_ ?_ _; rotate_left; (first | omega | (simp; omega) | simp))))) (HA.out.at_ hB (by repeat (first | exact Below.refl _ _ | assumption | refine ba_alloc ?_ _ | refine ba_drew ?_ | refine ba_drewN ?_ _ | refine ba_via (by assumption) ?_ | (refine ba_set ?_ ?_ _; rotate_left; (first | omega | (simp; omega) | simp)))))).mono ?_); rintro e w' ⟨rfl, rfl⟩))
  go_ret
  exact ⟨rfl, (by repeat (first | exact Below.refl _ _ | assumption | refine ba_alloc ?_ _ | refine ba_drew ?_ | refine ba_drewN ?_ _ | refine ba_via (by assumption) ?_ | (refine ba_set ?_ ?_ _; rotate_left; (first | omega | (simp; omega) | simp))))⟩
end Go.Proofs.YtffkmgjmlahfpaaGreat
set_option linter.unusedVariables false
set_option linter.unusedSimpArgs false
namespace Go.Proofs.YtffkmgjmlahfpaaGreat
open Go.RowKit
theorem size_rod {x : Dt} {n : Nat} {rs : List Rod} (hrs : RodsOf x n rs) {i : Nat} {r : Rod} (hi : rs[i]? = some r) : ∃ m, (S.mains (bars x.bs) x.rs)[i]? = some m ∧ m.size = r.bar.b.size := by
  obtain ⟨hix, hir⟩ := List.getElem?_eq_some_iff.1 hi
  have hR := hrs.ok i hix
  rw [hir] at hR
  obtain ⟨k, j, k0, hL, he⟩ := hR.ex
  refine ⟨_, hL.st.get, ?_⟩
  unfold S.mnOf
  split <;> rfl
set_option maxRecDepth 20000 in
set_option maxHeartbeats 4000000 in
theorem barsLaw_big (x : Dt) (d p : Int) (w : World)
    (hSM : ∀ W, Below w.heap.size w W → Calls Tryz.prog 29 #[dtV x] W fun e w' => e = .returned (.bool false) ∧ Below W.heap.size W w') :
    Calls Tryz.prog 9 #[dtV x, .int .i64 d, .int .i64 p] w fun e w' => e = .returned (.bool true) ∧ Below w.heap.size w w' := by
  have HA := Lib.hid (fun w => awake26_any w)
  have HSM := Lib.hid hSM
  clear hSM
  unfold dtV at HSM
  unfold dtV
  have hDB := Blk.new w 34 #[.string x.m.name, .slice x.mA x.mn x.mc, .slice x.hA x.hn x.hc, .int .i64 x.m.cover, .int .i64 x.m.aggr, .int .i64 x.m.poker, .slice x.bA x.bn x.bc, .slice x.rA x.rn x.rc, .slice x.jA x.jn x.jc, .slice x.dA x.dn x.dc, .int .i64 x.rule.num, .int .i64 x.rule.den, .int .i64 x.rule.pnum, .int .i64 x.rule.pden, .int .i64 x.rule.bnum, .int .i64 x.rule.bden, .int .i64 x.rule.lnum, .int .i64 x.rule.lden, .int .i64 x.rule.least]
  have hW1 : Below w.heap.size w (w.alloc (.cells #[.string x.m.name, .slice x.mA x.mn x.mc, .slice x.hA x.hn x.hc, .int .i64 x.m.cover, .int .i64 x.m.aggr, .int .i64 x.m.poker, .slice x.bA x.bn x.bc, .slice x.rA x.rn x.rc, .slice x.jA x.jn x.jc, .slice x.dA x.dn x.dc, .int .i64 x.rule.num, .int .i64 x.rule.den, .int .i64 x.rule.pnum, .int .i64 x.rule.pden, .int .i64 x.rule.bnum, .int .i64 x.rule.bden, .int .i64 x.rule.lnum, .int .i64 x.rule.lden, .int .i64 x.rule.least] 34)) := ba_alloc (Below.refl _ _) _
  go_enter Tryz.func9, Tryz.ntmps9
  go_upto_region 1 with fail
  generalize (w.alloc (.cells #[.string x.m.name, .slice x.mA x.mn x.mc, .slice x.hA x.hn x.hc, .int .i64 x.m.cover, .int .i64 x.m.aggr, .int .i64 x.m.poker, .slice x.bA x.bn x.bc, .slice x.rA x.rn x.rc, .slice x.jA x.jn x.jc, .slice x.dA x.dn x.dc, .int .i64 x.rule.num, .int .i64 x.rule.den, .int .i64 x.rule.pnum, .int .i64 x.rule.pden, .int .i64 x.rule.bnum, .int .i64 x.rule.bden, .int .i64 x.rule.lnum, .int .i64 x.rule.lden, .int .i64 x.rule.least] 34)) = W1 at *
  have HDB := Lib.hid hDB
  clear hDB
  go_wp2_with (first
    | (go_at_call 28; (with_reducible refine (HA.out _).mono ?_); rintro e wa ⟨rfl, hbwa⟩)
    | ((with_reducible refine at_load 34 3 ?_); refine wpList_load_mid rfl 34 (.tmp 3) rfl _ _ rfl _ _ (HDB.out.via (by repeat (with_reducible first | exact Below.refl _ _ | assumption | refine ba_alloc ?_ _ | refine ba_drew ?_ | refine ba_drewN ?_ _ | refine ba_via (by assumption) ?_ | (refine ba_set ?_ ?_ _; rotate_left; (first | omega | (simp; omega) | simp))))).range Tryz.underlying34 rfl (by kernel_rfl) ?_)
    | (go_at_call 29; (with_reducible refine (HSM.out _ (by repeat (with_reducible first | exact Below.refl _ _ | assumption | refine ba_alloc ?_ _ | refine ba_drew ?_ | refine ba_drewN ?_ _ | refine ba_via (by assumption) ?_ | (refine ba_set ?_ ?_ _; rotate_left; (first | omega | (simp; omega) | simp))))).mono ?_); rintro e wb ⟨rfl, hbwb⟩))
  go_ret
  exact ⟨rfl, (by repeat (first | exact Below.refl _ _ | assumption | refine ba_alloc ?_ _ | refine ba_drew ?_ | refine ba_drewN ?_ _ | refine ba_via (by assumption) ?_ | (refine ba_set ?_ ?_ _; rotate_left; (first | omega | (simp; omega) | simp))))⟩
set_option maxRecDepth 20000 in
set_option maxHeartbeats 4000000 in
theorem barsLaw_err (x : Dt) (d p er : Int) (w : World) (he : (er == 0) = false)
    (hSM : ∀ W, Below w.heap.size w W → Calls Tryz.prog 29 #[dtV x] W fun e w' => e = .returned (.bool true) ∧ Below W.heap.size W w')
    (hAT : ∀ W, Below w.heap.size w W → Calls Tryz.prog 30 #[dtV x, .int .i64 d, .int .i64 p] W fun e w' => e = .returned (.tuple #[.int .i64 0, .int .i64 er]) ∧ Below W.heap.size W w')
    (hBA : ∀ W, Below w.heap.size w W → Calls Tryz.prog 36 #[dtV x, .int .i64 d, .int .i64 p] W fun e w' => e = .returned (.tuple #[.slice none 0 0, .int .i64 er]) ∧ Below W.heap.size W w') :
    Calls Tryz.prog 9 #[dtV x, .int .i64 d, .int .i64 p] w fun e w' => e = .returned (.bool true) ∧ Below w.heap.size w w' := by
  have HA := Lib.hid (fun w => awake26_any w)
  have HSM := Lib.hid hSM
  have HAT := Lib.hid hAT
  have HBA := Lib.hid hBA
  have he2 : ¬ (er = 0) := by simpa using he
  clear hSM hAT hBA
  unfold dtV at HSM HAT HBA
  unfold dtV
  have hDB := Blk.new w 34 #[.string x.m.name, .slice x.mA x.mn x.mc, .slice x.hA x.hn x.hc, .int .i64 x.m.cover, .int .i64 x.m.aggr, .int .i64 x.m.poker, .slice x.bA x.bn x.bc, .slice x.rA x.rn x.rc, .slice x.jA x.jn x.jc, .slice x.dA x.dn x.dc, .int .i64 x.rule.num, .int .i64 x.rule.den, .int .i64 x.rule.pnum, .int .i64 x.rule.pden, .int .i64 x.rule.bnum, .int .i64 x.rule.bden, .int .i64 x.rule.lnum, .int .i64 x.rule.lden, .int .i64 x.rule.least]
  have hW1 : Below w.heap.size w (w.alloc (.cells #[.string x.m.name, .slice x.mA x.mn x.mc, .slice x.hA x.hn x.hc, .int .i64 x.m.cover, .int .i64 x.m.aggr, .int .i64 x.m.poker, .slice x.bA x.bn x.bc, .slice x.rA x.rn x.rc, .slice x.jA x.jn x.jc, .slice x.dA x.dn x.dc, .int .i64 x.rule.num, .int .i64 x.rule.den, .int .i64 x.rule.pnum, .int .i64 x.rule.pden, .int .i64 x.rule.bnum, .int .i64 x.rule.bden, .int .i64 x.rule.lnum, .int .i64 x.rule.lden, .int .i64 x.rule.least] 34)) := ba_alloc (Below.refl _ _) _
  go_enter Tryz.func9, Tryz.ntmps9
  go_upto_region 1 with fail
  generalize (w.alloc (.cells #[.string x.m.name, .slice x.mA x.mn x.mc, .slice x.hA x.hn x.hc, .int .i64 x.m.cover, .int .i64 x.m.aggr, .int .i64 x.m.poker, .slice x.bA x.bn x.bc, .slice x.rA x.rn x.rc, .slice x.jA x.jn x.jc, .slice x.dA x.dn x.dc, .int .i64 x.rule.num, .int .i64 x.rule.den, .int .i64 x.rule.pnum, .int .i64 x.rule.pden, .int .i64 x.rule.bnum, .int .i64 x.rule.bden, .int .i64 x.rule.lnum, .int .i64 x.rule.lden, .int .i64 x.rule.least] 34)) = W1 at *
  have HDB := Lib.hid hDB
  clear hDB
  go_wp2_with (first
    | (go_at_call 28; (with_reducible refine (HA.out _).mono ?_); rintro e wa ⟨rfl, hbwa⟩)
    | ((with_reducible refine at_load 34 3 ?_); refine wpList_load_mid rfl 34 (.tmp 3) rfl _ _ rfl _ _ (HDB.out.via (by repeat (with_reducible first | exact Below.refl _ _ | assumption | refine ba_alloc ?_ _ | refine ba_drew ?_ | refine ba_drewN ?_ _ | refine ba_via (by assumption) ?_ | (refine ba_set ?_ ?_ _; rotate_left; (first | omega | (simp; omega) | simp))))).range Tryz.underlying34 rfl (by kernel_rfl) ?_)
    | (go_at_call 29; (with_reducible refine (HSM.out _ (by repeat (with_reducible first | exact Below.refl _ _ | assumption | refine ba_alloc ?_ _ | refine ba_drew ?_ | refine ba_drewN ?_ _ | refine ba_via (by assumption) ?_ | (refine ba_set ?_ ?_ _; rotate_left; (first | omega | (simp; omega) | simp))))).mono ?_); rintro e wb ⟨rfl, hbwb⟩)
    | (go_at_call 30; (with_reducible refine (HAT.out _ (by repeat (with_reducible first | exact Below.refl _ _ | assumption | refine ba_alloc ?_ _ | refine ba_drew ?_ | refine ba_drewN ?_ _ | refine ba_via (by assumption) ?_ | (refine ba_set ?_ ?_ _; rotate_left; (first | omega | (simp; omega) | simp))))).mono ?_); rintro e wd ⟨rfl, hbwd⟩)
    | (go_at_call 36; (with_reducible refine (HBA.out _ (by repeat (with_reducible first | exact Below.refl _ _ | assumption | refine ba_alloc ?_ _ | refine ba_drew ?_ | refine ba_drewN ?_ _ | refine ba_via (by assumption) ?_ | (refine ba_set ?_ ?_ _; rotate_left; (first | omega | (simp; omega) | simp))))).mono ?_); rintro e we ⟨rfl, hbwe⟩))
  go_ret
  exact ⟨rfl, (by repeat (first | exact Below.refl _ _ | assumption | refine ba_alloc ?_ _ | refine ba_drew ?_ | refine ba_drewN ?_ _ | refine ba_via (by assumption) ?_ | (refine ba_set ?_ ?_ _; rotate_left; (first | omega | (simp; omega) | simp))))⟩
set_option maxRecDepth 20000 in
set_option maxHeartbeats 8000000 in
theorem barsLaw_yes (x : Dt) (rs : List Rod) (B : List Int) (d p n : Int) (N : Nat) (w : World) (hN : N ≤ 2000) (hrs : rs.length = N) (hBl : B.length ≤ 200100) (hasc : B.Pairwise (· < ·)) (hn0 : n = 0 ↔ B.length = 0) (hsum : n ≤ S.areas rs B)
    (hB : ∀ i, i ∈ B → ∃ (m : Nat) (r : Rod), i = (m : Int) ∧ rs[m]? = some r ∧ ¬ r.main < 0 ∧ (S.legOf r).lo.x ≤ p ∧ p ≤ (S.legOf r).hi.x ∧ S.size r.bar.b.size = true ∧ S.areaI rs i = S.steelArea r.bar.b.size ∧ 0 ≤ S.areaI rs i ∧ S.areaI rs i ≤ 1000000)
    (hSM : ∀ W, Below w.heap.size w W → Calls Tryz.prog 29 #[dtV x] W fun e w' => e = .returned (.bool true) ∧ Below W.heap.size W w')
    (hAT : ∀ W, Below w.heap.size w W → Calls Tryz.prog 30 #[dtV x, .int .i64 d, .int .i64 p] W fun e w' => e = .returned (.tuple #[.int .i64 n, .int .i64 0]) ∧ Below W.heap.size W w')
    (hBA : ∀ W, Below w.heap.size w W → Calls Tryz.prog 36 #[dtV x, .int .i64 d, .int .i64 p] W fun e w' => ∃ (A : Option Addr) (c : Nat), e = .returned (.tuple #[.slice A B.length c, .int .i64 0]) ∧ w'.ownsRow W.heap.size 3 1 (.slice A B.length c) B.length (i64s B) ∧ Below W.heap.size W w')
    (hCO : ∀ W, Below w.heap.size w W → Calls Tryz.prog 42 #[dtV x] W fun e w' => e = .returned (.int .i64 N) ∧ Below W.heap.size W w')
    (hLE : ∀ (i : Nat) (r : Rod), rs[i]? = some r → ∀ W, Below w.heap.size w W → Calls Tryz.prog 39 #[dtV x, .int .i64 i] W fun e w' => e = .returned (.tuple #[boxV (if r.main < 0 then S.zbox else S.legOf r), .int .i64 (if r.main < 0 then 12 else 0)]) ∧ Below W.heap.size W w')
    (hSZ : ∀ (i : Nat) (r : Rod), rs[i]? = some r → ∀ W, Below w.heap.size w W → Calls Tryz.prog 47 #[dtV x, .int .i64 i] W fun e w' => e = .returned (.int .i64 r.bar.b.size) ∧ Below W.heap.size W w') :
    Calls Tryz.prog 9 #[dtV x, .int .i64 d, .int .i64 p] w fun e w' => e = .returned (.bool true) ∧ Below w.heap.size w w' := by
  have HA := Lib.hid (fun w => awake26_any w)
  have HSM := Lib.hid hSM
  have HAT := Lib.hid hAT
  have HBA := Lib.hid hBA
  have HCO := Lib.hid hCO
  have HLE := Lib.hid hLE
  have HSZ := Lib.hid hSZ
  have HBM := Lib.hid hB
  have HAS := Lib.hid hasc
  have HN0 := Lib.hid hn0
  have HSU := Lib.hid hsum
  clear hSM hAT hBA hCO hLE hSZ hB hasc hn0 hsum
  unfold dtV at HSM HAT HBA HCO HLE HSZ
  unfold dtV
  have hDB := Blk.new w 34 #[.string x.m.name, .slice x.mA x.mn x.mc, .slice x.hA x.hn x.hc, .int .i64 x.m.cover, .int .i64 x.m.aggr, .int .i64 x.m.poker, .slice x.bA x.bn x.bc, .slice x.rA x.rn x.rc, .slice x.jA x.jn x.jc, .slice x.dA x.dn x.dc, .int .i64 x.rule.num, .int .i64 x.rule.den, .int .i64 x.rule.pnum, .int .i64 x.rule.pden, .int .i64 x.rule.bnum, .int .i64 x.rule.bden, .int .i64 x.rule.lnum, .int .i64 x.rule.lden, .int .i64 x.rule.least]
  have hW1 : Below w.heap.size w (w.alloc (.cells #[.string x.m.name, .slice x.mA x.mn x.mc, .slice x.hA x.hn x.hc, .int .i64 x.m.cover, .int .i64 x.m.aggr, .int .i64 x.m.poker, .slice x.bA x.bn x.bc, .slice x.rA x.rn x.rc, .slice x.jA x.jn x.jc, .slice x.dA x.dn x.dc, .int .i64 x.rule.num, .int .i64 x.rule.den, .int .i64 x.rule.pnum, .int .i64 x.rule.pden, .int .i64 x.rule.bnum, .int .i64 x.rule.bden, .int .i64 x.rule.lnum, .int .i64 x.rule.lden, .int .i64 x.rule.least] 34)) := ba_alloc (Below.refl _ _) _
  go_enter Tryz.func9, Tryz.ntmps9
  go_upto_region 1 with fail
  generalize (w.alloc (.cells #[.string x.m.name, .slice x.mA x.mn x.mc, .slice x.hA x.hn x.hc, .int .i64 x.m.cover, .int .i64 x.m.aggr, .int .i64 x.m.poker, .slice x.bA x.bn x.bc, .slice x.rA x.rn x.rc, .slice x.jA x.jn x.jc, .slice x.dA x.dn x.dc, .int .i64 x.rule.num, .int .i64 x.rule.den, .int .i64 x.rule.pnum, .int .i64 x.rule.pden, .int .i64 x.rule.bnum, .int .i64 x.rule.bden, .int .i64 x.rule.lnum, .int .i64 x.rule.lden, .int .i64 x.rule.least] 34)) = W1 at *
  have HDB := Lib.hid hDB
  clear hDB
  go_upto_region 9 with (first
    | (go_at_call 28; (with_reducible refine (HA.out _).mono ?_); rintro e wa ⟨rfl, hbwa⟩)
    | ((with_reducible refine at_load 34 3 ?_); refine wpList_load_mid rfl 34 (.tmp 3) rfl _ _ rfl _ _ (HDB.out.via (by repeat (with_reducible first | exact Below.refl _ _ | assumption | refine ba_alloc ?_ _ | refine ba_drew ?_ | refine ba_drewN ?_ _ | refine ba_via (by assumption) ?_ | (refine ba_set ?_ ?_ _; rotate_left; (first | omega | (simp; omega) | simp))))).range Tryz.underlying34 rfl (by kernel_rfl) ?_)
    | (go_at_call 29; (with_reducible refine (HSM.out _ (by repeat (with_reducible first | exact Below.refl _ _ | assumption | refine ba_alloc ?_ _ | refine ba_drew ?_ | refine ba_drewN ?_ _ | refine ba_via (by assumption) ?_ | (refine ba_set ?_ ?_ _; rotate_left; (first | omega | (simp; omega) | simp))))).mono ?_); rintro e wb ⟨rfl, hbwb⟩)
    | (go_at_call 30; (with_reducible refine (HAT.out _ (by repeat (with_reducible first | exact Below.refl _ _ | assumption | refine ba_alloc ?_ _ | refine ba_drew ?_ | refine ba_drewN ?_ _ | refine ba_via (by assumption) ?_ | (refine ba_set ?_ ?_ _; rotate_left; (first | omega | (simp; omega) | simp))))).mono ?_); rintro e wd ⟨rfl, hbwd⟩)
    | (go_at_call 36; (with_reducible refine (HBA.out _ (by repeat (with_reducible first | exact Below.refl _ _ | assumption | refine ba_alloc ?_ _ | refine ba_drew ?_ | refine ba_drewN ?_ _ | refine ba_via (by assumption) ?_ | (refine ba_set ?_ ?_ _; rotate_left; (first | omega | (simp; omega) | simp))))).mono ?_); rintro e we ⟨A, cB, rfl, hO, hbwe⟩))
  have hwe : Below w.heap.size w we := ba_via hbwe (ba_via hbwd (ba_via hbwb (ba_via hbwa hW1)))
  have HDE := Lib.hid (HDB.out.via (show Below W1.heap.size W1 we from ba_via hbwe (ba_via hbwd (ba_via hbwb hbwa))))
  have HBC := Lib.hid (own_cells hO (by unfold maxLen; omega)).1
  have hse := hwe.size
  clear hbwa hbwb hbwd hbwe hW1 HDB HA HSM HAT HBA hO
  obtain ⟨L, hL⟩ : ∃ L, L = B.length := ⟨_, rfl⟩
  have HL := Lib.hid hL
  rw [← hL] at hBl ⊢
  have hn1 : n = 0 ↔ L = 0 := by rw [hL]; exact HN0.out
  clear hL
  by_cases hz : n = 0
  · have hz2 : L = 0 := hn1.1 hz
    subst hz
    have b1 : ((0 : Int) == 0) = true := rfl
    have b2 : ((L : Int) == 0) = true := by rw [hz2]; rfl
    go_upto_region 11 with fail
    have HZ2 := Lib.hid hz2
    clear hz2 b1 b2 hn1
    go_wp2
    go_loopw [11, 59] (fun v i wr => ∃ k : Nat, k ≤ 0 ∧ i = .int .i64 k ∧ v = .int .i64 0 ∧ Below we.heap.size we wr) (fun _ i _ => 1 - (intOf i).toNat)
    case atStart => exact ⟨0, Nat.le_refl _, rfl, rfl, Below.refl _ _⟩
    case round =>
      obtain ⟨k, hk, rfl, rfl, hbr⟩ := hrel
      have hk0 : ¬ ((k : Int) < L) := by have := HZ2.out; omega
      go_wp2
      go_ret
      exact ⟨rfl, ba_via hbr hwe⟩
  · have hz2 : ¬ L = 0 := fun h => hz (hn1.2 h)
    have b1 : (n == 0) = false := by simp [hz]
    have b2 : ((L : Int) == 0) = false := by simp; omega
    have b3 : ¬ ((L : Int) = 0) := by omega
    go_upto_region 11 with fail
    clear b1 b2 b3
    go_wp2
    go_loopw [11, 59] (fun v i wr => ∃ k : Nat, k ≤ L ∧ i = .int .i64 k ∧ ∃ u : Int, v = .int .i64 u ∧ Hid (u = S.areas rs (B.take k)) ∧ Below we.heap.size we wr) (fun _ i _ => L - (intOf i).toNat)
    case atStart => exact ⟨0, Nat.zero_le _, rfl, 0, rfl, Lib.hid rfl, Below.refl _ _⟩
    case round =>
      obtain ⟨k, hk, rfl, u, rfl, hu, hbr⟩ := hrel
      have hub := areas_bd (rs := rs) (l := B.take k) (fun i hi => by
        obtain ⟨m, r, _, _, _, _, _, _, _, h1, h2⟩ := HBM.out i (List.mem_of_mem_take hi)
        exact ⟨h1, h2⟩)
      rw [← hu.out, List.length_take] at hub
      have hu1 : 0 ≤ u := hub.1
      have hu2 : u ≤ 300000000000 := by omega
      clear hub
      by_cases hlt : k < L
      · have hkx : k < B.length := by rw [← HL.out]; exact hlt
        have hki : (k : Int) < L := by omega
        obtain ⟨m, r, hre, hrg, hneg, hlo, hhi, hsz, har, ha0, ha1⟩ := HBM.out B[k] (List.getElem_mem hkx)
        have HTK := Lib.hid (areas_take rs hkx)
        rw [← hu.out, har] at HTK
        rw [har] at ha0 ha1
        obtain ⟨b, o, hA, hbb, hcc⟩ := (HBC.out.below hbr).at_ (by simp; omega)
        have hck := hcc k _ (i64s_get hkx)
        rw [hre] at hck
        rw [hA]
        have hsr := hbr.size
        have hbl : b < wr.heap.size := by omega
        have hm0 : ¬ ((m : Int) < 0) := by omega
        have hmx := (List.getElem?_eq_some_iff.1 hrg).1
        have hmN : ¬ ((N : Int) ≤ m) := by omega
        have HDR := Lib.hid (HDE.out.via hbr)
        have HLR := Lib.hid (fun (W : World) (hw : Below w.heap.size w W) => show Calls Tryz.prog 39 #[.agg #[.string x.m.name, .slice x.mA x.mn x.mc, .slice x.hA x.hn x.hc, .int .i64 x.m.cover, .int .i64 x.m.aggr, .int .i64 x.m.poker, .slice x.bA x.bn x.bc, .slice x.rA x.rn x.rc, .slice x.jA x.jn x.jc, .slice x.dA x.dn x.dc, .int .i64 x.rule.num, .int .i64 x.rule.den, .int .i64 x.rule.pnum, .int .i64 x.rule.pden, .int .i64 x.rule.bnum, .int .i64 x.rule.bden, .int .i64 x.rule.lnum, .int .i64 x.rule.lden, .int .i64 x.rule.least], .int .i64 m] W fun e w' => e = .returned (.tuple #[boxV (S.legOf r), .int .i64 0]) ∧ Below W.heap.size W w' from by
          have := HLE.out m r hrg W hw
          rw [if_neg (show ¬ r.main < 0 by omega), if_neg (show ¬ r.main < 0 by omega)] at this
          exact this)
        have HSR := Lib.hid (HSZ.out m r hrg)
        have HST := Lib.hid (fun W => steelArea_any r.bar.b.size W hsz)
        unfold boxV at HLR
        generalize S.legOf r = G at *
        generalize r.bar.b.size = sz at *
        generalize S.steelArea sz = ar at *
        have HA := Lib.hid hA
        clear hrg hneg har hsz hA
        go_upto_region 15 with fail
        have e15 : True := trivial
        by_cases hk0 : k = 0
        · have hkk : ¬ ((0 : Int) < k) := by omega
          go_upto_region 17 with (first
            | ((with_reducible refine at_loadg 34 3 ?_); refine wpList_load_gdF (by rfl) 34 (.tmp 3) rfl _ _ rfl _ _ (HDR.out.via (by repeat (with_reducible first | exact Below.refl _ _ | assumption | refine ba_alloc ?_ _ | refine ba_drew ?_ | refine ba_drewN ?_ _ | refine ba_via (by assumption) ?_ | (refine ba_set ?_ ?_ _; rotate_left; (first | omega | (simp; omega) | simp))))).range Tryz.underlying34 rfl (by kernel_rfl) ?_)
            | ((with_reducible refine at_loadw 34 3 ?_); refine wp_load_mid 34 (.tmp 3) rfl _ _ rfl _ _ (HDR.out.via (by repeat (with_reducible first | exact Below.refl _ _ | assumption | refine ba_alloc ?_ _ | refine ba_drew ?_ | refine ba_drewN ?_ _ | refine ba_via (by assumption) ?_ | (refine ba_set ?_ ?_ _; rotate_left; (first | omega | (simp; omega) | simp))))).range Tryz.underlying34 rfl (by kernel_rfl) ?_)
            | (go_at_call 42; (with_reducible refine (HCO.out _ (by repeat (with_reducible first | exact Below.refl _ _ | assumption | refine ba_alloc ?_ _ | refine ba_drew ?_ | refine ba_drewN ?_ _ | refine ba_via (by assumption) ?_ | (refine ba_set ?_ ?_ _; rotate_left; (first | omega | (simp; omega) | simp))))).mono ?_); rintro e w1 ⟨rfl, hbw1⟩))
          have hbc1 : Below wr.heap.size wr w1 := (by repeat (with_reducible first | exact Below.refl _ _ | assumption | refine ba_alloc ?_ _ | refine ba_drew ?_ | refine ba_drewN ?_ _ | refine ba_via (by assumption) ?_ | (refine ba_set ?_ ?_ _; rotate_left; (first | omega | (simp; omega) | simp))))
          clear hck
          go_upto_region 18 with (first
            | ((with_reducible refine at_load 34 3 ?_); refine wpList_load_mid rfl 34 (.tmp 3) rfl _ _ rfl _ _ (HDR.out.via (by repeat (with_reducible first | exact Below.refl _ _ | assumption | refine ba_alloc ?_ _ | refine ba_drew ?_ | refine ba_drewN ?_ _ | refine ba_via (by assumption) ?_ | (refine ba_set ?_ ?_ _; rotate_left; (first | omega | (simp; omega) | simp))))).range Tryz.underlying34 rfl (by kernel_rfl) ?_)
            | (go_at_call 39; (with_reducible refine (HLR.out _ (by repeat (with_reducible first | exact Below.refl _ _ | assumption | refine ba_alloc ?_ _ | refine ba_drew ?_ | refine ba_drewN ?_ _ | refine ba_via (by assumption) ?_ | (refine ba_set ?_ ?_ _; rotate_left; (first | omega | (simp; omega) | simp))))).mono ?_); rintro e w2 ⟨rfl, hbw2⟩))
          have hb2 : Below wr.heap.size wr w2 := (by repeat (with_reducible first | exact Below.refl _ _ | assumption | refine ba_alloc ?_ _ | refine ba_drew ?_ | refine ba_drewN ?_ _ | refine ba_via (by assumption) ?_ | (refine ba_set ?_ ?_ _; rotate_left; (first | omega | (simp; omega) | simp))))
          have hLB := Blk.new w2 89 #[.int .i64 G.lo.x, .int .i64 G.lo.y, .int .i64 G.lo.z, .int .i64 G.hi.x, .int .i64 G.hi.y, .int .i64 G.hi.z]
          have hb3 : Below wr.heap.size wr (w2.alloc (.cells #[.int .i64 G.lo.x, .int .i64 G.lo.y, .int .i64 G.lo.z, .int .i64 G.hi.x, .int .i64 G.hi.y, .int .i64 G.hi.z] 89)) := ba_alloc hb2 _
          generalize (w2.alloc (.cells #[.int .i64 G.lo.x, .int .i64 G.lo.y, .int .i64 G.lo.z, .int .i64 G.hi.x, .int .i64 G.hi.y, .int .i64 G.hi.z] 89)) = W3 at *
          have HLB := Lib.hid hLB
          clear hLB hbw1 hbw2 hbc1
          go_upto_region 19 with (first
            | ((with_reducible refine at_load 34 3 ?_); refine wpList_load_mid rfl 34 (.tmp 3) rfl _ _ rfl _ _ (HDR.out.via (by repeat (with_reducible first | exact Below.refl _ _ | assumption | refine ba_alloc ?_ _ | refine ba_drew ?_ | refine ba_drewN ?_ _ | refine ba_via (by assumption) ?_ | (refine ba_set ?_ ?_ _; rotate_left; (first | omega | (simp; omega) | simp))))).range Tryz.underlying34 rfl (by kernel_rfl) ?_)
            | (go_at_call 47; (with_reducible refine (HSR.out _ (by repeat (with_reducible first | exact Below.refl _ _ | assumption | refine ba_alloc ?_ _ | refine ba_drew ?_ | refine ba_drewN ?_ _ | refine ba_via (by assumption) ?_ | (refine ba_set ?_ ?_ _; rotate_left; (first | omega | (simp; omega) | simp))))).mono ?_); rintro e w4 ⟨rfl, hbw4⟩)
            | (go_at_call 46; (with_reducible refine (HST.out _).mono ?_); rintro e w5 ⟨rfl, hbw5⟩))
          have hb5 : Below wr.heap.size wr w5 := (by repeat (with_reducible first | exact Below.refl _ _ | assumption | refine ba_alloc ?_ _ | refine ba_drew ?_ | refine ba_drewN ?_ _ | refine ba_via (by assumption) ?_ | (refine ba_set ?_ ?_ _; rotate_left; (first | omega | (simp; omega) | simp))))
          have hL5 := HLB.out.via (ba_via hbw5 hbw4)
          have l0 := hL5.cell 0
          have l3 := hL5.cell 3
          have ll := hL5.lt
          simp only [List.getElem?_toArray, List.getElem?_cons_zero, List.getElem?_cons_succ] at l0 l3
          have hlo2 : ¬ (p < G.lo.x) := by omega
          have hhi2 : ¬ (G.hi.x < p) := by omega
          have ew : IntKind.i64.wrap (u + ar) = u + ar := IntWalk.i64_in _ (by omega)
          clear hL5 hb3 hb2 hbw4 hbw5
          go_wp2
          go_roundw
          case rel => exact ⟨k + 1, by omega, by go_num, u + ar, rfl, Lib.hid HTK.out.symm, ba_via hb5 hbr⟩
          case measure => simp [intOf]; omega
        · have hkk : (0 : Int) < k := by omega
          obtain ⟨j, hj⟩ : ∃ j : Nat, k = j + 1 := ⟨k - 1, by omega⟩
          have e1 : IntKind.i64.wrap ((k : Int) - 1) = (j : Int) := by rw [show ((k : Int) - 1) = (j : Int) by omega]; exact IntWalk.i64_in _ (by omega)
          have hjx : j < B.length := by omega
          have hji : (j : Int) < L := by omega
          have hjl : j < L := by omega
          have hcj := hcc j _ (i64s_get hjx)
          have hlt2 : ¬ ((m : Int) ≤ B[j]) := by
            have := List.pairwise_iff_getElem.1 HAS.out j k hjx hkx (by omega)
            omega
          generalize B[j] = pv at *
          clear hcc
          have hlt3 : decide ((m : Int) ≤ pv) = false := decide_eq_false (by omega)
          clear hlt2
          go_upto_region 17 with (first
            | ((with_reducible refine at_loadg 34 3 ?_); refine wpList_load_gdF (by rfl) 34 (.tmp 3) rfl _ _ rfl _ _ (HDR.out.via (by repeat (with_reducible first | exact Below.refl _ _ | assumption | refine ba_alloc ?_ _ | refine ba_drew ?_ | refine ba_drewN ?_ _ | refine ba_via (by assumption) ?_ | (refine ba_set ?_ ?_ _; rotate_left; (first | omega | (simp; omega) | simp))))).range Tryz.underlying34 rfl (by kernel_rfl) ?_)
            | ((with_reducible refine at_loadw 34 3 ?_); refine wp_load_mid 34 (.tmp 3) rfl _ _ rfl _ _ (HDR.out.via (by repeat (with_reducible first | exact Below.refl _ _ | assumption | refine ba_alloc ?_ _ | refine ba_drew ?_ | refine ba_drewN ?_ _ | refine ba_via (by assumption) ?_ | (refine ba_set ?_ ?_ _; rotate_left; (first | omega | (simp; omega) | simp))))).range Tryz.underlying34 rfl (by kernel_rfl) ?_)
            | (go_at_call 42; (with_reducible refine (HCO.out _ (by repeat (with_reducible first | exact Below.refl _ _ | assumption | refine ba_alloc ?_ _ | refine ba_drew ?_ | refine ba_drewN ?_ _ | refine ba_via (by assumption) ?_ | (refine ba_set ?_ ?_ _; rotate_left; (first | omega | (simp; omega) | simp))))).mono ?_); rintro e w1 ⟨rfl, hbw1⟩))
          have hbc1 : Below wr.heap.size wr w1 := (by repeat (with_reducible first | exact Below.refl _ _ | assumption | refine ba_alloc ?_ _ | refine ba_drew ?_ | refine ba_drewN ?_ _ | refine ba_via (by assumption) ?_ | (refine ba_set ?_ ?_ _; rotate_left; (first | omega | (simp; omega) | simp))))
          clear hck
          go_upto_region 18 with (first
            | ((with_reducible refine at_load 34 3 ?_); refine wpList_load_mid rfl 34 (.tmp 3) rfl _ _ rfl _ _ (HDR.out.via (by repeat (with_reducible first | exact Below.refl _ _ | assumption | refine ba_alloc ?_ _ | refine ba_drew ?_ | refine ba_drewN ?_ _ | refine ba_via (by assumption) ?_ | (refine ba_set ?_ ?_ _; rotate_left; (first | omega | (simp; omega) | simp))))).range Tryz.underlying34 rfl (by kernel_rfl) ?_)
            | (go_at_call 39; (with_reducible refine (HLR.out _ (by repeat (with_reducible first | exact Below.refl _ _ | assumption | refine ba_alloc ?_ _ | refine ba_drew ?_ | refine ba_drewN ?_ _ | refine ba_via (by assumption) ?_ | (refine ba_set ?_ ?_ _; rotate_left; (first | omega | (simp; omega) | simp))))).mono ?_); rintro e w2 ⟨rfl, hbw2⟩))
          have hb2 : Below wr.heap.size wr w2 := (by repeat (with_reducible first | exact Below.refl _ _ | assumption | refine ba_alloc ?_ _ | refine ba_drew ?_ | refine ba_drewN ?_ _ | refine ba_via (by assumption) ?_ | (refine ba_set ?_ ?_ _; rotate_left; (first | omega | (simp; omega) | simp))))
          have hLB := Blk.new w2 89 #[.int .i64 G.lo.x, .int .i64 G.lo.y, .int .i64 G.lo.z, .int .i64 G.hi.x, .int .i64 G.hi.y, .int .i64 G.hi.z]
          have hb3 : Below wr.heap.size wr (w2.alloc (.cells #[.int .i64 G.lo.x, .int .i64 G.lo.y, .int .i64 G.lo.z, .int .i64 G.hi.x, .int .i64 G.hi.y, .int .i64 G.hi.z] 89)) := ba_alloc hb2 _
          generalize (w2.alloc (.cells #[.int .i64 G.lo.x, .int .i64 G.lo.y, .int .i64 G.lo.z, .int .i64 G.hi.x, .int .i64 G.hi.y, .int .i64 G.hi.z] 89)) = W3 at *
          have HLB := Lib.hid hLB
          clear hLB hbw1 hbw2 hbc1
          go_upto_region 19 with (first
            | ((with_reducible refine at_load 34 3 ?_); refine wpList_load_mid rfl 34 (.tmp 3) rfl _ _ rfl _ _ (HDR.out.via (by repeat (with_reducible first | exact Below.refl _ _ | assumption | refine ba_alloc ?_ _ | refine ba_drew ?_ | refine ba_drewN ?_ _ | refine ba_via (by assumption) ?_ | (refine ba_set ?_ ?_ _; rotate_left; (first | omega | (simp; omega) | simp))))).range Tryz.underlying34 rfl (by kernel_rfl) ?_)
            | (go_at_call 47; (with_reducible refine (HSR.out _ (by repeat (with_reducible first | exact Below.refl _ _ | assumption | refine ba_alloc ?_ _ | refine ba_drew ?_ | refine ba_drewN ?_ _ | refine ba_via (by assumption) ?_ | (refine ba_set ?_ ?_ _; rotate_left; (first | omega | (simp; omega) | simp))))).mono ?_); rintro e w4 ⟨rfl, hbw4⟩)
            | (go_at_call 46; (with_reducible refine (HST.out _).mono ?_); rintro e w5 ⟨rfl, hbw5⟩))
          have hb5 : Below wr.heap.size wr w5 := (by repeat (with_reducible first | exact Below.refl _ _ | assumption | refine ba_alloc ?_ _ | refine ba_drew ?_ | refine ba_drewN ?_ _ | refine ba_via (by assumption) ?_ | (refine ba_set ?_ ?_ _; rotate_left; (first | omega | (simp; omega) | simp))))
          have hL5 := HLB.out.via (ba_via hbw5 hbw4)
          have l0 := hL5.cell 0
          have l3 := hL5.cell 3
          have ll := hL5.lt
          simp only [List.getElem?_toArray, List.getElem?_cons_zero, List.getElem?_cons_succ] at l0 l3
          have hlo2 : ¬ (p < G.lo.x) := by omega
          have hhi2 : ¬ (G.hi.x < p) := by omega
          have ew : IntKind.i64.wrap (u + ar) = u + ar := IntWalk.i64_in _ (by omega)
          clear hL5 hb3 hb2 hbw4 hbw5
          go_wp2
          go_roundw
          case rel => exact ⟨k + 1, by omega, by go_num, u + ar, rfl, Lib.hid HTK.out.symm, ba_via hb5 hbr⟩
          case measure => simp [intOf]; omega
      · have hkn : k = L := by omega
        have hfin : n ≤ u := by rw [hu.out, List.take_of_length_le (by rw [← HL.out]; omega)]; exact HSU.out
        have hki : ¬ ((k : Int) < L) := by omega
        go_wp2
        go_ret
        exact ⟨rfl, ba_via hbr hwe⟩
theorem bars_mem {x : Dt} {ds : List Dm} (hlk : S.look x (S.dems ds) = true) {rs : List Rod} (hrs : RodsOf x (S.nOf x) rs) {z : Bx} {p i : Int} (hi : i ∈ S.barsAt x rs z p) : ∃ (m : Nat) (r : Rod), i = (m : Int) ∧ rs[m]? = some r ∧ ¬ r.main < 0 ∧ (S.legOf r).lo.x ≤ p ∧ p ≤ (S.legOf r).hi.x ∧ S.size r.bar.b.size = true ∧ S.areaI rs i = S.steelArea r.bar.b.size ∧ 0 ≤ S.areaI rs i ∧ S.areaI rs i ≤ 1000000 := by
  have g := look_ok hlk
  obtain ⟨h1, h2, h3, r, h4, h5⟩ := barsAt_mem hlk hrs hi
  obtain ⟨a1, a2, a3⟩ := areaI_pos g.laid hrs ⟨h1, h2⟩
  unfold S.overP at h3
  rw [h4] at h3
  simp only [Bool.and_eq_true, decide_eq_true_eq] at h3
  have hs : S.sizeI rs i = r.bar.b.size := by unfold S.sizeI; rw [h4]
  rw [hs] at a3
  refine ⟨i.toNat, r, by omega, h4, h5, h3.1, h3.2, a3, ?_, by omega, a2⟩
  unfold S.areaI
  rw [hs]
theorem bars_walk (x : Dt) (ds : List Dm) (d p : Int) (w : World) (h : DtOk w x ds) :
    Calls Tryz.prog 9 #[dtV x, .int .i64 d, .int .i64 p] w fun e w' => e = .returned (.bool true) ∧ Below w.heap.size w w' := by
  have HSM : ∀ W, Below w.heap.size w W → Calls Tryz.prog 29 #[dtV x] W fun e w' => e = .returned (.bool (S.small25 x ds)) ∧ Below W.heap.size W w' := fun W hw =>
    few_any x (S.small25 x ds) W (fun V hV => small25_any x ds w.heap.size V (hw.trans (hV.mono hw.size)).size (h.at_.at_ (Nat.le_refl _) (hw.trans (hV.mono hw.size))) (h.dems.at_ (Nat.le_refl _) (hw.trans (hV.mono hw.size))))
  cases hsm : S.small25 x ds
  · rw [hsm] at HSM
    exact barsLaw_big x d p w HSM
  · rw [hsm] at HSM
    by_cases hg : S.given26 x ds d p = 0
    · obtain ⟨hlk, ⟨k, dm, rfl, hk⟩, hp⟩ := given26_zero hg
      have g := look_ok hlk
      obtain ⟨rs, hrs⟩ := rods_ex g.laid
      have hC := few_chains hsm g.laid
      obtain ⟨b1, b2⟩ := barsAt_law hlk hrs dm.zone p
      exact barsLaw_yes x rs (S.barsAt x rs dm.zone p) k p (S.supplyAt x rs (S.cOf x) dm.zone p) (S.nOf x) w g.n2000 hrs.len (barsAt_len hlk hC rs dm.zone p) (barsAt_asc hlk rs dm.zone p) b2 b1 (fun i hi => bars_mem hlk hrs hi) HSM (good_At h hlk hk hp hrs) (good_Bars h hlk hC hk hp hrs)
        (fun W hw => rcount25_any x w.heap.size W hw.size (h.at_.at_ (Nat.le_refl _) hw) g.laid)
        (fun i r hi W hw => good_Leg h hlk hrs hi W hw)
        (fun i r hi W hw => by
          obtain ⟨m, hm, he⟩ := size_rod hrs hi
          rw [← he]
          exact rsize25_any x w.heap.size W hw.size (h.at_.at_ (Nat.le_refl _) hw) g.laid i m hm)
    · exact barsLaw_err x d p _ w (by simpa using hg) HSM (bad_At h d p hg) (bad_Bars h d p hg)
end Go.Proofs.YtffkmgjmlahfpaaGreat
set_option linter.unusedVariables false
set_option linter.unusedSimpArgs false
namespace Go.Proofs.YtffkmgjmlahfpaaGreat
open Go.ChangeShapes Go.WideShapes Go.ChangeAt Go.RowKit
section
variable {H : Type} {enc : TypeId × Value → H} {w : World} {base : Nat} {sp : Nat → Bool} {hd : Bool}
theorem own : ownKnob Tryz.prog.godebug = none := by kernel_rfl
theorem cellsInt : Tryz.prog.cellsOf 3 = 1 := by kernel_rfl
theorem cellsRule : Tryz.prog.cellsOf 32 = 9 := by kernel_rfl
/-- A number that fits an int. -/
def I64 (n : Int) : Prop := -9223372036854775808 ≤ n ∧ n ≤ 9223372036854775807
theorem opn_int {fuel : Nat} {cs : List Value} {y : Option (DataW H × List MemPlace)} (h : DataW.trod enc Tryz.prog w base sp hd fuel 3 cs = y) (hy : y.isSome = true) : ∃ n, cs = [.int .i64 n] ∧ I64 n := by
  obtain ⟨z, rfl⟩ := Option.isSome_iff_exists.1 hy
  obtain ⟨n, rfl, _, hw⟩ := DataW.trod_int Tryz.underlying3 h
  exact ⟨n, rfl, bounds_i64 hw⟩
theorem len9 {α : Type} {l : List α} (h : l.length = 9) : ∃ a b c d e f g i j, l = [a, b, c, d, e, f, g, i, j] := by
  match l, h with
  | [a, b, c, d, e, f, g, i, j], _ => exact ⟨a, b, c, d, e, f, g, i, j, rfl⟩
structure RuleI (r : Rule) : Prop where
  num : I64 r.num
  den : I64 r.den
  pnum : I64 r.pnum
  pden : I64 r.pden
  bnum : I64 r.bnum
  bden : I64 r.bden
  lnum : I64 r.lnum
  lden : I64 r.lden
  least : I64 r.least
theorem open_rule {fuel : Nat} {cs : List Value} {x : DataW H × List MemPlace} (h : DataW.trod enc Tryz.prog w base sp hd fuel 32 cs = some x) :
    ∃ r : Rule, cs = (ruleV r).cells.toList ∧ RuleI r := by
  obtain ⟨xs, n, _, _, hl, hxl, hg⟩ := DataW.trod_struct Tryz.underlying32 h
  rw [cellsRule] at hl
  obtain ⟨c0, c1, c2, c3, c4, c5, c6, c7, c8, rfl⟩ := len9 hl
  have hs : ∀ i, i < 9 → xs[i]?.isSome = true := fun i hi => by
    have : xs.length = 9 := hxl
    simp [this, hi]
  obtain ⟨n0, e0, b0⟩ := opn_int (hg 0 _ rfl) (hs 0 (by decide))
  obtain ⟨n1, e1, b1⟩ := opn_int (hg 1 _ rfl) (hs 1 (by decide))
  obtain ⟨n2, e2, b2⟩ := opn_int (hg 2 _ rfl) (hs 2 (by decide))
  obtain ⟨n3, e3, b3⟩ := opn_int (hg 3 _ rfl) (hs 3 (by decide))
  obtain ⟨n4, e4, b4⟩ := opn_int (hg 4 _ rfl) (hs 4 (by decide))
  obtain ⟨n5, e5, b5⟩ := opn_int (hg 5 _ rfl) (hs 5 (by decide))
  obtain ⟨n6, e6, b6⟩ := opn_int (hg 6 _ rfl) (hs 6 (by decide))
  obtain ⟨n7, e7, b7⟩ := opn_int (hg 7 _ rfl) (hs 7 (by decide))
  obtain ⟨n8, e8, b8⟩ := opn_int (hg 8 _ rfl) (hs 8 (by decide))
  simp [cellsInt] at e0 e1 e2 e3 e4 e5 e6 e7 e8
  subst e0 e1 e2 e3 e4 e5 e6 e7 e8
  exact ⟨⟨n0, n1, n2, n3, n4, n5, n6, n7, n8⟩, rfl, ⟨b0, b1, b2, b3, b4, b5, b6, b7, b8⟩⟩
end
end Go.Proofs.YtffkmgjmlahfpaaGreat
