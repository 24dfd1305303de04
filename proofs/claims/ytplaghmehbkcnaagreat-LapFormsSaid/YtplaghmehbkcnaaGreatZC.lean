/- Contracts of the reference for layer 16: run for every run, Valid, Place, Bar. Contracts of the reference for layer 16: Bar, Points. Contract: Hull of the reference for layer 12. Contracts: Main and MainLeg of the reference for layer 24. The legs of a laid bar as boxes; its main leg among them (no walk). Contract of the reference for layer 16: Legs. Contracts of the reference for layer 25: Main, Size, Mark, Count. Contract of the reference for layer 25: joint. Contracts of the reference for layer 24: Up, Basic, Length. Contract: slices.Equal over integers (out of the text of slices.Equal over points). Contract: lap.Length. -/
import Derived.Test.YtplaghmehbkcnaaGreatZB
import Derived.Test.YtplaghmehbkcnaaGreatLook
import Derived.Test.YtplaghmehbkcnaaGreatBoxB
import Derived.Test.YtplaghmehbkcnaaGreatZA
import Derived.BigRegion
import Derived.Test.YtplaghmehbkcnaaGreatMainA
import Derived.Test.YtplaghmehbkcnaaGreatDetail
import Derived.Test.YtplaghmehbkcnaaGreatJoint
import Derived.Test.YtplaghmehbkcnaaGreatAnchL
import Derived.Test.YtplaghmehbkcnaaGreatLeafI
import Derived.Test.YtplaghmehbkcnaaGreatFlat
import Derived.Test.YtplaghmehbkcnaaGreatStag
set_option linter.unusedVariables false
set_option linter.unusedSimpArgs false
namespace Go.Proofs.YtplaghmehbkcnaaGreat
open Go.RowKit
theorem rrun_any (l : List BarR) (r : Rn) (A : Option Addr) (n c : Nat) (B : Nat) (w : World) (hB : B ≤ w.heap.size) (hA : BarsAt w B A n l) (hs : S.sched (bars l) = true) :
    Calls Tryz.prog 74 #[.slice A n c, rnV r] w fun e w' => e = .returned (.bool (S.right (bars l) r)) ∧ Below w.heap.size w w' := by
  rw [← rrun_eq hs]
  by_cases h : S.rightHead (bars l) r = true
  · by_cases h' : S.rightStep r = true
    · obtain ⟨⟨h0, _⟩, _⟩ := rightHead_out h
      have hb := (index_bd (bars l) r.mark).2
      obtain ⟨k, hk⟩ : ∃ k : Nat, S.index (bars l) r.mark = (k : Int) := ⟨(S.index (bars l) r.mark).toNat, by omega⟩
      have hkl : k < l.length := by rw [hk] at hb; simpa using hb
      have e : S.rrun (bars l) r = (S.near (S.laidPath l[k].b r 0) 1048576 && S.near (S.laidPath l[k].b r (r.count - 1).toNat) 1048576) := by
        have : S.barAt (bars l) r.mark = some l[k].b := by
          unfold S.barAt
          rw [hk]
          simp [hkl]
        unfold S.rrun
        rw [h, h', this]
        rfl
      rw [e]
      exact rrun_in l r k l[k] A n c B w hB hA h h' hk (List.getElem?_eq_getElem hkl) (sched_bar hs (k := k) (by simp [hkl])).1
    · have h2 : S.rightStep r = false := by simpa using h'
      have e : S.rrun (bars l) r = false := by unfold S.rrun; rw [h2]; simp
      rw [e]
      exact rrun_no1 l r A n c B w hB hA h h2
  · have h2 : S.rightHead (bars l) r = false := by simpa using h
    have e : S.rrun (bars l) r = false := by unfold S.rrun; rw [h2]; simp
    rw [e]
    exact rrun_no0 l r A n c B w hB hA h2
set_option maxHeartbeats 1000000 in
theorem rlaid_any (l : List BarR) (rs : List Rn) (A : Option Addr) (n c : Nat) (A' : Option Addr) (n' c' : Nat) (B : Nat) (w : World) (hB : B ≤ w.heap.size) (hA : BarsAt w B A n l) (hR : RunsAt w B A' n' rs) :
    Calls Tryz.prog 43 #[.slice A n c, .slice A' n' c'] w fun e w' => e = .returned (.bool (S.laid (bars l) rs)) ∧ Below w.heap.size w w' := by
  have HA := Lib.hid hA
  have HR := Lib.hid hR
  have HS := Lib.hid (fun (W : World) (hw : B ≤ W.heap.size) (hh : BarsAt W B A n l) => rsched_any l A n c B W hw hh)
  have HL := Lib.hid (show S.laid (bars l) rs = (S.sched (bars l) && decide (n' ≤ 60) && (rs.all (S.right (bars l)) && decide (S.sumAll rs ≤ 2000))) by unfold S.laid; rw [hR.len, runsOk_iff (by omega)])
  have hn := hR.len
  have hnm := hR.max
  by_cases hs : S.sched (bars l) = true
  rotate_left
  · have hs' : S.sched (bars l) = false := by simpa using hs
    rw [hs'] at HS HL
    clear hA hR hs hs' hn
    go_enter Tryz.func43, Tryz.ntmps43
    go_wp2_with (first
      | (go_at_call 73; (with_reducible refine (HS.out _ hB HA.out).mono ?_); rintro e w1 ⟨rfl, hbw1⟩; obtain ⟨hcw1, hfw1⟩ := bcell hbw1))
    go_ret
    exact ⟨ret_b (by rw [HL.out]; rfl), (by repeat (first | exact Below.refl _ _ | assumption | refine ba_alloc ?_ _ | refine ba_drew ?_ | refine ba_drewN ?_ _ | refine ba_via (by assumption) ?_ | (refine ba_set ?_ ?_ _; rotate_left; (first | omega | (simp; omega) | simp))))⟩
  rw [hs] at HS HL
  have HRI := Lib.hid (fun (r : Rn) (W : World) (hw : B ≤ W.heap.size) (hh : BarsAt W B A n l) => rrun_any l r A n c B W hw hh hs)
  have HC := Lib.hid (fun (r : Rn) (h : S.right (bars l) r = true) => right_count h)
  have HCN := Lib.hid (fun (W : World) (hw : B ≤ W.heap.size) (hh : RunsAt W B A' n' rs) (h60 : n' ≤ 60) (hc : ∀ k (hk : k < rs.length), 0 ≤ rs[k].count ∧ rs[k].count ≤ 1000) => rcount16_any rs A' n' c' B W hw hh h60 hc)
  unfold rnV at HRI
  by_cases h60 : 60 < n'
  · have e : decide (n' ≤ 60) = false := by simpa using h60
    rw [e] at HL
    clear hA hR hs e hn
    go_enter Tryz.func43, Tryz.ntmps43
    go_wp2_with (first
      | (go_at_call 73; (with_reducible refine (HS.out _ hB HA.out).mono ?_); rintro e w1 ⟨rfl, hbw1⟩; obtain ⟨hcw1, hfw1⟩ := bcell hbw1))
    go_ret
    exact ⟨ret_b (by rw [HL.out]; rfl), (by repeat (first | exact Below.refl _ _ | assumption | refine ba_alloc ?_ _ | refine ba_drew ?_ | refine ba_drewN ?_ _ | refine ba_via (by assumption) ?_ | (refine ba_set ?_ ?_ _; rotate_left; (first | omega | (simp; omega) | simp))))⟩
  have e : decide (n' ≤ 60) = true := by simp; omega
  rw [e] at HL
  clear hA hR hs e hn
  go_enter Tryz.func43, Tryz.ntmps43
  go_wp2_with (first
    | (go_at_call 73; (with_reducible refine (HS.out _ hB HA.out).mono ?_); rintro e w1 ⟨rfl, hbw1⟩; obtain ⟨hcw1, hfw1⟩ := bcell hbw1))
  go_loopw [5] (fun i wr => ∃ (k : Nat), k ≤ n' ∧ i = .int .i64 k ∧ Hid (∀ j (hj : j < rs.length), j < k → S.right (bars l) rs[j] = true) ∧ Below w1.heap.size w1 wr) (fun i _ => n' - (intOf i).toNat)
  case atStart => exact ⟨0, Nat.zero_le _, rfl, Lib.hid (fun j _ hj => absurd hj (by omega)), Below.refl _ _⟩
  case round =>
    obtain ⟨k, hk, rfl, HNO, hbr⟩ := hrel
    have hbwr : Below w.heap.size w wr := hbw1.trans (hbr.mono hbw1.size)
    have hwr : B ≤ wr.heap.size := by have := hbwr.size; omega
    by_cases hlt : k < n'
    · have hkx : k < rs.length := by have := HR.out.len; omega
      have hki : (k : Int) < (n' : Int) := by omega
      have HA' := Lib.hid (HA.out.at_ hB hbwr)
      have hs' := (HR.out.at_ hB hbwr).cells
      obtain ⟨b, o, hAe, _, _⟩ := hs'.at_ (by rw [flat_len rnC 10 rnC_len]; omega)
      subst hAe
      have c0 := hs'.row0 rnC_len hkx rfl
      have c1 := hs'.rowj rnC_len hkx 1 rfl
      have c2 := hs'.rowj rnC_len hkx 2 rfl
      have c3 := hs'.rowj rnC_len hkx 3 rfl
      have c4 := hs'.rowj rnC_len hkx 4 rfl
      have c5 := hs'.rowj rnC_len hkx 5 rfl
      have c6 := hs'.rowj rnC_len hkx 6 rfl
      have c7 := hs'.rowj rnC_len hkx 7 rfl
      have c8 := hs'.rowj rnC_len hkx 8 rfl
      have c9 := hs'.rowj rnC_len hkx 9 rfl
      have HRX := Lib.hid (fun (W : World) (hw : B ≤ W.heap.size) (hh : BarsAt W B A n l) => HRI.out rs[k] W hw hh)
      have HBAD := Lib.hid (fun (h : S.right (bars l) rs[k] = false) => all_no (p := S.right (bars l)) hkx h)
      have HGO := Lib.hid (fun (h : S.right (bars l) rs[k] = true) (j : Nat) (hj : j < rs.length) (hjk : j < k + 1) => show S.right (bars l) rs[j] = true from by
        by_cases hjk' : j = k
        · subst hjk'; exact h
        · exact HNO.out j hj (by omega))
      clear hs'
      generalize S.right (bars l) rs[k] = t at *
      generalize rs[k] = r at *
      cases t
      · go_wp2_with (first
          | (go_at_call 74; (with_reducible refine (HRX.out _ hwr HA'.out).mono ?_); rintro e w2 ⟨rfl, hbw2⟩; obtain ⟨hcw2, hfw2⟩ := bcell hbw2))
        go_ret
        exact ⟨ret_b (by rw [HL.out, HBAD.out trivial]; rfl), hbwr.trans (hbw2.mono hbwr.size)⟩
      · go_wp2_with (first
          | (go_at_call 74; (with_reducible refine (HRX.out _ hwr HA'.out).mono ?_); rintro e w2 ⟨rfl, hbw2⟩; obtain ⟨hcw2, hfw2⟩ := bcell hbw2))
        go_roundw
        case rel => exact ⟨k + 1, by omega, by go_num, Lib.hid (HGO.out trivial), hbr.trans (hbw2.mono hbr.size)⟩
        case measure => simp [intOf]; omega
    · have hall : ∀ j (hj : j < rs.length), S.right (bars l) rs[j] = true := fun j hj => HNO.out j hj (by have := HR.out.len; omega)
      have HAL := Lib.hid (all_yes (p := S.right (bars l)) hall)
      have HCX := Lib.hid (HCN.out wr hwr (HR.out.at_ hB hbwr) (by omega) (fun j hj => by have := HC.out _ (hall j hj); omega))
      clear hall
      generalize S.sumAll rs = sm at *
      go_wp2_with (first
        | (go_at_call 75; (with_reducible refine (HCX.out).mono ?_); rintro e w' ⟨rfl, rfl⟩))
      go_ret
      exact ⟨ret_b (by rw [HL.out, HAL.out]; simp), hbwr⟩
/-- Where laid bar i stands, in memory: the reference's Place. -/
theorem rplace_any (rs : List Rn) (A : Option Addr) (n c : Nat) (B : Nat) (w : World) (hB : B ≤ w.heap.size) (hR : RunsAt w B A n rs) (hc : ∀ k (hk : k < rs.length), 0 ≤ rs[k].count) (i k j : Nat) (hk : k < rs.length) (hi : (i : Int) = S.sumTo rs k + j) (hj : (j : Int) < rs[k].count) (hi64 : i ≤ 1000000) :
    Calls Tryz.prog 125 #[.slice A n c, .int .i64 i] w fun e w' => e = .returned (.tuple #[.int .i64 k, .int .i64 j]) ∧ w = w' := by
  have HN := Lib.hid hR.len
  have HS := Lib.hid hR.cells
  have hnm := hR.max
  have hkn : k < n := by have := hR.len; omega
  have HSM := Lib.hid (fun (m : Nat) (hm : m ≤ k) => sumTo_mono (rs := rs) hc hm (by omega))
  have HSZ := Lib.hid (fun (m : Nat) (hm : m ≤ rs.length) => sumTo_mono (rs := rs) hc (Nat.zero_le m) hm)
  have HSS := Lib.hid (fun (m : Nat) (hm : m < rs.length) => sumTo_succ rs hm)
  have HI := Lib.hid hi
  have HJ := Lib.hid hj
  clear hR hi hj
  go_enter Tryz.func125, Tryz.ntmps125
  go_wp2
  go_loop [1, 6] (fun v m => ∃ q : Nat, q ≤ k ∧ m = .int .i64 q ∧ v = .int .i64 ((i : Int) - S.sumTo rs q)) (fun _ m => k - (intOf m).toNat)
  case atStart => exact ⟨0, Nat.zero_le _, rfl, by rw [sumTo_zero]; simp⟩
  case round =>
    obtain ⟨q, hq, rfl, rfl⟩ := hrel
    have hl := HN.out
    have hqx : q < rs.length := by omega
    have hqi : (q : Int) < (n : Int) := by omega
    have hs' := HS.out
    obtain ⟨b, o, rfl, _, _⟩ := hs'.at_ (by rw [flat_len rnC 10 rnC_len]; omega)
    have c9 := hs'.rowj rnC_len hqx 9 rfl
    have h0 := HSZ.out q (by omega)
    rw [sumTo_zero] at h0
    have h1 := HI.out
    have h2 := HSM.out q hq
    have h3 := HSS.out q hqx
    have h5 := hc q hqx
    clear hs' hl
    by_cases hlt : q < k
    · have h4 := HSM.out (q + 1) (by omega)
      have hge : rs[q].count ≤ (i : Int) - S.sumTo rs q := by omega
      have e1 : IntKind.i64.wrap ((i : Int) - S.sumTo rs q - rs[q].count) = (i : Int) - S.sumTo rs (q + 1) := by
        rw [IntWalk.i64_in _ (by omega)]; omega
      have hd : decide (rs[q].count ≤ (i : Int) - S.sumTo rs q) = true := decide_eq_true hge
      clear h0 h1 h2 h3 h4 h5
      generalize hs1 : S.sumTo rs (q + 1) = s1 at *
      have HS1 := Lib.hid hs1
      clear hs1
      generalize S.sumTo rs q = s0 at *
      generalize rs[q].count = cq at *
      go_wp2
      go_round
      case rel => exact ⟨q + 1, by omega, by go_num, by rw [HS1.out]⟩
      case measure => simp [intOf]; omega
    · have hqk : q = k := by omega
      subst hqk
      have hj' := HJ.out
      have hlt2 : ¬ rs[q].count ≤ (i : Int) - S.sumTo rs q := by omega
      have HE := Lib.hid (show (i : Int) - S.sumTo rs q = j by omega)
      clear h0 h1 h2 h3 hj'
      generalize (i : Int) - S.sumTo rs q = v at *
      generalize rs[q].count = cq at *
      go_wp2
      go_ret2
      exact ⟨ret_2 rfl HE.out, rfl⟩
end Go.Proofs.YtplaghmehbkcnaaGreat
set_option linter.unusedVariables false
set_option linter.unusedSimpArgs false
namespace Go.Proofs.YtplaghmehbkcnaaGreat
open Go.RowKit
/-- Laid bar i stands in run k at place j; its line of the schedule is r. -/
structure Lies (l : List BarR) (rs : List Rn) (i k j k0 : Nat) (r : BarR) : Prop where
  st : Stands (bars l) rs i k j k0 r.b
  get : l[k0]? = some r
  cnt : ∀ k (hk : k < rs.length), 0 ≤ rs[k].count ∧ rs[k].count ≤ 1000
  lim : i ≤ 1000000
theorem lies_of {l : List BarR} {rs : List Rn} (h : S.laid (bars l) rs = true) {i : Nat} (hi : i < (S.mains (bars l) rs).length) : ∃ k j k0 r, Lies l rs i k j k0 r := by
  obtain ⟨k, j, k0, b, hs⟩ := stands_of h hi
  have hg := hs.ok.get
  rw [List.getElem?_map] at hg
  cases hr : l[k0]? with
  | none => rw [hr] at hg; cases hg
  | some r =>
    rw [hr] at hg
    simp only [Option.map_some, Option.some.injEq] at hg
    subst hg
    simp only [S.laid, Bool.and_eq_true, decide_eq_true_eq] at h
    have hml := mains_len h.2 (by omega)
    exact ⟨k, j, k0, r, hs, hr, fun k hk => by have := right_count (runs_in h.2 (List.getElem_mem hk)); omega, by omega⟩
set_option maxHeartbeats 1000000 in
theorem rbar16_any (l : List BarR) (rs : List Rn) (A : Option Addr) (n c : Nat) (A' : Option Addr) (n' c' : Nat) (B : Nat) (w : World) (hB : B ≤ w.heap.size) (hA : BarsAt w B A n l) (hR : RunsAt w B A' n' rs) (i k j k0 : Nat) (r : BarR) (hL : Lies l rs i k j k0 r) :
    Calls Tryz.prog 87 #[.slice A n c, .slice A' n' c', .int .i64 i] w fun e w' => e = .returned (barV r.b r.A r.n r.c) ∧ Below w.heap.size w w' := by
  have HA := Lib.hid hA
  have hkx := hL.st.lt
  have hkn : k < n' := by have := hR.len; omega
  have hki : (k : Int) < (n' : Int) := by omega
  have HP := Lib.hid (fun (W : World) (hw : B ≤ W.heap.size) (hh : RunsAt W B A' n' rs) => rplace_any rs A' n' c' B W hw hh (fun k hk => (hL.cnt k hk).1) i k j hkx hL.st.sum hL.st.inr hL.lim)
  have HR := Lib.hid hR
  have hix := hL.st.ok.index
  obtain ⟨hk0, hrg⟩ := List.getElem?_eq_some_iff.1 hL.get
  have hk0n : k0 < n := by have := hA.len; omega
  have hk0i : (k0 : Int) < (n : Int) := by omega
  have HF := Lib.hid (fun (W : World) (hw : B ≤ W.heap.size) (hh : BarsAt W B A n l) => hix ▸ rfind14_any l rs[k].mark A n c B W hw hh)
  have hs' := hR.cells
  obtain ⟨b, o, hAe, hbB, _⟩ := hs'.at_ (by rw [flat_len rnC 10 rnC_len]; omega)
  subst hAe
  have c0 := hs'.row0 rnC_len hkx rfl
  have hs2 := hA.cells
  obtain ⟨b2, o2, hAe2, hbB2, _⟩ := hs2.at_ (by rw [flat_len barC 5 barC_len]; omega)
  subst hAe2
  have d0 := hs2.row0 barC_len hk0 rfl
  have d1 := hs2.rowj barC_len hk0 1 rfl
  have d2 := hs2.rowj barC_len hk0 2 rfl
  have d3 := hs2.rowj barC_len hk0 3 rfl
  have d4 := hs2.rowj barC_len hk0 4 rfl
  rw [hrg] at d0 d1 d2 d3 d4
  have hb1 : b < w.heap.size := by omega
  have hb2 : b2 < w.heap.size := by omega
  clear hA hR hs' hs2 hix hrg
  clear hL
  generalize rs[k].mark = mk at *
  unfold barV
  go_enter Tryz.func87, Tryz.ntmps87
  go_wp2_with (first
    | (go_at_call 125; (with_reducible refine (HP.out _ (size_via hB (by repeat (first | exact Below.refl _ _ | assumption | refine ba_alloc ?_ _ | refine ba_drew ?_ | refine ba_drewN ?_ _ | refine ba_via (by assumption) ?_ | (refine ba_set ?_ ?_ _; rotate_left; (first | omega | (simp; omega) | simp))))) (HR.out.at_ hB (by repeat (first | exact Below.refl _ _ | assumption | refine ba_alloc ?_ _ | refine ba_drew ?_ | refine ba_drewN ?_ _ | refine ba_via (by assumption) ?_ | (refine ba_set ?_ ?_ _; rotate_left; (first | omega | (simp; omega) | simp)))))).mono ?_); rintro e w' ⟨rfl, rfl⟩)
    | (go_at_call 111; (with_reducible refine (HF.out _ (size_via hB (by repeat (first | exact Below.refl _ _ | assumption | refine ba_alloc ?_ _ | refine ba_drew ?_ | refine ba_drewN ?_ _ | refine ba_via (by assumption) ?_ | (refine ba_set ?_ ?_ _; rotate_left; (first | omega | (simp; omega) | simp))))) (HA.out.at_ hB (by repeat (first | exact Below.refl _ _ | assumption | refine ba_alloc ?_ _ | refine ba_drew ?_ | refine ba_drewN ?_ _ | refine ba_via (by assumption) ?_ | (refine ba_set ?_ ?_ _; rotate_left; (first | omega | (simp; omega) | simp)))))).mono ?_); rintro e w2 ⟨rfl, hbw2⟩; obtain ⟨hcw2, hfw2⟩ := bcell hbw2; have hzw2_0 : w.heap.size < w2.heap.size := lt_via hbw2 (by first | omega | (simp; done) | (simp; omega))))
  have hbel : Below w.heap.size w w2 := (by repeat (first | exact Below.refl _ _ | assumption | refine ba_alloc ?_ _ | refine ba_drew ?_ | refine ba_drewN ?_ _ | refine ba_via (by assumption) ?_ | (refine ba_set ?_ ?_ _; rotate_left; (first | omega | (simp; omega) | simp))))
  exact bodyPost_ret (v := .agg #[.string r.b.mark, .int .i64 r.b.size, .int .i64 r.b.count, .int .i64 r.b.code, .slice r.A r.n r.c]) (by simp [results, Tryz.results87, go_sem, *]) rfl ⟨rfl, (((((hbel.setCell (Nat.le_refl _) _).setCell (Nat.le_refl _) _).setCell (Nat.le_refl _) _).setCell (Nat.le_refl _) _).setCell (Nat.le_refl _) _)⟩
set_option maxHeartbeats 2000000 in
theorem rpoints16_any (l : List BarR) (rs : List Rn) (A : Option Addr) (n c : Nat) (A' : Option Addr) (n' c' : Nat) (B : Nat) (w : World) (hB : B ≤ w.heap.size) (hA : BarsAt w B A n l) (hR : RunsAt w B A' n' rs) (i k j k0 : Nat) (r : BarR) (hL : Lies l rs i k j k0 r) (L : Nat) (hLL : (S.legsOf r.b.code).length = L) :
    Calls Tryz.prog 120 #[.slice A n c, .slice A' n' c', .int .i64 i] w (GivesOne 96 3 (L + 1) ((S.laidPath r.b (rs[k]'hL.st.lt) j).flatMap ptC) w) := by
  have HA := Lib.hid hA
  have hkx := hL.st.lt
  have hkn : k < n' := by have := hR.len; omega
  have hki : (k : Int) < (n' : Int) := by omega
  have HP := Lib.hid (fun (W : World) (hw : B ≤ W.heap.size) (hh : RunsAt W B A' n' rs) => rplace_any rs A' n' c' B W hw hh (fun k hk => (hL.cnt k hk).1) i k j hkx hL.st.sum hL.st.inr hL.lim)
  have HR := Lib.hid hR
  have HBR := Lib.hid (fun (W : World) (hw : B ≤ W.heap.size) (hh : BarsAt W B A n l) (hr : RunsAt W B A' n' rs) => rbar16_any l rs A n c A' n' c' B W hw hh hr i k j k0 r hL)
  obtain ⟨hk0, hrg⟩ := List.getElem?_eq_some_iff.1 hL.get
  have HE := Lib.hid (hrg ▸ hA.each l[k0] (List.getElem_mem hk0))
  have hok := hL.st.ok
  have hcn := hL.cnt k hkx
  have hjr := hL.st.inr
  have hst : 0 < j → S.near1 rs[k].step 2097152 = true := fun hj => by
    have h1 := hok.start 1 (by omega) (by omega)
    have h2 := hok.home
    obtain ⟨ax, ay, az⟩ := near1_out h2
    obtain ⟨bx, by', bz⟩ := near1_out h1
    rw [show S.plus rs[k].at_ rs[k].step 1 = ⟨rs[k].at_.x + 1 * rs[k].step.x, rs[k].at_.y + 1 * rs[k].step.y, rs[k].at_.z + 1 * rs[k].step.z⟩ from rfl] at bx by' bz
    simp only [S.near1, Bool.and_eq_true, decide_eq_true_eq]
    simp only [] at bx by' bz
    omega
  have HPT := Lib.hid (fun (W : World) (hw : B ≤ W.heap.size) (hh : BarAt W B r.A r.n r.b) => rpoints_any r.b rs[k] j r.A r.n r.c B W hw hh hok.bar hok.turn hok.home (by omega) hst L hLL)
  have hs' := hR.cells
  obtain ⟨b, o, hAe, hbB, _⟩ := hs'.at_ (by rw [flat_len rnC 10 rnC_len]; omega)
  subst hAe
  have c0 := hs'.row0 rnC_len hkx rfl
  have c1 := hs'.rowj rnC_len hkx 1 rfl
  have c2 := hs'.rowj rnC_len hkx 2 rfl
  have c3 := hs'.rowj rnC_len hkx 3 rfl
  have c4 := hs'.rowj rnC_len hkx 4 rfl
  have c5 := hs'.rowj rnC_len hkx 5 rfl
  have c6 := hs'.rowj rnC_len hkx 6 rfl
  have c7 := hs'.rowj rnC_len hkx 7 rfl
  have c8 := hs'.rowj rnC_len hkx 8 rfl
  have c9 := hs'.rowj rnC_len hkx 9 rfl
  have hb1 : b < w.heap.size := by omega
  clear hA hR hs' hrg hok hcn hjr hst
  generalize S.laidPath r.b rs[k] j = LP at *
  generalize rs[k] = rr at *
  unfold barV at HBR HPT
  unfold rnV at HPT
  go_enter Tryz.func120, Tryz.ntmps120
  go_wp2_with (first
    | (go_at_call 125; (with_reducible refine (HP.out _ (size_via hB (by repeat (first | exact Below.refl _ _ | assumption | refine ba_alloc ?_ _ | refine ba_drew ?_ | refine ba_drewN ?_ _ | refine ba_via (by assumption) ?_ | (refine ba_set ?_ ?_ _; rotate_left; (first | omega | (simp; omega) | simp))))) (HR.out.at_ hB (by repeat (first | exact Below.refl _ _ | assumption | refine ba_alloc ?_ _ | refine ba_drew ?_ | refine ba_drewN ?_ _ | refine ba_via (by assumption) ?_ | (refine ba_set ?_ ?_ _; rotate_left; (first | omega | (simp; omega) | simp)))))).mono ?_); rintro e w' ⟨rfl, rfl⟩))
  refine wp_region_mix 0 [3, 5] (by kernel_rfl) (by kernel_rfl) (of_decide_eq_true (by kernel_rfl)) ?_
  try simp only [wpSegs, List.take_succ_cons, List.take_zero, List.drop_succ_cons, List.drop_zero, List.take_nil, List.drop_nil]
  repeat (go_big_quiet_step (fail))
  refine wpQuiet_nil ?_
  show wpList _ _ _ _ _ _
  go_wp2_with ((go_at_call 87; (with_reducible refine (HBR.out _ (size_via hB (by repeat (with_reducible first | exact Below.refl _ _ | assumption | refine ba_alloc ?_ _ | refine ba_drew ?_ | refine ba_drewN ?_ _ | refine ba_via (by assumption) ?_ | (refine ba_set ?_ ?_ _; rotate_left; (first | omega | (simp; omega) | simp))))) (HA.out.at_ hB (by repeat (with_reducible first | exact Below.refl _ _ | assumption | refine ba_alloc ?_ _ | refine ba_drew ?_ | refine ba_drewN ?_ _ | refine ba_via (by assumption) ?_ | (refine ba_set ?_ ?_ _; rotate_left; (first | omega | (simp; omega) | simp))))) (HR.out.at_ hB (by repeat (with_reducible first | exact Below.refl _ _ | assumption | refine ba_alloc ?_ _ | refine ba_drew ?_ | refine ba_drewN ?_ _ | refine ba_via (by assumption) ?_ | (refine ba_set ?_ ?_ _; rotate_left; (first | omega | (simp; omega) | simp)))))).mono ?_); rintro e w1 ⟨rfl, hbw1⟩))
  refine seg_next (grow_to (by repeat (with_reducible first | exact Below.refl _ _ | assumption | refine ba_alloc ?_ _ | refine ba_drew ?_ | refine ba_drewN ?_ _ | refine ba_via (by assumption) ?_ | (refine ba_set ?_ ?_ _; rotate_left; (first | omega | (simp; omega) | simp))))) ?_
  try simp only [wpSegs, List.take_succ_cons, List.take_zero, List.drop_succ_cons, List.drop_zero, List.take_nil, List.drop_nil]
  repeat (go_big_quiet_step (fail))
  refine wpQuiet_nil ?_
  show wpList _ _ _ _ _ _
  go_wp2_with ((go_at_call 116; (with_reducible refine (HPT.out _ (size_via hB (by repeat (with_reducible first | exact Below.refl _ _ | assumption | refine ba_alloc ?_ _ | refine ba_drew ?_ | refine ba_drewN ?_ _ | refine ba_via (by assumption) ?_ | (refine ba_set ?_ ?_ _; rotate_left; (first | omega | (simp; omega) | simp))))) (HE.out.at_ hB (by repeat (with_reducible first | exact Below.refl _ _ | assumption | refine ba_alloc ?_ _ | refine ba_drew ?_ | refine ba_drewN ?_ _ | refine ba_via (by assumption) ?_ | (refine ba_set ?_ ?_ _; rotate_left; (first | omega | (simp; omega) | simp)))))).mono ?_); rintro e w2 ⟨A2, c2', rfl, ho2, hbw2⟩))
  refine seg_next (grow_to (by repeat (with_reducible first | exact Below.refl _ _ | assumption | refine ba_alloc ?_ _ | refine ba_drew ?_ | refine ba_drewN ?_ _ | refine ba_via (by assumption) ?_ | (refine ba_set ?_ ?_ _; rotate_left; (first | omega | (simp; omega) | simp))))) ?_
  try simp only [wpSegs, List.take_succ_cons, List.take_zero, List.drop_succ_cons, List.drop_zero, List.take_nil, List.drop_nil]
  repeat (go_big_quiet_step (fail))
  refine wpQuiet_nil ?_
  show wpList _ _ _ _ _ _
  go_wp2
  go_ret
  exact ⟨A2, c2', rfl, own_mono ho2 (show w.heap.size ≤ w1.heap.size from Below.size (w := w) (by repeat (with_reducible first | exact Below.refl _ _ | assumption | refine ba_alloc ?_ _ | refine ba_drew ?_ | refine ba_drewN ?_ _ | refine ba_via (by assumption) ?_ | (refine ba_set ?_ ?_ _; rotate_left; (first | omega | (simp; omega) | simp))))), (by repeat (with_reducible first | exact Below.refl _ _ | assumption | refine ba_alloc ?_ _ | refine ba_drew ?_ | refine ba_drewN ?_ _ | refine ba_via (by assumption) ?_ | (refine ba_set ?_ ?_ _; rotate_left; (first | omega | (simp; omega) | simp))))⟩
end Go.Proofs.YtplaghmehbkcnaaGreat
set_option linter.unusedVariables false
set_option linter.unusedSimpArgs false
namespace Go.Proofs.YtplaghmehbkcnaaGreat
open Go.RowKit
def S.ptBox (p : Pt) : Bx := ⟨p, p⟩
theorem join_self (p : Pt) : S.join (S.ptBox p) (S.ptBox p) = S.ptBox p := by simp [S.join, S.ptBox]
theorem hull_one (p : Pt) : S.hull (S.ptBox p) [S.ptBox p] = S.ptBox p := join_self p
set_option maxRecDepth 100000 in
set_option maxHeartbeats 2000000 in
theorem rhull_any (A : Option Addr) (n c : Nat) (ps : List Pt) (p0 : Pt) (B : Nat) (w : World) (hn : ps.length = n) (hm : n ≤ 1000000) (hB : B ≤ w.heap.size) (hs : Cells w B A (ps.flatMap ptC)) (h0 : ps[0]? = some p0) :
    Calls Tryz.prog 121 #[.slice A n c] w fun e w' => e = .returned (boxV (S.hull (S.ptBox p0) (ps.map S.ptBox))) ∧ Below w.heap.size w w' := by
  have hn0 : 0 < n := by have := (List.getElem?_eq_some_iff.1 h0).1; omega
  have hni : (0 : Int) < (n : Int) := by omega
  have HN := Lib.hid hn
  have HS := Lib.hid hs
  have hh1 : (ps.map S.ptBox).take 1 = [S.ptBox p0] := by
    obtain ⟨x, l, rfl⟩ : ∃ x l, ps = x :: l := by cases ps with
      | nil => simp at h0
      | cons x l => exact ⟨x, l, rfl⟩
    simp at h0
    subst h0
    simp
  have HH1 := Lib.hid hh1
  obtain ⟨b, o, rfl, hb, _⟩ := hs.at_ (by rw [flat_len ptC 3 ptC_len]; omega)
  obtain ⟨c0, c1, c2⟩ := hs.pts h0
  simp only [Nat.zero_mul, Nat.add_zero] at c0 c1 c2
  have hbw : b < w.heap.size := by omega
  clear hn hs h0 hh1
  go_enter Tryz.func121, Tryz.ntmps121
  go_wp2
  go_region
  go_wp2
  have hW : Below w.heap.size w ((w.alloc (.cells #[.int .i64 0, .int .i64 0, .int .i64 0, .int .i64 0, .int .i64 0, .int .i64 0] 98)).alloc (.cells #[.int .i64 p0.x, .int .i64 p0.y, .int .i64 p0.z, .int .i64 p0.x, .int .i64 p0.y, .int .i64 p0.z] 98)).drew := (by repeat (first | exact Below.refl _ _ | assumption | refine ba_alloc ?_ _ | refine ba_drew ?_ | refine ba_drewN ?_ _ | refine ba_via (by assumption) ?_ | (refine ba_set ?_ ?_ _; rotate_left; (first | omega | (simp; omega) | simp))))
  have hK0 : Blk ((w.alloc (.cells #[.int .i64 0, .int .i64 0, .int .i64 0, .int .i64 0, .int .i64 0, .int .i64 0] 98)).alloc (.cells #[.int .i64 p0.x, .int .i64 p0.y, .int .i64 p0.z, .int .i64 p0.x, .int .i64 p0.y, .int .i64 p0.z] 98)).drew (w.heap.size + 1) 98 #[.int .i64 p0.x, .int .i64 p0.y, .int .i64 p0.z, .int .i64 p0.x, .int .i64 p0.y, .int .i64 p0.z] := by
    have h6 : Blk ((w.alloc (.cells #[.int .i64 0, .int .i64 0, .int .i64 0, .int .i64 0, .int .i64 0, .int .i64 0] 98)).alloc (.cells #[.int .i64 p0.x, .int .i64 p0.y, .int .i64 p0.z, .int .i64 p0.x, .int .i64 p0.y, .int .i64 p0.z] 98)) (w.heap.size + 1) 98 #[.int .i64 p0.x, .int .i64 p0.y, .int .i64 p0.z, .int .i64 p0.x, .int .i64 p0.y, .int .i64 p0.z] := by simpa using Blk.new (w.alloc (.cells #[.int .i64 0, .int .i64 0, .int .i64 0, .int .i64 0, .int .i64 0, .int .i64 0] 98)) 98 #[.int .i64 p0.x, .int .i64 p0.y, .int .i64 p0.z, .int .i64 p0.x, .int .i64 p0.y, .int .i64 p0.z]
    exact h6
  have hR0 : Blk ((w.alloc (.cells #[.int .i64 0, .int .i64 0, .int .i64 0, .int .i64 0, .int .i64 0, .int .i64 0] 98)).alloc (.cells #[.int .i64 p0.x, .int .i64 p0.y, .int .i64 p0.z, .int .i64 p0.x, .int .i64 p0.y, .int .i64 p0.z] 98)).drew w.heap.size 98 #[.int .i64 0, .int .i64 0, .int .i64 0, .int .i64 0, .int .i64 0, .int .i64 0] := (Blk.new w _ _).alloc _
  have hC1 := HS.out.below (hW.mono hB)
  have hzW : ((w.alloc (.cells #[.int .i64 0, .int .i64 0, .int .i64 0, .int .i64 0, .int .i64 0, .int .i64 0] 98)).alloc (.cells #[.int .i64 p0.x, .int .i64 p0.y, .int .i64 p0.z, .int .i64 p0.x, .int .i64 p0.y, .int .i64 p0.z] 98)).drew.heap.size = w.heap.size + 2 := by simp
  have HR0 := Lib.hid hR0
  clear c0 c1 c2 hR0
  generalize ((w.alloc (.cells #[.int .i64 0, .int .i64 0, .int .i64 0, .int .i64 0, .int .i64 0, .int .i64 0] 98)).alloc (.cells #[.int .i64 p0.x, .int .i64 p0.y, .int .i64 p0.z, .int .i64 p0.x, .int .i64 p0.y, .int .i64 p0.z] 98)).drew = W1 at *
  go_loopw [4] (fun i wr => ∃ k : Nat, 1 ≤ k ∧ k ≤ n ∧ i = .int .i64 k ∧ Blk wr (w.heap.size + 1) 98 #[.int .i64 (S.hull (S.ptBox p0) ((ps.map S.ptBox).take k)).lo.x, .int .i64 (S.hull (S.ptBox p0) ((ps.map S.ptBox).take k)).lo.y, .int .i64 (S.hull (S.ptBox p0) ((ps.map S.ptBox).take k)).lo.z, .int .i64 (S.hull (S.ptBox p0) ((ps.map S.ptBox).take k)).hi.x, .int .i64 (S.hull (S.ptBox p0) ((ps.map S.ptBox).take k)).hi.y, .int .i64 (S.hull (S.ptBox p0) ((ps.map S.ptBox).take k)).hi.z] ∧ Exc [w.heap.size + 1] W1 wr) (fun i _ => n - (intOf i).toNat)
  case atStart => exact ⟨1, Nat.le_refl _, by omega, rfl, by rw [HH1.out, hull_one]; exact hK0, Exc.refl _ _⟩
  case round =>
    obtain ⟨k, hk1, hk, rfl, hK, hX⟩ := hrel
    have hsz := hX.size
    have hgr := hK.lt
    have k0 := hK.cell 0
    have k1 := hK.cell 1
    have k2 := hK.cell 2
    have k3 := hK.cell 3
    have k4 := hK.cell 4
    have k5 := hK.cell 5
    have f0 := hK.frozen 0
    have f1 := hK.frozen 1
    have f2 := hK.frozen 2
    have f3 := hK.frozen 3
    have f4 := hK.frozen 4
    have f5 := hK.frozen 5
    simp only [List.getElem?_toArray, List.getElem?_cons_zero, List.getElem?_cons_succ] at k0 k1 k2 k3 k4 k5
    by_cases hlt : k < n
    · have hkx : k < ps.length := by have := HN.out; omega
      obtain ⟨c0, c1, c2⟩ := (hC1.below (hX.below (by have := hW.size; omega) (by intro x hx; simp at hx; omega))).pts (List.getElem?_eq_getElem hkx)
      have HT := Lib.hid (show S.hull (S.ptBox p0) ((ps.map S.ptBox).take (k + 1)) = S.join (S.hull (S.ptBox p0) ((ps.map S.ptBox).take k)) (S.ptBox ps[k]) by rw [List.take_succ_eq_append_getElem (by simpa using hkx), hull_snoc, List.getElem_map])
      have hbr : b < wr.heap.size := by omega
      generalize (S.hull (S.ptBox p0) ((ps.map S.ptBox).take k)) = Hk at *
      generalize ps[k] = Y at *
      have hki : (k : Int) < (n : Int) := by omega
      go_wp2
      go_roundw
      case rel =>
        refine ⟨k + 1, by omega, by omega, by go_num, ?_, ?_⟩
        · rw [HT.out]
          have h6 := ((((((hK.set 0 (.int .i64 (S.join Hk (S.ptBox Y)).lo.x)).set 1 (.int .i64 (S.join Hk (S.ptBox Y)).lo.y)).set 2 (.int .i64 (S.join Hk (S.ptBox Y)).lo.z)).set 3 (.int .i64 (S.join Hk (S.ptBox Y)).hi.x)).set 4 (.int .i64 (S.join Hk (S.ptBox Y)).hi.y)).set 5 (.int .i64 (S.join Hk (S.ptBox Y)).hi.z)).alloc (.cells #[.int .i64 Y.x, .int .i64 Y.y, .int .i64 Y.z] 96)
          simp only [List.setIfInBounds_toArray, List.set_cons_zero, List.set_cons_succ] at h6
          exact h6
        · exact ((((((hX.set (.inl (by simp)) _).set (.inl (by simp)) _).set (.inl (by simp)) _).set (.inl (by simp)) _).set (.inl (by simp)) _).set (.inl (by simp)) _).alloc _
      case measure => simp [intOf]; omega
    · have he : k = n := by omega
      subst he
      have ht : (ps.map S.ptBox).take k = ps.map S.ptBox := List.take_of_length_le (by have := HN.out; simp; omega)
      rw [ht] at k0 k1 k2 k3 k4 k5
      have hRr : Blk wr w.heap.size 98 #[.int .i64 0, .int .i64 0, .int .i64 0, .int .i64 0, .int .i64 0, .int .i64 0] := (hX.block w.heap.size (by omega) (by simp)).trans HR0.out
      have z0 := hRr.cell 0
      have z1 := hRr.cell 1
      have z2 := hRr.cell 2
      have z3 := hRr.cell 3
      have z4 := hRr.cell 4
      have z5 := hRr.cell 5
      have y0 := hRr.frozen 0
      have y1 := hRr.frozen 1
      have y2 := hRr.frozen 2
      have y3 := hRr.frozen 3
      have y4 := hRr.frozen 4
      have y5 := hRr.frozen 5
      simp only [List.getElem?_toArray, List.getElem?_cons_zero, List.getElem?_cons_succ] at z0 z1 z2 z3 z4 z5
      have hrl := hRr.lt
      have hbel : Below w.heap.size w wr := hW.trans (hX.below (by omega) (by intro x hx; simp at hx; omega))
      clear hRr
      generalize hH : S.hull (S.ptBox p0) (ps.map S.ptBox) = Hk at *
      have HH := Lib.hid hH
      clear hH
      go_wp2
      exact bodyPost_ret (v := boxV Hk) (by simp [results, Tryz.results121, go_sem, *]) rfl ⟨by rw [HH.out], ((((((hbel.setCell (Nat.le_refl _) _).setCell (Nat.le_refl _) _).setCell (Nat.le_refl _) _).setCell (Nat.le_refl _) _).setCell (Nat.le_refl _) _).setCell (Nat.le_refl _) _)⟩
end Go.Proofs.YtplaghmehbkcnaaGreat
set_option linter.unusedVariables false
set_option linter.unusedSimpArgs false
namespace Go.Proofs.YtplaghmehbkcnaaGreat
open Go.RowKit
def S.isMainB (b : Bx) : Bool := decide (b.lo.x < b.hi.x) && decide (b.lo.y = b.hi.y) && decide (b.lo.z = b.hi.z)
theorem Main_any (b : Bx) (w : World) :
    Calls Tryz.prog 122 #[boxV b] w fun e w' => e = .returned (.bool (S.isMainB b)) ∧ Below w.heap.size w w' := by
  have H := Lib.hid (show S.isMainB b = (decide (b.lo.x < b.hi.x) && decide (b.lo.y = b.hi.y) && decide (b.lo.z = b.hi.z)) from rfl)
  unfold boxV
  go_enter Tryz.func122, Tryz.ntmps122
  go_wp2
  all_goals (go_ret; exact ⟨ret_b (by rw [H.out, Bool.eq_iff_iff]; all_goals (first | (simp at *; done) | (simp at *; omega))), (by repeat (first | exact Below.refl _ _ | assumption | refine ba_alloc ?_ _ | refine ba_drew ?_ | refine ba_drewN ?_ _ | refine ba_via (by assumption) ?_ | (refine ba_set ?_ ?_ _; rotate_left; (first | omega | (simp; omega) | simp))))⟩)
theorem mainleg_any (A : Option Addr) (n c : Nat) (xs : List Bx) (B : Nat) (w : World) (hn : xs.length = n) (hm : n ≤ 9223372036854775807) (hB : B ≤ w.heap.size) (hs : Cells w B A (xs.flatMap boxC)) :
    Calls Tryz.prog 80 #[.slice A n c] w fun e w' => e = .returned (.int .i64 (idxf xs S.isMainB)) ∧ Below w.heap.size w w' := by
  have HN := Lib.hid hn
  clear hn
  go_enter Tryz.func80, Tryz.ntmps80
  go_wp2
  go_loopw [3] (fun i wr => ∃ k : Nat, k ≤ n ∧ i = .int .i64 k ∧ Hid (∀ j (h : j < xs.length), j < k → S.isMainB xs[j] = false) ∧ Below w.heap.size w wr) (fun i _ => n - (intOf i).toNat)
  case atStart => exact ⟨0, Nat.zero_le _, rfl, Lib.hid fun j _ hj => absurd hj (by omega), Below.refl _ _⟩
  case round =>
    obtain ⟨k, hk, rfl, HNO, hbr⟩ := hrel
    by_cases hlt : k < n
    · have hki : (k : Int) < (n : Int) := by omega
      have hkx : k < xs.length := by have := HN.out; omega
      have hs' := hs.below (hbr.mono hB)
      obtain ⟨b, o, rfl, _, _⟩ := hs'.at_ (by rw [flat_len boxC 6 boxC_len]; omega)
      obtain ⟨c0, c1, c2, c3, c4, c5⟩ := hs'.boxes (List.getElem?_eq_getElem hkx)
      have HT := Lib.hid (Main_any xs[k])
      have HX := Lib.hid (fun hx => idxf_hit (p := S.isMainB) hkx hx HNO.out)
      generalize hq : S.isMainB xs[k] = q at *
      have HQ := Lib.hid hq
      clear hq
      cases q
      · go_wp2_with (go_at_call 122; (with_reducible refine (HT.out _).mono ?_); rintro e w1 ⟨rfl, hbw1⟩; obtain ⟨hcw1, hfw1⟩ := bcell hbw1)
        go_roundw
        case rel =>
          refine ⟨k + 1, by omega, by go_num, Lib.hid fun j hj hjk => ?_, ba_via hbw1 hbr⟩
          by_cases hjk' : j = k
          · subst hjk'; exact HQ.out
          · exact HNO.out j hj (by omega)
        case measure => simp [intOf]; omega
      · go_wp2_with (go_at_call 122; (with_reducible refine (HT.out _).mono ?_); rintro e w1 ⟨rfl, hbw1⟩; obtain ⟨hcw1, hfw1⟩ := bcell hbw1)
        go_ret
        exact ⟨ret_i (HX.out trivial).symm, ba_via hbw1 hbr⟩
    · have HX := Lib.hid (idxf_miss (p := S.isMainB) (xs := xs) fun j hj => HNO.out j hj (by have := HN.out; omega))
      go_wp2
      go_ret
      exact ⟨ret_i HX.out.symm, hbr⟩
end Go.Proofs.YtplaghmehbkcnaaGreat
set_option linter.unusedVariables false
set_option linter.unusedSimpArgs false
namespace Go.Proofs.YtplaghmehbkcnaaGreat
open Go.RowKit
def S.legB (p q : Pt) : Bx := S.join (S.ptBox p) (S.ptBox q)
def S.ptD (l : List Pt) (k : Nat) : Pt := (l[k]?).getD ⟨0, 0, 0⟩
def S.legsTo (l : List Pt) (m : Nat) : List Bx := (List.range m).map fun k => S.legB (S.ptD l k) (S.ptD l (k + 1))
def S.legsL (l : List Pt) : List Bx := S.legsTo l (l.length - 1)
theorem legsTo_len (l : List Pt) (m : Nat) : (S.legsTo l m).length = m := by simp [S.legsTo]
theorem legsTo_snoc (l : List Pt) (m : Nat) : S.legsTo l (m + 1) = S.legsTo l m ++ [S.legB (S.ptD l m) (S.ptD l (m + 1))] := by simp [S.legsTo, List.range_succ]
theorem hull_two (p q : Pt) : S.hull (S.ptBox p) [S.ptBox p, S.ptBox q] = S.legB p q := by
  show S.join (S.join (S.ptBox p) (S.ptBox p)) (S.ptBox q) = _
  rw [join_self]
  rfl
theorem mnmx_eq (p q : Int) : (if q < p then q else p) = (if p < q then q else p) ↔ p = q := by
  split <;> split <;> omega
theorem mnmx_lt (p q : Int) : (if q < p then q else p) < (if p < q then q else p) ↔ p ≠ q := by
  split <;> split <;> omega
theorem isMainB_iff {b : Bx} : S.isMainB b = true ↔ b.lo.x < b.hi.x ∧ b.lo.y = b.hi.y ∧ b.lo.z = b.hi.z := by simp [S.isMainB, and_assoc]
theorem isMain_iff2 {p q : Pt} : S.isMain p q = true ↔ p.x ≠ q.x ∧ p.y = q.y ∧ p.z = q.z := by simp [S.isMain, and_assoc]
theorem legB_main (p q : Pt) : S.isMainB (S.legB p q) = S.isMain p q := by
  rw [Bool.eq_iff_iff, isMainB_iff, isMain_iff2]
  show (if q.x < p.x then q.x else p.x) < (if p.x < q.x then q.x else p.x) ∧ (if q.y < p.y then q.y else p.y) = (if p.y < q.y then q.y else p.y) ∧ (if q.z < p.z then q.z else p.z) = (if p.z < q.z then q.z else p.z) ↔ _
  rw [mnmx_lt, mnmx_eq, mnmx_eq]
theorem legB_box {p q : Pt} (h : S.isMain p q = true) : S.legB p q = S.legBx p q := by
  simp only [S.isMain, Bool.and_eq_true, decide_eq_true_eq, bne_iff_ne] at h
  obtain ⟨⟨h1, h2⟩, h3⟩ := h
  obtain ⟨px, py, pz⟩ := p
  obtain ⟨qx, qy, qz⟩ := q
  simp only [] at h1 h2 h3
  subst h2 h3
  simp only [S.legB, S.join, S.ptBox, S.legBx, S.lmn, S.lmx, Bx.mk.injEq, Pt.mk.injEq]
  simp
  exact ⟨rfl, rfl⟩
theorem mainTo_leg {l : List Pt} : ∀ {m : Nat}, m < l.length → (S.mainTo l m = none → ∀ k, k < m → S.isMainB (S.legB (S.ptD l k) (S.ptD l (k + 1))) = false) ∧
    (∀ b, S.mainTo l m = some b → ∃ j, j < m ∧ S.legB (S.ptD l j) (S.ptD l (j + 1)) = b ∧ S.isMainB b = true ∧ ∀ k, k < j → S.isMainB (S.legB (S.ptD l k) (S.ptD l (k + 1))) = false) := by
  intro m
  induction m with
  | zero => intro _; exact ⟨fun _ k hk => absurd hk (by omega), fun b h => by simp [S.mainTo] at h⟩
  | succ m ih =>
    intro hm
    obtain ⟨ih1, ih2⟩ := ih (by omega)
    have hp : l[m]? = some (S.ptD l m) := by simp [S.ptD, List.getElem?_eq_getElem (show m < l.length by omega)]
    have hq : l[m + 1]? = some (S.ptD l (m + 1)) := by simp [S.ptD, List.getElem?_eq_getElem hm]
    cases hc : S.mainTo l m with
    | some b =>
      have hs := mainTo_stay hc (m + 1) (by omega)
      refine ⟨fun h => (by rw [hs] at h; cases h), fun b' h => ?_⟩
      rw [hs] at h
      injection h with h
      subst h
      obtain ⟨j, h1, h2⟩ := ih2 b hc
      exact ⟨j, by omega, h2⟩
    | none =>
      have hs := mainTo_succ hc hp hq
      have hno := ih1 hc
      by_cases hx : S.isMain (S.ptD l m) (S.ptD l (m + 1)) = true
      · rw [if_pos hx] at hs
        refine ⟨fun h => (by rw [hs] at h; cases h), fun b h => ?_⟩
        rw [hs] at h
        injection h with h
        subst h
        exact ⟨m, by omega, legB_box hx, by rw [← legB_box hx, legB_main]; exact hx, hno⟩
      · rw [if_neg hx] at hs
        refine ⟨fun _ k hk => ?_, fun b h => by rw [hs] at h; cases h⟩
        by_cases hkm : k = m
        · subst hkm; rw [legB_main]; simpa using hx
        · exact hno k (by omega)
theorem legsL_get {l : List Pt} {k : Nat} (hk : k < l.length - 1) : (S.legsL l)[k]? = some (S.legB (S.ptD l k) (S.ptD l (k + 1))) := by
  unfold S.legsL S.legsTo
  rw [List.getElem?_map, List.getElem?_range hk]
  rfl
theorem main_none {l : List Pt} (hl : 0 < l.length) (h : S.mainLeg l = none) : idxf (S.legsL l) S.isMainB = -1 := by
  have h1 := (mainTo_leg (l := l) (m := l.length - 1) (by omega)).1 h
  refine idxf_miss (fun j hj => ?_)
  have hj' : j < l.length - 1 := by simpa [S.legsL, legsTo_len] using hj
  have := legsL_get hj'
  rw [List.getElem?_eq_getElem hj] at this
  injection this with this
  rw [this]
  exact h1 j hj'
theorem main_some {l : List Pt} {b : Bx} (hl : 0 < l.length) (h : S.mainLeg l = some b) : ∃ j : Nat, idxf (S.legsL l) S.isMainB = (j : Int) ∧ (S.legsL l)[j]? = some b ∧ j < l.length - 1 := by
  obtain ⟨j, hj, h1, h2, h3⟩ := (mainTo_leg (l := l) (m := l.length - 1) (by omega)).2 b h
  have hg := legsL_get hj
  obtain ⟨hj', he⟩ := List.getElem?_eq_some_iff.1 hg
  refine ⟨j, idxf_hit hj' (by rw [he, h1]; exact h2) (fun k hk hkj => ?_), by rw [hg, h1], hj⟩
  have hk' : k < l.length - 1 := by omega
  have := legsL_get hk'
  rw [List.getElem?_eq_getElem hk] at this
  injection this with this
  rw [this]
  exact h3 k hkj
end Go.Proofs.YtplaghmehbkcnaaGreat
set_option linter.unusedVariables false
set_option linter.unusedSimpArgs false
namespace Go.Proofs.YtplaghmehbkcnaaGreat
open Go.RowKit
theorem ptD_get {l : List Pt} {k : Nat} (h : k < l.length) : l[k]? = some (S.ptD l k) := by simp [S.ptD, List.getElem?_eq_getElem h]
theorem Cells.two {w : World} {B b o : Nat} {l : List Pt} (h : Cells w B (some ⟨b, o, none⟩) (l.flatMap ptC)) {k : Nat} (hk : k + 1 < l.length) : Cells w B (some ⟨b, o + k * 3, none⟩) ([S.ptD l k, S.ptD l (k + 1)].flatMap ptC) := by
  obtain ⟨b', o', he, hb, _⟩ := h.at_ (by rw [flat_len ptC 3 ptC_len]; omega)
  injection he with he
  injection he with h1 h2
  subst h1 h2
  obtain ⟨c0, c1, c2⟩ := h.pts (ptD_get (show k < l.length by omega))
  obtain ⟨d0, d1, d2⟩ := h.pts (ptD_get hk)
  refine .inr ⟨b, o + k * 3, rfl, hb, fun j v hv => ?_⟩
  have e : o + (k + 1) * 3 = o + k * 3 + 3 := by omega
  rw [e] at d0 d1 d2
  simp only [List.flatMap_cons, List.flatMap_nil, List.append_nil, List.cons_append, List.nil_append] at hv
  have hj : j < 6 := by
    have := (List.getElem?_eq_some_iff.1 hv).1
    simpa using this
  have : j = 0 ∨ j = 1 ∨ j = 2 ∨ j = 3 ∨ j = 4 ∨ j = 5 := by omega
  rcases this with rfl | rfl | rfl | rfl | rfl | rfl
  all_goals (simp only [List.getElem?_cons_zero, List.getElem?_cons_succ, Option.some.injEq] at hv; subst hv)
  · exact c0
  · exact c1
  · exact c2
  · exact d0
  · exact d1
  · exact d2
set_option maxRecDepth 20000 in
set_option maxHeartbeats 2000000 in
theorem rlegs16_any (l : List BarR) (rs : List Rn) (A : Option Addr) (n c : Nat) (A' : Option Addr) (n' c' : Nat) (B : Nat) (w : World) (hB : B ≤ w.heap.size) (hA : BarsAt w B A n l) (hR : RunsAt w B A' n' rs) (i k j k0 : Nat) (r : BarR) (hL : Lies l rs i k j k0 r) (L : Nat) (hLL : (S.legsOf r.b.code).length = L) :
    Calls Tryz.prog 79 #[.slice A n c, .slice A' n' c', .int .i64 i] w (GivesOne 98 6 L ((S.legsL (S.laidPath r.b (rs[k]'hL.st.lt) j)).flatMap boxC) w) := by
  have HP := Lib.hid (rpoints16_any l rs A n c A' n' c' B w hB hA hR i k j k0 r hL L hLL)
  have HLP := Lib.hid (show (S.laidPath r.b (rs[k]'hL.st.lt) j).length = L + 1 by rw [laidPath_len, hLL])
  have hl6 := legs_len r.b.code
  rw [hLL] at hl6
  clear hA hR
  generalize S.laidPath r.b (rs[k]'hL.st.lt) j = LP at *
  clear hL hLL
  have HLN := Lib.hid (show (S.legsL LP).length = L by rw [S.legsL, legsTo_len, HLP.out]; rfl)
  have HLL := Lib.hid (show S.legsL LP = S.legsTo LP L by rw [S.legsL, HLP.out]; rfl)
  have HLS := Lib.hid (fun m => legsTo_snoc LP m)
  have HTW := Lib.hid (fun (p q : Pt) (W : World) (A : Option Addr) (c B' : Nat) (hw : B' ≤ W.heap.size) (hs : Cells W B' A ([p, q].flatMap ptC)) => hull_two p q ▸ rhull_any A 2 c [p, q] p B' W rfl (by omega) hw hs rfl)
  go_enter Tryz.func79, Tryz.ntmps79
  go_wp2_with (first
    | (go_at_call 120; (with_reducible refine (HP.out).mono ?_); rintro e w1 ⟨Aw1, cw1, rfl, how1, hbw1⟩; obtain ⟨hcw1, hfw1⟩ := bcell hbw1))
  have hs1 := (own_cells how1 (by unfold maxLen; omega)).1
  have hcw := (own_cells how1 (by unfold maxLen; omega)).2.1
  have hbw : Below w.heap.size w w1 := hbw1
  clear hcw1 hfw1 how1
  go_loopw [8, 9] (fun v i wr => ∃ (q : Nat) (A3 : Option Addr) (c3 : Nat), q ≤ L ∧ i = .int .i64 ((q + 1 : Nat) : Int) ∧ v = .slice A3 q c3 ∧ Row w1 wr none w.heap.size 98 6 (.slice A3 q c3) q ((S.legsTo LP q).flatMap boxC) ∧ Exc [] w1 wr) (fun _ i _ => L + 1 - (intOf i).toNat)
  case atStart => exact ⟨0, none, 0, Nat.zero_le _, rfl, rfl, by simpa [S.legsTo] using Row.none_ _ _ _ _, Exc.refl _ _⟩
  case round =>
    obtain ⟨q, A3, c3, hq, rfl, rfl, hRW, hX⟩ := hrel
    have hbx : Below w1.heap.size w1 wr := hX.below (Nat.le_refl _) (by simp)
    have hsz := hbx.size
    by_cases hlt : q < L
    · have hs' := hs1.below hbx
      obtain ⟨b4, o4, rfl, hbl, _⟩ := hs'.at_ (by rw [flat_len ptC 3 ptC_len, HLP.out]; omega)
      have hs2 := Cells.two (k := q) hs' (by have := HLP.out; omega)
      have HTq := Lib.hid (fun (W : World) (A : Option Addr) (c B' : Nat) (hw : B' ≤ W.heap.size) (hs : Cells W B' A ([S.ptD LP q, S.ptD LP (q + 1)].flatMap ptC)) => HTW.out _ _ W A c B' hw hs)
      have HSq := Lib.hid (show (S.legsTo LP (q + 1)).flatMap boxC = (S.legsTo LP q).flatMap boxC ++ boxC (S.legB (S.ptD LP q) (S.ptD LP (q + 1))) by rw [HLS.out, List.flatMap_append]; simp)
      generalize S.legB (S.ptD LP q) (S.ptD LP (q + 1)) = X at *
      generalize [S.ptD LP q, S.ptD LP (q + 1)].flatMap ptC = P2 at *
      have hki : (q : Int) + 1 < (L : Int) + 1 := by omega
      have hq6 : q ≤ 6 := by omega
      have hcp : q + 1 + 1 ≤ cw1 := by omega
      have hcpi : (q : Int) + 1 + 1 ≤ (cw1 : Int) := by omega
      have e2 : q + 1 + 1 - q = 2 := by omega
      go_wp2_with (first
        | (go_at_call 121; (with_reducible refine (HTq.out _ _ _ _ (Nat.le_trans (Nat.le_refl _) hsz) hs2).mono ?_); rintro e w2 ⟨rfl, hbw2⟩; obtain ⟨hcw2, hfw2⟩ := bcell hbw2)
        | (at_builtin; refine wpList_push rfl (.tmp 20) (.tmp 28) _ rfl elemBx ((hRW.via hbw2).alloc _) ((Exc.via hbw2 hX).alloc _) (by simp) hbw.size rfl (w2.heap.size) 1 1 [.int .i64 X.lo.x, .int .i64 X.lo.y, .int .i64 X.lo.z, .int .i64 X.hi.x, .int .i64 X.hi.y, .int .i64 X.hi.z] rfl rfl ?_ (by simp [Value.oneCell']) (by unfold maxLen; omega) (by omega) ?_; (· intro j u hu; exact by have := (Cells.newRow w2 #[.int .i64 X.lo.x, .int .i64 X.lo.y, .int .i64 X.lo.z, .int .i64 X.hi.x, .int .i64 X.hi.y, .int .i64 X.hi.z] 98 (0, 0)).get (k := j) (v := u) hu; rwa [Nat.zero_add] at this); intro v' w' hR' hX' hO'))
      obtain ⟨A5, c5, rfl, _, _, _⟩ := own_form hR'.own
      go_roundw
      case rel => exact ⟨q + 1, A5, c5, by omega, by go_num, rfl, by rw [HSq.out]; exact hR', hX'⟩
      case measure => simp [intOf]; omega
    · have he : q = L := by omega
      subst he
      have hki : ¬ (q : Int) + 1 < (q : Int) + 1 := by omega
      go_wp2
      go_ret
      refine ⟨A3, c3, rfl, ?_, ba_via hbx hbw⟩
      have := hRW.own
      rwa [← HLL.out] at this
end Go.Proofs.YtplaghmehbkcnaaGreat
set_option linter.unusedVariables false
set_option linter.unusedSimpArgs false
namespace Go.Proofs.YtplaghmehbkcnaaGreat
open Go.RowKit
theorem ret_s {a b : ByteArray} (h : a = b) : Ending.returned (.string a) = .returned (.string b) := by rw [h]
theorem mnOf_size (s : Int) (m : ByteArray) (o : Option Bx) : (S.mnOf s m o).size = s := by cases o <;> rfl
theorem mnOf_mark (s : Int) (m : ByteArray) (o : Option Bx) : (S.mnOf s m o).mark = m := by cases o <;> rfl
set_option maxRecDepth 20000 in
set_option maxHeartbeats 2000000 in
theorem rmain_any (x : Dt) (B : Nat) (w : World) (hB : B ≤ w.heap.size) (hA : DtAt w B x) (h : S.laid (bars x.bs) x.rs = true) (i : Nat) (m : Mn) (hm : (S.mains (bars x.bs) x.rs)[i]? = some m) :
    Calls Tryz.prog 46 #[dtV x, .int .i64 i] w fun e w' => e = .returned (.tuple #[boxV m.leg, .bool m.has]) ∧ Below w.heap.size w w' := by
  obtain ⟨k, j, k0, r, hL⟩ := lies_of h (List.getElem?_eq_some_iff.1 hm).1
  have hmn : m = S.mnOf r.b.size r.b.mark (S.mainLeg (S.laidPath r.b (x.rs[k]'hL.st.lt) j)) := by
    have := hL.st.get
    rw [hm] at this
    injection this
  have HA := Lib.hid hA
  have hl6 := legs_len r.b.code
  have hlp := laidPath_len r.b (x.rs[k]'hL.st.lt) j
  have HLG := Lib.hid (fun (W : World) (hw : B ≤ W.heap.size) (hh : DtAt W B x) => rlegs16_any x.bs x.rs x.bA x.bn x.bc x.rA x.rn x.rc B W hw hh.bars hh.runs i k j k0 r hL _ rfl)
  have hln : (S.legsL (S.laidPath r.b (x.rs[k]'hL.st.lt) j)).length = (S.legsOf r.b.code).length := by rw [S.legsL, legsTo_len, hlp]; rfl
  clear hA hm
  generalize S.laidPath r.b (x.rs[k]'hL.st.lt) j = LP at *
  cases hml : S.mainLeg LP with
  | none =>
    have hid := main_none (by omega) hml
    have HMG := Lib.hid (fun (W : World) (A : Option Addr) (c B' : Nat) (hw : B' ≤ W.heap.size) (hs : Cells W B' A ((S.legsL LP).flatMap boxC)) => hid ▸ mainleg_any A (S.legsOf r.b.code).length c (S.legsL LP) B' W hln (by omega) hw hs)
    rw [hml] at hmn
    subst hmn
    unfold dtV
    go_enter Tryz.func46, Tryz.ntmps46
    go_wp2_with (first
      | (go_at_call 79; (with_reducible refine (HLG.out _ (size_via hB (by repeat (first | exact Below.refl _ _ | assumption | refine ba_alloc ?_ _ | refine ba_drew ?_ | refine ba_drewN ?_ _ | refine ba_via (by assumption) ?_ | (refine ba_set ?_ ?_ _; rotate_left; (first | omega | (simp; omega) | simp))))) (HA.out.at_ hB (by repeat (first | exact Below.refl _ _ | assumption | refine ba_alloc ?_ _ | refine ba_drew ?_ | refine ba_drewN ?_ _ | refine ba_via (by assumption) ?_ | (refine ba_set ?_ ?_ _; rotate_left; (first | omega | (simp; omega) | simp)))))).mono ?_); rintro e w1 ⟨Aw1, cw1, rfl, how1, hbw1⟩; obtain ⟨hcw1, hfw1⟩ := bcell hbw1; have hzw1_0 : w.heap.size < w1.heap.size := lt_via hbw1 (by first | omega | (simp; done) | (simp; omega)); have hzw1_1 : w.heap.size + 1 < w1.heap.size := lt_via hbw1 (by first | omega | (simp; done) | (simp; omega)))
      | (go_at_call 80; (with_reducible refine (HMG.out _ _ _ _ (Nat.le_refl _) (own_cells how1 (by unfold maxLen; omega)).1).mono ?_); rintro e w2 ⟨rfl, hbw2⟩; obtain ⟨hcw2, hfw2⟩ := bcell hbw2; have hzw2_0 : w.heap.size < w2.heap.size := lt_via hbw2 (by first | omega | (simp; done) | (simp; omega)); have hzw2_1 : w.heap.size + 1 < w2.heap.size := lt_via hbw2 (by first | omega | (simp; done) | (simp; omega))))
    have hbel : Below w.heap.size w w2 := (by repeat (first | exact Below.refl _ _ | assumption | refine ba_alloc ?_ _ | refine ba_drew ?_ | refine ba_drewN ?_ _ | refine ba_via (by assumption) ?_ | (refine ba_set ?_ ?_ _; rotate_left; (first | omega | (simp; omega) | simp))))
    exact bodyPost_ret (v := .tuple #[.agg #[.int .i64 0, .int .i64 0, .int .i64 0, .int .i64 0, .int .i64 0, .int .i64 0], .bool false]) (by simp [results, Tryz.results46, go_sem, *]) rfl ⟨rfl, ((((((hbel.setCell (Nat.le_succ _) _).setCell (Nat.le_succ _) _).setCell (Nat.le_succ _) _).setCell (Nat.le_succ _) _).setCell (Nat.le_succ _) _).setCell (Nat.le_succ _) _)⟩
  | some b =>
    obtain ⟨jj, hid, hg, hjj⟩ := main_some (by omega) hml
    have HMG := Lib.hid (fun (W : World) (A : Option Addr) (c B' : Nat) (hw : B' ≤ W.heap.size) (hs : Cells W B' A ((S.legsL LP).flatMap boxC)) => hid ▸ mainleg_any A (S.legsOf r.b.code).length c (S.legsL LP) B' W hln (by omega) hw hs)
    rw [hml] at hmn
    subst hmn
    have HG := Lib.hid hg
    have hjl : jj < (S.legsOf r.b.code).length := by omega
    have hji : (jj : Int) < ((S.legsOf r.b.code).length : Int) := by omega
    clear hid hg
    unfold dtV
    go_enter Tryz.func46, Tryz.ntmps46
    go_wp2_with (first
      | (go_at_call 79; (with_reducible refine (HLG.out _ (size_via hB (by repeat (first | exact Below.refl _ _ | assumption | refine ba_alloc ?_ _ | refine ba_drew ?_ | refine ba_drewN ?_ _ | refine ba_via (by assumption) ?_ | (refine ba_set ?_ ?_ _; rotate_left; (first | omega | (simp; omega) | simp))))) (HA.out.at_ hB (by repeat (first | exact Below.refl _ _ | assumption | refine ba_alloc ?_ _ | refine ba_drew ?_ | refine ba_drewN ?_ _ | refine ba_via (by assumption) ?_ | (refine ba_set ?_ ?_ _; rotate_left; (first | omega | (simp; omega) | simp)))))).mono ?_); rintro e w1 ⟨Aw1, cw1, rfl, how1, hbw1⟩; obtain ⟨hcw1, hfw1⟩ := bcell hbw1; have hzw1_0 : w.heap.size < w1.heap.size := lt_via hbw1 (by first | omega | (simp; done) | (simp; omega)); have hzw1_1 : w.heap.size + 1 < w1.heap.size := lt_via hbw1 (by first | omega | (simp; done) | (simp; omega)))
      | (go_at_call 80; (with_reducible refine (HMG.out _ _ _ _ (Nat.le_refl _) (own_cells how1 (by unfold maxLen; omega)).1).mono ?_); rintro e w2 ⟨rfl, hbw2⟩; obtain ⟨hcw2, hfw2⟩ := bcell hbw2
         have hzw2_0 : w.heap.size < w2.heap.size := lt_via hbw2 (by first | omega | (simp; done) | (simp; omega))
         have hzw2_1 : w.heap.size + 1 < w2.heap.size := lt_via hbw2 (by first | omega | (simp; done) | (simp; omega))
         have hsL := (own_cells how1 (by unfold maxLen; omega)).1
         obtain ⟨b4, o4, rfl, hbl4, hxx⟩ := hsL.at_ (by rw [flat_len boxC 6 boxC_len, hln]; omega)
         clear hxx
         obtain ⟨c0, c1, c2, c3, c4, c5⟩ := hsL.boxes HG.out))
    have hbel : Below w.heap.size w w2 := (by repeat (first | exact Below.refl _ _ | assumption | refine ba_alloc ?_ _ | refine ba_drew ?_ | refine ba_drewN ?_ _ | refine ba_via (by assumption) ?_ | (refine ba_set ?_ ?_ _; rotate_left; (first | omega | (simp; omega) | simp))))
    exact bodyPost_ret (v := .tuple #[.agg #[.int .i64 b.lo.x, .int .i64 b.lo.y, .int .i64 b.lo.z, .int .i64 b.hi.x, .int .i64 b.hi.y, .int .i64 b.hi.z], .bool true]) (by simp [results, Tryz.results46, go_sem, *]) rfl ⟨rfl, ((((((hbel.setCell (Nat.le_succ _) _).setCell (Nat.le_succ _) _).setCell (Nat.le_succ _) _).setCell (Nat.le_succ _) _).setCell (Nat.le_succ _) _).setCell (Nat.le_succ _) _)⟩
set_option maxRecDepth 20000 in
set_option maxHeartbeats 2000000 in
theorem rsize25_any (x : Dt) (B : Nat) (w : World) (hB : B ≤ w.heap.size) (hA : DtAt w B x) (h : S.laid (bars x.bs) x.rs = true) (i : Nat) (m : Mn) (hm : (S.mains (bars x.bs) x.rs)[i]? = some m) :
    Calls Tryz.prog 52 #[dtV x, .int .i64 i] w fun e w' => e = .returned (.int .i64 m.size) ∧ Below w.heap.size w w' := by
  obtain ⟨k, j, k0, r, hL⟩ := lies_of h (List.getElem?_eq_some_iff.1 hm).1
  have hmn : m = S.mnOf r.b.size r.b.mark (S.mainLeg (S.laidPath r.b (x.rs[k]'hL.st.lt) j)) := by
    have := hL.st.get
    rw [hm] at this
    injection this
  have HE := Lib.hid (show m.size = r.b.size by rw [hmn, mnOf_size])
  have HA := Lib.hid hA
  have HLG := Lib.hid (fun (W : World) (hw : B ≤ W.heap.size) (hh : DtAt W B x) => rbar16_any x.bs x.rs x.bA x.bn x.bc x.rA x.rn x.rc B W hw hh.bars hh.runs i k j k0 r hL)
  clear hA hm hmn hL
  unfold dtV
  unfold barV at HLG
  have f1 : ∀ W, (Instr.field 119 (.agg #[.string r.b.mark, .int .i64 r.b.size, .int .i64 r.b.count, .int .i64 r.b.code, .slice r.A r.n r.c]) 1).run Tryz.prog W = .ok (.int .i64 r.b.size) W := fun _ => by kernel_rfl
  go_enter Tryz.func52, Tryz.ntmps52
  go_wp2_with (first
    | (go_at_call 87; (with_reducible refine (HLG.out _ (size_via hB (by repeat (first | exact Below.refl _ _ | assumption | refine ba_alloc ?_ _ | refine ba_drew ?_ | refine ba_drewN ?_ _ | refine ba_via (by assumption) ?_ | (refine ba_set ?_ ?_ _; rotate_left; (first | omega | (simp; omega) | simp))))) (HA.out.at_ hB (by repeat (first | exact Below.refl _ _ | assumption | refine ba_alloc ?_ _ | refine ba_drew ?_ | refine ba_drewN ?_ _ | refine ba_via (by assumption) ?_ | (refine ba_set ?_ ?_ _; rotate_left; (first | omega | (simp; omega) | simp)))))).mono ?_); rintro e w1 ⟨rfl, hbw1⟩; obtain ⟨hcw1, hfw1⟩ := bcell hbw1; have hzw1_0 : w.heap.size < w1.heap.size := lt_via hbw1 (by first | omega | (simp; done) | (simp; omega))))
  go_ret
  exact ⟨ret_i HE.out.symm, (by repeat (first | exact Below.refl _ _ | assumption | refine ba_alloc ?_ _ | refine ba_drew ?_ | refine ba_drewN ?_ _ | refine ba_via (by assumption) ?_ | (refine ba_set ?_ ?_ _; rotate_left; (first | omega | (simp; omega) | simp))))⟩
set_option maxRecDepth 20000 in
set_option maxHeartbeats 2000000 in
theorem rmark25_any (x : Dt) (B : Nat) (w : World) (hB : B ≤ w.heap.size) (hA : DtAt w B x) (h : S.laid (bars x.bs) x.rs = true) (i : Nat) (m : Mn) (hm : (S.mains (bars x.bs) x.rs)[i]? = some m) :
    Calls Tryz.prog 54 #[dtV x, .int .i64 i] w fun e w' => e = .returned (.string m.mark) ∧ Below w.heap.size w w' := by
  obtain ⟨k, j, k0, r, hL⟩ := lies_of h (List.getElem?_eq_some_iff.1 hm).1
  have hmn : m = S.mnOf r.b.size r.b.mark (S.mainLeg (S.laidPath r.b (x.rs[k]'hL.st.lt) j)) := by
    have := hL.st.get
    rw [hm] at this
    injection this
  have HE := Lib.hid (show m.mark = r.b.mark by rw [hmn, mnOf_mark])
  have HA := Lib.hid hA
  have HLG := Lib.hid (fun (W : World) (hw : B ≤ W.heap.size) (hh : DtAt W B x) => rbar16_any x.bs x.rs x.bA x.bn x.bc x.rA x.rn x.rc B W hw hh.bars hh.runs i k j k0 r hL)
  clear hA hm hmn hL
  unfold dtV
  unfold barV at HLG
  have f1 : ∀ W, (Instr.field 119 (.agg #[.string r.b.mark, .int .i64 r.b.size, .int .i64 r.b.count, .int .i64 r.b.code, .slice r.A r.n r.c]) 0).run Tryz.prog W = .ok (.string r.b.mark) W := fun _ => by kernel_rfl
  go_enter Tryz.func54, Tryz.ntmps54
  go_wp2_with (first
    | (go_at_call 87; (with_reducible refine (HLG.out _ (size_via hB (by repeat (first | exact Below.refl _ _ | assumption | refine ba_alloc ?_ _ | refine ba_drew ?_ | refine ba_drewN ?_ _ | refine ba_via (by assumption) ?_ | (refine ba_set ?_ ?_ _; rotate_left; (first | omega | (simp; omega) | simp))))) (HA.out.at_ hB (by repeat (first | exact Below.refl _ _ | assumption | refine ba_alloc ?_ _ | refine ba_drew ?_ | refine ba_drewN ?_ _ | refine ba_via (by assumption) ?_ | (refine ba_set ?_ ?_ _; rotate_left; (first | omega | (simp; omega) | simp)))))).mono ?_); rintro e w1 ⟨rfl, hbw1⟩; obtain ⟨hcw1, hfw1⟩ := bcell hbw1; have hzw1_0 : w.heap.size < w1.heap.size := lt_via hbw1 (by first | omega | (simp; done) | (simp; omega))))
  go_ret
  exact ⟨ret_s HE.out.symm, (by repeat (first | exact Below.refl _ _ | assumption | refine ba_alloc ?_ _ | refine ba_drew ?_ | refine ba_drewN ?_ _ | refine ba_via (by assumption) ?_ | (refine ba_set ?_ ?_ _; rotate_left; (first | omega | (simp; omega) | simp))))⟩
theorem laid_len {bs : List Bar} {rs : List Rn} (h : S.laid bs rs = true) : ((S.mains bs rs).length : Int) = S.sumAll rs := by
  simp only [S.laid, Bool.and_eq_true, decide_eq_true_eq] at h
  have := mains_sum h.1.1 (fun r hr => runs_in h.2 hr) (k := rs.length) (Nat.le_refl _)
  rwa [List.take_length] at this
theorem rcount25_any (x : Dt) (B : Nat) (w : World) (hB : B ≤ w.heap.size) (hA : DtAt w B x) (h : S.laid (bars x.bs) x.rs = true) :
    Calls Tryz.prog 56 #[dtV x] w fun e w' => e = .returned (.int .i64 (S.mains (bars x.bs) x.rs).length) ∧ Below w.heap.size w w' := by
  have HA := Lib.hid hA
  have hrs : ∀ k (hk : k < x.rs.length), 0 ≤ x.rs[k].count ∧ x.rs[k].count ≤ 1000 := fun k hk => by
    have h2 := h
    simp only [S.laid, Bool.and_eq_true, decide_eq_true_eq] at h2
    have := right_count (runs_in h2.2 (List.getElem_mem hk))
    omega
  have h60 : x.rn ≤ 60 := by
    have h2 := h
    simp only [S.laid, Bool.and_eq_true, decide_eq_true_eq] at h2
    have := hA.runs.len
    omega
  have HC := Lib.hid (fun (W : World) (hw : B ≤ W.heap.size) (hh : DtAt W B x) => (laid_len h).symm ▸ rcount16_any x.rs x.rA x.rn x.rc B W hw hh.runs h60 hrs)
  clear hA hrs h60 h
  unfold dtV
  go_enter Tryz.func56, Tryz.ntmps56
  go_wp2_with (first
    | (go_at_call 75; (with_reducible refine (HC.out _ (size_via hB (by repeat (first | exact Below.refl _ _ | assumption | refine ba_alloc ?_ _ | refine ba_drew ?_ | refine ba_drewN ?_ _ | refine ba_via (by assumption) ?_ | (refine ba_set ?_ ?_ _; rotate_left; (first | omega | (simp; omega) | simp))))) (HA.out.at_ hB (by repeat (first | exact Below.refl _ _ | assumption | refine ba_alloc ?_ _ | refine ba_drew ?_ | refine ba_drewN ?_ _ | refine ba_via (by assumption) ?_ | (refine ba_set ?_ ?_ _; rotate_left; (first | omega | (simp; omega) | simp)))))).mono ?_); rintro e w' ⟨rfl, rfl⟩))
  go_ret
  exact ⟨rfl, (by repeat (first | exact Below.refl _ _ | assumption | refine ba_alloc ?_ _ | refine ba_drew ?_ | refine ba_drewN ?_ _ | refine ba_via (by assumption) ?_ | (refine ba_set ?_ ?_ _; rotate_left; (first | omega | (simp; omega) | simp))))⟩
end Go.Proofs.YtplaghmehbkcnaaGreat
set_option linter.unusedVariables false
set_option linter.unusedSimpArgs false
namespace Go.Proofs.YtplaghmehbkcnaaGreat
open Go.RowKit
theorem jointOk_in {l : List Mn} {j : Jn} {i k : Nat} (hi : j.first = (i : Int)) (hk : j.second = (k : Int)) (h : S.jointIn l j = true) {a b : Mn} (ha : l[i]? = some a) (hb : l[k]? = some b) : S.jointOk l j = S.jointOn a b := by
  unfold S.jointOk
  rw [h, hi, hk]
  simp [ha, hb]
set_option maxRecDepth 20000 in
set_option maxHeartbeats 4000000 in
theorem rjoint_in (x : Dt) (B : Nat) (w : World) (hB : B ≤ w.heap.size) (hA : DtAt w B x) (h : S.laid (bars x.bs) x.rs = true) (i k : Nat) (a b : Mn) (ha : (S.mains (bars x.bs) x.rs)[i]? = some a) (hb : (S.mains (bars x.bs) x.rs)[k]? = some b) :
    Calls Tryz.prog 45 #[dtV x, .agg #[.int .i64 i, .int .i64 k]] w fun e w' => e = .returned (.bool (S.jointOn a b)) ∧ Below w.heap.size w w' := by
  have HA := Lib.hid hA
  have HC := Lib.hid (fun (W : World) (hw : B ≤ W.heap.size) (hh : DtAt W B x) => rcount25_any x B W hw hh h)
  have HM1 := Lib.hid (fun (W : World) (hw : B ≤ W.heap.size) (hh : DtAt W B x) => rmain_any x B W hw hh h i a ha)
  have HM2 := Lib.hid (fun (W : World) (hw : B ≤ W.heap.size) (hh : DtAt W B x) => rmain_any x B W hw hh h k b hb)
  have HE := Lib.hid (show S.jointOn a b = (a.has && b.has && decide (a.leg.lo.x < b.leg.lo.x) && decide (a.leg.hi.x < b.leg.hi.x) && decide (b.leg.lo.x ≤ a.leg.hi.x)) from rfl)
  have hil := (List.getElem?_eq_some_iff.1 ha).1
  have hkl := (List.getElem?_eq_some_iff.1 hb).1
  have hii : (i : Int) < ((S.mains (bars x.bs) x.rs).length : Int) := by omega
  have hki : (k : Int) < ((S.mains (bars x.bs) x.rs).length : Int) := by omega
  have hDB : Blk ((w.alloc (.cells #[.string x.m.name, .slice x.mA x.mn x.mc, .slice x.hA x.hn x.hc, .int .i64 x.m.cover, .int .i64 x.m.aggr, .int .i64 x.m.poker, .slice x.bA x.bn x.bc, .slice x.rA x.rn x.rc, .slice x.jA x.jn x.jc, .slice x.dA x.dn x.dc, .int .i64 x.rule.num, .int .i64 x.rule.den, .int .i64 x.rule.pnum, .int .i64 x.rule.pden, .int .i64 x.rule.bnum, .int .i64 x.rule.bden, .int .i64 x.rule.lnum, .int .i64 x.rule.lden, .int .i64 x.rule.least] 34)).alloc (.cells #[.int .i64 i, .int .i64 k] 88)) w.heap.size 34 #[.string x.m.name, .slice x.mA x.mn x.mc, .slice x.hA x.hn x.hc, .int .i64 x.m.cover, .int .i64 x.m.aggr, .int .i64 x.m.poker, .slice x.bA x.bn x.bc, .slice x.rA x.rn x.rc, .slice x.jA x.jn x.jc, .slice x.dA x.dn x.dc, .int .i64 x.rule.num, .int .i64 x.rule.den, .int .i64 x.rule.pnum, .int .i64 x.rule.pden, .int .i64 x.rule.bnum, .int .i64 x.rule.bden, .int .i64 x.rule.lnum, .int .i64 x.rule.lden, .int .i64 x.rule.least] := (Blk.new w 34 #[.string x.m.name, .slice x.mA x.mn x.mc, .slice x.hA x.hn x.hc, .int .i64 x.m.cover, .int .i64 x.m.aggr, .int .i64 x.m.poker, .slice x.bA x.bn x.bc, .slice x.rA x.rn x.rc, .slice x.jA x.jn x.jc, .slice x.dA x.dn x.dc, .int .i64 x.rule.num, .int .i64 x.rule.den, .int .i64 x.rule.pnum, .int .i64 x.rule.pden, .int .i64 x.rule.bnum, .int .i64 x.rule.bden, .int .i64 x.rule.lnum, .int .i64 x.rule.lden, .int .i64 x.rule.least]).alloc _
  clear hA ha hb hil hkl h
  generalize (S.mains (bars x.bs) x.rs).length = n at *
  have hRG := hDB.range
  have HDB := Lib.hid hDB
  clear hDB
  unfold dtV at HC HM1 HM2
  unfold dtV
  go_enter Tryz.func45, Tryz.ntmps45
  go_upto_region 2 with (first
    | (refine wpList_load_mid rfl 34 (.tmp 2) rfl _ _ rfl _ _ hRG Tryz.underlying34 rfl (by kernel_rfl) ?_)
    | (go_at_call 56; (with_reducible refine (HC.out _ (size_via hB (by repeat (first | exact Below.refl _ _ | assumption | refine ba_alloc ?_ _ | refine ba_drew ?_ | refine ba_drewN ?_ _ | refine ba_via (by assumption) ?_ | (refine ba_set ?_ ?_ _; rotate_left; (first | omega | (simp; omega) | simp))))) (HA.out.at_ hB (by repeat (first | exact Below.refl _ _ | assumption | refine ba_alloc ?_ _ | refine ba_drew ?_ | refine ba_drewN ?_ _ | refine ba_via (by assumption) ?_ | (refine ba_set ?_ ?_ _; rotate_left; (first | omega | (simp; omega) | simp)))))).mono ?_); rintro e w1 ⟨rfl, hbw1⟩; obtain ⟨hcw1, hfw1⟩ := bcell hbw1; have hzw1_0 : w.heap.size < w1.heap.size := lt_via hbw1 (by first | omega | (simp; done) | (simp; omega)); have hzw1_1 : w.heap.size + 1 < w1.heap.size := lt_via hbw1 (by first | omega | (simp; done) | (simp; omega))))
  have hRG1 := (HDB.out.via hbw1).range
  have hi0 : ¬ (i : Int) < 0 := by omega
  have hk0 : ¬ (k : Int) < 0 := by omega
  have hi1 : ¬ (n : Int) ≤ (i : Int) := by omega
  have hk1 : ¬ (n : Int) ≤ (k : Int) := by omega
  have hJ0 : w1.cell? ⟨w.heap.size + 1, 0, none⟩ = some (.int .i64 i) := by
    have := (Blk.via (by simpa using Blk.new (w.alloc (.cells #[.string x.m.name, .slice x.mA x.mn x.mc, .slice x.hA x.hn x.hc, .int .i64 x.m.cover, .int .i64 x.m.aggr, .int .i64 x.m.poker, .slice x.bA x.bn x.bc, .slice x.rA x.rn x.rc, .slice x.jA x.jn x.jc, .slice x.dA x.dn x.dc, .int .i64 x.rule.num, .int .i64 x.rule.den, .int .i64 x.rule.pnum, .int .i64 x.rule.pden, .int .i64 x.rule.bnum, .int .i64 x.rule.bden, .int .i64 x.rule.lnum, .int .i64 x.rule.lden, .int .i64 x.rule.least] 34)) 88 #[.int .i64 i, .int .i64 k]) hbw1).cell 0
    simpa using this
  have hJ1 : w1.cell? ⟨w.heap.size + 1, 1, none⟩ = some (.int .i64 k) := by
    have := (Blk.via (by simpa using Blk.new (w.alloc (.cells #[.string x.m.name, .slice x.mA x.mn x.mc, .slice x.hA x.hn x.hc, .int .i64 x.m.cover, .int .i64 x.m.aggr, .int .i64 x.m.poker, .slice x.bA x.bn x.bc, .slice x.rA x.rn x.rc, .slice x.jA x.jn x.jc, .slice x.dA x.dn x.dc, .int .i64 x.rule.num, .int .i64 x.rule.den, .int .i64 x.rule.pnum, .int .i64 x.rule.pden, .int .i64 x.rule.bnum, .int .i64 x.rule.bden, .int .i64 x.rule.lnum, .int .i64 x.rule.lden, .int .i64 x.rule.least] 34)) 88 #[.int .i64 i, .int .i64 k]) hbw1).cell 1
    simpa using this
  have hbv1 : Below w.heap.size w w1 := (by repeat (first | exact Below.refl _ _ | assumption | refine ba_alloc ?_ _ | refine ba_drew ?_ | refine ba_drewN ?_ _ | refine ba_via (by assumption) ?_ | (refine ba_set ?_ ?_ _; rotate_left; (first | omega | (simp; omega) | simp))))
  have HDB1 := Lib.hid (HDB.out.via hbw1)
  clear hcw1 hfw1
  clear hRG HDB hbw1 HC
  go_upto_region 5 with (first
    | (refine wpList_load_mid rfl 34 (.tmp 2) rfl _ _ rfl _ _ hRG1 Tryz.underlying34 rfl (by kernel_rfl) ?_)
    | (go_at_call 46; (with_reducible refine (HM1.out _ (size_via hB (by repeat (first | exact Below.refl _ _ | assumption | refine ba_alloc ?_ _ | refine ba_drew ?_ | refine ba_drewN ?_ _ | refine ba_via (by assumption) ?_ | (refine ba_set ?_ ?_ _; rotate_left; (first | omega | (simp; omega) | simp))))) (HA.out.at_ hB (by repeat (first | exact Below.refl _ _ | assumption | refine ba_alloc ?_ _ | refine ba_drew ?_ | refine ba_drewN ?_ _ | refine ba_via (by assumption) ?_ | (refine ba_set ?_ ?_ _; rotate_left; (first | omega | (simp; omega) | simp)))))).mono ?_); rintro e w2 ⟨rfl, hbw2⟩; obtain ⟨hcw2, hfw2⟩ := bcell hbw2))
  have hbv2 : Below w.heap.size w w2 := (by repeat (first | exact Below.refl _ _ | assumption | refine ba_alloc ?_ _ | refine ba_drew ?_ | refine ba_drewN ?_ _ | refine ba_via (by assumption) ?_ | (refine ba_set ?_ ?_ _; rotate_left; (first | omega | (simp; omega) | simp))))
  have hRG2 : (w2.alloc (.cells #[.int .i64 a.leg.lo.x, .int .i64 a.leg.lo.y, .int .i64 a.leg.lo.z, .int .i64 a.leg.hi.x, .int .i64 a.leg.hi.y, .int .i64 a.leg.hi.z] 98)).rangeAt w.heap.size 0 [.string x.m.name, .slice x.mA x.mn x.mc, .slice x.hA x.hn x.hc, .int .i64 x.m.cover, .int .i64 x.m.aggr, .int .i64 x.m.poker, .slice x.bA x.bn x.bc, .slice x.rA x.rn x.rc, .slice x.jA x.jn x.jc, .slice x.dA x.dn x.dc, .int .i64 x.rule.num, .int .i64 x.rule.den, .int .i64 x.rule.pnum, .int .i64 x.rule.pden, .int .i64 x.rule.bnum, .int .i64 x.rule.bden, .int .i64 x.rule.lnum, .int .i64 x.rule.lden, .int .i64 x.rule.least] := ((HDB1.out.via hbw2).alloc _).range
  have hz2 : w.heap.size + 1 < w2.heap.size := lt_via hbw2 hzw1_1
  have hb1 := (Blk.new w2 98 #[.int .i64 a.leg.lo.x, .int .i64 a.leg.lo.y, .int .i64 a.leg.lo.z, .int .i64 a.leg.hi.x, .int .i64 a.leg.hi.y, .int .i64 a.leg.hi.z])
  clear HM1 HDB1 hRG1
  cases hb : b.has
  all_goals (
    rw [hb] at HM2 HE
    clear hb
    go_upto_region 6 with (first
      | (refine wpList_load_mid rfl 34 (.tmp 2) rfl _ _ rfl _ _ hRG2 Tryz.underlying34 rfl (by kernel_rfl) ?_)
      | (go_at_call 46; (with_reducible refine (HM2.out _ (size_via hB (by repeat (first | exact Below.refl _ _ | assumption | refine ba_alloc ?_ _ | refine ba_drew ?_ | refine ba_drewN ?_ _ | refine ba_via (by assumption) ?_ | (refine ba_set ?_ ?_ _; rotate_left; (first | omega | (simp; omega) | simp))))) (HA.out.at_ hB (by repeat (first | exact Below.refl _ _ | assumption | refine ba_alloc ?_ _ | refine ba_drew ?_ | refine ba_drewN ?_ _ | refine ba_via (by assumption) ?_ | (refine ba_set ?_ ?_ _; rotate_left; (first | omega | (simp; omega) | simp)))))).mono ?_); rintro e w3 ⟨rfl, hbw3⟩; obtain ⟨hcw3, hfw3⟩ := bcell hbw3))
    have hbv3 : Below w.heap.size w w3 := ba_via hbw3 (ba_alloc hbv2 _)
    have hx := hb1.via hbw3
    have hx0 := hx.cell 0
    have hx3 := hx.cell 3
    have hlx := hx.lt
    simp only [List.getElem?_toArray, List.getElem?_cons_zero, List.getElem?_cons_succ] at hx0 hx3
    clear hcw3 hfw3 hcw2 hfw2
    clear hx
    cases ha : a.has
    all_goals (
      rw [ha] at HE
      go_wp2
      all_goals (go_ret; exact ⟨ret_b (by rw [HE.out, Bool.eq_iff_iff]; all_goals (first | (simp; done) | (simp; omega))), ba_alloc hbv3 _⟩)))
set_option maxRecDepth 20000 in
set_option maxHeartbeats 4000000 in
theorem rjoint_out (x : Dt) (jn : Jn) (B : Nat) (w : World) (hB : B ≤ w.heap.size) (hA : DtAt w B x) (hl : S.laid (bars x.bs) x.rs = true) (h : S.jointIn (S.mains (bars x.bs) x.rs) jn = false) :
    Calls Tryz.prog 45 #[dtV x, jnV jn] w fun e w' => e = .returned (.bool (S.jointOk (S.mains (bars x.bs) x.rs) jn)) ∧ Below w.heap.size w w' := by
  have H := Lib.hid (show S.jointOk (S.mains (bars x.bs) x.rs) jn = false by unfold S.jointOk; rw [h]; rfl)
  have HA := Lib.hid hA
  have HC := Lib.hid (fun (W : World) (hw : B ≤ W.heap.size) (hh : DtAt W B x) => rcount25_any x B W hw hh hl)
  rw [H.out]
  have hcs : jn.first < 0 ∨ (¬ jn.first < 0 ∧ ((S.mains (bars x.bs) x.rs).length : Int) ≤ jn.first) ∨ (¬ jn.first < 0 ∧ ¬ ((S.mains (bars x.bs) x.rs).length : Int) ≤ jn.first ∧ jn.second < 0) ∨ (¬ jn.first < 0 ∧ ¬ ((S.mains (bars x.bs) x.rs).length : Int) ≤ jn.first ∧ ¬ jn.second < 0 ∧ ((S.mains (bars x.bs) x.rs).length : Int) ≤ jn.second) := by
    simp only [S.jointIn, Bool.and_eq_false_iff, decide_eq_false_iff_not] at h
    omega
  have hDB : Blk ((w.alloc (.cells #[.string x.m.name, .slice x.mA x.mn x.mc, .slice x.hA x.hn x.hc, .int .i64 x.m.cover, .int .i64 x.m.aggr, .int .i64 x.m.poker, .slice x.bA x.bn x.bc, .slice x.rA x.rn x.rc, .slice x.jA x.jn x.jc, .slice x.dA x.dn x.dc, .int .i64 x.rule.num, .int .i64 x.rule.den, .int .i64 x.rule.pnum, .int .i64 x.rule.pden, .int .i64 x.rule.bnum, .int .i64 x.rule.bden, .int .i64 x.rule.lnum, .int .i64 x.rule.lden, .int .i64 x.rule.least] 34)).alloc (.cells #[.int .i64 jn.first, .int .i64 jn.second] 88)) w.heap.size 34 #[.string x.m.name, .slice x.mA x.mn x.mc, .slice x.hA x.hn x.hc, .int .i64 x.m.cover, .int .i64 x.m.aggr, .int .i64 x.m.poker, .slice x.bA x.bn x.bc, .slice x.rA x.rn x.rc, .slice x.jA x.jn x.jc, .slice x.dA x.dn x.dc, .int .i64 x.rule.num, .int .i64 x.rule.den, .int .i64 x.rule.pnum, .int .i64 x.rule.pden, .int .i64 x.rule.bnum, .int .i64 x.rule.bden, .int .i64 x.rule.lnum, .int .i64 x.rule.lden, .int .i64 x.rule.least] := (Blk.new w 34 #[.string x.m.name, .slice x.mA x.mn x.mc, .slice x.hA x.hn x.hc, .int .i64 x.m.cover, .int .i64 x.m.aggr, .int .i64 x.m.poker, .slice x.bA x.bn x.bc, .slice x.rA x.rn x.rc, .slice x.jA x.jn x.jc, .slice x.dA x.dn x.dc, .int .i64 x.rule.num, .int .i64 x.rule.den, .int .i64 x.rule.pnum, .int .i64 x.rule.pden, .int .i64 x.rule.bnum, .int .i64 x.rule.bden, .int .i64 x.rule.lnum, .int .i64 x.rule.lden, .int .i64 x.rule.least]).alloc _
  have hRG := hDB.range
  clear hA h H hDB hl
  generalize (S.mains (bars x.bs) x.rs).length = n at *
  unfold dtV at HC
  unfold dtV jnV
  rcases hcs with h | ⟨h, h'⟩ | ⟨h, h', h2⟩ | ⟨h, h', h2, h3⟩
  all_goals (
    go_enter Tryz.func45, Tryz.ntmps45
    go_wp2_with (first
      | (refine wpList_load_mid rfl 34 (.tmp 2) rfl _ _ rfl _ _ hRG Tryz.underlying34 rfl (by kernel_rfl) ?_)
      | (go_at_call 56; (with_reducible refine (HC.out _ (size_via hB (by repeat (first | exact Below.refl _ _ | assumption | refine ba_alloc ?_ _ | refine ba_drew ?_ | refine ba_drewN ?_ _ | refine ba_via (by assumption) ?_ | (refine ba_set ?_ ?_ _; rotate_left; (first | omega | (simp; omega) | simp))))) (HA.out.at_ hB (by repeat (first | exact Below.refl _ _ | assumption | refine ba_alloc ?_ _ | refine ba_drew ?_ | refine ba_drewN ?_ _ | refine ba_via (by assumption) ?_ | (refine ba_set ?_ ?_ _; rotate_left; (first | omega | (simp; omega) | simp)))))).mono ?_); rintro e w1 ⟨rfl, hbw1⟩; obtain ⟨hcw1, hfw1⟩ := bcell hbw1; have hzw1_0 : w.heap.size < w1.heap.size := lt_via hbw1 (by first | omega | (simp; done) | (simp; omega)); have hzw1_1 : w.heap.size + 1 < w1.heap.size := lt_via hbw1 (by first | omega | (simp; done) | (simp; omega))))
    go_ret
    exact ⟨rfl, (by repeat (first | exact Below.refl _ _ | assumption | refine ba_alloc ?_ _ | refine ba_drew ?_ | refine ba_drewN ?_ _ | refine ba_via (by assumption) ?_ | (refine ba_set ?_ ?_ _; rotate_left; (first | omega | (simp; omega) | simp))))⟩)
theorem rjoint_any (x : Dt) (jn : Jn) (B : Nat) (w : World) (hB : B ≤ w.heap.size) (hA : DtAt w B x) (hl : S.laid (bars x.bs) x.rs = true) :
    Calls Tryz.prog 45 #[dtV x, jnV jn] w fun e w' => e = .returned (.bool (S.jointOk (S.mains (bars x.bs) x.rs) jn)) ∧ Below w.heap.size w w' := by
  by_cases h : S.jointIn (S.mains (bars x.bs) x.rs) jn = true
  · have h' := h
    simp only [S.jointIn, Bool.and_eq_true, decide_eq_true_eq] at h'
    obtain ⟨i, hi⟩ : ∃ i : Nat, jn.first = (i : Int) := ⟨jn.first.toNat, by omega⟩
    obtain ⟨k, hk⟩ : ∃ i : Nat, jn.second = (i : Int) := ⟨jn.second.toNat, by omega⟩
    have hix : i < (S.mains (bars x.bs) x.rs).length := by omega
    have hkx : k < (S.mains (bars x.bs) x.rs).length := by omega
    rw [jointOk_in hi hk h (List.getElem?_eq_getElem hix) (List.getElem?_eq_getElem hkx)]
    unfold jnV
    rw [hi, hk]
    exact rjoint_in x B w hB hA hl i k _ _ (List.getElem?_eq_getElem hix) (List.getElem?_eq_getElem hkx)
  · exact rjoint_out x jn B w hB hA hl (by simpa using h)
end Go.Proofs.YtplaghmehbkcnaaGreat
set_option linter.unusedVariables false
set_option linter.unusedSimpArgs false
namespace Go.Proofs.YtplaghmehbkcnaaGreat
open Go.RowKit
theorem rup_any (n p q : Int) (w : World) (h2 : 1 ≤ q) (h3 : q ≤ 1000000) (hlo : 0 ≤ n * p) (hp : n * p ≤ 4611686018427387904) :
    Calls Tryz.prog 40 #[.int .i64 n, .int .i64 p, .int .i64 q] w fun e w' => e = .returned (.int .i64 (S.up n p q)) ∧ w = w' := by
  have hq : (q == 0) = false := by simp; omega
  go_enter Tryz.func40, Tryz.ntmps40
  go_wp2
  go_ret
  exact ⟨rfl, rfl⟩
theorem rbasic_any (r : Rule) (d : Int) (w : World) (hr : RuleOk r) (h0 : 0 ≤ d) (h1 : d ≤ 40) :
    Calls Tryz.prog 70 #[ruleV r, .int .i64 d] w fun e w' => e = .returned (.int .i64 (S.basic r d)) ∧ Below w.heap.size w w' := by
  have H := Lib.hid (basic_eq r d)
  have hp := mul_bd h0 h1 (by have := hr.num; omega) hr.num.2
  have hd := hr.den
  unfold ruleV
  go_enter Tryz.func70, Tryz.ntmps70
  go_wp2_with (go_at_call 40; refine (rup_any _ _ _ _ ?_ ?_ ?_ ?_).mono ?_; (· omega); (· omega); (· omega); (· omega); rintro e w1 ⟨rfl, rfl⟩)
  all_goals (go_ret; exact ⟨ret_i (by rw [H.out]; omega), by go_grown⟩)
theorem rlength_any (r : Rule) (d : Int) (poor bent : Bool) (w : World) (hr : RuleOk r) (h0 : 0 ≤ d) (h1 : d ≤ 40) :
    Calls Tryz.prog 41 #[ruleV r, .int .i64 d, .bool poor, .bool bent] w fun e w' => e = .returned (.int .i64 (S.length r d poor bent)) ∧ Below w.heap.size w w' := by
  have b1 := basic_bd hr h0 h1
  have hd := hr.pden
  have hd2 := hr.bden
  have m1 := mul_bd b1.1 b1.2 (by have := hr.pnum; omega) hr.pnum.2
  have b2 : 0 ≤ S.up (S.basic r d) r.pnum r.pden ∧ S.up (S.basic r d) r.pnum r.pden ≤ 40000000 := poorUp_bd hr true b1.1 b1.2
  have m2 := mul_bd b2.1 b2.2 (by have := hr.bnum; omega) hr.bnum.2
  have m3 := mul_bd b1.1 b1.2 (by have := hr.bnum; omega) hr.bnum.2
  cases poor <;> cases bent
  all_goals
    have H := Lib.hid (fun n => max_eq r n)
    unfold ruleV
    go_enter Tryz.func41, Tryz.ntmps41
    go_wp2_with (first
      | (go_at_call 70; refine (rbasic_any r d _ hr h0 h1).mono ?_; rintro e w1 ⟨rfl, hb1⟩; obtain ⟨hc, hf⟩ := bcell hb1)
      | (go_at_call 40; refine (rup_any _ _ _ _ ?_ ?_ ?_ ?_).mono ?_; (· omega); (· omega); (· omega); (· omega); rintro e w2 ⟨rfl, rfl⟩))
    all_goals (go_ret; exact ⟨ret_i (by simp only [S.length, S.poorUp, S.bentUp, ← H.out, if_true, if_false, Bool.false_eq_true]; omega), via hb1 (by go_grown) (Nat.le_refl _)⟩)
end Go.Proofs.YtplaghmehbkcnaaGreat
set_option linter.unusedVariables false
set_option linter.unusedSimpArgs false
namespace Go.Proofs.YtplaghmehbkcnaaGreat
open Go.RowKit
def S.eqi (xs ys : List Int) : Bool := decide (xs = ys)
theorem eqi_no_len {xs ys : List Int} (h : xs.length ≠ ys.length) : S.eqi xs ys = false := by
  simp only [S.eqi, decide_eq_false_iff_not]
  exact fun e => h (by rw [e])
theorem eqi_no_at {xs ys : List Int} {k : Nat} (hx : k < xs.length) (hy : k < ys.length) (h : xs[k] ≠ ys[k]) : S.eqi xs ys = false := by
  simp only [S.eqi, decide_eq_false_iff_not]
  rintro rfl
  exact h rfl
theorem eqi_yes {xs ys : List Int} (hl : xs.length = ys.length) (h : ∀ j (hx : j < xs.length) (hy : j < ys.length), xs[j] = ys[j]) : S.eqi xs ys = true := by
  simp only [S.eqi, decide_eq_true_eq]
  exact List.ext_getElem hl fun j h1 h2 => h j h1 h2
set_option maxHeartbeats 1000000 in
theorem equal_any (A A' : Option Addr) (n m c c' : Nat) (xs ys : List Int) (B : Nat) (w : World) (hB : B ≤ w.heap.size) (hn : xs.length = n) (hm : ys.length = m) (hn' : n ≤ 9223372036854775807) (hm' : m ≤ 9223372036854775807) (hx : Cells w B A (i64s xs)) (hy : Cells w B A' (i64s ys)) :
    Calls Tryz.prog 24 #[.slice A n c, .slice A' m c'] w fun e w' => e = .returned (.bool (S.eqi xs ys)) ∧ Below w.heap.size w w' := by
  have HN := Lib.hid hn
  have HM := Lib.hid hm
  clear hn hm
  by_cases hl : n = m
  · have hl' : ((n : Int) != (m : Int)) = false := by simp [hl]
    have HL := Lib.hid hl
    clear hl
    go_enter Tryz.func24, Tryz.ntmps24
    go_wp2
    go_loopw [13] (fun i wr => ∃ k : Nat, k ≤ n ∧ i = .int .i64 k ∧ Hid (∀ j (hx : j < xs.length) (hy : j < ys.length), j < k → xs[j] = ys[j]) ∧ Below w.heap.size w wr) (fun i _ => n - (intOf i).toNat)
    case atStart => exact ⟨0, Nat.zero_le _, rfl, Lib.hid fun j _ _ h => absurd h (by omega), Below.refl _ _⟩
    case round =>
      obtain ⟨k, hk, rfl, HNO, hbr⟩ := hrel
      by_cases hlt : k < n
      · have hkx : k < xs.length := by have := HN.out; omega
        have hky : k < ys.length := by have := HM.out; have := HL.out; omega
        have hkm : k < m := by have := HL.out; omega
        obtain ⟨b1, o1, rfl, _, hc1⟩ := (hx.below (hbr.mono hB)).at_ (by simp; omega)
        obtain ⟨b2, o2, rfl, _, hc2⟩ := (hy.below (hbr.mono hB)).at_ (by simp; omega)
        have e1 := hc1 k _ (i64s_get hkx)
        have e2 := hc2 k _ (i64s_get hky)
        clear hc1 hc2
        have hkn' : (k : Int) < (n : Int) := by omega
        have hkm' : (k : Int) < (m : Int) := by omega
        by_cases hq : xs[k] = ys[k]
        · have hq' : (xs[k] != ys[k]) = false := by simp [hq]
          have HQ := Lib.hid hq
          clear hq
          go_wp2
          go_quiet (fail)
          go_wp2
          go_roundw
          case rel =>
            refine ⟨k + 1, by omega, by go_num, Lib.hid fun j h1 h2 h3 => ?_, (by repeat (first | exact Below.refl _ _ | assumption | refine ba_alloc ?_ _ | refine ba_drew ?_ | refine ba_drewN ?_ _ | refine ba_via (by assumption) ?_ | (refine ba_set ?_ ?_ _; rotate_left; (first | omega | (simp; omega) | simp))))⟩
            by_cases hjk : j = k
            · subst hjk; exact HQ.out
            · exact HNO.out j h1 h2 (by omega)
          case measure => simp [intOf]; omega
        · have hq' : (xs[k] != ys[k]) = true := by simp [hq]
          have HQ := Lib.hid (eqi_no_at hkx hky hq)
          clear hq
          go_wp2
          go_quiet (fail)
          go_wp2
          go_ret
          exact ⟨ret_b HQ.out.symm, (by repeat (first | exact Below.refl _ _ | assumption | refine ba_alloc ?_ _ | refine ba_drew ?_ | refine ba_drewN ?_ _ | refine ba_via (by assumption) ?_ | (refine ba_set ?_ ?_ _; rotate_left; (first | omega | (simp; omega) | simp))))⟩
      · go_wp2
        go_ret
        exact ⟨ret_b (eqi_yes (by have := HN.out; have := HM.out; have := HL.out; omega) (fun j h1 h2 => HNO.out j h1 h2 (by have := HN.out; omega))).symm, (by repeat (first | exact Below.refl _ _ | assumption | refine ba_alloc ?_ _ | refine ba_drew ?_ | refine ba_drewN ?_ _ | refine ba_via (by assumption) ?_ | (refine ba_set ?_ ?_ _; rotate_left; (first | omega | (simp; omega) | simp))))⟩
  · have hl' : ((n : Int) != (m : Int)) = true := by simp; omega
    have HL := Lib.hid (eqi_no_len (xs := xs) (ys := ys) (by have := HN.out; have := HM.out; omega))
    clear hl
    go_enter Tryz.func24, Tryz.ntmps24
    go_wp2
    go_ret
    exact ⟨ret_b HL.out.symm, (by repeat (first | exact Below.refl _ _ | assumption | refine ba_alloc ?_ _ | refine ba_drew ?_ | refine ba_drewN ?_ _ | refine ba_via (by assumption) ?_ | (refine ba_set ?_ ?_ _; rotate_left; (first | omega | (simp; omega) | simp))))⟩
/-- The lap length of a size, or 0. -/
def lLength (r : Rule) (d : Int) (p : Bool) : Int := if S.sized r d = 0 then S.up (S.length r d p false) r.lnum r.lden else 0
theorem length_bd {r : Rule} {d : Int} (hr : RuleOk r) (hd : 0 ≤ d) (hd' : d ≤ 40) (p b : Bool) : 0 ≤ S.length r d p b ∧ S.length r d p b ≤ 40000000000 := by
  have h1 := basic_bd hr hd hd'
  have h2 := poorUp_bd hr p h1.1 h1.2
  have h3 := bentUp_bd hr b h2.1 h2.2
  have h4 := hr.least
  unfold S.length S.atLeast
  split <;> omega
theorem lLength_any (r : Rule) (d : Int) (poor : Bool) (w : World) : Calls Tryz.prog 8 #[ruleV r, .int .i64 d, .bool poor] w fun e w' => e = .returned (.tuple #[.int .i64 (lLength r d poor), .int .i64 (S.sized r d)]) ∧ Below w.heap.size w w' := by
  have HL := Lib.hid (fun w => Length_any r d poor false w)
  by_cases h0 : S.sized r d = 0
  · obtain ⟨hr, hd⟩ := sized_zero h0
    have hR := rule_ok hr
    have hbd := size_bd hd
    have hb := length_bd hR (show 0 ≤ d by omega) (show d ≤ 40 by omega) poor false
    have hl := hR.lnum
    have hl2 := hR.lden
    have hm := mul_bd hb.1 hb.2 (show 0 ≤ r.lnum by omega) hl.2
    have H := Lib.hid (show lLength r d poor = (S.length r d poor false * r.lnum + r.lden - 1) / r.lden by simp [lLength, h0, S.up])
    have ha : aLength r d poor false = S.length r d poor false := by simp [aLength, h0]
    rw [ha, h0] at HL
    rw [h0]
    have HU := Lib.hid (fun w => lup_any (S.length r d poor false * r.lnum) r.lden hm.1 (by omega) hl2.1 (by omega) w)
    have e1 : IntKind.i64.wrap (S.length r d poor false * r.lnum) = S.length r d poor false * r.lnum := IntWalk.i64_in _ (by omega)
    clear hr hd hR hbd ha h0
    generalize S.length r d poor false = n at *
    unfold ruleV
    unfold ruleV at HL
    go_enter Tryz.func8, Tryz.ntmps8
    go_wp2_with (first
      | (go_at_call 34; (with_reducible refine (HL.out _).mono ?_); rintro e w1 ⟨rfl, hbw1⟩; obtain ⟨hcw1, hfw1⟩ := bcell hbw1; have hzw1_0 : w.heap.size < w1.heap.size := lt_via hbw1 (by first | omega | (simp; done) | (simp; omega)))
      | (go_at_call 35; (with_reducible refine (HU.out _).mono ?_); rintro e w' ⟨rfl, rfl⟩))
    go_ret2
    exact ⟨by rw [H.out]; rfl, (by repeat (first | exact Below.refl _ _ | assumption | refine ba_alloc ?_ _ | refine ba_drew ?_ | refine ba_drewN ?_ _ | refine ba_via (by assumption) ?_ | (refine ba_set ?_ ?_ _; rotate_left; (first | omega | (simp; omega) | simp))))⟩
  · have hb : (S.sized r d == 0) = false := by simpa using h0
    have hb' : (S.sized r d != 0) = true := by simp [bne, hb]
    have H := Lib.hid (show lLength r d poor = 0 by simp [lLength, h0])
    have ha : aLength r d poor false = 0 := by simp [aLength, h0]
    rw [ha] at HL
    clear ha h0
    generalize S.sized r d = s at *
    unfold ruleV
    unfold ruleV at HL
    go_enter Tryz.func8, Tryz.ntmps8
    go_wp2_with (first
      | (go_at_call 34; (with_reducible refine (HL.out _).mono ?_); rintro e w1 ⟨rfl, hbw1⟩; obtain ⟨hcw1, hfw1⟩ := bcell hbw1; have hzw1_0 : w.heap.size < w1.heap.size := lt_via hbw1 (by first | omega | (simp; done) | (simp; omega))))
    go_ret2
    exact ⟨by rw [H.out]; rfl, (by repeat (first | exact Below.refl _ _ | assumption | refine ba_alloc ?_ _ | refine ba_drew ?_ | refine ba_drewN ?_ _ | refine ba_via (by assumption) ?_ | (refine ba_set ?_ ?_ _; rotate_left; (first | omega | (simp; omega) | simp))))⟩
end Go.Proofs.YtplaghmehbkcnaaGreat
