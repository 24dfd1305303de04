/- Contract: lap.Share of a valid detail. Contract: the reference's Over of a valid detail. Contract: the reference's Check of a valid detail. The walk through the law LapChecks. -/
import Derived.Test.YtffkmgjmlahfpaaGreatZK
import Derived.Test.YtffkmgjmlahfpaaGreatOver
import Derived.Test.YtffkmgjmlahfpaaGreatStag
import Derived.Test.YtffkmgjmlahfpaaGreatZB
import Derived.Test.YtffkmgjmlahfpaaGreatZA
set_option linter.unusedVariables false
set_option linter.unusedSimpArgs false
namespace Go.Proofs.YtffkmgjmlahfpaaGreat
open Go.RowKit
set_option maxRecDepth 20000 in
set_option maxHeartbeats 8000000 in
theorem share_cs (x : Dt) (L : List Mn) (C : List (List Int)) (at_ v0 v1 er : Int) (B : Nat) (w : World) (hB : B ≤ w.heap.size) (hA : DtAt w B x) (hj1000 : x.jn ≤ 1000) (hL2 : L.length ≤ 2000) (hP : PairsOk L x.js) (hI : ChsIn L.length C)
    (hL : ∀ W, Below w.heap.size w W → Calls Tryz.prog 65 #[dtV x] W (GivesLook true L.length (L.flatMap mnC) W))
    (hcs : ShareR (S.place at_) (S.lapsAt L at_ x.js) (S.chainsAt L at_ C) v0 v1 er)
    (hC : ∀ W, Below w.heap.size w W → Calls Tryz.prog 69 #[dtV x, .int .i64 L.length] W (GivesChs C W)) :
    Calls Tryz.prog 19 #[dtV x, .int .i64 at_] w fun e w' => e = .returned (.tuple #[.agg #[.int .i64 v0, .int .i64 v1], .int .i64 er]) ∧ Below w.heap.size w w' := by
  have hJ := hA.joints
  have hjl := hA.jlen
  have HL := Lib.hid hL
  have HC := Lib.hid hC
  have HP := Lib.hid hP
  have HI := Lib.hid hI
  have HPL := Lib.hid (fun w => lplace_any at_ w)
  have HCS := Lib.hid hcs
  clear hA hL hC hP hcs
  unfold dtV at HL HC
  unfold dtV
  have hDB := (Blk.new w 34 #[.string x.m.name, .slice x.mA x.mn x.mc, .slice x.hA x.hn x.hc, .int .i64 x.m.cover, .int .i64 x.m.aggr, .int .i64 x.m.poker, .slice x.bA x.bn x.bc, .slice x.rA x.rn x.rc, .slice x.jA x.jn x.jc, .slice x.dA x.dn x.dc, .int .i64 x.rule.num, .int .i64 x.rule.den, .int .i64 x.rule.pnum, .int .i64 x.rule.pden, .int .i64 x.rule.bnum, .int .i64 x.rule.bden, .int .i64 x.rule.lnum, .int .i64 x.rule.lden, .int .i64 x.rule.least]).alloc (.cells #[.int .i64 0, .int .i64 0] 52)
  have hRS := Blk.newN (W := w.alloc (.cells #[.string x.m.name, .slice x.mA x.mn x.mc, .slice x.hA x.hn x.hc, .int .i64 x.m.cover, .int .i64 x.m.aggr, .int .i64 x.m.poker, .slice x.bA x.bn x.bc, .slice x.rA x.rn x.rc, .slice x.jA x.jn x.jc, .slice x.dA x.dn x.dc, .int .i64 x.rule.num, .int .i64 x.rule.den, .int .i64 x.rule.pnum, .int .i64 x.rule.pden, .int .i64 x.rule.bnum, .int .i64 x.rule.bden, .int .i64 x.rule.lnum, .int .i64 x.rule.lden, .int .i64 x.rule.least] 34)) (n := w.heap.size + 1) (by simp) 52 #[.int .i64 0, .int .i64 0]
  have hW1 : Below w.heap.size w ((w.alloc (.cells #[.string x.m.name, .slice x.mA x.mn x.mc, .slice x.hA x.hn x.hc, .int .i64 x.m.cover, .int .i64 x.m.aggr, .int .i64 x.m.poker, .slice x.bA x.bn x.bc, .slice x.rA x.rn x.rc, .slice x.jA x.jn x.jc, .slice x.dA x.dn x.dc, .int .i64 x.rule.num, .int .i64 x.rule.den, .int .i64 x.rule.pnum, .int .i64 x.rule.pden, .int .i64 x.rule.bnum, .int .i64 x.rule.bden, .int .i64 x.rule.lnum, .int .i64 x.rule.lden, .int .i64 x.rule.least] 34)).alloc (.cells #[.int .i64 0, .int .i64 0] 52)) := ba_alloc (ba_alloc (Below.refl _ _) _) _
  go_enter Tryz.func19, Tryz.ntmps19
  go_upto_region 1 with fail
  generalize ((w.alloc (.cells #[.string x.m.name, .slice x.mA x.mn x.mc, .slice x.hA x.hn x.hc, .int .i64 x.m.cover, .int .i64 x.m.aggr, .int .i64 x.m.poker, .slice x.bA x.bn x.bc, .slice x.rA x.rn x.rc, .slice x.jA x.jn x.jc, .slice x.dA x.dn x.dc, .int .i64 x.rule.num, .int .i64 x.rule.den, .int .i64 x.rule.pnum, .int .i64 x.rule.pden, .int .i64 x.rule.bnum, .int .i64 x.rule.bden, .int .i64 x.rule.lnum, .int .i64 x.rule.lden, .int .i64 x.rule.least] 34)).alloc (.cells #[.int .i64 0, .int .i64 0] 52)) = W1 at *
  have HDB := Lib.hid hDB
  have HRS := Lib.hid hRS
  have HL1 := Lib.hid (fun (W : World) (hw : Below W1.heap.size W1 W) => HL.out W (ba_via hw hW1))
  have HC1 := Lib.hid (fun (W : World) (hw : Below W1.heap.size W1 W) => HC.out W (ba_via hw hW1))
  clear hDB hRS HL HC
  generalize x.jA = jA at *
  cases hpl : S.place at_
  · rw [hpl] at HPL
    obtain ⟨rfl, rfl, rfl⟩ := HCS.out.no hpl
    clear HCS
    go_wp2_with (first
      | (refine wpList_load_mid rfl 34 (.tmp 2) rfl _ _ rfl _ _ (HDB.out.via (by repeat (with_reducible first | exact Below.refl _ _ | assumption | refine ba_alloc ?_ _ | refine ba_drew ?_ | refine ba_drewN ?_ _ | refine ba_via (by assumption) ?_ | (refine ba_set ?_ ?_ _; rotate_left; (first | omega | (simp; omega) | simp))))).range Tryz.underlying34 rfl (by kernel_rfl) ?_)
      | (go_at_call 65; (with_reducible refine (HL1.out _ (by repeat (with_reducible first | exact Below.refl _ _ | assumption | refine ba_alloc ?_ _ | refine ba_drew ?_ | refine ba_drewN ?_ _ | refine ba_via (by assumption) ?_ | (refine ba_set ?_ ?_ _; rotate_left; (first | omega | (simp; omega) | simp))))).mono ?_); rintro e w1 ⟨A1, c1', rfl, how1, hbw1⟩; have hRS1 := HRS.out.via hbw1; have z0 := hRS1.cell 0; have z1 := hRS1.cell 1; have f0 := hRS1.frozen 0; have f1 := hRS1.frozen 1; have ltR := hRS1.lt; simp only [List.getElem?_toArray, List.getElem?_cons_zero, List.getElem?_cons_succ] at z0 z1)
      | (go_at_call 70; (with_reducible refine (HPL.out _).mono ?_); rintro e w' ⟨rfl, rfl⟩))
    exact bodyPost_ret (v := .tuple #[.agg #[.int .i64 0, .int .i64 0], .int .i64 2]) (by simp [results, Tryz.results19, go_sem, *]) rfl ⟨rfl, ((ba_via hbw1 hW1).setCell (Nat.le_succ _) _).setCell (Nat.le_succ _) _⟩
  · rw [hpl] at HPL
    go_wp2_with (first
      | (refine wpList_load_mid rfl 34 (.tmp 2) rfl _ _ rfl _ _ (HDB.out.via (by repeat (with_reducible first | exact Below.refl _ _ | assumption | refine ba_alloc ?_ _ | refine ba_drew ?_ | refine ba_drewN ?_ _ | refine ba_via (by assumption) ?_ | (refine ba_set ?_ ?_ _; rotate_left; (first | omega | (simp; omega) | simp))))).range Tryz.underlying34 rfl (by kernel_rfl) ?_)
      | (go_at_call 65; (with_reducible refine (HL1.out _ (by repeat (with_reducible first | exact Below.refl _ _ | assumption | refine ba_alloc ?_ _ | refine ba_drew ?_ | refine ba_drewN ?_ _ | refine ba_via (by assumption) ?_ | (refine ba_set ?_ ?_ _; rotate_left; (first | omega | (simp; omega) | simp))))).mono ?_); rintro e w1 ⟨A1, c1', rfl, how1, hbw1⟩; have hDB1 := HDB.out.via hbw1; have d8 := hDB1.cell 8; have hDl := hDB1.lt; simp only [List.getElem?_toArray, List.getElem?_cons_zero, List.getElem?_cons_succ] at d8)
      | (go_at_call 70; (with_reducible refine (HPL.out _).mono ?_); rintro e w' ⟨rfl, rfl⟩))
    have hML := (own_cells how1 (by unfold maxLen; omega)).1
    have HDB1 := Lib.hid hDB1
    have HRS1 := Lib.hid (HRS.out.via hbw1)
    have hbw : Below w.heap.size w w1 := ba_via hbw1 hW1
    have HC2 := Lib.hid (fun (W : World) (hw : Below w1.heap.size w1 W) => HC1.out W (ba_via hw hbw1))
    have HLE := Lib.hid (fun (k : Nat) => show S.lapsAt L at_ (x.js.take k) ≤ 1000 from by
      have h1 := lapsAt_le L at_ (x.js.take k)
      have h2 := List.length_take_le' k x.js
      omega)
    have HTK := Lib.hid (show x.js.take x.jn = x.js from List.take_of_length_le (by omega))
    clear how1 hDB1 HC1 HL1 HDB HRS HPL hbw1
    go_loopw [8, 34] (fun v s wr => ∃ k : Nat, k ≤ x.jn ∧ s = .int .i64 k ∧ v = .int .i64 ((S.lapsAt L at_ (x.js.take k) : Nat) : Int) ∧ Below w1.heap.size w1 wr) (fun _ s _ => x.jn - (intOf s).toNat)
    case atStart => exact ⟨0, Nat.zero_le _, rfl, rfl, Below.refl _ _⟩
    case round =>
      obtain ⟨k, hk, rfl, rfl, hbr⟩ := hrel
      have hsr := hbr.size
      by_cases hlt : k < x.jn
      · have hkx : k < x.js.length := by omega
        have hki : (k : Int) < x.jn := by omega
        have HSU := Lib.hid (lapsAt_succ (L := L) (at_ := at_) hkx)
        obtain ⟨i1, i2, a, b, hp⟩ := HP.out _ (List.getElem_mem hkx)
        have hle := HLE.out k
        have hjr := hJ.below ((ba_via hbr hbw).mono hB)
        obtain ⟨bJ, oJ, hje, hbJ, hxx⟩ := hjr.at_ (by rw [flat_len jnC 2 jnC_len]; omega)
        clear hxx
        subst hje
        have c0 := hjr.row0 jnC_len hkx rfl
        have c1 := hjr.rowj jnC_len hkx 1 rfl
        rw [hp.eq] at c0 c1
        rw [lapAt_pair hp.eq hp.fst hp.snd] at HSU
        have hbl : bJ < wr.heap.size := by have := hbw.size; omega
        have HOV := Lib.hid (fun (W : World) (hw : Below wr.heap.size wr W) => overlap_in L i1 i2 a b A1 L.length c1' w1.heap.size W rfl (by omega) (ba_via hw hbr).size (hML.below (ba_via hw hbr)) hp.fst hp.snd)
        have HIN := Lib.hid (show S.inLap at_ a b = (decide (b.leg.lo.x ≤ at_) && decide (at_ ≤ a.leg.hi.x)) from rfl)
        clear hp hjr
        generalize S.inLap at_ a b = t at *
        generalize S.lapsAt L at_ (x.js.take k) = m at *
        generalize a.leg.hi.x = p1 at *
        generalize b.leg.lo.x = p0 at *
        have e1 : IntKind.i64.wrap ((m : Int) + 1) = (m : Int) + 1 := IntWalk.i64_in _ (by omega)
        have hDlr : w.heap.size < wr.heap.size := by omega
        by_cases h1 : p0 ≤ at_
        · by_cases h2 : at_ ≤ p1
          · have HT := Lib.hid (show S.lapsAt L at_ (x.js.take (k + 1)) = m + 1 by rw [HSU.out, HIN.out, decide_eq_true h1, decide_eq_true h2]; rfl)
            go_wp2_with (first
              | (go_at_call 67; (with_reducible refine (HOV.out _ (by repeat (with_reducible first | exact Below.refl _ _ | assumption | refine ba_alloc ?_ _ | refine ba_drew ?_ | refine ba_drewN ?_ _ | refine ba_via (by assumption) ?_ | (refine ba_set ?_ ?_ _; rotate_left; (first | omega | (simp; omega) | simp))))).mono ?_); rintro e wo ⟨rfl, hbwo⟩))
            go_roundw
            case rel => exact ⟨k + 1, by omega, by go_num, by rw [HT.out]; simp, ba_via (by repeat (with_reducible first | exact Below.refl _ _ | assumption | refine ba_alloc ?_ _ | refine ba_drew ?_ | refine ba_drewN ?_ _ | refine ba_via (by assumption) ?_ | (refine ba_set ?_ ?_ _; rotate_left; (first | omega | (simp; omega) | simp)))) hbr⟩
            case measure => simp [intOf]; omega
          · have HT := Lib.hid (show S.lapsAt L at_ (x.js.take (k + 1)) = m by rw [HSU.out, HIN.out, decide_eq_true h1, decide_eq_false h2]; rfl)
            go_wp2_with (first
              | (go_at_call 67; (with_reducible refine (HOV.out _ (by repeat (with_reducible first | exact Below.refl _ _ | assumption | refine ba_alloc ?_ _ | refine ba_drew ?_ | refine ba_drewN ?_ _ | refine ba_via (by assumption) ?_ | (refine ba_set ?_ ?_ _; rotate_left; (first | omega | (simp; omega) | simp))))).mono ?_); rintro e wo ⟨rfl, hbwo⟩))
            go_roundw
            case rel => exact ⟨k + 1, by omega, by go_num, by rw [HT.out], ba_via (by repeat (with_reducible first | exact Below.refl _ _ | assumption | refine ba_alloc ?_ _ | refine ba_drew ?_ | refine ba_drewN ?_ _ | refine ba_via (by assumption) ?_ | (refine ba_set ?_ ?_ _; rotate_left; (first | omega | (simp; omega) | simp)))) hbr⟩
            case measure => simp [intOf]; omega
        · have HT := Lib.hid (show S.lapsAt L at_ (x.js.take (k + 1)) = m by rw [HSU.out, HIN.out, decide_eq_false h1]; rfl)
          go_wp2_with (first
            | (go_at_call 67; (with_reducible refine (HOV.out _ (by repeat (with_reducible first | exact Below.refl _ _ | assumption | refine ba_alloc ?_ _ | refine ba_drew ?_ | refine ba_drewN ?_ _ | refine ba_via (by assumption) ?_ | (refine ba_set ?_ ?_ _; rotate_left; (first | omega | (simp; omega) | simp))))).mono ?_); rintro e wo ⟨rfl, hbwo⟩))
          go_roundw
          case rel => exact ⟨k + 1, by omega, by go_num, by rw [HT.out], ba_via (by repeat (with_reducible first | exact Below.refl _ _ | assumption | refine ba_alloc ?_ _ | refine ba_drew ?_ | refine ba_drewN ?_ _ | refine ba_via (by assumption) ?_ | (refine ba_set ?_ ?_ _; rotate_left; (first | omega | (simp; omega) | simp)))) hbr⟩
          case measure => simp [intOf]; omega
      · obtain rfl : k = x.jn := by omega
        have hlm := HLE.out x.jn
        rw [HTK.out] at hlm ⊢
        obtain ⟨laps, hlaps⟩ : ∃ v, v = S.lapsAt L at_ x.js := ⟨_, rfl⟩
        rw [← hlaps] at hlm ⊢
        have HLP := Lib.hid hlaps
        clear hlaps
        have HDr := Lib.hid (HDB1.out.via hbr)
        have HDB := HDr
        have HRr := Lib.hid (HRS1.out.via hbr)
        have HCr := Lib.hid (fun (W : World) (hw : Below wr.heap.size wr W) => HC2.out W (ba_via hw hbr))
        have hbwr : Below w.heap.size w wr := ba_via hbr hbw
        have hMr := hML.below hbr
        clear HLE HP HC2 HDB1 HRS1 hlt hk
        go_wp2_with (first
          | (refine wpList_load_mid rfl 34 (.tmp 2) rfl _ _ rfl _ _ (HDB.out.via (by repeat (with_reducible first | exact Below.refl _ _ | assumption | refine ba_alloc ?_ _ | refine ba_drew ?_ | refine ba_drewN ?_ _ | refine ba_via (by assumption) ?_ | (refine ba_set ?_ ?_ _; rotate_left; (first | omega | (simp; omega) | simp))))).range Tryz.underlying34 rfl (by kernel_rfl) ?_)
          | (go_at_call 69; (with_reducible refine (HCr.out _ (by repeat (with_reducible first | exact Below.refl _ _ | assumption | refine ba_alloc ?_ _ | refine ba_drew ?_ | refine ba_drewN ?_ _ | refine ba_via (by assumption) ?_ | (refine ba_set ?_ ?_ _; rotate_left; (first | omega | (simp; omega) | simp))))).mono ?_); rintro e w2 ⟨A2, c2, rs, rfl, hrs, hrc, hcc, hce, hbw2⟩))
        have hb2 : Below wr.heap.size wr w2 := hbw2
        have hbw2w : Below w.heap.size w w2 := ba_via hb2 hbwr
        have HRS2 := Lib.hid (HRr.out.via hb2)
        have hrl : rs.length = C.length := by rw [← hrs, List.length_map]
        have hM2 := hMr.below ((hb2.mono (by omega : w1.heap.size ≤ wr.heap.size)))
        have HLE := Lib.hid (fun (k : Nat) => show S.chainsAt L at_ (C.take k) ≤ 2000 from by
          have h1 := chainsAt_le L at_ (C.take k)
          have h2 := List.length_take_le' k C
          have h3 := HI.out.len
          omega)
        have HRL := Lib.hid (fun (q : Nat) (hq : q < rs.length) (hqC : q < C.length) => show rs[q].l = C[q] from by
          have h1 : (rs.map (·.l))[q]? = C[q]? := by rw [hrs]
          rw [List.getElem?_map, List.getElem?_eq_getElem hq, List.getElem?_eq_getElem hqC] at h1
          exact Option.some.inj h1)
        have HCE := Lib.hid hce
        have HTC := Lib.hid (show C.take rs.length = C from List.take_of_length_le (by omega))
        have HRLE := Lib.hid hrl
        clear hrl
        have hlen2 := HI.out.len
        clear hrs hce HDr HDB HRr HCr hMr
        go_loopw [9, 59] (fun v s wx => ∃ q : Nat, q ≤ rs.length ∧ s = .int .i64 q ∧ v = .int .i64 ((S.chainsAt L at_ (C.take q) : Nat) : Int) ∧ Below w2.heap.size w2 wx) (fun _ s _ => rs.length - (intOf s).toNat)
        case atStart => exact ⟨0, Nat.zero_le _, rfl, rfl, Below.refl _ _⟩
        case round =>
          generalize wr = wx at *
          obtain ⟨q, hq, rfl, rfl, hbx⟩ := hrel
          have hsx := hbx.size
          by_cases hlt : q < rs.length
          · have hqC : q < C.length := by have := HRLE.out; omega
            have hqi : (q : Int) < rs.length := by omega
            have hcq := hcc.below hbx
            obtain ⟨bA, oA, hAe, hbA, hxx⟩ := hcq.at_ (by rw [List.length_map]; omega)
            clear hxx
            subst hAe
            have c0 := hcq.get (k := q) (v := chV rs[q]) (by rw [List.getElem?_map, List.getElem?_eq_getElem hlt]; rfl)
            have hrq := HRL.out q hlt hqC
            have HCQ := Lib.hid ((HCE.out rs[q] (List.getElem_mem hlt)).1)
            have hll := HI.out.each C[q] (List.getElem_mem hqC)
            have HBI := Lib.hid (fun (i : Int) (hi : i ∈ C[q]) => HI.out.bar C[q] (List.getElem_mem hqC) i hi)
            have HSU := Lib.hid (chainsAt_succ (L := L) (at_ := at_) hqC)
            have hle := HLE.out q
            have hbAl : bA < wx.heap.size := by omega
            rw [hrq] at HCQ
            have c0' : wx.cell? ⟨bA, oA + q, none⟩ = some (.slice rs[q].A C[q].length rs[q].c) := by rw [c0, ← hrq]
            clear c0 hcq hrq
            generalize rs[q].A = rA at *
            generalize rs[q].c = rc at *
            generalize S.chainsAt L at_ (C.take q) = m at *
            have e1 : IntKind.i64.wrap ((m : Int) + 1) = (m : Int) + 1 := IntWalk.i64_in _ (by omega)
            generalize C[q] = l at *
            go_wp2
            go_loopw [65, 9] (fun s v wy => ∃ j : Nat, j ≤ l.length ∧ s = .int .i64 j ∧ v = .int .i64 m ∧ Hid (∀ m' (hm : m' < l.length), m' < j → S.barAtX L at_ l[m'] = false) ∧ Below wx.heap.size wx wy) (fun s _ _ => l.length - (intOf s).toNat)
            case atStart => exact ⟨0, Nat.zero_le _, rfl, rfl, Lib.hid fun _ _ h => absurd h (by omega), Below.refl _ _⟩
            case round =>
              generalize wr = wy at *
              obtain ⟨j, hj, rfl, rfl, HNO, hby⟩ := hrel
              have hsy := hby.size
              have hb2y : Below w2.heap.size w2 wy := ba_via hby hbx
              by_cases hltj : j < l.length
              · have hji : (j : Int) < l.length := by omega
                obtain ⟨hi0, hi1⟩ := HBI.out l[j] (List.getElem_mem hltj)
                obtain ⟨i, hi⟩ : ∃ i : Nat, l[j] = (i : Int) := ⟨l[j].toNat, by omega⟩
                have hiL : i < L.length := by omega
                have hii : (i : Int) < L.length := by omega
                have hcj := HCQ.out.below hb2y
                obtain ⟨bR, oR, hRe, hbR, hxx⟩ := hcj.at_ (by simp; omega)
                clear hxx
                subst hRe
                have cj := hcj.get (k := j) (v := .int .i64 l[j]) (by simp [hltj])
                have hMy := hM2.below (hb2y.mono (by have := hb2.size; omega))
                obtain ⟨bL, oL, hLe, hbL, hxx⟩ := hMy.at_ (by rw [flat_len mnC 9 mnC_len]; omega)
                clear hxx
                subst hLe
                have m0 := hMy.row0 mnC_len hiL rfl
                have m3 := hMy.rowj mnC_len hiL 3 rfl
                have m6 := hMy.rowj mnC_len hiL 6 rfl
                have hbLl : bL < wy.heap.size := by have := hb2.size; omega
                have hbRl : bR < wy.heap.size := by omega
                have HBX := Lib.hid (barAtX_of (at_ := at_) (List.getElem?_eq_getElem hiL))
                have HON := Lib.hid (show S.onBar at_ L[i] = (L[i].has && (decide (L[i].leg.lo.x ≤ at_) && decide (at_ ≤ L[i].leg.hi.x))) from rfl)
                have HY := Lib.hid (fun (h : S.barAtX L at_ l[j] = true) => any_at hltj h)
                have HN := Lib.hid (fun (h : S.barAtX L at_ l[j] = false) (m' : Nat) (hm : m' < l.length) (hmk : m' < j + 1) => show S.barAtX L at_ l[m'] = false from by
                  by_cases hmk' : m' = j
                  · subst hmk'; exact h
                  · exact HNO.out m' hm (by omega))
                rw [hi] at cj HY HN
                rw [HBX.out, HON.out] at HY HN
                clear hcj hMy hi hi1
                generalize L[i].leg.lo.x = p0 at *
                generalize L[i].leg.hi.x = p1 at *
                generalize L[i].has = t at *
                have hin0 : (0 : Int) ≤ i := by omega
                cases t
                · have HG := Lib.hid (HN.out rfl)
                  go_wp2
                  go_roundw
                  case rel => exact ⟨j + 1, by omega, by go_num, rfl, HG, (by repeat (first | exact Below.refl _ _ | assumption | refine ba_alloc ?_ _ | refine ba_drew ?_ | refine ba_drewN ?_ _ | refine ba_via (by assumption) ?_ | (refine ba_set ?_ ?_ _; rotate_left; (first | omega | (simp; omega) | simp))))⟩
                  case measure => simp [intOf]; omega
                · by_cases h1 : p0 ≤ at_
                  · by_cases h2 : at_ ≤ p1
                    · have HG := Lib.hid (HY.out (by rw [decide_eq_true h1, decide_eq_true h2]; rfl))
                      have HT := Lib.hid (show S.chainsAt L at_ (C.take (q + 1)) = m + 1 by rw [HSU.out, HG.out]; rfl)
                      go_wp2
                      go_roundw
                      case rel => exact ⟨q + 1, by omega, by go_num, by rw [HT.out]; simp, (by repeat (first | exact Below.refl _ _ | assumption | refine ba_alloc ?_ _ | refine ba_drew ?_ | refine ba_drewN ?_ _ | refine ba_via (by assumption) ?_ | (refine ba_set ?_ ?_ _; rotate_left; (first | omega | (simp; omega) | simp))))⟩
                      case measure => simp [intOf]; omega
                    · have HG := Lib.hid (HN.out (by rw [decide_eq_true h1, decide_eq_false h2]; rfl))
                      go_wp2
                      go_roundw
                      case rel => exact ⟨j + 1, by omega, by go_num, rfl, HG, (by repeat (first | exact Below.refl _ _ | assumption | refine ba_alloc ?_ _ | refine ba_drew ?_ | refine ba_drewN ?_ _ | refine ba_via (by assumption) ?_ | (refine ba_set ?_ ?_ _; rotate_left; (first | omega | (simp; omega) | simp))))⟩
                      case measure => simp [intOf]; omega
                  · have HG := Lib.hid (HN.out (by rw [decide_eq_false h1]; rfl))
                    go_wp2
                    go_roundw
                    case rel => exact ⟨j + 1, by omega, by go_num, rfl, HG, (by repeat (first | exact Below.refl _ _ | assumption | refine ba_alloc ?_ _ | refine ba_drew ?_ | refine ba_drewN ?_ _ | refine ba_via (by assumption) ?_ | (refine ba_set ?_ ?_ _; rotate_left; (first | omega | (simp; omega) | simp))))⟩
                    case measure => simp [intOf]; omega
              · have HT := Lib.hid (show S.chainsAt L at_ (C.take (q + 1)) = m by rw [HSU.out, any_no (fun m' hm => HNO.out m' hm (by omega))]; rfl)
                have hji : ¬ ((j : Int) < l.length) := by omega
                go_wp2
                go_roundw
                case rel => exact ⟨q + 1, by omega, by go_num, by rw [HT.out], (by repeat (first | exact Below.refl _ _ | assumption | refine ba_alloc ?_ _ | refine ba_drew ?_ | refine ba_drewN ?_ _ | refine ba_via (by assumption) ?_ | (refine ba_set ?_ ?_ _; rotate_left; (first | omega | (simp; omega) | simp))))⟩
                case measure => simp [intOf]; omega
          · obtain rfl : q = rs.length := by omega
            have hall := HLE.out rs.length
            rw [HTC.out] at hall ⊢
            obtain ⟨all, hal⟩ : ∃ v, v = S.chainsAt L at_ C := ⟨_, rfl⟩
            rw [← hal] at hall ⊢
            have HR := HCS.out
            rw [← HLP.out, ← hal] at HR
            clear hal
            have hRx := HRS2.out.via hbx
            have z0 := hRx.cell 0
            have z1 := hRx.cell 1
            have f0 := hRx.frozen 0
            have f1 := hRx.frozen 1
            have ltR := hRx.lt
            simp only [List.getElem?_toArray, List.getElem?_cons_zero, List.getElem?_cons_succ] at z0 z1
            have hbwx : Below w.heap.size w wx := ba_via hbx hbw2w
            cases hz : ((all : Int) == 0)
            · have hz' : ¬ (all = 0) := by have := beq_eq_false_iff_ne.1 hz; omega
              obtain ⟨e0, e1, rfl⟩ := HR.some hpl hz'
              have HM := Lib.hid (fun w => make_any (laps : Int) (all : Int) w (by omega) (by omega) (by omega) (by omega))
              rw [← e0, ← e1] at HM
              clear hRx e0 e1 HR HCS HLP
              go_wp2_with (first
                | (go_at_call 71; (with_reducible refine (HM.out _).mono ?_); rintro e w5 ⟨rfl, hbw5⟩; have hR5 := (HRS2.out.via hbx).via hbw5; have y0 := hR5.cell 0; have y1 := hR5.cell 1; have g0 := hR5.frozen 0; have g1 := hR5.frozen 1; have ltR5 := hR5.lt; simp only [List.getElem?_toArray, List.getElem?_cons_zero, List.getElem?_cons_succ] at y0 y1))
              exact bodyPost_ret (v := .tuple #[.agg #[.int .i64 v0, .int .i64 v1], .int .i64 0]) (by simp [results, Tryz.results19, go_sem, *]) rfl ⟨rfl, ((ba_via hbw5 hbwx).setCell (Nat.le_succ _) _).setCell (Nat.le_succ _) _⟩
            · have hz' : all = 0 := by have := beq_iff_eq.1 hz; omega
              obtain ⟨rfl, rfl, rfl⟩ := HR.none hpl hz'
              clear hRx HR HCS HLP
              go_wp2
              exact bodyPost_ret (v := .tuple #[.agg #[.int .i64 0, .int .i64 0], .int .i64 16]) (by simp [results, Tryz.results19, go_sem, *]) rfl ⟨rfl, (hbwx.setCell (Nat.le_succ _) _).setCell (Nat.le_succ _) _⟩
end Go.Proofs.YtffkmgjmlahfpaaGreat
set_option linter.unusedVariables false
set_option linter.unusedSimpArgs false
namespace Go.Proofs.YtffkmgjmlahfpaaGreat
open Go.RowKit
theorem any_take {l : List Int} {p : Int → Bool} {j : Nat} (hj : j < l.length) : (l.take (j + 1)).any p = ((l.take j).any p || p l[j]) := by
  rw [List.take_succ_eq_append_getElem hj, List.any_append]
  simp
set_option maxRecDepth 20000 in
set_option maxHeartbeats 8000000 in
theorem rover_any (x : Dt) (L : List Mn) (C : List (List Int)) (at_ : Int) (B : Nat) (w : World) (hB : B ≤ w.heap.size) (hA : DtAt w B x) (hj1000 : x.jn ≤ 1000) (hL2 : L.length ≤ 2000) (hI : ChsIn L.length C)
    (hO : ∀ (k : Nat) (hk : k < x.js.length), ∃ i1 i2 a b, PairOk L x.js[k] i1 i2 a b ∧ ∀ W, Below w.heap.size w W → Calls Tryz.prog 72 #[dtV x, .int .i64 k] W fun e w' => e = .returned (.agg #[.int .i64 b.leg.lo.x, .int .i64 a.leg.hi.x]) ∧ Below W.heap.size W w')
    (hC : ∀ W, Below w.heap.size w W → Calls Tryz.prog 23 #[dtV x] W (GivesChs C W))
    (hM : ∀ (i : Nat) (m : Mn), L[i]? = some m → ∀ W, Below w.heap.size w W → Calls Tryz.prog 43 #[dtV x, .int .i64 i] W fun e w' => e = .returned (.tuple #[boxV m.leg, .bool m.has]) ∧ Below W.heap.size W w') :
    Calls Tryz.prog 26 #[dtV x, .int .i64 at_] w fun e w' => e = .returned (.tuple #[.int .i64 (S.lapsAt L at_ x.js), .int .i64 (S.chainsAt L at_ C)]) ∧ Below w.heap.size w w' := by
  have hjl := hA.jlen
  have HO := Lib.hid hO
  have HC := Lib.hid hC
  have HM := Lib.hid hM
  have HI := Lib.hid hI
  clear hA hO hC hM
  unfold dtV at HC HM
  unfold dtV
  unfold boxV at HM
  have hDB := Blk.new w 34 #[.string x.m.name, .slice x.mA x.mn x.mc, .slice x.hA x.hn x.hc, .int .i64 x.m.cover, .int .i64 x.m.aggr, .int .i64 x.m.poker, .slice x.bA x.bn x.bc, .slice x.rA x.rn x.rc, .slice x.jA x.jn x.jc, .slice x.dA x.dn x.dc, .int .i64 x.rule.num, .int .i64 x.rule.den, .int .i64 x.rule.pnum, .int .i64 x.rule.pden, .int .i64 x.rule.bnum, .int .i64 x.rule.bden, .int .i64 x.rule.lnum, .int .i64 x.rule.lden, .int .i64 x.rule.least]
  have hW1 : Below w.heap.size w (w.alloc (.cells #[.string x.m.name, .slice x.mA x.mn x.mc, .slice x.hA x.hn x.hc, .int .i64 x.m.cover, .int .i64 x.m.aggr, .int .i64 x.m.poker, .slice x.bA x.bn x.bc, .slice x.rA x.rn x.rc, .slice x.jA x.jn x.jc, .slice x.dA x.dn x.dc, .int .i64 x.rule.num, .int .i64 x.rule.den, .int .i64 x.rule.pnum, .int .i64 x.rule.pden, .int .i64 x.rule.bnum, .int .i64 x.rule.bden, .int .i64 x.rule.lnum, .int .i64 x.rule.lden, .int .i64 x.rule.least] 34)) := ba_alloc (Below.refl _ _) _
  go_enter Tryz.func26, Tryz.ntmps26
  go_wp2
  generalize (w.alloc (.cells #[.string x.m.name, .slice x.mA x.mn x.mc, .slice x.hA x.hn x.hc, .int .i64 x.m.cover, .int .i64 x.m.aggr, .int .i64 x.m.poker, .slice x.bA x.bn x.bc, .slice x.rA x.rn x.rc, .slice x.jA x.jn x.jc, .slice x.dA x.dn x.dc, .int .i64 x.rule.num, .int .i64 x.rule.den, .int .i64 x.rule.pnum, .int .i64 x.rule.pden, .int .i64 x.rule.bnum, .int .i64 x.rule.bden, .int .i64 x.rule.lnum, .int .i64 x.rule.lden, .int .i64 x.rule.least] 34)) = W1 at *
  have HDB := Lib.hid hDB
  clear hDB
  have HLE := Lib.hid (fun (k : Nat) => show S.lapsAt L at_ (x.js.take k) ≤ 1000 from by
    have h1 := lapsAt_le L at_ (x.js.take k)
    have h2 := List.length_take_le' k x.js
    omega)
  have HTK := Lib.hid (show x.js.take x.jn = x.js from List.take_of_length_le (by omega))
  go_loopw [6, 8] (fun v s wr => ∃ k : Nat, k ≤ x.jn ∧ s = .int .i64 k ∧ v = .int .i64 ((S.lapsAt L at_ (x.js.take k) : Nat) : Int) ∧ Below W1.heap.size W1 wr) (fun _ s _ => x.jn - (intOf s).toNat)
  case atStart => exact ⟨0, Nat.zero_le _, rfl, rfl, Below.refl _ _⟩
  case round =>
    obtain ⟨k, hk, rfl, rfl, hbr⟩ := hrel
    have hbwr : Below w.heap.size w wr := ba_via hbr hW1
    have hDr := HDB.out.via hbr
    have d8 := hDr.cell 8
    have hDl := hDr.lt
    simp only [List.getElem?_toArray, List.getElem?_cons_zero, List.getElem?_cons_succ] at d8
    have HDr := Lib.hid hDr
    clear hDr
    by_cases hlt : k < x.jn
    · have hkx : k < x.js.length := by omega
      have hki : (k : Int) < x.jn := by omega
      have HSU := Lib.hid (lapsAt_succ (L := L) (at_ := at_) hkx)
      obtain ⟨i1, i2, a, b, hp, hov⟩ := HO.out k hkx
      unfold dtV at hov
      have hle := HLE.out k
      rw [lapAt_pair hp.eq hp.fst hp.snd] at HSU
      have HOV := Lib.hid (fun (W : World) (hw : Below wr.heap.size wr W) => hov W (ba_via hw hbwr))
      have HIN := Lib.hid (show S.inLap at_ a b = (decide (b.leg.lo.x ≤ at_) && decide (at_ ≤ a.leg.hi.x)) from rfl)
      clear hp hov
      generalize S.inLap at_ a b = t at *
      generalize S.lapsAt L at_ (x.js.take k) = m at *
      generalize a.leg.hi.x = p1 at *
      generalize b.leg.lo.x = p0 at *
      have e1 : IntKind.i64.wrap ((m : Int) + 1) = (m : Int) + 1 := IntWalk.i64_in _ (by omega)
      by_cases h1 : p0 ≤ at_
      · by_cases h2 : at_ ≤ p1
        · have HT := Lib.hid (show S.lapsAt L at_ (x.js.take (k + 1)) = m + 1 by rw [HSU.out, HIN.out, decide_eq_true h1, decide_eq_true h2]; rfl)
          go_wp2_with (first
            | (refine wpList_load_mid rfl 34 (.tmp 2) rfl _ _ rfl _ _ (HDr.out.via (by repeat (with_reducible first | exact Below.refl _ _ | assumption | refine ba_alloc ?_ _ | refine ba_drew ?_ | refine ba_drewN ?_ _ | refine ba_via (by assumption) ?_ | (refine ba_set ?_ ?_ _; rotate_left; (first | omega | (simp; omega) | simp))))).range Tryz.underlying34 rfl (by kernel_rfl) ?_)
            | (go_at_call 72; (with_reducible refine (HOV.out _ (by repeat (with_reducible first | exact Below.refl _ _ | assumption | refine ba_alloc ?_ _ | refine ba_drew ?_ | refine ba_drewN ?_ _ | refine ba_via (by assumption) ?_ | (refine ba_set ?_ ?_ _; rotate_left; (first | omega | (simp; omega) | simp))))).mono ?_); rintro e wo ⟨rfl, hbwo⟩))
          go_roundw
          case rel => exact ⟨k + 1, by omega, by go_num, by rw [HT.out]; simp, ba_via (by repeat (with_reducible first | exact Below.refl _ _ | assumption | refine ba_alloc ?_ _ | refine ba_drew ?_ | refine ba_drewN ?_ _ | refine ba_via (by assumption) ?_ | (refine ba_set ?_ ?_ _; rotate_left; (first | omega | (simp; omega) | simp)))) hbr⟩
          case measure => simp [intOf]; omega
        · have HT := Lib.hid (show S.lapsAt L at_ (x.js.take (k + 1)) = m by rw [HSU.out, HIN.out, decide_eq_true h1, decide_eq_false h2]; rfl)
          go_wp2_with (first
            | (refine wpList_load_mid rfl 34 (.tmp 2) rfl _ _ rfl _ _ (HDr.out.via (by repeat (with_reducible first | exact Below.refl _ _ | assumption | refine ba_alloc ?_ _ | refine ba_drew ?_ | refine ba_drewN ?_ _ | refine ba_via (by assumption) ?_ | (refine ba_set ?_ ?_ _; rotate_left; (first | omega | (simp; omega) | simp))))).range Tryz.underlying34 rfl (by kernel_rfl) ?_)
            | (go_at_call 72; (with_reducible refine (HOV.out _ (by repeat (with_reducible first | exact Below.refl _ _ | assumption | refine ba_alloc ?_ _ | refine ba_drew ?_ | refine ba_drewN ?_ _ | refine ba_via (by assumption) ?_ | (refine ba_set ?_ ?_ _; rotate_left; (first | omega | (simp; omega) | simp))))).mono ?_); rintro e wo ⟨rfl, hbwo⟩))
          go_roundw
          case rel => exact ⟨k + 1, by omega, by go_num, by rw [HT.out], ba_via (by repeat (with_reducible first | exact Below.refl _ _ | assumption | refine ba_alloc ?_ _ | refine ba_drew ?_ | refine ba_drewN ?_ _ | refine ba_via (by assumption) ?_ | (refine ba_set ?_ ?_ _; rotate_left; (first | omega | (simp; omega) | simp)))) hbr⟩
          case measure => simp [intOf]; omega
      · have HT := Lib.hid (show S.lapsAt L at_ (x.js.take (k + 1)) = m by rw [HSU.out, HIN.out, decide_eq_false h1]; rfl)
        go_wp2_with (first
          | (refine wpList_load_mid rfl 34 (.tmp 2) rfl _ _ rfl _ _ (HDr.out.via (by repeat (with_reducible first | exact Below.refl _ _ | assumption | refine ba_alloc ?_ _ | refine ba_drew ?_ | refine ba_drewN ?_ _ | refine ba_via (by assumption) ?_ | (refine ba_set ?_ ?_ _; rotate_left; (first | omega | (simp; omega) | simp))))).range Tryz.underlying34 rfl (by kernel_rfl) ?_)
          | (go_at_call 72; (with_reducible refine (HOV.out _ (by repeat (with_reducible first | exact Below.refl _ _ | assumption | refine ba_alloc ?_ _ | refine ba_drew ?_ | refine ba_drewN ?_ _ | refine ba_via (by assumption) ?_ | (refine ba_set ?_ ?_ _; rotate_left; (first | omega | (simp; omega) | simp))))).mono ?_); rintro e wo ⟨rfl, hbwo⟩))
        go_roundw
        case rel => exact ⟨k + 1, by omega, by go_num, by rw [HT.out], ba_via (by repeat (with_reducible first | exact Below.refl _ _ | assumption | refine ba_alloc ?_ _ | refine ba_drew ?_ | refine ba_drewN ?_ _ | refine ba_via (by assumption) ?_ | (refine ba_set ?_ ?_ _; rotate_left; (first | omega | (simp; omega) | simp)))) hbr⟩
        case measure => simp [intOf]; omega
    · obtain rfl : k = x.jn := by omega
      have hlm := HLE.out x.jn
      rw [HTK.out] at hlm ⊢
      obtain ⟨laps, hlaps⟩ : ∃ v, v = S.lapsAt L at_ x.js := ⟨_, rfl⟩
      rw [← hlaps] at hlm ⊢
      have HLP := Lib.hid hlaps
      clear hlaps
      have HCr := Lib.hid (fun (W : World) (hw : Below wr.heap.size wr W) => HC.out W (ba_via hw hbwr))
      clear HLE HO HC hlt hk
      go_wp2_with (first
        | (refine wpList_load_mid rfl 34 (.tmp 2) rfl _ _ rfl _ _ (HDr.out.via (by repeat (with_reducible first | exact Below.refl _ _ | assumption | refine ba_alloc ?_ _ | refine ba_drew ?_ | refine ba_drewN ?_ _ | refine ba_via (by assumption) ?_ | (refine ba_set ?_ ?_ _; rotate_left; (first | omega | (simp; omega) | simp))))).range Tryz.underlying34 rfl (by kernel_rfl) ?_)
        | (go_at_call 23; (with_reducible refine (HCr.out _ (by repeat (with_reducible first | exact Below.refl _ _ | assumption | refine ba_alloc ?_ _ | refine ba_drew ?_ | refine ba_drewN ?_ _ | refine ba_via (by assumption) ?_ | (refine ba_set ?_ ?_ _; rotate_left; (first | omega | (simp; omega) | simp))))).mono ?_); rintro e w2 ⟨A2, c2, rs, rfl, hrs, hrc, hcc, hce, hbw2⟩))
      have hbw2w : Below w.heap.size w w2 := ba_via hbw2 hbwr
      have HD2 := Lib.hid (HDr.out.via hbw2)
      have hrl : rs.length = C.length := by rw [← hrs, List.length_map]
      have HLE := Lib.hid (fun (k : Nat) => show S.chainsAt L at_ (C.take k) ≤ 2000 from by
        have h1 := chainsAt_le L at_ (C.take k)
        have h2 := List.length_take_le' k C
        have h3 := HI.out.len
        omega)
      have HRL := Lib.hid (fun (q : Nat) (hq : q < rs.length) (hqC : q < C.length) => show rs[q].l = C[q] from by
        have h1 : (rs.map (·.l))[q]? = C[q]? := by rw [hrs]
        rw [List.getElem?_map, List.getElem?_eq_getElem hq, List.getElem?_eq_getElem hqC] at h1
        exact Option.some.inj h1)
      have HCE := Lib.hid hce
      have HTC := Lib.hid (show C.take rs.length = C from List.take_of_length_le (by omega))
      have HRLE := Lib.hid hrl
      clear hrl
      have hlen2 := HI.out.len
      clear hrs hce HCr HDr d8
      go_loopw [7, 11] (fun v s wx => ∃ q : Nat, q ≤ rs.length ∧ s = .int .i64 q ∧ v = .int .i64 ((S.chainsAt L at_ (C.take q) : Nat) : Int) ∧ Below w2.heap.size w2 wx) (fun _ s _ => rs.length - (intOf s).toNat)
      case atStart => exact ⟨0, Nat.zero_le _, rfl, rfl, Below.refl _ _⟩
      case round =>
        generalize wr = wx at *
        obtain ⟨q, hq, rfl, rfl, hbx⟩ := hrel
        have hsx := hbx.size
        have hbwx : Below w.heap.size w wx := ba_via hbx hbw2w
        by_cases hlt : q < rs.length
        · have hqC : q < C.length := by have := HRLE.out; omega
          have hqi : (q : Int) < rs.length := by omega
          obtain ⟨bA, oA, hAe, hbA, hxx⟩ := hcc.at_ (by rw [List.length_map]; omega)
          clear hxx
          subst hAe
          have c0 := hcc.get (k := q) (v := chV rs[q]) (by rw [List.getElem?_map, List.getElem?_eq_getElem hlt]; rfl)
          have hrq := HRL.out q hlt hqC
          have HCQ := Lib.hid ((HCE.out rs[q] (List.getElem_mem hlt)).1)
          have hll := HI.out.each C[q] (List.getElem_mem hqC)
          have HBI := Lib.hid (fun (i : Int) (hi : i ∈ C[q]) => HI.out.bar C[q] (List.getElem_mem hqC) i hi)
          have HSU := Lib.hid (chainsAt_succ (L := L) (at_ := at_) hqC)
          have hle := HLE.out q
          rw [hrq] at HCQ
          have c0' : w2.cell? ⟨bA, oA + q, none⟩ = some (.slice rs[q].A C[q].length rs[q].c) := by rw [c0, ← hrq]
          clear c0 hrq
          generalize rs[q].A = rA at *
          generalize rs[q].c = rc at *
          generalize S.chainsAt L at_ (C.take q) = m at *
          have e1 : IntKind.i64.wrap ((m : Int) + 1) = (m : Int) + 1 := IntWalk.i64_in _ (by omega)
          generalize C[q] = l at *
          go_wp2
          go_loopw [12, 13] (fun t s wy => ∃ j : Nat, j ≤ l.length ∧ s = .int .i64 j ∧ t = .bool ((l.take j).any (S.barAtX L at_)) ∧ Below wx.heap.size wx wy) (fun _ s _ => l.length - (intOf s).toNat)
          case atStart => exact ⟨0, Nat.zero_le _, rfl, rfl, Below.refl _ _⟩
          case round =>
            generalize wr = wy at *
            obtain ⟨j, hj, rfl, rfl, hby⟩ := hrel
            have hsy := hby.size
            have hb2y : Below w2.heap.size w2 wy := ba_via hby hbx
            have hbwy : Below w.heap.size w wy := ba_via hby hbwx
            have c0 := (hb2y.cell (p := ⟨bA, oA + q, none⟩) hbA).trans c0'
            have hbAl : bA < wy.heap.size := by omega
            by_cases hltj : j < l.length
            · have hji : (j : Int) < l.length := by omega
              obtain ⟨hi0, hi1⟩ := HBI.out l[j] (List.getElem_mem hltj)
              obtain ⟨i, hi⟩ : ∃ i : Nat, l[j] = (i : Int) := ⟨l[j].toNat, by omega⟩
              have hiL : i < L.length := by omega
              have hcj := HCQ.out.below hb2y
              obtain ⟨bR, oR, hRe, hbR, hxx⟩ := hcj.at_ (by simp; omega)
              clear hxx
              subst hRe
              have cj := hcj.get (k := j) (v := .int .i64 l[j]) (by simp [hltj])
              have hbRl : bR < wy.heap.size := by omega
              have HBX := Lib.hid (barAtX_of (at_ := at_) (List.getElem?_eq_getElem hiL))
              have HON := Lib.hid (show S.onBar at_ L[i] = (L[i].has && (decide (L[i].leg.lo.x ≤ at_) && decide (at_ ≤ L[i].leg.hi.x))) from rfl)
              have HT := Lib.hid (any_take (p := S.barAtX L at_) hltj)
              rw [hi] at cj HT
              rw [HBX.out, HON.out] at HT
              have HMI := Lib.hid (fun (W : World) (hw : Below wy.heap.size wy W) => HM.out i L[i] (List.getElem?_eq_getElem hiL) W (ba_via hw hbwy))
              have HDy := Lib.hid (HD2.out.via hb2y)
              clear hcj hi hi1 HON HBX
              generalize L[i].leg = g at *
              generalize L[i].has = t at *
              generalize (l.take j).any (S.barAtX L at_) = t0 at *
              go_upto_region 16 with fail
              refine wp_region_mixF 3 [0, 7] [11] _ 89 #[.int .i64 0, .int .i64 0, .int .i64 0, .int .i64 0, .int .i64 0, .int .i64 0] (by kernel_rfl) (by kernel_rfl) (of_decide_eq_true (by kernel_rfl)) rfl rfl (fun _ _ => by kernel_rfl) (by intro c a d v w h; cases d <;> exact h) ?_
              try simp only [wpSegsF, List.take_succ_cons, List.take_zero, List.drop_succ_cons, List.drop_zero, List.take_nil, List.drop_nil]
              repeat (go_big_quiet_step (fail))
              refine wpQuiet_nil ?_
              intro wA hCwA hGwA
              have hbA' : Below wy.heap.size wy wA := ba_via hGwA (ba_drew (Below.refl _ _))
              clear hCwA hGwA
              have hRGA := (HDy.out.via hbA').range
              go_wp2_with ((refine wpList_load_mid rfl 34 (.tmp 2) rfl _ _ rfl _ _ hRGA Tryz.underlying34 rfl (by kernel_rfl) ?_))
              refine segF_next (show Below _ _ _ from (by repeat (with_reducible first | exact Below.refl _ _ | assumption | refine ba_alloc ?_ _ | refine ba_drew ?_ | refine ba_drewN ?_ _ | refine ba_via (by assumption) ?_ | (refine ba_set ?_ ?_ _; rotate_left; (first | omega | (simp; omega) | simp))))) ?_
              clear hRGA
              try simp only [wpSegsF, List.take_succ_cons, List.take_zero, List.drop_succ_cons, List.drop_zero, List.take_nil, List.drop_nil]
              repeat (go_big_quiet_step (fail))
              refine wpQuiet_nil ?_
              intro wB hCwB hGwB
              have hbB : Below wy.heap.size wy wB := ba_via hGwB hbA'
              clear hCwB hGwB
              go_wp2_with ((go_at_call 43; (with_reducible refine (HMI.out _ (by repeat (with_reducible first | exact Below.refl _ _ | assumption | refine ba_alloc ?_ _ | refine ba_drew ?_ | refine ba_drewN ?_ _ | refine ba_via (by assumption) ?_ | (refine ba_set ?_ ?_ _; rotate_left; (first | omega | (simp; omega) | simp))))).mono ?_); rintro e w1 ⟨rfl, hbw1⟩))
              refine segF_next (show Below _ _ _ from (by repeat (with_reducible first | exact Below.refl _ _ | assumption | refine ba_alloc ?_ _ | refine ba_drew ?_ | refine ba_drewN ?_ _ | refine ba_via (by assumption) ?_ | (refine ba_set ?_ ?_ _; rotate_left; (first | omega | (simp; omega) | simp))))) ?_
              try simp only [wpSegsF, endAt, List.take_succ_cons, List.take_zero, List.drop_succ_cons, List.drop_zero, List.take_nil, List.drop_nil]
              repeat (go_big_quiet_step (fail))
              refine wpQuiet_nil ?_
              intro b1 wD hOwD hGwD hLb1 hKb1
              simp only [endAt, List.drop_succ_cons, List.drop_zero, Nat.reduceAdd]
              have hbD : Below wy.heap.size wy wD := ba_via hGwD (by repeat (with_reducible first | exact Below.refl _ _ | assumption | refine ba_alloc ?_ _ | refine ba_drew ?_ | refine ba_drewN ?_ _ | refine ba_via (by assumption) ?_ | (refine ba_set ?_ ?_ _; rotate_left; (first | omega | (simp; omega) | simp))))
              have hbl : b1 < wD.heap.size := hKb1.lt
              have z0 := hKb1.cell 0
              have z1 := hKb1.cell 1
              have z2 := hKb1.cell 2
              have z3 := hKb1.cell 3
              have z4 := hKb1.cell 4
              have z5 := hKb1.cell 5
              have y0 := hKb1.frozen 0
              have y1 := hKb1.frozen 1
              have y2 := hKb1.frozen 2
              have y3 := hKb1.frozen 3
              have y4 := hKb1.frozen 4
              have y5 := hKb1.frozen 5
              simp only [List.getElem?_toArray, List.getElem?_cons_zero, List.getElem?_cons_succ] at z0 z1 z2 z3 z4 z5
              clear hOwD hGwD
              go_upto_region 17 with fail
              obtain ⟨W2, eW2, hW2, hB2⟩ := set6 hbD hLb1 hKb1 (.int .i64 g.lo.x) (.int .i64 g.lo.y) (.int .i64 g.lo.z) (.int .i64 g.hi.x) (.int .i64 g.hi.y) (.int .i64 g.hi.z)
              rw [eW2]
              clear eW2 z0 z1 z2 z3 z4 z5 y0 y1 y2 y3 y4 y5 hKb1 hbl hbD hbB hbA' hbw1 c0 cj
              clear wD w1 wB wA
              have z0 := hB2.cell 0
              have z3 := hB2.cell 3
              have hbl := hB2.lt
              simp only [List.getElem?_toArray, List.getElem?_cons_zero, List.getElem?_cons_succ] at z0 z3
              have hbxy : Below wx.heap.size wx W2 := ba_via hW2 hby
              clear hB2
              generalize g.lo.x = p0 at *
              generalize g.hi.x = p1 at *
              cases t0
              · cases t
                · go_wp2
                  go_roundw
                  case rel => exact ⟨j + 1, by omega, by go_num, by rw [HT.out]; rfl, hbxy⟩
                  case measure => simp [intOf]; omega
                · by_cases h1 : p0 ≤ at_
                  · by_cases h2 : at_ ≤ p1
                    · go_wp2
                      go_roundw
                      case rel => exact ⟨j + 1, by omega, by go_num, by rw [HT.out, decide_eq_true h1, decide_eq_true h2]; rfl, hbxy⟩
                      case measure => simp [intOf]; omega
                    · go_wp2
                      go_roundw
                      case rel => exact ⟨j + 1, by omega, by go_num, by rw [HT.out, decide_eq_true h1, decide_eq_false h2]; rfl, hbxy⟩
                      case measure => simp [intOf]; omega
                  · go_wp2
                    go_roundw
                    case rel => exact ⟨j + 1, by omega, by go_num, by rw [HT.out, decide_eq_false h1]; rfl, hbxy⟩
                    case measure => simp [intOf]; omega
              · go_wp2
                go_roundw
                case rel => exact ⟨j + 1, by omega, by go_num, by rw [HT.out, Bool.true_or], hbxy⟩
                case measure => simp [intOf]; omega
            · have hTl : l.take j = l := List.take_of_length_le (by omega)
              have hji : ¬ ((j : Int) < l.length) := by omega
              rw [hTl]
              cases ht : l.any (S.barAtX L at_)
              · have HT := Lib.hid (show S.chainsAt L at_ (C.take (q + 1)) = m by rw [HSU.out, ht]; rfl)
                go_wp2
                go_roundw
                case rel => exact ⟨q + 1, by omega, by go_num, by rw [HT.out], ba_via hby hbx⟩
                case measure => simp [intOf]; omega
              · have HT := Lib.hid (show S.chainsAt L at_ (C.take (q + 1)) = m + 1 by rw [HSU.out, ht]; rfl)
                go_wp2
                go_roundw
                case rel => exact ⟨q + 1, by omega, by go_num, by rw [HT.out]; simp, ba_via hby hbx⟩
                case measure => simp [intOf]; omega
        · obtain rfl : q = rs.length := by omega
          rw [HTC.out]
          go_wp2
          go_ret2
          exact ⟨by rw [HLP.out]; rfl, hbwx⟩
end Go.Proofs.YtffkmgjmlahfpaaGreat
set_option linter.unusedVariables false
set_option linter.unusedSimpArgs false
namespace Go.Proofs.YtffkmgjmlahfpaaGreat
open Go.RowKit
theorem rule_range {w : World} {g : Nat} {x : Dt} {jv : Value} (h : Blk w g 34 #[.string x.m.name, .slice x.mA x.mn x.mc, .slice x.hA x.hn x.hc, .int .i64 x.m.cover, .int .i64 x.m.aggr, .int .i64 x.m.poker, .slice x.bA x.bn x.bc, .slice x.rA x.rn x.rc, jv, .slice x.dA x.dn x.dc, .int .i64 x.rule.num, .int .i64 x.rule.den, .int .i64 x.rule.pnum, .int .i64 x.rule.pden, .int .i64 x.rule.bnum, .int .i64 x.rule.bden, .int .i64 x.rule.lnum, .int .i64 x.rule.lden, .int .i64 x.rule.least]) : w.rangeAt g 10 [.int .i64 x.rule.num, .int .i64 x.rule.den, .int .i64 x.rule.pnum, .int .i64 x.rule.pden, .int .i64 x.rule.bnum, .int .i64 x.rule.bden, .int .i64 x.rule.lnum, .int .i64 x.rule.lden, .int .i64 x.rule.least] := fun j v hv => by
  refine (h.cell (10 + j)).trans ?_
  match j, hv with
  | 0, hv => exact hv
  | 1, hv => exact hv
  | 2, hv => exact hv
  | 3, hv => exact hv
  | 4, hv => exact hv
  | 5, hv => exact hv
  | 6, hv => exact hv
  | 7, hv => exact hv
  | 8, hv => exact hv
  | n + 9, hv => simp at hv
theorem mem_range {w : World} {g : Nat} {x : Dt} {jv : Value} (h : Blk w g 34 #[.string x.m.name, .slice x.mA x.mn x.mc, .slice x.hA x.hn x.hc, .int .i64 x.m.cover, .int .i64 x.m.aggr, .int .i64 x.m.poker, .slice x.bA x.bn x.bc, .slice x.rA x.rn x.rc, jv, .slice x.dA x.dn x.dc, .int .i64 x.rule.num, .int .i64 x.rule.den, .int .i64 x.rule.pnum, .int .i64 x.rule.pden, .int .i64 x.rule.bnum, .int .i64 x.rule.bden, .int .i64 x.rule.lnum, .int .i64 x.rule.lden, .int .i64 x.rule.least]) : w.rangeAt g 0 [.string x.m.name, .slice x.mA x.mn x.mc, .slice x.hA x.hn x.hc, .int .i64 x.m.cover, .int .i64 x.m.aggr, .int .i64 x.m.poker] := fun j v hv => by
  refine (h.cell (0 + j)).trans ?_
  match j, hv with
  | 0, hv => exact hv
  | 1, hv => exact hv
  | 2, hv => exact hv
  | 3, hv => exact hv
  | 4, hv => exact hv
  | 5, hv => exact hv
  | n + 6, hv => simp at hv
set_option maxRecDepth 20000 in
set_option maxHeartbeats 8000000 in
theorem rcheck_any (x : Dt) (L : List Mn) (B : Nat) (w : World) (hB : B ≤ w.heap.size) (hA : DtAt w B x) (hj1000 : x.jn ≤ 1000)
    (hO : ∀ (k : Nat) (hk : k < x.js.length), ∃ i1 i2 a b, PairOk L x.js[k] i1 i2 a b ∧ ∀ W, Below w.heap.size w W → Calls Tryz.prog 72 #[dtV x, .int .i64 k] W fun e w' => e = .returned (.agg #[.int .i64 b.leg.lo.x, .int .i64 a.leg.hi.x]) ∧ Below W.heap.size W w')
    (hM : ∀ (i : Nat) (m : Mn), L[i]? = some m → ∀ W, Below w.heap.size w W → Calls Tryz.prog 43 #[dtV x, .int .i64 i] W fun e w' => e = .returned (.tuple #[boxV m.leg, .bool m.has]) ∧ Below W.heap.size W w')
    (hS : ∀ (i : Nat) (m : Mn), L[i]? = some m → ∀ W, Below w.heap.size w W → Calls Tryz.prog 47 #[dtV x, .int .i64 i] W fun e w' => e = .returned (.int .i64 m.size) ∧ Below W.heap.size W w')
    (hK : ∀ (i : Nat) (m : Mn), L[i]? = some m → ∀ W, Below w.heap.size w W → Calls Tryz.prog 75 #[dtV x, .int .i64 i] W fun e w' => e = .returned (.string m.mark) ∧ Below W.heap.size W w')
    (hP : ∀ (leg : Bx), S.boxOk leg = true → ∀ W, Below w.heap.size w W → Calls Tryz.prog 73 #[memV x.m x.mA x.mn x.mc x.hA x.hn x.hc, boxV leg] W fun e w' => e = .returned (.bool (S.poor x.m.boxes leg)) ∧ Below W.heap.size W w')
    (hN : ∀ (d : Int), S.size d = true → ∀ p W, Calls Tryz.prog 74 #[ruleV x.rule, .int .i64 d, .bool p] W fun e w' => e = .returned (.int .i64 (lLength x.rule d p)) ∧ Below W.heap.size W w') :
    Calls Tryz.prog 21 #[dtV x] w (GivesOne 42 2 (S.lapFinds x.m x.rule L x.js).length ((S.lapFinds x.m x.rule L x.js).flatMap fdC) w) := by
  have hJ := hA.joints
  have hjl := hA.jlen
  have HO := Lib.hid hO
  have HM := Lib.hid hM
  have HS := Lib.hid hS
  have HK := Lib.hid hK
  have HP := Lib.hid hP
  have HN := Lib.hid hN
  clear hA hO hM hS hK hP hN
  unfold dtV at HM HS HK
  unfold dtV
  unfold boxV at HM HP
  unfold memV at HP
  unfold ruleV at HN
  have hDB := Blk.new w 34 #[.string x.m.name, .slice x.mA x.mn x.mc, .slice x.hA x.hn x.hc, .int .i64 x.m.cover, .int .i64 x.m.aggr, .int .i64 x.m.poker, .slice x.bA x.bn x.bc, .slice x.rA x.rn x.rc, .slice x.jA x.jn x.jc, .slice x.dA x.dn x.dc, .int .i64 x.rule.num, .int .i64 x.rule.den, .int .i64 x.rule.pnum, .int .i64 x.rule.pden, .int .i64 x.rule.bnum, .int .i64 x.rule.bden, .int .i64 x.rule.lnum, .int .i64 x.rule.lden, .int .i64 x.rule.least]
  have hW1 : Below w.heap.size w (w.alloc (.cells #[.string x.m.name, .slice x.mA x.mn x.mc, .slice x.hA x.hn x.hc, .int .i64 x.m.cover, .int .i64 x.m.aggr, .int .i64 x.m.poker, .slice x.bA x.bn x.bc, .slice x.rA x.rn x.rc, .slice x.jA x.jn x.jc, .slice x.dA x.dn x.dc, .int .i64 x.rule.num, .int .i64 x.rule.den, .int .i64 x.rule.pnum, .int .i64 x.rule.pden, .int .i64 x.rule.bnum, .int .i64 x.rule.bden, .int .i64 x.rule.lnum, .int .i64 x.rule.lden, .int .i64 x.rule.least] 34)) := ba_alloc (Below.refl _ _) _
  go_enter Tryz.func21, Tryz.ntmps21
  go_wp2
  generalize (w.alloc (.cells #[.string x.m.name, .slice x.mA x.mn x.mc, .slice x.hA x.hn x.hc, .int .i64 x.m.cover, .int .i64 x.m.aggr, .int .i64 x.m.poker, .slice x.bA x.bn x.bc, .slice x.rA x.rn x.rc, .slice x.jA x.jn x.jc, .slice x.dA x.dn x.dc, .int .i64 x.rule.num, .int .i64 x.rule.den, .int .i64 x.rule.pnum, .int .i64 x.rule.pden, .int .i64 x.rule.bnum, .int .i64 x.rule.bden, .int .i64 x.rule.lnum, .int .i64 x.rule.lden, .int .i64 x.rule.least] 34)) = W1 at *
  have HDB := Lib.hid hDB
  clear hDB
  generalize hjA : x.jA = jA at *
  have HjA := Lib.hid hjA
  clear hjA
  have HFL := Lib.hid (fun (k : Nat) => show (S.lapFinds x.m x.rule L (x.js.take k)).length ≤ 2000 from by
    have h1 := lapFinds_len x.m x.rule L (x.js.take k)
    have h2 := List.length_take_le' k x.js
    omega)
  go_loopw [3, 4] (fun v i wr => ∃ (k : Nat) (A3 : Option Addr) (c3 : Nat), k ≤ x.jn ∧ i = .int .i64 k ∧ v = .slice A3 (S.lapFinds x.m x.rule L (x.js.take k)).length c3 ∧ Row W1 wr none w.heap.size 42 2 (.slice A3 (S.lapFinds x.m x.rule L (x.js.take k)).length c3) (S.lapFinds x.m x.rule L (x.js.take k)).length ((S.lapFinds x.m x.rule L (x.js.take k)).flatMap fdC) ∧ Exc [] W1 wr) (fun _ i _ => x.jn - (intOf i).toNat)
  case atStart => exact ⟨0, none, 0, Nat.zero_le _, rfl, rfl, Row.none_ _ _ _ _, Exc.refl _ _⟩
  case round =>
    obtain ⟨k, A3, c3, hk, rfl, rfl, hR, hX⟩ := hrel
    have hbr : Below W1.heap.size W1 wr := hX.below (Nat.le_refl _) (by simp)
    have hbwr : Below w.heap.size w wr := ba_via hbr hW1
    have hsr := hbr.size
    have hDr := HDB.out.via hbr
    have d8 := hDr.cell 8
    have hDl := hDr.lt
    simp only [List.getElem?_toArray, List.getElem?_cons_zero, List.getElem?_cons_succ] at d8
    by_cases hlt : k < x.jn
    · have hkx : k < x.js.length := by omega
      have hki : (k : Int) < x.jn := by omega
      obtain ⟨i1, i2, a, b, hp, hov⟩ := HO.out k hkx
      unfold dtV at hov
      rw [HjA.out] at hov
      have hjr := hJ.below (hbwr.mono hB)
      obtain ⟨bJ, oJ, hje, hbJ, hxx⟩ := hjr.at_ (by rw [flat_len jnC 2 jnC_len]; omega)
      clear hxx
      subst hje
      have c0 := hjr.row0 jnC_len hkx rfl
      have c1 := hjr.rowj jnC_len hkx 1 rfl
      rw [hp.eq] at c0 c1
      have hbl : bJ < wr.heap.size := by have := hbwr.size; omega
      have HF := Lib.hid (show S.lapFinds x.m x.rule L (x.js.take (k + 1)) = S.lapFinds x.m x.rule L (x.js.take k) ++ S.lapFind x.m x.rule a b from by rw [lapFinds_succ x.m x.rule L x.js hkx, lapF_of hp])
      have hfl := HFL.out k
      have HOV := Lib.hid (fun (W : World) (hw : Below wr.heap.size wr W) => hov W (ba_via hw hbwr))
      have HM1 := Lib.hid (fun (W : World) (hw : Below wr.heap.size wr W) => HM.out i1 a hp.fst W (ba_via hw hbwr))
      have HM2 := Lib.hid (fun (W : World) (hw : Below wr.heap.size wr W) => HM.out i2 b hp.snd W (ba_via hw hbwr))
      have HS1 := Lib.hid (fun (W : World) (hw : Below wr.heap.size wr W) => HS.out i1 a hp.fst W (ba_via hw hbwr))
      have HS2 := Lib.hid (fun (W : World) (hw : Below wr.heap.size wr W) => HS.out i2 b hp.snd W (ba_via hw hbwr))
      have HK1 := Lib.hid (HK.out i1 a hp.fst)
      have HP1 := Lib.hid (fun (W : World) (hw : Below wr.heap.size wr W) => HP.out a.leg hp.boxA W (ba_via hw hbwr))
      have HP2 := Lib.hid (fun (W : World) (hw : Below wr.heap.size wr W) => HP.out b.leg hp.boxB W (ba_via hw hbwr))
      have HNN := Lib.hid (fun (p : Bool) (W : World) => HN.out (S.lessI a.size b.size) (lessI_size hp.sizeA hp.sizeB) p W)
      have HSQ := Lib.hid (fun (W : World) => rsquare_any a.leg b.leg W hp.boxA hp.boxB)
      unfold boxV at HSQ
      have hxa := boxOk_x hp.boxA
      have hxb := boxOk_x hp.boxB
      have hza := size_bd hp.sizeA
      have hzb := size_bd hp.sizeB
      have hro := hp.over
      have hFl : S.lapFind x.m x.rule a b = (if S.shortL x.m x.rule a b = true then [⟨1, a.mark⟩] else []) ++ (if S.farL a b = true then [⟨2, a.mark⟩] else []) := rfl
      have HSH := Lib.hid (show S.shortL x.m x.rule a b = decide (a.leg.hi.x - b.leg.lo.x < lLength x.rule (S.lessI a.size b.size) (S.poor x.m.boxes a.leg || S.poor x.m.boxes b.leg)) from rfl)
      rw [hFl] at HF
      clear hp hov hjr hFl
      generalize S.lapFinds x.m x.rule L (x.js.take k) = F at *
      generalize S.poor x.m.boxes a.leg = t1 at *
      generalize S.poor x.m.boxes b.leg = t2 at *
      generalize S.shortL x.m x.rule a b = ts at *
      go_upto_region 6 with fail
      have hJ6 := Blk.new wr 124 #[.int .i64 i1, .int .i64 i2]
      have hD6 := hDr.alloc (.cells #[.int .i64 i1, .int .i64 i2] 124)
      have hb6 : Below wr.heap.size wr (wr.alloc (.cells #[.int .i64 i1, .int .i64 i2] 124)) := ba_alloc (Below.refl _ _) _
      generalize (wr.alloc (.cells #[.int .i64 i1, .int .i64 i2] 124)) = W6 at *
      have HD6 := Lib.hid hD6
      have j0 := hJ6.cell 0
      have hjl6 := hJ6.lt
      simp only [List.getElem?_toArray, List.getElem?_cons_zero, List.getElem?_cons_succ] at j0
      clear hDr hD6 d8 c0 c1
      go_upto_region 7 with (first
        | (refine wpList_load_mid rfl 34 (.tmp 1) rfl _ _ rfl _ _ (HD6.out.via (by repeat (with_reducible first | exact Below.refl _ _ | assumption | refine ba_alloc ?_ _ | refine ba_drew ?_ | refine ba_drewN ?_ _ | refine ba_via (by assumption) ?_ | (refine ba_set ?_ ?_ _; rotate_left; (first | omega | (simp; omega) | simp))))).range Tryz.underlying34 rfl (by kernel_rfl) ?_)
        | (go_at_call 43; (with_reducible refine (HM1.out _ (by repeat (with_reducible first | exact Below.refl _ _ | assumption | refine ba_alloc ?_ _ | refine ba_drew ?_ | refine ba_drewN ?_ _ | refine ba_via (by assumption) ?_ | (refine ba_set ?_ ?_ _; rotate_left; (first | omega | (simp; omega) | simp))))).mono ?_); rintro e w1 ⟨rfl, hbw1⟩))
      have hb7 : Below W6.heap.size W6 (w1.alloc (.cells #[.int .i64 a.leg.lo.x, .int .i64 a.leg.lo.y, .int .i64 a.leg.lo.z, .int .i64 a.leg.hi.x, .int .i64 a.leg.hi.y, .int .i64 a.leg.hi.z] 89)) := ba_alloc hbw1 _
      have hB7 := Blk.new w1 89 #[.int .i64 a.leg.lo.x, .int .i64 a.leg.lo.y, .int .i64 a.leg.lo.z, .int .i64 a.leg.hi.x, .int .i64 a.leg.hi.y, .int .i64 a.leg.hi.z]
      have hg7 := hbw1.size
      generalize (w1.alloc (.cells #[.int .i64 a.leg.lo.x, .int .i64 a.leg.lo.y, .int .i64 a.leg.lo.z, .int .i64 a.leg.hi.x, .int .i64 a.leg.hi.y, .int .i64 a.leg.hi.z] 89)) = W7 at *
      generalize w1.heap.size = g6 at *
      have HD7 := Lib.hid (HD6.out.via hb7)
      have hJ7 := hJ6.via hb7
      have j1 := hJ7.cell 1
      have hjl7 := hJ7.lt
      simp only [List.getElem?_toArray, List.getElem?_cons_zero, List.getElem?_cons_succ] at j1
      clear hbw1 HD6 j0 hjl6
      clear w1
      go_upto_region 8 with (first
        | (refine wpList_load_mid rfl 34 (.tmp 1) rfl _ _ rfl _ _ (HD7.out.via (by repeat (with_reducible first | exact Below.refl _ _ | assumption | refine ba_alloc ?_ _ | refine ba_drew ?_ | refine ba_drewN ?_ _ | refine ba_via (by assumption) ?_ | (refine ba_set ?_ ?_ _; rotate_left; (first | omega | (simp; omega) | simp))))).range Tryz.underlying34 rfl (by kernel_rfl) ?_)
        | (go_at_call 43; (with_reducible refine (HM2.out _ (by repeat (with_reducible first | exact Below.refl _ _ | assumption | refine ba_alloc ?_ _ | refine ba_drew ?_ | refine ba_drewN ?_ _ | refine ba_via (by assumption) ?_ | (refine ba_set ?_ ?_ _; rotate_left; (first | omega | (simp; omega) | simp))))).mono ?_); rintro e w1 ⟨rfl, hbw1⟩))
      have hb8 : Below W7.heap.size W7 (w1.alloc (.cells #[.int .i64 b.leg.lo.x, .int .i64 b.leg.lo.y, .int .i64 b.leg.lo.z, .int .i64 b.leg.hi.x, .int .i64 b.leg.hi.y, .int .i64 b.leg.hi.z] 89)) := ba_alloc hbw1 _
      have hB8 := Blk.new w1 89 #[.int .i64 b.leg.lo.x, .int .i64 b.leg.lo.y, .int .i64 b.leg.lo.z, .int .i64 b.leg.hi.x, .int .i64 b.leg.hi.y, .int .i64 b.leg.hi.z]
      have hg8 := hbw1.size
      generalize (w1.alloc (.cells #[.int .i64 b.leg.lo.x, .int .i64 b.leg.lo.y, .int .i64 b.leg.lo.z, .int .i64 b.leg.hi.x, .int .i64 b.leg.hi.y, .int .i64 b.leg.hi.z] 89)) = W8 at *
      generalize w1.heap.size = g8 at *
      have HD8 := Lib.hid (HD7.out.via hb8)
      have hJ8 := hJ7.via hb8
      have hA8 := hB7.via hb8
      have j0 := hJ8.cell 0
      have j1' := hJ8.cell 1
      have hjl8 := hJ8.lt
      simp only [List.getElem?_toArray, List.getElem?_cons_zero, List.getElem?_cons_succ] at j0 j1'
      clear hbw1 HD7 j1 hjl7 HM1 HM2
      clear w1
      refine wp_region_mix 0 [3, 3] (by kernel_rfl) (by kernel_rfl) (of_decide_eq_true (by kernel_rfl)) ?_
      try simp only [wpSegs, List.take_succ_cons, List.take_zero, List.drop_succ_cons, List.drop_zero, List.take_nil, List.drop_nil]
      repeat (first | (refine quietLoad (by rfl) 34 (.tmp 1) rfl _ _ rfl _ _ (quietBy fun W hw => (HD8.out.via hw).range) Tryz.underlying34 rfl (by kernel_rfl) ?_; intro aQ hQ; simp only [go_sem, List.setIfInBounds_toArray, List.set_cons_succ, List.set_cons_zero] at hQ; subst hQ) | go_big_quiet_step (fail))
      refine wpQuiet_nil ?_
      show wpList _ _ _ _ _ _
      go_wp2_with ((go_at_call 47; (with_reducible refine (HS1.out _ (by repeat (with_reducible first | exact Below.refl _ _ | assumption | refine ba_alloc ?_ _ | refine ba_drew ?_ | refine ba_drewN ?_ _ | refine ba_via (by assumption) ?_ | (refine ba_set ?_ ?_ _; rotate_left; (first | omega | (simp; omega) | simp))))).mono ?_); rintro e w1 ⟨rfl, hbw1⟩))
      refine seg_next (grow_to (by repeat (with_reducible first | exact Below.refl _ _ | assumption | refine ba_alloc ?_ _ | refine ba_drew ?_ | refine ba_drewN ?_ _ | refine ba_via (by assumption) ?_ | (refine ba_set ?_ ?_ _; rotate_left; (first | omega | (simp; omega) | simp))))) ?_
      try simp only [wpSegs, List.take_succ_cons, List.take_zero, List.drop_succ_cons, List.drop_zero, List.take_nil, List.drop_nil]
      repeat (first | (refine quietLoad (by rfl) 34 (.tmp 1) rfl _ _ rfl _ _ (quietBy fun W hw => (HD8.out.via hw).range) Tryz.underlying34 rfl (by kernel_rfl) ?_; intro aQ hQ; simp only [go_sem, List.setIfInBounds_toArray, List.set_cons_succ, List.set_cons_zero] at hQ; subst hQ) | go_big_quiet_step (fail))
      refine wpQuiet_nil ?_
      show wpList _ _ _ _ _ _
      go_wp2_with ((go_at_call 47; (with_reducible refine (HS2.out _ (by repeat (with_reducible first | exact Below.refl _ _ | assumption | refine ba_alloc ?_ _ | refine ba_drew ?_ | refine ba_drewN ?_ _ | refine ba_via (by assumption) ?_ | (refine ba_set ?_ ?_ _; rotate_left; (first | omega | (simp; omega) | simp))))).mono ?_); rintro e w2 ⟨rfl, hbw2⟩))
      refine seg_next (grow_to (by repeat (with_reducible first | exact Below.refl _ _ | assumption | refine ba_alloc ?_ _ | refine ba_drew ?_ | refine ba_drewN ?_ _ | refine ba_via (by assumption) ?_ | (refine ba_set ?_ ?_ _; rotate_left; (first | omega | (simp; omega) | simp))))) ?_
      try simp only [wpSegs, List.take_succ_cons, List.take_zero, List.drop_succ_cons, List.drop_zero, List.take_nil, List.drop_nil]
      repeat (go_big_quiet_step (fail))
      refine wpQuiet_nil ?_
      show wpList _ _ _ _ _ _
      go_upto_region 9 with fail
      have hb9 : Below W8.heap.size W8 w2 := (by repeat (with_reducible first | exact Below.refl _ _ | assumption | refine ba_alloc ?_ _ | refine ba_drew ?_ | refine ba_drewN ?_ _ | refine ba_via (by assumption) ?_ | (refine ba_set ?_ ?_ _; rotate_left; (first | omega | (simp; omega) | simp))))
      have HD9 := Lib.hid (HD8.out.via hb9)
      have hJ9 := hJ8.via hb9
      have hA9 := hA8.via hb9
      have hB9 := hB8.via hb9
      clear HD8 hJ8 hA8 hB8 j0 j1' hjl8 HS1 HS2
      go_upto_region 10 with (first
        | (refine wpList_load_mid rfl 34 (.tmp 1) rfl _ _ rfl _ _ (HD9.out.via (by repeat (with_reducible first | exact Below.refl _ _ | assumption | refine ba_alloc ?_ _ | refine ba_drew ?_ | refine ba_drewN ?_ _ | refine ba_via (by assumption) ?_ | (refine ba_set ?_ ?_ _; rotate_left; (first | omega | (simp; omega) | simp))))).range Tryz.underlying34 rfl (by kernel_rfl) ?_)
        | (go_at_call 72; (with_reducible refine (HOV.out _ (by repeat (with_reducible first | exact Below.refl _ _ | assumption | refine ba_alloc ?_ _ | refine ba_drew ?_ | refine ba_drewN ?_ _ | refine ba_via (by assumption) ?_ | (refine ba_set ?_ ?_ _; rotate_left; (first | omega | (simp; omega) | simp))))).mono ?_); rintro e w3 ⟨rfl, hbw3⟩))
      have hb10 : Below W8.heap.size W8 (w3.alloc (.cells #[.int .i64 b.leg.lo.x, .int .i64 a.leg.hi.x] 45)) := (by repeat (with_reducible first | exact Below.refl _ _ | assumption | refine ba_alloc ?_ _ | refine ba_drew ?_ | refine ba_drewN ?_ _ | refine ba_via (by assumption) ?_ | (refine ba_set ?_ ?_ _; rotate_left; (first | omega | (simp; omega) | simp))))
      have hb10' : Below w2.heap.size w2 (w3.alloc (.cells #[.int .i64 b.leg.lo.x, .int .i64 a.leg.hi.x] 45)) := (by repeat (with_reducible first | exact Below.refl _ _ | assumption | refine ba_alloc ?_ _ | refine ba_drew ?_ | refine ba_drewN ?_ _ | refine ba_via (by assumption) ?_ | (refine ba_set ?_ ?_ _; rotate_left; (first | omega | (simp; omega) | simp))))
      have hS10 := Blk.new w3 45 #[.int .i64 b.leg.lo.x, .int .i64 a.leg.hi.x]
      generalize (w3.alloc (.cells #[.int .i64 b.leg.lo.x, .int .i64 a.leg.hi.x] 45)) = W10 at *
      generalize w3.heap.size = g10 at *
      have HD10 := Lib.hid (HD9.out.via hb10')
      have hJ10 := hJ9.via hb10'
      have HA10 := Lib.hid (hA9.via hb10')
      have HB10 := Lib.hid (hB9.via hb10')
      clear HD9 hJ9 hA9 hB9 hb9 hbw1 hbw2 hbw3 hb10' HOV
      clear w3 w2 w1
      go_cut [13] from 51 to 60 (fun s wx => s = .bool (t1 || t2) ∧ Below W10.heap.size W10 wx)
      case first =>
        cases t1
        all_goals (
          go_wp2_with (first
            | (refine wpList_load_mid rfl 26 (.tmp 51) rfl _ _ rfl _ _ (mem_range (HD10.out.via (by repeat (with_reducible first | exact Below.refl _ _ | assumption | refine ba_alloc ?_ _ | refine ba_drew ?_ | refine ba_drewN ?_ _ | refine ba_via (by assumption) ?_ | (refine ba_set ?_ ?_ _; rotate_left; (first | omega | (simp; omega) | simp)))))) Tryz.underlying26 rfl (by kernel_rfl) ?_)
            | (refine wpList_load_gdF (by rfl) 26 (.tmp 56) rfl _ _ rfl _ _ (mem_range (HD10.out.via (by repeat (with_reducible first | exact Below.refl _ _ | assumption | refine ba_alloc ?_ _ | refine ba_drew ?_ | refine ba_drewN ?_ _ | refine ba_via (by assumption) ?_ | (refine ba_set ?_ ?_ _; rotate_left; (first | omega | (simp; omega) | simp)))))) Tryz.underlying26 rfl (by kernel_rfl) ?_)
            | (refine wp_load_mid 26 (.tmp 56) rfl _ _ rfl _ _ (mem_range (HD10.out.via (by repeat (with_reducible first | exact Below.refl _ _ | assumption | refine ba_alloc ?_ _ | refine ba_drew ?_ | refine ba_drewN ?_ _ | refine ba_via (by assumption) ?_ | (refine ba_set ?_ ?_ _; rotate_left; (first | omega | (simp; omega) | simp)))))) Tryz.underlying26 rfl (by kernel_rfl) ?_)
            | (refine wpList_load_mid rfl 89 (.tmp 6) rfl _ _ rfl _ _ (HA10.out.via (by repeat (with_reducible first | exact Below.refl _ _ | assumption | refine ba_alloc ?_ _ | refine ba_drew ?_ | refine ba_drewN ?_ _ | refine ba_via (by assumption) ?_ | (refine ba_set ?_ ?_ _; rotate_left; (first | omega | (simp; omega) | simp))))).range Tryz.underlying89 rfl (by kernel_rfl) ?_)
            | (refine wpList_load_gdF (by rfl) 89 (.tmp 8) rfl _ _ rfl _ _ (HB10.out.via (by repeat (with_reducible first | exact Below.refl _ _ | assumption | refine ba_alloc ?_ _ | refine ba_drew ?_ | refine ba_drewN ?_ _ | refine ba_via (by assumption) ?_ | (refine ba_set ?_ ?_ _; rotate_left; (first | omega | (simp; omega) | simp))))).range Tryz.underlying89 rfl (by kernel_rfl) ?_)
            | (refine wp_load_mid 89 (.tmp 8) rfl _ _ rfl _ _ (HB10.out.via (by repeat (with_reducible first | exact Below.refl _ _ | assumption | refine ba_alloc ?_ _ | refine ba_drew ?_ | refine ba_drewN ?_ _ | refine ba_via (by assumption) ?_ | (refine ba_set ?_ ?_ _; rotate_left; (first | omega | (simp; omega) | simp))))).range Tryz.underlying89 rfl (by kernel_rfl) ?_)
            | (go_at_call 73; (with_reducible refine (HP1.out _ (by repeat (with_reducible first | exact Below.refl _ _ | assumption | refine ba_alloc ?_ _ | refine ba_drew ?_ | refine ba_drewN ?_ _ | refine ba_via (by assumption) ?_ | (refine ba_set ?_ ?_ _; rotate_left; (first | omega | (simp; omega) | simp))))).mono ?_); rintro e w1 ⟨rfl, hbw1⟩)
            | (go_at_call 73; (with_reducible refine (HP2.out _ (by repeat (with_reducible first | exact Below.refl _ _ | assumption | refine ba_alloc ?_ _ | refine ba_drew ?_ | refine ba_drewN ?_ _ | refine ba_via (by assumption) ?_ | (refine ba_set ?_ ?_ _; rotate_left; (first | omega | (simp; omega) | simp))))).mono ?_); rintro e w2 ⟨rfl, hbw2⟩))
          go_meet
          exact ⟨rfl, (by repeat (with_reducible first | exact Below.refl _ _ | assumption | refine ba_alloc ?_ _ | refine ba_drew ?_ | refine ba_drewN ?_ _ | refine ba_via (by assumption) ?_ | (refine ba_set ?_ ?_ _; rotate_left; (first | omega | (simp; omega) | simp))))⟩)
      case rest =>
        obtain ⟨rfl, hbc⟩ := hcut
        generalize wc = wv at *
        have hbcr : Below wr.heap.size wr wv := ba_via hbc (ba_via hb10 (ba_via hb8 (ba_via hb7 hb6)))
        have hS11 := hS10.via hbc
        have z0 := hS11.cell 0
        have z1 := hS11.cell 1
        have hSl := hS11.lt
        simp only [List.getElem?_toArray, List.getElem?_cons_zero, List.getElem?_cons_succ] at z0 z1
        have HDc := Lib.hid (HD10.out.via hbc)
        have HAc := Lib.hid (HA10.out.via hbc)
        have HBc := Lib.hid (HB10.out.via hbc)
        have hJc := hJ10.via hbc
        have j0 := hJc.cell 0
        have hjlc := hJc.lt
        simp only [List.getElem?_toArray, List.getElem?_cons_zero, List.getElem?_cons_succ] at j0
        have hRc := hR.via hbcr
        have hXc : Exc [] W1 wv := Exc.via hbcr hX
        have e1 : IntKind.i64.wrap (a.leg.hi.x - b.leg.lo.x) = a.leg.hi.x - b.leg.lo.x := IntWalk.i64_in _ (by omega)
        have hn6 : wr.heap.size ≤ g6 := by have := hb6.size; omega
        have hn8 : wr.heap.size ≤ g8 := by have := hb6.size; have := hb7.size; omega
        have hown : ∀ g', wr.heap.size ≤ g' → (Value.slice A3 F.length c3).ownBlock ≠ some g' := fun g' hg' he => by
          have := (hR.own.lt g' he).2
          omega
        clear hb6 hb7 hb8 hb10 hS10 hS11 HD10 HA10 HB10 hJ10 HP1 HP2 hbcr
        have HNc := Lib.hid (show Calls Tryz.prog 74 #[_, _, _] wv _ from HNN.out (t1 || t2) wv)
        obtain ⟨N, hN⟩ : ∃ N, N = lLength x.rule (S.lessI a.size b.size) (t1 || t2) := ⟨_, rfl⟩
        have HNN2 := Lib.hid (fun (W : World) => hN ▸ HNN.out (t1 || t2) W)
        rw [← hN] at HSH
        clear HNN HNc hN
        have hl : S.lessI a.size b.size = if b.size < a.size then b.size else a.size := rfl
        rw [hl] at HNN2
        clear hl
        generalize (t1 || t2) = t at *
        go_upto_region 11 with fail
        go_cut [73] from 61 to 73 (fun s wx => s = .bool ts ∧ Below wv.heap.size wv wx)
        case first =>
          by_cases hsl : b.size < a.size
          · rw [if_pos hsl] at HNN2
            refine wp_region_mix 0 [9, 1] (by kernel_rfl) (by kernel_rfl) (of_decide_eq_true (by kernel_rfl)) ?_
            try simp only [wpSegs, List.take_succ_cons, List.take_zero, List.drop_succ_cons, List.drop_zero, List.take_nil, List.drop_nil]
            repeat (first | (refine quietLoad (by rfl) 32 (.tmp 66) rfl _ _ rfl _ _ (quietBy fun W hw => rule_range (HDc.out.via hw)) Tryz.underlying32 rfl (by kernel_rfl) ?_; intro aQ hQ; simp only [go_sem, List.setIfInBounds_toArray, List.set_cons_succ, List.set_cons_zero] at hQ; subst hQ) | go_big_quiet_step (fail))
            refine wpQuiet_nil ?_
            show wpList _ _ _ _ _ _
            go_wp2_with (fail)
            refine seg_next (grow_to (by repeat (with_reducible first | exact Below.refl _ _ | assumption | refine ba_alloc ?_ _ | refine ba_drew ?_ | refine ba_drewN ?_ _ | refine ba_via (by assumption) ?_ | (refine ba_set ?_ ?_ _; rotate_left; (first | omega | (simp; omega) | simp))))) ?_
            try simp only [wpSegs, List.take_succ_cons, List.take_zero, List.drop_succ_cons, List.drop_zero, List.take_nil, List.drop_nil]
            repeat (go_big_quiet_step (fail))
            refine wpQuiet_nil ?_
            show wpList _ _ _ _ _ _
            go_wp2_with ((go_at_call 74; (with_reducible refine (HNN2.out _).mono ?_); rintro e w5 ⟨rfl, hbw5⟩))
            refine seg_next (grow_to (by repeat (with_reducible first | exact Below.refl _ _ | assumption | refine ba_alloc ?_ _ | refine ba_drew ?_ | refine ba_drewN ?_ _ | refine ba_via (by assumption) ?_ | (refine ba_set ?_ ?_ _; rotate_left; (first | omega | (simp; omega) | simp))))) ?_
            try simp only [wpSegs, List.take_succ_cons, List.take_zero, List.drop_succ_cons, List.drop_zero, List.take_nil, List.drop_nil]
            repeat (go_big_quiet_step (fail))
            refine wpQuiet_nil ?_
            show wpList _ _ _ _ _ _
            go_wp2
            go_meet
            exact ⟨by rw [HSH.out], (by repeat (with_reducible first | exact Below.refl _ _ | assumption | refine ba_alloc ?_ _ | refine ba_drew ?_ | refine ba_drewN ?_ _ | refine ba_via (by assumption) ?_ | (refine ba_set ?_ ?_ _; rotate_left; (first | omega | (simp; omega) | simp))))⟩
          · rw [if_neg hsl] at HNN2
            refine wp_region_mix 0 [9, 1] (by kernel_rfl) (by kernel_rfl) (of_decide_eq_true (by kernel_rfl)) ?_
            try simp only [wpSegs, List.take_succ_cons, List.take_zero, List.drop_succ_cons, List.drop_zero, List.take_nil, List.drop_nil]
            repeat (first | (refine quietLoad (by rfl) 32 (.tmp 66) rfl _ _ rfl _ _ (quietBy fun W hw => rule_range (HDc.out.via hw)) Tryz.underlying32 rfl (by kernel_rfl) ?_; intro aQ hQ; simp only [go_sem, List.setIfInBounds_toArray, List.set_cons_succ, List.set_cons_zero] at hQ; subst hQ) | go_big_quiet_step (fail))
            refine wpQuiet_nil ?_
            show wpList _ _ _ _ _ _
            go_wp2_with (fail)
            refine seg_next (grow_to (by repeat (with_reducible first | exact Below.refl _ _ | assumption | refine ba_alloc ?_ _ | refine ba_drew ?_ | refine ba_drewN ?_ _ | refine ba_via (by assumption) ?_ | (refine ba_set ?_ ?_ _; rotate_left; (first | omega | (simp; omega) | simp))))) ?_
            try simp only [wpSegs, List.take_succ_cons, List.take_zero, List.drop_succ_cons, List.drop_zero, List.take_nil, List.drop_nil]
            repeat (go_big_quiet_step (fail))
            refine wpQuiet_nil ?_
            show wpList _ _ _ _ _ _
            go_wp2_with ((go_at_call 74; (with_reducible refine (HNN2.out _).mono ?_); rintro e w5 ⟨rfl, hbw5⟩))
            refine seg_next (grow_to (by repeat (with_reducible first | exact Below.refl _ _ | assumption | refine ba_alloc ?_ _ | refine ba_drew ?_ | refine ba_drewN ?_ _ | refine ba_via (by assumption) ?_ | (refine ba_set ?_ ?_ _; rotate_left; (first | omega | (simp; omega) | simp))))) ?_
            try simp only [wpSegs, List.take_succ_cons, List.take_zero, List.drop_succ_cons, List.drop_zero, List.take_nil, List.drop_nil]
            repeat (go_big_quiet_step (fail))
            refine wpQuiet_nil ?_
            show wpList _ _ _ _ _ _
            go_wp2
            go_meet
            exact ⟨by rw [HSH.out], (by repeat (with_reducible first | exact Below.refl _ _ | assumption | refine ba_alloc ?_ _ | refine ba_drew ?_ | refine ba_drewN ?_ _ | refine ba_via (by assumption) ?_ | (refine ba_set ?_ ?_ _; rotate_left; (first | omega | (simp; omega) | simp))))⟩
        case rest =>
          obtain ⟨rfl, hbe⟩ := hcut
          generalize wc = wu at *
          have HDe := Lib.hid (HDc.out.via hbe)
          have HAe := Lib.hid (HAc.out.via hbe)
          have HBe := Lib.hid (HBc.out.via hbe)
          have hJe := hJc.via hbe
          have j0e := hJe.cell 0
          have hjle := hJe.lt
          simp only [List.getElem?_toArray, List.getElem?_cons_zero, List.getElem?_cons_succ] at j0e
          have hRe := hRc.via hbe
          have hXe : Exc [] W1 wu := Exc.via hbe hXc
          have hbu : Below w.heap.size w wu := ba_via (hXe.below (Nat.le_refl _) (by simp)) hW1
          have h1s := hW1.size
          clear hRc hXc hJc j0 hjlc z0 z1 hSl HDc HAc HBc HNN2 HSH hbc hbe
          obtain ⟨F1, hF1⟩ : ∃ F1, F1 = F ++ (if ts = true then [⟨1, a.mark⟩] else []) := ⟨_, rfl⟩
          have HF2 := Lib.hid (show S.lapFinds x.m x.rule L (x.js.take (k + 1)) = F1 ++ (if S.farL a b = true then [⟨2, a.mark⟩] else []) from by rw [HF.out, hF1, List.append_assoc])
          have hf1l : F1.length ≤ F.length + 1 := by
            rw [hF1, List.length_append]
            split <;> simp
          have HF1 := Lib.hid hF1
          clear hF1 HF
          go_upto_if 73 with fail
          go_cut [3] from 74 to 81 (fun s3 wx => ∃ (A5 : Option Addr) (c5 : Nat), s3 = .slice A5 F1.length c5 ∧ Row W1 wx none w.heap.size 42 2 (.slice A5 F1.length c5) F1.length (F1.flatMap fdC) ∧ Exc [] W1 wx ∧ Blk wx wr.heap.size 124 #[.int .i64 i1, .int .i64 i2] ∧ Blk wx g6 89 #[.int .i64 a.leg.lo.x, .int .i64 a.leg.lo.y, .int .i64 a.leg.lo.z, .int .i64 a.leg.hi.x, .int .i64 a.leg.hi.y, .int .i64 a.leg.hi.z] ∧ Blk wx g8 89 #[.int .i64 b.leg.lo.x, .int .i64 b.leg.lo.y, .int .i64 b.leg.lo.z, .int .i64 b.leg.hi.x, .int .i64 b.leg.hi.y, .int .i64 b.leg.hi.z])
          case first =>
            cases ts
            · have hF : F1 = F := by rw [HF1.out]; simp
              go_wp2
              go_meet
              rw [hF]
              exact ⟨A3, c3, rfl, hRe, hXe, hJe, HAe.out, HBe.out⟩
            · have hF : F1 = F ++ [⟨1, a.mark⟩] := by rw [HF1.out]; rfl
              have HF := Lib.hid hF
              clear hF
              go_wp2_with (first
                | (refine wpList_load_mid rfl 34 (.tmp 1) rfl _ _ rfl _ _ (HDe.out.via (by repeat (with_reducible first | exact Below.refl _ _ | assumption | refine ba_alloc ?_ _ | refine ba_drew ?_ | refine ba_drewN ?_ _ | refine ba_via (by assumption) ?_ | (refine ba_set ?_ ?_ _; rotate_left; (first | omega | (simp; omega) | simp))))).range Tryz.underlying34 rfl (by kernel_rfl) ?_)
                | (go_at_call 75; (with_reducible refine (HK1.out _ hbu).mono ?_); rintro e w6 ⟨rfl, hbw6⟩; have hR6 := hRe.via hbw6; have hX6 : Exc [] W1 w6 := Exc.via hbw6 hXe)
                | (at_builtin; refine wpList_push rfl (.tmp 74) (.tmp 80) _ rfl elemFd (hR6.alloc _) (hX6.alloc _) (by simp) h1s rfl w6.heap.size 1 1 [.int .i64 1, .string a.mark] rfl rfl ?_ (by simp [Value.oneCell']) (by unfold maxLen; omega) (by omega) ?_; (· intro j u hu; have := (Cells.newRow w6 #[.int .i64 1, .string a.mark] 42 (0, 0)).get (k := j) (v := u) hu; simpa using this); intro v' w' hR' hX' hO'))
              obtain ⟨A5, c5, rfl, _, _, _⟩ := own_form hR'.own (by unfold maxLen; omega)
              go_meet
              have hs6 := hbw6.size
              have hla := HAe.out.lt
              have hlb := HBe.out.lt
              refine ⟨A5, c5, by rw [HF.out]; simp, by rw [HF.out]; simpa using hR', hX', ?_, ?_, ?_⟩
              · exact (hO' wr.heap.size (by simp; omega) (hown _ (Nat.le_refl _))).trans ((hJe.via hbw6).alloc _)
              · exact (hO' g6 (by simp; omega) (hown _ hn6)).trans ((HAe.out.via hbw6).alloc _)
              · exact (hO' g8 (by simp; omega) (hown _ hn8)).trans ((HBe.out.via hbw6).alloc _)
          case rest =>
            obtain ⟨A5, c5, rfl, hR5, hX5, hJ5, hA5, hB5⟩ := hcut
            generalize wc = w5 at *
            have HD5 := Lib.hid (HDB.out.exc hX5 (by simp))
            have HA5 := Lib.hid hA5
            have HB5 := Lib.hid hB5
            have hb5 : Below w.heap.size w w5 := ba_via (hX5.below (Nat.le_refl _) (by simp)) hW1
            clear hRe hXe hJe j0e hjle HDe HAe HBe hbu hA5 hB5 HF1
            obtain ⟨D, hD⟩ : ∃ D, D = a.size + b.size + 50 := ⟨_, rfl⟩
            obtain ⟨DD, hDD⟩ : ∃ DD, DD = D * D := ⟨_, rfl⟩
            have hDD2 : DD ≤ 200 * 200 := by rw [hDD]; exact Int.mul_le_mul (by omega) (by omega) (by omega) (by omega)
            have hDD0 : 0 ≤ DD := by rw [hDD]; exact Int.mul_nonneg (by omega) (by omega)
            have e2 : IntKind.i64.wrap (a.size + b.size) = a.size + b.size := IntWalk.i64_in _ (by omega)
            have e3 : IntKind.i64.wrap (a.size + b.size + 50) = D := by rw [hD]; exact IntWalk.i64_in _ (by omega)
            have e4 : IntKind.i64.wrap (D * D) = DD := by rw [← hDD]; exact IntWalk.i64_in _ (by omega)
            have HFA := Lib.hid (show S.farL a b = decide (DD < S.square a.leg b.leg) from by rw [hDD, hD]; rfl)
            clear hD hDD hDD2 hDD0 hza hzb e1
            generalize S.square a.leg b.leg = sq at *
            by_cases hc2 : DD < sq
            · have HF3 := Lib.hid (show S.lapFinds x.m x.rule L (x.js.take (k + 1)) = F1 ++ [⟨2, a.mark⟩] from by rw [HF2.out, HFA.out, if_pos (by simpa using hc2)])
              clear HF2 HFA
              go_wp2_with (first
                | (refine wpList_load_mid rfl 89 (.tmp 6) rfl _ _ rfl _ _ (HA5.out.via (by repeat (with_reducible first | exact Below.refl _ _ | assumption | refine ba_alloc ?_ _ | refine ba_drew ?_ | refine ba_drewN ?_ _ | refine ba_via (by assumption) ?_ | (refine ba_set ?_ ?_ _; rotate_left; (first | omega | (simp; omega) | simp))))).range Tryz.underlying89 rfl (by kernel_rfl) ?_)
                | (refine wpList_load_mid rfl 89 (.tmp 8) rfl _ _ rfl _ _ (HB5.out.via (by repeat (with_reducible first | exact Below.refl _ _ | assumption | refine ba_alloc ?_ _ | refine ba_drew ?_ | refine ba_drewN ?_ _ | refine ba_via (by assumption) ?_ | (refine ba_set ?_ ?_ _; rotate_left; (first | omega | (simp; omega) | simp))))).range Tryz.underlying89 rfl (by kernel_rfl) ?_)
                | (refine wpList_load_mid rfl 34 (.tmp 1) rfl _ _ rfl _ _ (HD5.out.via (by repeat (with_reducible first | exact Below.refl _ _ | assumption | refine ba_alloc ?_ _ | refine ba_drew ?_ | refine ba_drewN ?_ _ | refine ba_via (by assumption) ?_ | (refine ba_set ?_ ?_ _; rotate_left; (first | omega | (simp; omega) | simp))))).range Tryz.underlying34 rfl (by kernel_rfl) ?_)
                | (go_at_call 76; (with_reducible refine (HSQ.out _).mono ?_); rintro e w9 ⟨rfl, hbw9⟩; have hJ9 := hJ5.via hbw9; have j9 := hJ9.cell 0; have lt9 := hJ9.lt; simp only [List.getElem?_toArray, List.getElem?_cons_zero, List.getElem?_cons_succ] at j9)
                | (go_at_call 75; (with_reducible refine (HK1.out _ (ba_via hbw9 hb5)).mono ?_); rintro e w6 ⟨rfl, hbw6⟩; have hR6 := (hR5.via hbw9).via hbw6; have hX6 : Exc [] W1 w6 := Exc.via hbw6 (Exc.via hbw9 hX5))
                | (at_builtin; refine wpList_push rfl (.tmp 95) (.tmp 101) _ rfl elemFd (hR6.alloc _) (hX6.alloc _) (by simp) h1s rfl w6.heap.size 1 1 [.int .i64 2, .string a.mark] rfl rfl ?_ (by simp [Value.oneCell']) (by unfold maxLen; omega) (by omega) ?_; (· intro j u hu; have := (Cells.newRow w6 #[.int .i64 2, .string a.mark] 42 (0, 0)).get (k := j) (v := u) hu; simpa using this); intro v' w' hR' hX' hO'))
              obtain ⟨A6, c6, rfl, _, _, _⟩ := own_form hR'.own (by unfold maxLen; omega)
              go_roundw
              case rel =>
                refine ⟨k + 1, A6, c6, by omega, by go_num, ?_, ?_, hX'⟩
                · rw [HF3.out]; simp
                · rw [HF3.out]; simpa using hR'
              case measure => simp [intOf]; omega
            · have HF3 := Lib.hid (show S.lapFinds x.m x.rule L (x.js.take (k + 1)) = F1 from by rw [HF2.out, HFA.out, if_neg (by simpa using hc2)]; simp)
              clear HF2 HFA
              go_wp2_with (first
                | (refine wpList_load_mid rfl 89 (.tmp 6) rfl _ _ rfl _ _ (HA5.out.via (by repeat (with_reducible first | exact Below.refl _ _ | assumption | refine ba_alloc ?_ _ | refine ba_drew ?_ | refine ba_drewN ?_ _ | refine ba_via (by assumption) ?_ | (refine ba_set ?_ ?_ _; rotate_left; (first | omega | (simp; omega) | simp))))).range Tryz.underlying89 rfl (by kernel_rfl) ?_)
                | (refine wpList_load_mid rfl 89 (.tmp 8) rfl _ _ rfl _ _ (HB5.out.via (by repeat (with_reducible first | exact Below.refl _ _ | assumption | refine ba_alloc ?_ _ | refine ba_drew ?_ | refine ba_drewN ?_ _ | refine ba_via (by assumption) ?_ | (refine ba_set ?_ ?_ _; rotate_left; (first | omega | (simp; omega) | simp))))).range Tryz.underlying89 rfl (by kernel_rfl) ?_)
                | (go_at_call 76; (with_reducible refine (HSQ.out _).mono ?_); rintro e w9 ⟨rfl, hbw9⟩))
              go_roundw
              case rel =>
                refine ⟨k + 1, A5, c5, by omega, by go_num, ?_, ?_, Exc.via hbw9 hX5⟩
                · rw [HF3.out]
                · rw [HF3.out]; exact hR5.via hbw9
              case measure => simp [intOf]; omega
    · obtain rfl : k = x.jn := by omega
      have ht : x.js.take x.jn = x.js := List.take_of_length_le (by omega)
      rw [ht] at hR ⊢
      clear hDr
      go_wp2
      go_ret
      exact ⟨A3, c3, rfl, hR.own, hbwr⟩
end Go.Proofs.YtffkmgjmlahfpaaGreat
set_option linter.unusedVariables false
set_option linter.unusedSimpArgs false
namespace Go.Proofs.YtffkmgjmlahfpaaGreat
open Go.RowKit
set_option maxRecDepth 20000 in
set_option maxHeartbeats 8000000 in
theorem checks_big (x : Dt) (at_ : Int) (w : World)
    (hSM : ∀ W, Below w.heap.size w W → Calls Tryz.prog 13 #[dtV x] W fun e w' => e = .returned (.bool false) ∧ Below W.heap.size W w') :
    Calls Tryz.prog 4 #[dtV x, .int .i64 at_] w fun e w' => e = .returned (.bool true) ∧ Below w.heap.size w w' := by
  have HA := Lib.hid (fun w => awake_any w)
  have HSM := Lib.hid hSM
  clear hSM
  unfold dtV at HSM
  unfold dtV
  have hDB := Blk.new w 34 #[.string x.m.name, .slice x.mA x.mn x.mc, .slice x.hA x.hn x.hc, .int .i64 x.m.cover, .int .i64 x.m.aggr, .int .i64 x.m.poker, .slice x.bA x.bn x.bc, .slice x.rA x.rn x.rc, .slice x.jA x.jn x.jc, .slice x.dA x.dn x.dc, .int .i64 x.rule.num, .int .i64 x.rule.den, .int .i64 x.rule.pnum, .int .i64 x.rule.pden, .int .i64 x.rule.bnum, .int .i64 x.rule.bden, .int .i64 x.rule.lnum, .int .i64 x.rule.lden, .int .i64 x.rule.least]
  have hW1 : Below w.heap.size w (w.alloc (.cells #[.string x.m.name, .slice x.mA x.mn x.mc, .slice x.hA x.hn x.hc, .int .i64 x.m.cover, .int .i64 x.m.aggr, .int .i64 x.m.poker, .slice x.bA x.bn x.bc, .slice x.rA x.rn x.rc, .slice x.jA x.jn x.jc, .slice x.dA x.dn x.dc, .int .i64 x.rule.num, .int .i64 x.rule.den, .int .i64 x.rule.pnum, .int .i64 x.rule.pden, .int .i64 x.rule.bnum, .int .i64 x.rule.bden, .int .i64 x.rule.lnum, .int .i64 x.rule.lden, .int .i64 x.rule.least] 34)) := ba_alloc (Below.refl _ _) _
  go_enter Tryz.func4, Tryz.ntmps4
  go_upto_region 1 with fail
  generalize (w.alloc (.cells #[.string x.m.name, .slice x.mA x.mn x.mc, .slice x.hA x.hn x.hc, .int .i64 x.m.cover, .int .i64 x.m.aggr, .int .i64 x.m.poker, .slice x.bA x.bn x.bc, .slice x.rA x.rn x.rc, .slice x.jA x.jn x.jc, .slice x.dA x.dn x.dc, .int .i64 x.rule.num, .int .i64 x.rule.den, .int .i64 x.rule.pnum, .int .i64 x.rule.pden, .int .i64 x.rule.bnum, .int .i64 x.rule.bden, .int .i64 x.rule.lnum, .int .i64 x.rule.lden, .int .i64 x.rule.least] 34)) = W1 at *
  have HDB := Lib.hid hDB
  have HSM1 := Lib.hid (fun (W : World) (hw : Below W1.heap.size W1 W) => HSM.out W (ba_via hw hW1))
  clear hDB HSM
  go_wp2_with (first
    | (go_at_call 12; (with_reducible refine (HA.out _).mono ?_); rintro e wa ⟨rfl, hbwa⟩)
    | (refine wpList_load_mid rfl 34 (.tmp 2) rfl _ _ rfl _ _ (HDB.out.via (by repeat (with_reducible first | exact Below.refl _ _ | assumption | refine ba_alloc ?_ _ | refine ba_drew ?_ | refine ba_drewN ?_ _ | refine ba_via (by assumption) ?_ | (refine ba_set ?_ ?_ _; rotate_left; (first | omega | (simp; omega) | simp))))).range Tryz.underlying34 rfl (by kernel_rfl) ?_)
    | (go_at_call 13; (with_reducible refine (HSM1.out _ (by repeat (with_reducible first | exact Below.refl _ _ | assumption | refine ba_alloc ?_ _ | refine ba_drew ?_ | refine ba_drewN ?_ _ | refine ba_via (by assumption) ?_ | (refine ba_set ?_ ?_ _; rotate_left; (first | omega | (simp; omega) | simp))))).mono ?_); rintro e wb ⟨rfl, hbwb⟩))
  go_ret
  exact ⟨rfl, ba_via (by repeat (with_reducible first | exact Below.refl _ _ | assumption | refine ba_alloc ?_ _ | refine ba_drew ?_ | refine ba_drewN ?_ _ | refine ba_via (by assumption) ?_ | (refine ba_set ?_ ?_ _; rotate_left; (first | omega | (simp; omega) | simp)))) hW1⟩
set_option maxRecDepth 20000 in
set_option maxHeartbeats 8000000 in
theorem checks_bad (x : Dt) (at_ : Int) (w : World)
    (hSM : ∀ W, Below w.heap.size w W → Calls Tryz.prog 13 #[dtV x] W fun e w' => e = .returned (.bool true) ∧ Below W.heap.size W w')
    (hLK : ∀ W, Below w.heap.size w W → Calls Tryz.prog 14 #[dtV x] W fun e w' => e = .returned (.bool false) ∧ Below W.heap.size W w')
    (hCK : ∀ W, Below w.heap.size w W → Calls Tryz.prog 15 #[dtV x] W fun e w' => e = .returned (.tuple #[.slice none 0 0, .int .i64 1]) ∧ Below W.heap.size W w')
    (hCH : ∀ W, Below w.heap.size w W → Calls Tryz.prog 18 #[dtV x] W fun e w' => e = .returned (.tuple #[.slice none 0 0, .int .i64 1]) ∧ Below W.heap.size W w')
    (hSH : ∀ W, Below w.heap.size w W → Calls Tryz.prog 19 #[dtV x, .int .i64 at_] W fun e w' => e = .returned (.tuple #[.agg #[.int .i64 0, .int .i64 0], .int .i64 1]) ∧ Below W.heap.size W w') :
    Calls Tryz.prog 4 #[dtV x, .int .i64 at_] w fun e w' => e = .returned (.bool true) ∧ Below w.heap.size w w' := by
  have HA := Lib.hid (fun w => awake_any w)
  have HSM := Lib.hid hSM
  have HLK := Lib.hid hLK
  have HCK := Lib.hid hCK
  have HCH := Lib.hid hCH
  have HSH := Lib.hid hSH
  clear hSM hLK hCK hCH hSH
  unfold dtV at HSM HLK HCK HCH HSH
  unfold dtV
  have hDB := Blk.new w 34 #[.string x.m.name, .slice x.mA x.mn x.mc, .slice x.hA x.hn x.hc, .int .i64 x.m.cover, .int .i64 x.m.aggr, .int .i64 x.m.poker, .slice x.bA x.bn x.bc, .slice x.rA x.rn x.rc, .slice x.jA x.jn x.jc, .slice x.dA x.dn x.dc, .int .i64 x.rule.num, .int .i64 x.rule.den, .int .i64 x.rule.pnum, .int .i64 x.rule.pden, .int .i64 x.rule.bnum, .int .i64 x.rule.bden, .int .i64 x.rule.lnum, .int .i64 x.rule.lden, .int .i64 x.rule.least]
  have hW1 : Below w.heap.size w (w.alloc (.cells #[.string x.m.name, .slice x.mA x.mn x.mc, .slice x.hA x.hn x.hc, .int .i64 x.m.cover, .int .i64 x.m.aggr, .int .i64 x.m.poker, .slice x.bA x.bn x.bc, .slice x.rA x.rn x.rc, .slice x.jA x.jn x.jc, .slice x.dA x.dn x.dc, .int .i64 x.rule.num, .int .i64 x.rule.den, .int .i64 x.rule.pnum, .int .i64 x.rule.pden, .int .i64 x.rule.bnum, .int .i64 x.rule.bden, .int .i64 x.rule.lnum, .int .i64 x.rule.lden, .int .i64 x.rule.least] 34)) := ba_alloc (Below.refl _ _) _
  go_enter Tryz.func4, Tryz.ntmps4
  go_upto_region 1 with fail
  generalize (w.alloc (.cells #[.string x.m.name, .slice x.mA x.mn x.mc, .slice x.hA x.hn x.hc, .int .i64 x.m.cover, .int .i64 x.m.aggr, .int .i64 x.m.poker, .slice x.bA x.bn x.bc, .slice x.rA x.rn x.rc, .slice x.jA x.jn x.jc, .slice x.dA x.dn x.dc, .int .i64 x.rule.num, .int .i64 x.rule.den, .int .i64 x.rule.pnum, .int .i64 x.rule.pden, .int .i64 x.rule.bnum, .int .i64 x.rule.bden, .int .i64 x.rule.lnum, .int .i64 x.rule.lden, .int .i64 x.rule.least] 34)) = W1 at *
  have HDB := Lib.hid hDB
  have HSM1 := Lib.hid (fun (W : World) (hw : Below W1.heap.size W1 W) => HSM.out W (ba_via hw hW1))
  have HLK1 := Lib.hid (fun (W : World) (hw : Below W1.heap.size W1 W) => HLK.out W (ba_via hw hW1))
  have HCK1 := Lib.hid (fun (W : World) (hw : Below W1.heap.size W1 W) => HCK.out W (ba_via hw hW1))
  have HCH1 := Lib.hid (fun (W : World) (hw : Below W1.heap.size W1 W) => HCH.out W (ba_via hw hW1))
  have HSH1 := Lib.hid (fun (W : World) (hw : Below W1.heap.size W1 W) => HSH.out W (ba_via hw hW1))
  clear hDB HSM HLK HCK HCH HSH
  go_upto_region 8 with (first
    | (go_at_call 12; (with_reducible refine (HA.out _).mono ?_); rintro e wa ⟨rfl, hbwa⟩)
    | (refine wpList_load_mid rfl 34 (.tmp 2) rfl _ _ rfl _ _ (HDB.out.via (by repeat (with_reducible first | exact Below.refl _ _ | assumption | refine ba_alloc ?_ _ | refine ba_drew ?_ | refine ba_drewN ?_ _ | refine ba_via (by assumption) ?_ | (refine ba_set ?_ ?_ _; rotate_left; (first | omega | (simp; omega) | simp))))).range Tryz.underlying34 rfl (by kernel_rfl) ?_)
    | (go_at_call 13; (with_reducible refine (HSM1.out _ (by repeat (with_reducible first | exact Below.refl _ _ | assumption | refine ba_alloc ?_ _ | refine ba_drew ?_ | refine ba_drewN ?_ _ | refine ba_via (by assumption) ?_ | (refine ba_set ?_ ?_ _; rotate_left; (first | omega | (simp; omega) | simp))))).mono ?_); rintro e wb ⟨rfl, hbwb⟩)
    | (go_at_call 15; (with_reducible refine (HCK1.out _ (by repeat (with_reducible first | exact Below.refl _ _ | assumption | refine ba_alloc ?_ _ | refine ba_drew ?_ | refine ba_drewN ?_ _ | refine ba_via (by assumption) ?_ | (refine ba_set ?_ ?_ _; rotate_left; (first | omega | (simp; omega) | simp))))).mono ?_); rintro e wc ⟨rfl, hbwc⟩)
    | (go_at_call 18; (with_reducible refine (HCH1.out _ (by repeat (with_reducible first | exact Below.refl _ _ | assumption | refine ba_alloc ?_ _ | refine ba_drew ?_ | refine ba_drewN ?_ _ | refine ba_via (by assumption) ?_ | (refine ba_set ?_ ?_ _; rotate_left; (first | omega | (simp; omega) | simp))))).mono ?_); rintro e wd ⟨rfl, hbwd⟩)
    | (go_at_call 19; (with_reducible refine (HSH1.out _ (by repeat (with_reducible first | exact Below.refl _ _ | assumption | refine ba_alloc ?_ _ | refine ba_drew ?_ | refine ba_drewN ?_ _ | refine ba_via (by assumption) ?_ | (refine ba_set ?_ ?_ _; rotate_left; (first | omega | (simp; omega) | simp))))).mono ?_); rintro e we ⟨rfl, hbwe⟩))
  have hb8 : Below W1.heap.size W1 (we.alloc (.cells #[.int .i64 0, .int .i64 0] 52)) := (by repeat (with_reducible first | exact Below.refl _ _ | assumption | refine ba_alloc ?_ _ | refine ba_drew ?_ | refine ba_drewN ?_ _ | refine ba_via (by assumption) ?_ | (refine ba_set ?_ ?_ _; rotate_left; (first | omega | (simp; omega) | simp))))
  have hB8 := Blk.new we 52 #[.int .i64 0, .int .i64 0]
  generalize (we.alloc (.cells #[.int .i64 0, .int .i64 0] 52)) = W8 at *
  generalize we.heap.size = g8 at *
  have HB8 := Lib.hid hB8
  clear hbwa hbwb hbwc hbwd hbwe hB8
  clear wa wb wc wd we
  go_wp2_with (first
    | (refine wpList_load_mid rfl 34 (.tmp 2) rfl _ _ rfl _ _ (HDB.out.via (by repeat (with_reducible first | exact Below.refl _ _ | assumption | refine ba_alloc ?_ _ | refine ba_drew ?_ | refine ba_drewN ?_ _ | refine ba_via (by assumption) ?_ | (refine ba_set ?_ ?_ _; rotate_left; (first | omega | (simp; omega) | simp))))).range Tryz.underlying34 rfl (by kernel_rfl) ?_)
    | (go_at_call 14; (with_reducible refine (HLK1.out _ (by repeat (with_reducible first | exact Below.refl _ _ | assumption | refine ba_alloc ?_ _ | refine ba_drew ?_ | refine ba_drewN ?_ _ | refine ba_via (by assumption) ?_ | (refine ba_set ?_ ?_ _; rotate_left; (first | omega | (simp; omega) | simp))))).mono ?_); rintro e wf ⟨rfl, hbwf⟩; have hB9 := HB8.out.via hbwf; have z0 := hB9.cell 0; have z1 := hB9.cell 1; have ltR := hB9.lt; simp only [List.getElem?_toArray, List.getElem?_cons_zero, List.getElem?_cons_succ] at z0 z1))
  go_ret
  exact ⟨rfl, ba_via (by repeat (with_reducible first | exact Below.refl _ _ | assumption | refine ba_alloc ?_ _ | refine ba_drew ?_ | refine ba_drewN ?_ _ | refine ba_via (by assumption) ?_ | (refine ba_set ?_ ?_ _; rotate_left; (first | omega | (simp; omega) | simp)))) hW1⟩
set_option maxRecDepth 20000 in
set_option maxHeartbeats 8000000 in
theorem checks_good (x : Dt) (at_ : Int) (F : List Fd) (C : List (List Int)) (n all : Nat) (v0 v1 er : Int) (w : World) (hF2 : F.length ≤ 2000) (hI : ChsIn 2000 C) (hsr : ShareR (S.place at_) n all v0 v1 er) (hn : n ≤ 2000) (hall : all ≤ 2000)
    (hSM : ∀ W, Below w.heap.size w W → Calls Tryz.prog 13 #[dtV x] W fun e w' => e = .returned (.bool true) ∧ Below W.heap.size W w')
    (hLK : ∀ W, Below w.heap.size w W → Calls Tryz.prog 14 #[dtV x] W fun e w' => e = .returned (.bool true) ∧ Below W.heap.size W w')
    (hCK : ∀ W, Below w.heap.size w W → Calls Tryz.prog 15 #[dtV x] W (GivesRow 42 2 F.length (F.flatMap fdC) 0 W))
    (hCH : ∀ W, Below w.heap.size w W → Calls Tryz.prog 18 #[dtV x] W (GivesChE C W))
    (hSH : ∀ W, Below w.heap.size w W → Calls Tryz.prog 19 #[dtV x, .int .i64 at_] W fun e w' => e = .returned (.tuple #[.agg #[.int .i64 v0, .int .i64 v1], .int .i64 er]) ∧ Below W.heap.size W w')
    (hRK : ∀ W, Below w.heap.size w W → Calls Tryz.prog 21 #[dtV x] W (GivesOne 42 2 F.length (F.flatMap fdC) W))
    (hRH : ∀ W, Below w.heap.size w W → Calls Tryz.prog 23 #[dtV x] W (GivesChs C W))
    (hRO : ∀ W, Below w.heap.size w W → Calls Tryz.prog 26 #[dtV x, .int .i64 at_] W fun e w' => e = .returned (.tuple #[.int .i64 n, .int .i64 all]) ∧ Below W.heap.size W w') :
    Calls Tryz.prog 4 #[dtV x, .int .i64 at_] w fun e w' => e = .returned (.bool true) ∧ Below w.heap.size w w' := by
  have HA := Lib.hid (fun w => awake_any w)
  have hcs : ((S.place at_ = false ∧ v0 = 0 ∧ v1 = 0 ∧ er = 2) ∨ (S.place at_ = true ∧ all = 0 ∧ v0 = 0 ∧ v1 = 0 ∧ er = 16) ∨ (S.place at_ = true ∧ 1 ≤ all ∧ v0 = (n : Int) / gcdI n all ∧ v1 = (all : Int) / gcdI n all ∧ er = 0)) := by
    cases hp : S.place at_
    · obtain ⟨h1, h2, h3⟩ := hsr.no hp
      exact .inl ⟨rfl, h1, h2, h3⟩
    · by_cases h0 : all = 0
      · obtain ⟨h1, h2, h3⟩ := hsr.none hp h0
        exact .inr (.inl ⟨rfl, h0, h1, h2, h3⟩)
      · obtain ⟨h1, h2, h3⟩ := hsr.some hp h0
        exact .inr (.inr ⟨rfl, by omega, h1, h2, h3⟩)
  have HSM := Lib.hid hSM
  have HLK := Lib.hid hLK
  have HCK := Lib.hid hCK
  have HCH := Lib.hid hCH
  have HSH := Lib.hid hSH
  have HRK := Lib.hid hRK
  have HRH := Lib.hid hRH
  have HRO := Lib.hid hRO
  have HIL := Lib.hid (fun w => show Calls Tryz.prog 25 #[.int .i64 at_] w fun e w' => e = .returned (.bool (S.place at_)) ∧ w = w' from islen_any at_ w)
  have HI := Lib.hid hI
  have HMK := Lib.hid (fun (h : 1 ≤ all) w => rmake_any (n : Int) (all : Int) w (by omega) (by omega) (by omega) (by omega))
  clear hSM hLK hCK hCH hSH hRK hRH hRO hsr hI
  unfold dtV at HSM HLK HCK HCH HSH HRK HRH HRO
  unfold dtV
  generalize S.place at_ = pl at *
  have hDB := Blk.new w 34 #[.string x.m.name, .slice x.mA x.mn x.mc, .slice x.hA x.hn x.hc, .int .i64 x.m.cover, .int .i64 x.m.aggr, .int .i64 x.m.poker, .slice x.bA x.bn x.bc, .slice x.rA x.rn x.rc, .slice x.jA x.jn x.jc, .slice x.dA x.dn x.dc, .int .i64 x.rule.num, .int .i64 x.rule.den, .int .i64 x.rule.pnum, .int .i64 x.rule.pden, .int .i64 x.rule.bnum, .int .i64 x.rule.bden, .int .i64 x.rule.lnum, .int .i64 x.rule.lden, .int .i64 x.rule.least]
  have hW1 : Below w.heap.size w (w.alloc (.cells #[.string x.m.name, .slice x.mA x.mn x.mc, .slice x.hA x.hn x.hc, .int .i64 x.m.cover, .int .i64 x.m.aggr, .int .i64 x.m.poker, .slice x.bA x.bn x.bc, .slice x.rA x.rn x.rc, .slice x.jA x.jn x.jc, .slice x.dA x.dn x.dc, .int .i64 x.rule.num, .int .i64 x.rule.den, .int .i64 x.rule.pnum, .int .i64 x.rule.pden, .int .i64 x.rule.bnum, .int .i64 x.rule.bden, .int .i64 x.rule.lnum, .int .i64 x.rule.lden, .int .i64 x.rule.least] 34)) := ba_alloc (Below.refl _ _) _
  go_enter Tryz.func4, Tryz.ntmps4
  go_upto_region 1 with fail
  generalize (w.alloc (.cells #[.string x.m.name, .slice x.mA x.mn x.mc, .slice x.hA x.hn x.hc, .int .i64 x.m.cover, .int .i64 x.m.aggr, .int .i64 x.m.poker, .slice x.bA x.bn x.bc, .slice x.rA x.rn x.rc, .slice x.jA x.jn x.jc, .slice x.dA x.dn x.dc, .int .i64 x.rule.num, .int .i64 x.rule.den, .int .i64 x.rule.pnum, .int .i64 x.rule.pden, .int .i64 x.rule.bnum, .int .i64 x.rule.bden, .int .i64 x.rule.lnum, .int .i64 x.rule.lden, .int .i64 x.rule.least] 34)) = W1 at *
  have HDB := Lib.hid hDB
  have HSM1 := Lib.hid (fun (W : World) (hw : Below W1.heap.size W1 W) => HSM.out W (ba_via hw hW1))
  have HLK1 := Lib.hid (fun (W : World) (hw : Below W1.heap.size W1 W) => HLK.out W (ba_via hw hW1))
  have HCK1 := Lib.hid (fun (W : World) (hw : Below W1.heap.size W1 W) => HCK.out W (ba_via hw hW1))
  have HCH1 := Lib.hid (fun (W : World) (hw : Below W1.heap.size W1 W) => HCH.out W (ba_via hw hW1))
  have HSH1 := Lib.hid (fun (W : World) (hw : Below W1.heap.size W1 W) => HSH.out W (ba_via hw hW1))
  have HRK1 := Lib.hid (fun (W : World) (hw : Below W1.heap.size W1 W) => HRK.out W (ba_via hw hW1))
  have HRH1 := Lib.hid (fun (W : World) (hw : Below W1.heap.size W1 W) => HRH.out W (ba_via hw hW1))
  have HRO1 := Lib.hid (fun (W : World) (hw : Below W1.heap.size W1 W) => HRO.out W (ba_via hw hW1))
  clear hDB HSM HLK HCK HCH HSH HRK HRH HRO
  go_upto_region 8 with (first
    | (go_at_call 12; (with_reducible refine (HA.out _).mono ?_); rintro e wa ⟨rfl, hbwa⟩)
    | (refine wpList_load_mid rfl 34 (.tmp 2) rfl _ _ rfl _ _ (HDB.out.via (by repeat (with_reducible first | exact Below.refl _ _ | assumption | refine ba_alloc ?_ _ | refine ba_drew ?_ | refine ba_drewN ?_ _ | refine ba_via (by assumption) ?_ | (refine ba_set ?_ ?_ _; rotate_left; (first | omega | (simp; omega) | simp))))).range Tryz.underlying34 rfl (by kernel_rfl) ?_)
    | (go_at_call 13; (with_reducible refine (HSM1.out _ (by repeat (with_reducible first | exact Below.refl _ _ | assumption | refine ba_alloc ?_ _ | refine ba_drew ?_ | refine ba_drewN ?_ _ | refine ba_via (by assumption) ?_ | (refine ba_set ?_ ?_ _; rotate_left; (first | omega | (simp; omega) | simp))))).mono ?_); rintro e wb ⟨rfl, hbwb⟩)
    | (go_at_call 15; (with_reducible refine (HCK1.out _ (by repeat (with_reducible first | exact Below.refl _ _ | assumption | refine ba_alloc ?_ _ | refine ba_drew ?_ | refine ba_drewN ?_ _ | refine ba_via (by assumption) ?_ | (refine ba_set ?_ ?_ _; rotate_left; (first | omega | (simp; omega) | simp))))).mono ?_); rintro e wc ⟨AF, cF, rfl, hoF, hbwc⟩)
    | (go_at_call 18; (with_reducible refine (HCH1.out _ (by repeat (with_reducible first | exact Below.refl _ _ | assumption | refine ba_alloc ?_ _ | refine ba_drew ?_ | refine ba_drewN ?_ _ | refine ba_via (by assumption) ?_ | (refine ba_set ?_ ?_ _; rotate_left; (first | omega | (simp; omega) | simp))))).mono ?_); rintro e wd ⟨A2, c2, rs, rfl, hrs, hrc, hcc, hce, hbwd⟩)
    | (go_at_call 19; (with_reducible refine (HSH1.out _ (by repeat (with_reducible first | exact Below.refl _ _ | assumption | refine ba_alloc ?_ _ | refine ba_drew ?_ | refine ba_drewN ?_ _ | refine ba_via (by assumption) ?_ | (refine ba_set ?_ ?_ _; rotate_left; (first | omega | (simp; omega) | simp))))).mono ?_); rintro e we ⟨rfl, hbwe⟩))
  have hbF8 : Below wc.heap.size wc (we.alloc (.cells #[.int .i64 v0, .int .i64 v1] 52)) := (by repeat (with_reducible first | exact Below.refl _ _ | assumption | refine ba_alloc ?_ _ | refine ba_drew ?_ | refine ba_drewN ?_ _ | refine ba_via (by assumption) ?_ | (refine ba_set ?_ ?_ _; rotate_left; (first | omega | (simp; omega) | simp))))
  have hbC8 : Below wd.heap.size wd (we.alloc (.cells #[.int .i64 v0, .int .i64 v1] 52)) := (by repeat (with_reducible first | exact Below.refl _ _ | assumption | refine ba_alloc ?_ _ | refine ba_drew ?_ | refine ba_drewN ?_ _ | refine ba_via (by assumption) ?_ | (refine ba_set ?_ ?_ _; rotate_left; (first | omega | (simp; omega) | simp))))
  have hb8 : Below W1.heap.size W1 (we.alloc (.cells #[.int .i64 v0, .int .i64 v1] 52)) := (by repeat (with_reducible first | exact Below.refl _ _ | assumption | refine ba_alloc ?_ _ | refine ba_drew ?_ | refine ba_drewN ?_ _ | refine ba_via (by assumption) ?_ | (refine ba_set ?_ ?_ _; rotate_left; (first | omega | (simp; omega) | simp))))
  have hB8 := Blk.new we 52 #[.int .i64 v0, .int .i64 v1]
  have hF8 := ((own_cells hoF (by unfold maxLen; omega)).1.below hbF8).mono hbF8.size
  have hC8 := (hcc.below hbC8).mono hbC8.size
  have HE8 := Lib.hid (fun r (hr : r ∈ rs) => (((hce r hr).1.below hbC8).mono hbC8.size))
  have hrl : rs.length ≤ 2000 := by
    have h1 := HI.out.len
    rw [← hrs, List.length_map] at h1
    exact h1
  have HML := Lib.hid (fun r (hr : r ∈ rs) => show r.l.length ≤ 9223372036854775807 from by
    have := HI.out.each r.l (by rw [← hrs]; exact List.mem_map_of_mem hr)
    omega)
  have HRS := Lib.hid hrs
  clear hrs hoF hcc hce hbF8 hbC8
  generalize (we.alloc (.cells #[.int .i64 v0, .int .i64 v1] 52)) = W8 at *
  generalize we.heap.size = g8 at *
  have HB8 := Lib.hid hB8
  have HEF := Lib.hid (fun (A' : Option Addr) (c' : Nat) (W : World) (hw : Below W8.heap.size W8 W) (hc : Cells W W.heap.size A' (F.flatMap fdC)) => equalF_same F AF A' F.length cF c' W.heap.size W (Nat.le_refl _) rfl (by omega) ((hF8.below hw).mono hw.size) hc)
  have HEC := Lib.hid (fun (rs' : List Chn) (A' : Option Addr) (c' : Nat) (W : World) (hw : Below W8.heap.size W8 W) (he : rs'.map (·.l) = C) (hc : Cells W W.heap.size A' (rs'.map chV)) (hce : ∀ r, r ∈ rs' → Cells W W.heap.size r.A (i64s r.l) ∧ r.l.length ≤ r.c) =>
    (show Calls Tryz.prog 22 #[.slice A2 rs.length c2, .slice A' rs'.length c', .func (.func 24) #[] #[]] W fun e w' => e = .returned (.bool true) ∧ Below W.heap.size W w' from by
      have hl : rs'.length = rs.length := by
        have := congrArg List.length (he.trans HRS.out.symm)
        simpa using this
      rw [hl]
      exact equalC_same rs rs' A2 A' rs.length c2 c' W.heap.size W (Nat.le_refl _) rfl (by omega) (HRS.out.trans he.symm) ((hC8.below hw).mono hw.size) hc (fun r hr => ((HE8.out r hr).below hw).mono hw.size) (fun r hr => (hce r hr).1) HML.out))
  clear hbwa hbwb hbwc hbwd hbwe hF8 hC8 hB8
  clear wa wb wc wd we
  rcases hcs with ⟨rfl, rfl, rfl, rfl⟩ | ⟨rfl, rfl, rfl, rfl, rfl⟩ | ⟨rfl, ha1, e0, e1, rfl⟩
  rotate_left 2
  · replace HMK := Lib.hid (HMK.out ha1)
    rw [← e0, ← e1] at HMK
    have hnz : ((all : Int) == 0) = false := by rw [beq_eq_false_iff_ne]; omega
    clear e0 e1
    go_wp2_with (first
      | (refine wpList_load_mid rfl 34 (.tmp 2) rfl _ _ rfl _ _ (HDB.out.via (by repeat (with_reducible first | exact Below.refl _ _ | assumption | refine ba_alloc ?_ _ | refine ba_drew ?_ | refine ba_drewN ?_ _ | refine ba_via (by assumption) ?_ | (refine ba_set ?_ ?_ _; rotate_left; (first | omega | (simp; omega) | simp))))).range Tryz.underlying34 rfl (by kernel_rfl) ?_)
      | (refine wpList_load_gdF (by rfl) 34 (.tmp 2) rfl _ _ rfl _ _ (HDB.out.via (by repeat (with_reducible first | exact Below.refl _ _ | assumption | refine ba_alloc ?_ _ | refine ba_drew ?_ | refine ba_drewN ?_ _ | refine ba_via (by assumption) ?_ | (refine ba_set ?_ ?_ _; rotate_left; (first | omega | (simp; omega) | simp))))).range Tryz.underlying34 rfl (by kernel_rfl) ?_)
      | (refine wp_load_mid 34 (.tmp 2) rfl _ _ rfl _ _ (HDB.out.via (by repeat (with_reducible first | exact Below.refl _ _ | assumption | refine ba_alloc ?_ _ | refine ba_drew ?_ | refine ba_drewN ?_ _ | refine ba_via (by assumption) ?_ | (refine ba_set ?_ ?_ _; rotate_left; (first | omega | (simp; omega) | simp))))).range Tryz.underlying34 rfl (by kernel_rfl) ?_)
      | (go_at_call 14; (with_reducible refine (HLK1.out _ (by repeat (with_reducible first | exact Below.refl _ _ | assumption | refine ba_alloc ?_ _ | refine ba_drew ?_ | refine ba_drewN ?_ _ | refine ba_via (by assumption) ?_ | (refine ba_set ?_ ?_ _; rotate_left; (first | omega | (simp; omega) | simp))))).mono ?_); rintro e wf ⟨rfl, hbwf⟩)
      | (go_at_call 21; (with_reducible refine (HRK1.out _ (by repeat (with_reducible first | exact Below.refl _ _ | assumption | refine ba_alloc ?_ _ | refine ba_drew ?_ | refine ba_drewN ?_ _ | refine ba_via (by assumption) ?_ | (refine ba_set ?_ ?_ _; rotate_left; (first | omega | (simp; omega) | simp))))).mono ?_); rintro e wg ⟨AR, cR, rfl, hoR, hbwg⟩)
      | (go_at_call 20; (with_reducible refine (HEF.out AR cR _ (by repeat (with_reducible first | exact Below.refl _ _ | assumption | refine ba_alloc ?_ _ | refine ba_drew ?_ | refine ba_drewN ?_ _ | refine ba_via (by assumption) ?_ | (refine ba_set ?_ ?_ _; rotate_left; (first | omega | (simp; omega) | simp)))) (own_cells hoR (by unfold maxLen; omega)).1).mono ?_); rintro e wh ⟨rfl, hbwh⟩)
      | (go_at_call 23; (with_reducible refine (HRH1.out _ (by repeat (with_reducible first | exact Below.refl _ _ | assumption | refine ba_alloc ?_ _ | refine ba_drew ?_ | refine ba_drewN ?_ _ | refine ba_via (by assumption) ?_ | (refine ba_set ?_ ?_ _; rotate_left; (first | omega | (simp; omega) | simp))))).mono ?_); rintro e wi ⟨A3, c3, rs3, rfl, hrs3, hrc3, hcc3, hce3, hbwi⟩)
      | (go_at_call 22; (with_reducible refine (HEC.out rs3 A3 c3 _ (by repeat (with_reducible first | exact Below.refl _ _ | assumption | refine ba_alloc ?_ _ | refine ba_drew ?_ | refine ba_drewN ?_ _ | refine ba_via (by assumption) ?_ | (refine ba_set ?_ ?_ _; rotate_left; (first | omega | (simp; omega) | simp)))) hrs3 hcc3 hce3).mono ?_); rintro e wj ⟨rfl, hbwj⟩)
      | (go_at_call 25; (with_reducible refine (HIL.out _).mono ?_); rintro e w' ⟨rfl, rfl⟩)
      | (go_at_call 26; (with_reducible refine (HRO1.out _ (by repeat (with_reducible first | exact Below.refl _ _ | assumption | refine ba_alloc ?_ _ | refine ba_drew ?_ | refine ba_drewN ?_ _ | refine ba_via (by assumption) ?_ | (refine ba_set ?_ ?_ _; rotate_left; (first | omega | (simp; omega) | simp))))).mono ?_); rintro e wk ⟨rfl, hbwk⟩)
      | (go_at_call 27; (with_reducible refine (HMK.out _).mono ?_); rintro e wl ⟨rfl, hbwl⟩; have hB9 := HB8.out.via (show Below W8.heap.size W8 wl from (by repeat (with_reducible first | exact Below.refl _ _ | assumption | refine ba_alloc ?_ _ | refine ba_drew ?_ | refine ba_drewN ?_ _ | refine ba_via (by assumption) ?_ | (refine ba_set ?_ ?_ _; rotate_left; (first | omega | (simp; omega) | simp))))); have z0 := hB9.cell 0; have z1 := hB9.cell 1; have ltR := hB9.lt; simp only [List.getElem?_toArray, List.getElem?_cons_zero, List.getElem?_cons_succ] at z0 z1))
    go_ret
    exact ⟨ret_b (by simp), ba_via (ba_via (by repeat (with_reducible first | exact Below.refl _ _ | assumption | refine ba_alloc ?_ _ | refine ba_drew ?_ | refine ba_drewN ?_ _ | refine ba_via (by assumption) ?_ | (refine ba_set ?_ ?_ _; rotate_left; (first | omega | (simp; omega) | simp)))) hb8) hW1⟩
  · clear HMK
    go_wp2_with (first
      | (refine wpList_load_mid rfl 34 (.tmp 2) rfl _ _ rfl _ _ (HDB.out.via (by repeat (with_reducible first | exact Below.refl _ _ | assumption | refine ba_alloc ?_ _ | refine ba_drew ?_ | refine ba_drewN ?_ _ | refine ba_via (by assumption) ?_ | (refine ba_set ?_ ?_ _; rotate_left; (first | omega | (simp; omega) | simp))))).range Tryz.underlying34 rfl (by kernel_rfl) ?_)
      | (refine wpList_load_gdF (by rfl) 34 (.tmp 2) rfl _ _ rfl _ _ (HDB.out.via (by repeat (with_reducible first | exact Below.refl _ _ | assumption | refine ba_alloc ?_ _ | refine ba_drew ?_ | refine ba_drewN ?_ _ | refine ba_via (by assumption) ?_ | (refine ba_set ?_ ?_ _; rotate_left; (first | omega | (simp; omega) | simp))))).range Tryz.underlying34 rfl (by kernel_rfl) ?_)
      | (refine wp_load_mid 34 (.tmp 2) rfl _ _ rfl _ _ (HDB.out.via (by repeat (with_reducible first | exact Below.refl _ _ | assumption | refine ba_alloc ?_ _ | refine ba_drew ?_ | refine ba_drewN ?_ _ | refine ba_via (by assumption) ?_ | (refine ba_set ?_ ?_ _; rotate_left; (first | omega | (simp; omega) | simp))))).range Tryz.underlying34 rfl (by kernel_rfl) ?_)
      | (go_at_call 14; (with_reducible refine (HLK1.out _ (by repeat (with_reducible first | exact Below.refl _ _ | assumption | refine ba_alloc ?_ _ | refine ba_drew ?_ | refine ba_drewN ?_ _ | refine ba_via (by assumption) ?_ | (refine ba_set ?_ ?_ _; rotate_left; (first | omega | (simp; omega) | simp))))).mono ?_); rintro e wf ⟨rfl, hbwf⟩)
      | (go_at_call 21; (with_reducible refine (HRK1.out _ (by repeat (with_reducible first | exact Below.refl _ _ | assumption | refine ba_alloc ?_ _ | refine ba_drew ?_ | refine ba_drewN ?_ _ | refine ba_via (by assumption) ?_ | (refine ba_set ?_ ?_ _; rotate_left; (first | omega | (simp; omega) | simp))))).mono ?_); rintro e wg ⟨AR, cR, rfl, hoR, hbwg⟩)
      | (go_at_call 20; (with_reducible refine (HEF.out AR cR _ (by repeat (with_reducible first | exact Below.refl _ _ | assumption | refine ba_alloc ?_ _ | refine ba_drew ?_ | refine ba_drewN ?_ _ | refine ba_via (by assumption) ?_ | (refine ba_set ?_ ?_ _; rotate_left; (first | omega | (simp; omega) | simp)))) (own_cells hoR (by unfold maxLen; omega)).1).mono ?_); rintro e wh ⟨rfl, hbwh⟩)
      | (go_at_call 23; (with_reducible refine (HRH1.out _ (by repeat (with_reducible first | exact Below.refl _ _ | assumption | refine ba_alloc ?_ _ | refine ba_drew ?_ | refine ba_drewN ?_ _ | refine ba_via (by assumption) ?_ | (refine ba_set ?_ ?_ _; rotate_left; (first | omega | (simp; omega) | simp))))).mono ?_); rintro e wi ⟨A3, c3, rs3, rfl, hrs3, hrc3, hcc3, hce3, hbwi⟩)
      | (go_at_call 22; (with_reducible refine (HEC.out rs3 A3 c3 _ (by repeat (with_reducible first | exact Below.refl _ _ | assumption | refine ba_alloc ?_ _ | refine ba_drew ?_ | refine ba_drewN ?_ _ | refine ba_via (by assumption) ?_ | (refine ba_set ?_ ?_ _; rotate_left; (first | omega | (simp; omega) | simp)))) hrs3 hcc3 hce3).mono ?_); rintro e wj ⟨rfl, hbwj⟩; have hB9 := HB8.out.via (show Below W8.heap.size W8 wj from (by repeat (with_reducible first | exact Below.refl _ _ | assumption | refine ba_alloc ?_ _ | refine ba_drew ?_ | refine ba_drewN ?_ _ | refine ba_via (by assumption) ?_ | (refine ba_set ?_ ?_ _; rotate_left; (first | omega | (simp; omega) | simp))))); have z0 := hB9.cell 0; have z1 := hB9.cell 1; have ltR := hB9.lt; simp only [List.getElem?_toArray, List.getElem?_cons_zero, List.getElem?_cons_succ] at z0 z1)
      | (go_at_call 25; (with_reducible refine (HIL.out _).mono ?_); rintro e w' ⟨rfl, rfl⟩))
    go_ret
    exact ⟨ret_b (by simp), ba_via (ba_via (by repeat (with_reducible first | exact Below.refl _ _ | assumption | refine ba_alloc ?_ _ | refine ba_drew ?_ | refine ba_drewN ?_ _ | refine ba_via (by assumption) ?_ | (refine ba_set ?_ ?_ _; rotate_left; (first | omega | (simp; omega) | simp)))) hb8) hW1⟩
  · clear HMK
    go_wp2_with (first
      | (refine wpList_load_mid rfl 34 (.tmp 2) rfl _ _ rfl _ _ (HDB.out.via (by repeat (with_reducible first | exact Below.refl _ _ | assumption | refine ba_alloc ?_ _ | refine ba_drew ?_ | refine ba_drewN ?_ _ | refine ba_via (by assumption) ?_ | (refine ba_set ?_ ?_ _; rotate_left; (first | omega | (simp; omega) | simp))))).range Tryz.underlying34 rfl (by kernel_rfl) ?_)
      | (refine wpList_load_gdF (by rfl) 34 (.tmp 2) rfl _ _ rfl _ _ (HDB.out.via (by repeat (with_reducible first | exact Below.refl _ _ | assumption | refine ba_alloc ?_ _ | refine ba_drew ?_ | refine ba_drewN ?_ _ | refine ba_via (by assumption) ?_ | (refine ba_set ?_ ?_ _; rotate_left; (first | omega | (simp; omega) | simp))))).range Tryz.underlying34 rfl (by kernel_rfl) ?_)
      | (refine wp_load_mid 34 (.tmp 2) rfl _ _ rfl _ _ (HDB.out.via (by repeat (with_reducible first | exact Below.refl _ _ | assumption | refine ba_alloc ?_ _ | refine ba_drew ?_ | refine ba_drewN ?_ _ | refine ba_via (by assumption) ?_ | (refine ba_set ?_ ?_ _; rotate_left; (first | omega | (simp; omega) | simp))))).range Tryz.underlying34 rfl (by kernel_rfl) ?_)
      | (go_at_call 14; (with_reducible refine (HLK1.out _ (by repeat (with_reducible first | exact Below.refl _ _ | assumption | refine ba_alloc ?_ _ | refine ba_drew ?_ | refine ba_drewN ?_ _ | refine ba_via (by assumption) ?_ | (refine ba_set ?_ ?_ _; rotate_left; (first | omega | (simp; omega) | simp))))).mono ?_); rintro e wf ⟨rfl, hbwf⟩)
      | (go_at_call 21; (with_reducible refine (HRK1.out _ (by repeat (with_reducible first | exact Below.refl _ _ | assumption | refine ba_alloc ?_ _ | refine ba_drew ?_ | refine ba_drewN ?_ _ | refine ba_via (by assumption) ?_ | (refine ba_set ?_ ?_ _; rotate_left; (first | omega | (simp; omega) | simp))))).mono ?_); rintro e wg ⟨AR, cR, rfl, hoR, hbwg⟩)
      | (go_at_call 20; (with_reducible refine (HEF.out AR cR _ (by repeat (with_reducible first | exact Below.refl _ _ | assumption | refine ba_alloc ?_ _ | refine ba_drew ?_ | refine ba_drewN ?_ _ | refine ba_via (by assumption) ?_ | (refine ba_set ?_ ?_ _; rotate_left; (first | omega | (simp; omega) | simp)))) (own_cells hoR (by unfold maxLen; omega)).1).mono ?_); rintro e wh ⟨rfl, hbwh⟩)
      | (go_at_call 23; (with_reducible refine (HRH1.out _ (by repeat (with_reducible first | exact Below.refl _ _ | assumption | refine ba_alloc ?_ _ | refine ba_drew ?_ | refine ba_drewN ?_ _ | refine ba_via (by assumption) ?_ | (refine ba_set ?_ ?_ _; rotate_left; (first | omega | (simp; omega) | simp))))).mono ?_); rintro e wi ⟨A3, c3, rs3, rfl, hrs3, hrc3, hcc3, hce3, hbwi⟩)
      | (go_at_call 22; (with_reducible refine (HEC.out rs3 A3 c3 _ (by repeat (with_reducible first | exact Below.refl _ _ | assumption | refine ba_alloc ?_ _ | refine ba_drew ?_ | refine ba_drewN ?_ _ | refine ba_via (by assumption) ?_ | (refine ba_set ?_ ?_ _; rotate_left; (first | omega | (simp; omega) | simp)))) hrs3 hcc3 hce3).mono ?_); rintro e wj ⟨rfl, hbwj⟩)
      | (go_at_call 25; (with_reducible refine (HIL.out _).mono ?_); rintro e w' ⟨rfl, rfl⟩)
      | (go_at_call 26; (with_reducible refine (HRO1.out _ (by repeat (with_reducible first | exact Below.refl _ _ | assumption | refine ba_alloc ?_ _ | refine ba_drew ?_ | refine ba_drewN ?_ _ | refine ba_via (by assumption) ?_ | (refine ba_set ?_ ?_ _; rotate_left; (first | omega | (simp; omega) | simp))))).mono ?_); rintro e wk ⟨rfl, hbwk⟩; have hB9 := HB8.out.via (show Below W8.heap.size W8 wk from (by repeat (with_reducible first | exact Below.refl _ _ | assumption | refine ba_alloc ?_ _ | refine ba_drew ?_ | refine ba_drewN ?_ _ | refine ba_via (by assumption) ?_ | (refine ba_set ?_ ?_ _; rotate_left; (first | omega | (simp; omega) | simp))))); have z0 := hB9.cell 0; have z1 := hB9.cell 1; have ltR := hB9.lt; simp only [List.getElem?_toArray, List.getElem?_cons_zero, List.getElem?_cons_succ] at z0 z1))
    go_ret
    exact ⟨ret_b (by simp), ba_via (ba_via (by repeat (with_reducible first | exact Below.refl _ _ | assumption | refine ba_alloc ?_ _ | refine ba_drew ?_ | refine ba_drewN ?_ _ | refine ba_via (by assumption) ?_ | (refine ba_set ?_ ?_ _; rotate_left; (first | omega | (simp; omega) | simp)))) hb8) hW1⟩
theorem checks_walk (x : Dt) (ds : List Dm) (at_ : Int) (w : World) (h : DtOk w x ds) :
    Calls Tryz.prog 4 #[dtV x, .int .i64 at_] w fun e w' => e = .returned (.bool true) ∧ Below w.heap.size w w' := by
  have hat := fun (W : World) (hw : Below w.heap.size w W) => h.at_.at_ (Nat.le_refl _) hw
  have HSM := fun (W : World) (hw : Below w.heap.size w W) => small25_any x ds w.heap.size W hw.size (hat W hw) (h.dems.at_ (Nat.le_refl _) hw)
  cases hsm : S.small25 x ds
  · rw [hsm] at HSM
    exact checks_big x at_ w HSM
  · rw [hsm] at HSM
    have hDV : ∀ W, Below w.heap.size w W → Calls Tryz.prog 121 #[.slice x.dA x.dn x.dc] W fun e w' => e = .returned (.bool (S.dems ds)) ∧ Below W.heap.size W w' := fun W hw => dvalid_any ds x.dA x.dn x.dc w.heap.size W hw.size h.cap (h.dems.at_ (Nat.le_refl _) hw)
    have HLK := fun (W : World) (hw : Below w.heap.size w W) => rlook_any x ds w.heap.size W hw.size (hat W hw) (h.dems.at_ (Nat.le_refl _) hw)
    cases hlk : S.look x (S.dems ds)
    · rw [hlk] at HLK
      have HLN := fun (W : World) (hw : Below w.heap.size w W) => look_no x (S.dems ds) w.heap.size W hw.size (hat W hw) (fun V hV => hDV V (hw.trans (hV.mono hw.size))) hlk
      exact checks_bad x at_ w HSM HLK (fun W hw => lcheck_no x w.heap.size W hw.size (fun V hV => HLN V (hw.trans (hV.mono hw.size)))) (fun W hw => lchains_no x w.heap.size W hw.size (fun V hV => HLN V (hw.trans (hV.mono hw.size)))) (fun W hw => share_no x at_ w.heap.size W hw.size (fun V hV => HLN V (hw.trans (hV.mono hw.size))))
    · rw [hlk] at HLK
      have hlk2 := hlk
      simp only [S.look, Bool.and_eq_true, decide_eq_true_eq] at hlk2
      obtain ⟨⟨⟨⟨⟨hmem, hlaid⟩, _⟩, hrule⟩, hj1000⟩, hlok⟩ := hlk2
      have hn2000 : (S.mains (bars x.bs) x.rs).length ≤ 2000 := by
        have h2 := hlaid
        simp only [S.laid, Bool.and_eq_true] at h2
        have := mains_len h2.2 (by omega)
        omega
      have hgood := laps_good hlok
      have hin := chs_in hgood hn2000
      have hin2 : ChsIn 2000 (S.chains x.js (S.mains (bars x.bs) x.rs).length) := ⟨hin.len, hin.each, fun c hc i hi => by have := hin.bar c hc i hi; omega⟩
      have hpairs := pairs_of hlk
      have hsol : S.solid x.m.boxes x.m.holes = true := by
        simp only [S.member, Bool.and_eq_true] at hmem
        simp_all
      obtain ⟨v0, v1, er, hsr⟩ := share_is (S.place at_) (S.lapsAt (S.mains (bars x.bs) x.rs) at_ x.js) (S.chainsAt (S.mains (bars x.bs) x.rs) at_ (S.chains x.js (S.mains (bars x.bs) x.rs).length))
      have HLY := fun (W : World) (hw : Below w.heap.size w W) => look_yes x (S.dems ds) w.heap.size W hw.size (hat W hw) (fun V hV => hDV V (hw.trans (hV.mono hw.size))) hlk
      have HCC := fun (W : World) (hw : Below w.heap.size w W) => chains_any x _ _ w.heap.size W hw.size (hat W hw) hgood hn2000 hj1000
      have HRM := fun (i : Nat) (m : Mn) (hm : (S.mains (bars x.bs) x.rs)[i]? = some m) (W : World) (hw : Below w.heap.size w W) => rmain_any x w.heap.size W hw.size (hat W hw) hlaid i m hm
      have HRO : ∀ (k : Nat) (hk : k < x.js.length), ∃ i1 i2 a b, PairOk (S.mains (bars x.bs) x.rs) x.js[k] i1 i2 a b ∧ ∀ W, Below w.heap.size w W → Calls Tryz.prog 72 #[dtV x, .int .i64 k] W fun e w' => e = .returned (.agg #[.int .i64 b.leg.lo.x, .int .i64 a.leg.hi.x]) ∧ Below W.heap.size W w' := fun k hk => by
        obtain ⟨i1, i2, a, b, h1, h2, h3, h4, h5, h6, h7, h8⟩ := look_pair hlk hk
        exact ⟨i1, i2, a, b, ⟨h1, h2, h3, h4, h5, h6, h7, h8⟩, fun W hw => roverlap_any x w.heap.size W hw.size (hat W hw) hlaid k i1 i2 a b hk h1 h2 h3⟩
      have HRH := fun (W : World) (hw : Below w.heap.size w W) => rchains_any x _ _ w.heap.size W hw.size (hat W hw) hgood hn2000 hj1000 (fun V hV => rcount25_any x w.heap.size V (hw.trans (hV.mono hw.size)).size (hat V (hw.trans (hV.mono hw.size))) hlaid)
      refine checks_good x at_ (S.lapFinds x.m x.rule (S.mains (bars x.bs) x.rs) x.js) (S.chains x.js (S.mains (bars x.bs) x.rs).length) _ _ v0 v1 er w ?_ hin2 hsr ?_ ?_ HSM HLK ?_ ?_ ?_ ?_ HRH ?_
      · have := lapFinds_len x.m x.rule (S.mains (bars x.bs) x.rs) x.js
        have := h.at_.jlen
        omega
      · have := lapsAt_le (S.mains (bars x.bs) x.rs) at_ x.js
        have := h.at_.jlen
        omega
      · have := chainsAt_le (S.mains (bars x.bs) x.rs) at_ (S.chains x.js (S.mains (bars x.bs) x.rs).length)
        have := hin.len
        omega
      · exact fun W hw => lcheck_yes x (S.dems ds) w.heap.size W hw.size (hat W hw) hlk (fun V hV => HLY V (hw.trans (hV.mono hw.size)))
      · exact fun W hw => lchains_yes x w.heap.size _ _ _ W hw.size hn2000 (fun V hV => HLY V (hw.trans (hV.mono hw.size))) (fun V hV => HCC V (hw.trans (hV.mono hw.size)))
      · exact fun W hw => share_cs x _ _ at_ v0 v1 er w.heap.size W hw.size (hat W hw) hj1000 hn2000 hpairs hin (fun V hV => HLY V (hw.trans (hV.mono hw.size))) hsr (fun V hV => HCC V (hw.trans (hV.mono hw.size)))
      · exact fun W hw => rcheck_any x _ w.heap.size W hw.size (hat W hw) hj1000
          (fun k hk => by
            obtain ⟨i1, i2, a, b, hp, hc⟩ := HRO k hk
            exact ⟨i1, i2, a, b, hp, fun V hV => hc V (hw.trans (hV.mono hw.size))⟩)
          (fun i m hm V hV => HRM i m hm V (hw.trans (hV.mono hw.size)))
          (fun i m hm V hV => rsize25_any x w.heap.size V (hw.trans (hV.mono hw.size)).size (hat V (hw.trans (hV.mono hw.size))) hlaid i m hm)
          (fun i m hm V hV => rmark25_any x w.heap.size V (hw.trans (hV.mono hw.size)).size (hat V (hw.trans (hV.mono hw.size))) hlaid i m hm)
          (fun leg hl V hV => rpoor_yes x.m leg x.mA x.mn x.mc x.hA x.hn x.hc w.heap.size V (hw.trans (hV.mono hw.size)).size (hat V (hw.trans (hV.mono hw.size))).sol hsol hl)
          (fun d hd p V => rlLength_any x.rule d p V (sized_yes hrule hd))
      · exact fun W hw => rover_any x _ _ at_ w.heap.size W hw.size (hat W hw) hj1000 hn2000 hin
          (fun k hk => by
            obtain ⟨i1, i2, a, b, hp, hc⟩ := HRO k hk
            exact ⟨i1, i2, a, b, hp, fun V hV => hc V (hw.trans (hV.mono hw.size))⟩)
          (fun V hV => HRH V (hw.trans (hV.mono hw.size)))
          (fun i m hm V hV => HRM i m hm V (hw.trans (hV.mono hw.size)))
end Go.Proofs.YtffkmgjmlahfpaaGreat
