/- Lemmas. -/
import Derived.WalkKit
import Derived.ProofKit
import Derived.Lib.Hide
import Derived.BigQuiet
import Derived.Handy
import Derived.StillTail
import Derived.Maps.AppendAt
import Derived.Deep.MidRow
import Derived.RangeFuncNested
import Derived.RangeFuncBound
import Derived.RangeFuncCalls
import Derived.RangeFuncLeaves
import Derived.RangeFuncFrom
import Derived.Test.YtffkmgjmlahfpaaGreatRows
import Derived.BigRegion
import Derived.Deep.CutRange
import Derived.Deep.RegionHeld3
import Derived.Maps.OwnOps
import Derived.Maps.OwnSet
import Derived.OwnWalkIn
import Derived.TacticsInMore
import Derived.LoopNIn
import Derived.LoopIn
import Derived.Shelf.Abstract
import Derived.Shelf.Sort.Plain
import Derived.Shelf.Slices.CompactI
import Derived.Shelf.Slices.In.SortNone
import Derived.Sort.OwnSortedInts
import Derived.Lib.RowBridge
import Derived.Ground.NamesProg
import Derived.Ground.Names2Prog
import Derived.OrdersHeld
import Derived.Test.YtffkmgjmlahfpaaGreatYAC
import Derived.Test.YtffkmgjmlahfpaaGreatYAD
import Derived.Test.YtffkmgjmlahfpaaGreatYAP
import Derived.Test.YtffkmgjmlahfpaaGreatYAM
import Derived.Test.YtffkmgjmlahfpaaGreatYAH
import Derived.Test.YtffkmgjmlahfpaaGreatYAK
import Derived.Test.YtffkmgjmlahfpaaGreatYAA
import Derived.Test.YtffkmgjmlahfpaaGreatYP
import Derived.Test.YtffkmgjmlahfpaaGreatYN
import Derived.Test.YtffkmgjmlahfpaaGreatYD
import Derived.Test.YtffkmgjmlahfpaaGreatYA
import Derived.Test.YtffkmgjmlahfpaaGreatYC
import Derived.Test.YtffkmgjmlahfpaaGreatYAF
import Derived.Test.YtffkmgjmlahfpaaGreatYY
import Derived.Test.YtffkmgjmlahfpaaGreatYZ
import Derived.Test.YtffkmgjmlahfpaaGreatYX
import Derived.Test.YtffkmgjmlahfpaaGreatYW
import Derived.Test.YtffkmgjmlahfpaaGreatYQ
import Derived.Test.YtffkmgjmlahfpaaGreatYM
import Derived.Test.YtffkmgjmlahfpaaGreatYL
import Derived.Test.YtffkmgjmlahfpaaGreatYI
import Derived.Test.YtffkmgjmlahfpaaGreatYG
import Derived.Test.YtffkmgjmlahfpaaGreatYF
import Derived.Test.YtffkmgjmlahfpaaGreatYB
import Derived.Test.YtffkmgjmlahfpaaGreatYU
import Derived.Test.YtffkmgjmlahfpaaGreatYH
import Derived.Test.YtffkmgjmlahfpaaGreatYE
import Derived.Test.YtffkmgjmlahfpaaGreatYJ
import Derived.Test.YtffkmgjmlahfpaaGreatYK
import Derived.Test.YtffkmgjmlahfpaaGreatYO
import Derived.Test.YtffkmgjmlahfpaaGreatYV
import Derived.Test.YtffkmgjmlahfpaaGreatYAB
import Derived.Test.YtffkmgjmlahfpaaGreatYAG
import Derived.Test.YtffkmgjmlahfpaaGreatYT
import Derived.Test.YtffkmgjmlahfpaaGreatYAE
import Derived.Test.YtffkmgjmlahfpaaGreatYAI
import Derived.Test.YtffkmgjmlahfpaaGreatYAN
import Derived.Test.YtffkmgjmlahfpaaGreatYAS
set_option linter.unusedVariables false
set_option linter.unusedSimpArgs false
namespace Go.Proofs.YtffkmgjmlahfpaaGreat
open Go.RowKit
set_option maxRecDepth 20000 in
set_option maxHeartbeats 4000000 in
theorem rnext_any (x : Dt) (n : Nat) (rank : Int → Nat) (i : Int) (B : Nat) (w : World) (hB : B ≤ w.heap.size) (hA : DtAt w B x) (hg : LapsGood x.js n rank) (hj : x.jn ≤ 1000) :
    Calls Tryz.prog 77 #[dtV x, .int .i64 i] w fun e w' => e = .returned (.int .i64 ((S.nextF x.js i).getD (-1))) ∧ Below w.heap.size w w' := by
  have hJ := hA.joints
  have hjl := hA.jlen
  have HNF := Lib.hid (fun (k : Nat) (hk : k < x.js.length) => nextF_of hg.firsts (List.getElem_mem hk))
  have HNO := Lib.hid (fun (h : ∀ k (hk : k < x.js.length), x.js[k].first ≠ i) => show S.nextF x.js i = none from by
    cases hn : S.nextF x.js i with
    | none => rfl
    | some k =>
      obtain ⟨q, hq, he⟩ := List.mem_iff_getElem.1 (nextF_mem hn)
      exact absurd (by rw [he]) (h q hq))
  clear hA hg
  unfold dtV
  have hDB := Blk.new w 34 #[.string x.m.name, .slice x.mA x.mn x.mc, .slice x.hA x.hn x.hc, .int .i64 x.m.cover, .int .i64 x.m.aggr, .int .i64 x.m.poker, .slice x.bA x.bn x.bc, .slice x.rA x.rn x.rc, .slice x.jA x.jn x.jc, .slice x.dA x.dn x.dc, .int .i64 x.rule.num, .int .i64 x.rule.den, .int .i64 x.rule.pnum, .int .i64 x.rule.pden, .int .i64 x.rule.bnum, .int .i64 x.rule.bden, .int .i64 x.rule.lnum, .int .i64 x.rule.lden, .int .i64 x.rule.least]
  have hW1 : Below w.heap.size w (w.alloc (.cells #[.string x.m.name, .slice x.mA x.mn x.mc, .slice x.hA x.hn x.hc, .int .i64 x.m.cover, .int .i64 x.m.aggr, .int .i64 x.m.poker, .slice x.bA x.bn x.bc, .slice x.rA x.rn x.rc, .slice x.jA x.jn x.jc, .slice x.dA x.dn x.dc, .int .i64 x.rule.num, .int .i64 x.rule.den, .int .i64 x.rule.pnum, .int .i64 x.rule.pden, .int .i64 x.rule.bnum, .int .i64 x.rule.bden, .int .i64 x.rule.lnum, .int .i64 x.rule.lden, .int .i64 x.rule.least] 34)) := ba_alloc (Below.refl _ _) _
  generalize x.jA = jA at *
  go_enter Tryz.func77, Tryz.ntmps77
  go_wp2
  generalize (w.alloc (.cells #[.string x.m.name, .slice x.mA x.mn x.mc, .slice x.hA x.hn x.hc, .int .i64 x.m.cover, .int .i64 x.m.aggr, .int .i64 x.m.poker, .slice x.bA x.bn x.bc, .slice x.rA x.rn x.rc, .slice jA x.jn x.jc, .slice x.dA x.dn x.dc, .int .i64 x.rule.num, .int .i64 x.rule.den, .int .i64 x.rule.pnum, .int .i64 x.rule.pden, .int .i64 x.rule.bnum, .int .i64 x.rule.bden, .int .i64 x.rule.lnum, .int .i64 x.rule.lden, .int .i64 x.rule.least] 34)) = W1 at *
  go_loopw [5] (fun s wr => ∃ k : Nat, k ≤ x.jn ∧ s = .int .i64 k ∧ Hid (∀ m (h : m < x.js.length), m < k → x.js[m].first ≠ i) ∧ Below W1.heap.size W1 wr) (fun s _ => x.jn - (intOf s).toNat)
  case atStart => exact ⟨0, Nat.zero_le _, rfl, Lib.hid fun m _ hm => absurd hm (by omega), Below.refl _ _⟩
  case round =>
    obtain ⟨k, hk, rfl, HNP, hbr⟩ := hrel
    have hbw : Below w.heap.size w wr := ba_via hbr hW1
    have hDr := hDB.via hbr
    have d8 := hDr.cell 8
    have hDl := hDr.lt
    simp only [List.getElem?_toArray, List.getElem?_cons_zero, List.getElem?_cons_succ] at d8
    clear hDr
    by_cases hlt : k < x.jn
    · have hkx : k < x.js.length := by omega
      have hki : (k : Int) < x.jn := by omega
      have hJr := hJ.below (hbw.mono hB)
      obtain ⟨bJ, oJ, hje, hbJ, hxx⟩ := hJr.at_ (by rw [flat_len jnC 2 jnC_len]; omega)
      clear hxx
      subst hje
      have c0 := hJr.row0 jnC_len hkx rfl
      have c1 := hJr.rowj jnC_len hkx 1 rfl
      have HF := Lib.hid (HNF.out k hkx)
      have HGO := Lib.hid (fun (h : x.js[k].first ≠ i) (m : Nat) (hm : m < x.js.length) (hmk : m < k + 1) => show x.js[m].first ≠ i from by
        by_cases hmk' : m = k
        · subst hmk'; exact h
        · exact HNP.out m hm (by omega))
      have hbl : bJ < wr.heap.size := by have := hbw.size; omega
      clear hJr
      generalize x.js[k] = j at *
      cases h1 : (j.first == i)
      · have HG := Lib.hid (HGO.out (by simpa using h1))
        go_wp2
        go_roundw
        case rel => exact ⟨k + 1, by omega, by go_num, HG, bel⟩
        case measure => simp [intOf]; omega
      · have he : j.first = i := by simpa using h1
        have HE := Lib.hid (show (S.nextF x.js i).getD (-1) = j.second by rw [← he, HF.out]; rfl)
        clear he
        go_wp2
        go_ret
        exact ⟨ret_i HE.out.symm, hbw⟩
    · have HE := Lib.hid (show (S.nextF x.js i).getD (-1) = -1 by rw [HNO.out (fun q hq => HNP.out q hq (by omega))]; rfl)
      go_wp2
      go_ret
      exact ⟨ret_i HE.out.symm, hbw⟩
set_option maxRecDepth 20000 in
set_option maxHeartbeats 8000000 in
theorem rchains_any (x : Dt) (n : Nat) (rank : Int → Nat) (B : Nat) (w : World) (hB : B ≤ w.heap.size) (hA : DtAt w B x) (hg : LapsGood x.js n rank) (hn : n ≤ 2000) (hj : x.jn ≤ 1000)
    (hCN : ∀ W, Below w.heap.size w W → Calls Tryz.prog 42 #[dtV x] W fun e w' => e = .returned (.int .i64 n) ∧ Below W.heap.size W w') :
    Calls Tryz.prog 23 #[dtV x] w (GivesChs (S.chains x.js n) w) := by
  have hJ := hA.joints
  have hjl := hA.jlen
  have HCN := Lib.hid hCN
  have HNX := Lib.hid (fun (i : Int) (W : World) (hw : Below w.heap.size w W) => rnext_any x n rank i B W (size_via hB hw) (hA.at_ hB hw) hg hj)
  have HIN := Lib.hid (fun (i k : Int) (h : S.nextF x.js i = some k) => (hg.next h).2.1)
  have HEN := Lib.hid (fun i => hg.ends_n i)
  have hTK : x.js.take x.jn = x.js := List.take_of_length_le (by omega)
  have HS1 := Lib.hid (fun (k : Nat) (hk : k < x.js.length) => show S.secF (x.js.take (k + 1)) = fun i => i == x.js[k].second || S.secF (x.js.take k) i by rw [List.take_succ_eq_append_getElem hk, secF_snoc])
  clear hA hg hCN
  unfold dtV at HCN HNX
  unfold dtV
  have hDB := Blk.new w 34 #[.string x.m.name, .slice x.mA x.mn x.mc, .slice x.hA x.hn x.hc, .int .i64 x.m.cover, .int .i64 x.m.aggr, .int .i64 x.m.poker, .slice x.bA x.bn x.bc, .slice x.rA x.rn x.rc, .slice x.jA x.jn x.jc, .slice x.dA x.dn x.dc, .int .i64 x.rule.num, .int .i64 x.rule.den, .int .i64 x.rule.pnum, .int .i64 x.rule.pden, .int .i64 x.rule.bnum, .int .i64 x.rule.bden, .int .i64 x.rule.lnum, .int .i64 x.rule.lden, .int .i64 x.rule.least]
  have hW1 : Below w.heap.size w (w.alloc (.cells #[.string x.m.name, .slice x.mA x.mn x.mc, .slice x.hA x.hn x.hc, .int .i64 x.m.cover, .int .i64 x.m.aggr, .int .i64 x.m.poker, .slice x.bA x.bn x.bc, .slice x.rA x.rn x.rc, .slice x.jA x.jn x.jc, .slice x.dA x.dn x.dc, .int .i64 x.rule.num, .int .i64 x.rule.den, .int .i64 x.rule.pnum, .int .i64 x.rule.pden, .int .i64 x.rule.bnum, .int .i64 x.rule.bden, .int .i64 x.rule.lnum, .int .i64 x.rule.lden, .int .i64 x.rule.least] 34)) := ba_alloc (Below.refl _ _) _
  have hs1 : (w.alloc (.cells #[.string x.m.name, .slice x.mA x.mn x.mc, .slice x.hA x.hn x.hc, .int .i64 x.m.cover, .int .i64 x.m.aggr, .int .i64 x.m.poker, .slice x.bA x.bn x.bc, .slice x.rA x.rn x.rc, .slice x.jA x.jn x.jc, .slice x.dA x.dn x.dc, .int .i64 x.rule.num, .int .i64 x.rule.den, .int .i64 x.rule.pnum, .int .i64 x.rule.pden, .int .i64 x.rule.bnum, .int .i64 x.rule.bden, .int .i64 x.rule.lnum, .int .i64 x.rule.lden, .int .i64 x.rule.least] 34)).heap.size = w.heap.size + 1 := by simp
  generalize x.jA = jA at *
  go_enter Tryz.func23, Tryz.ntmps23
  go_wp2
  generalize (w.alloc (.cells #[.string x.m.name, .slice x.mA x.mn x.mc, .slice x.hA x.hn x.hc, .int .i64 x.m.cover, .int .i64 x.m.aggr, .int .i64 x.m.poker, .slice x.bA x.bn x.bc, .slice x.rA x.rn x.rc, .slice jA x.jn x.jc, .slice x.dA x.dn x.dc, .int .i64 x.rule.num, .int .i64 x.rule.den, .int .i64 x.rule.pnum, .int .i64 x.rule.pden, .int .i64 x.rule.bnum, .int .i64 x.rule.bden, .int .i64 x.rule.lnum, .int .i64 x.rule.lden, .int .i64 x.rule.least] 34)) = W1 at *
  have hDl1 := hDB.lt
  go_loopw [4, 3] (fun s v wr => ∃ (q : Nat) (rs : List Chn), q ≤ n ∧ s = .int .i64 q ∧ rs.map (·.l) = S.chainsTo x.js n q ∧ ChsAt wr W1.heap.size v rs ∧ Below W1.heap.size W1 wr) (fun s _ _ => n - (intOf s).toNat)
  case atStart => exact ⟨0, [], Nat.zero_le _, rfl, rfl, ⟨World.ownsRow_nil _ _ _ _, fun r hr => by cases hr⟩, Below.refl _ _⟩
  case round =>
    generalize wr = wq at *
    obtain ⟨q, rs, hq, rfl, hrs, hC, hbq⟩ := hrel
    have hrl : rs.length ≤ q := by
      have := chains_le x.js n q
      rw [← hrs] at this
      simpa using this
    have hbwq : Below w.heap.size w wq := ba_via hbq hW1
    have HDB := Lib.hid (hDB.via hbq)
    have HCNq := Lib.hid (fun (W : World) (hw : Below wq.heap.size wq W) => HCN.out W (ba_via hw hbwq))
    have HRS := Lib.hid hrs
    have HC := Lib.hid hC
    clear hrs hC
    by_cases hlt2 : q < n
    · have hqi : (q : Int) < n := by omega
      have HQ := Lib.hid (show q + 1 ≤ n by omega)
      clear hq
      go_wp2_with (first
        | (refine wpList_load_mid rfl 34 (.tmp 1) rfl _ _ rfl _ _ (HDB.out.via belr).range Tryz.underlying34 rfl (by kernel_rfl) ?_)
        | (go_at_call 42; (with_reducible refine (HCNq.out _ belr).mono ?_); rintro e wc ⟨rfl, hbwc⟩))
      have hbc : Below wq.heap.size wq wc := hbwc
      go_loopw [5, 6] (fun t s wx => ∃ k : Nat, k ≤ x.jn ∧ s = .int .i64 k ∧ t = .bool (S.secF (x.js.take k) q) ∧ Below wc.heap.size wc wx) (fun _ s _ => x.jn - (intOf s).toNat)
      case atStart => exact ⟨0, Nat.zero_le _, rfl, rfl, Below.refl _ _⟩
      case round =>
        generalize wr = wx at *
        obtain ⟨k, hk, rfl, rfl, hbx⟩ := hrel
        have hbqx : Below wq.heap.size wq wx := ba_via hbx hbc
        have hbwx : Below w.heap.size w wx := ba_via hbqx hbwq
        have hDr := HDB.out.via hbqx
        have d8 := hDr.cell 8
        have hDl := hDr.lt
        simp only [List.getElem?_toArray, List.getElem?_cons_zero, List.getElem?_cons_succ] at d8
        clear hDr
        by_cases hlt : k < x.jn
        · have hkx : k < x.js.length := by omega
          have hki : (k : Int) < x.jn := by omega
          have hJr := hJ.below (hbwx.mono hB)
          obtain ⟨bJ, oJ, hje, hbJ, hxx⟩ := hJr.at_ (by rw [flat_len jnC 2 jnC_len]; omega)
          clear hxx
          subst hje
          have c0 := hJr.row0 jnC_len hkx rfl
          have c1 := hJr.rowj jnC_len hkx 1 rfl
          have hbl : bJ < wx.heap.size := by have := hbwx.size; omega
          have HS := Lib.hid (congrFun (HS1.out k hkx) (q : Int))
          clear hJr
          generalize x.js[k] = j at *
          cases hsk : S.secF (x.js.take k) (q : Int)
          · cases h1 : (j.second == (q : Int))
            · have HT := Lib.hid (show S.secF (x.js.take (k + 1)) (q : Int) = false by
                rw [HS.out, hsk, Bool.or_false, beq_eq_false_iff_ne]
                exact fun h => (beq_eq_false_iff_ne.1 h1) h.symm)
              go_wp2
              go_roundw
              case rel => exact ⟨k + 1, by omega, by go_num, by rw [HT.out], bel⟩
              case measure => simp [intOf]; omega
            · have HT := Lib.hid (show S.secF (x.js.take (k + 1)) (q : Int) = true by
                rw [HS.out, hsk, Bool.or_false, beq_iff_eq]
                exact (beq_iff_eq.1 h1).symm)
              go_wp2
              go_roundw
              case rel => exact ⟨k + 1, by omega, by go_num, by rw [HT.out], bel⟩
              case measure => simp [intOf]; omega
          · have HT := Lib.hid (show S.secF (x.js.take (k + 1)) (q : Int) = true by rw [HS.out, hsk, Bool.or_true])
            go_wp2
            go_roundw
            case rel => exact ⟨k + 1, by omega, by go_num, by rw [HT.out], bel⟩
            case measure => simp [intOf]; omega
        · obtain rfl : k = x.jn := by omega
          rw [hTK]
          have hCx := Lib.hid (HC.out.kept hbqx)
          cases hsec : S.secF x.js (q : Int) with
          | true =>
            go_wp2
            go_roundw
            case rel => exact ⟨q + 1, rs, HQ.out, by go_num, by rw [chainsTo_no hsec]; exact HRS.out, hCx.out, ba_via hbqx hbq⟩
            case measure => have := HQ.out; simp [intOf]; omega
          | false =>
            have HE0 := Lib.hid (HEN.out q)
            have HDX := Lib.hid (HDB.out.via hbqx)
            clear HDB HCNq
            have hxs := hbqx.size
            have hqs := hbq.size
            go_wp2
            clear d8
            go_loopw [7, 8] (fun s7 s8 wy => ∃ (m : Nat) (o : Option Int) (xs : List Int) (A : Option Addr) (c : Nat), s7 = .slice A xs.length c ∧ s8 = .int .i64 (o.getD (-1)) ∧ xs ++ S.rest (S.nextF x.js) m o = S.chainOf (S.nextF x.js) n q ∧ S.ends (S.nextF x.js) m o ∧ m + xs.length = n + 1 ∧ (∀ i, o = some i → 0 ≤ i ∧ i < n) ∧ Row wx wy none W1.heap.size 3 1 (.slice A xs.length c) xs.length (i64s xs) ∧ Exc [] wx wy) (fun s _ _ => n + 1 - lenV s)
            case atStart =>
              refine ⟨n + 1, some (q : Int), [], none, 0, rfl, rfl, rfl, HE0.out, by simp, ?_, Row.none_ _ _ _ _, Exc.refl _ _⟩
              intro i hi
              injection hi with hi
              subst hi
              omega
            case round =>
              generalize wr = wy at *
              obtain ⟨m, o, xs, A, c, rfl, rfl, hrest, hends, hm, ho, hR, hX⟩ := hrel
              have hbxy : Below wx.heap.size wx wy := hX.below (Nat.le_refl _) (by simp)
              have hys := hbxy.size
              cases o with
              | some i =>
                obtain ⟨m', rfl, hends', hrest'⟩ := rest_some hends
                rw [hrest'] at hrest
                have hin := ho i rfl
                have hi0 : (0 : Int) ≤ i := hin.1
                have HR := Lib.hid hR
                have HXX := Lib.hid hX
                have HRE := Lib.hid hrest
                have HEE := Lib.hid hends'
                have HO2 := Lib.hid (fun k (h : S.nextF x.js i = some k) => HIN.out i k h)
                have HM := Lib.hid hm
                have HNI := Lib.hid (fun (W : World) (hw : Below w.heap.size w W) => HNX.out i W hw)
                have HXY := Lib.hid hbxy
                clear hR hX hrest hends hends' ho hrest' hm hin
                go_wp2_with (first
                  | (at_builtin; refine wpList_push rfl (.tmp 40) (.tmp 42) _ rfl elemInt (HR.out.alloc _) (HXX.out.alloc _) (by simp) (by omega) rfl wy.heap.size 1 1 [.int .i64 i] rfl rfl ?_ (by simp [Value.oneCell']) (by have := HM.out; unfold maxLen; omega) (by have := HM.out; omega) ?_; (· intro j u hu; exact one_new _ _ _ _ j u hu); intro v1 wD hRD hXD hOD; obtain ⟨A5, c5, rfl, _, _, hCD⟩ := own_form hRD.own (by have := HM.out; unfold maxLen; omega); have hbD : Below wx.heap.size wx wD := hXD.below (Nat.le_refl _) (by simp))
                  | (refine wpList_load_mid rfl 34 (.tmp 1) rfl _ _ rfl _ _ (HDX.out.via hbD).range Tryz.underlying34 rfl (by kernel_rfl) ?_)
                  | (go_at_call 77; (with_reducible refine (HNI.out _ (ba_via hbD hbwx)).mono ?_); rintro e wN ⟨rfl, hbwN⟩))
                go_roundw
                case rel =>
                  refine ⟨m', S.nextF x.js i, xs ++ [i], A5, c5, by simp, rfl, ?_, HEE.out, by have := HM.out; simp; omega, HO2.out, ?_, Exc.via hbwN hXD⟩
                  · rw [List.append_assoc]; exact HRE.out
                  · rw [i64s_snoc, List.length_append]; exact hRD.via hbwN
                case measure => have := HM.out; simp [lenV]; omega
              | none =>
                rw [rest_none, List.append_nil] at hrest
                have hxp : 0 < xs.length := by rw [hrest]; exact Nat.succ_pos _
                have hCy := HC.out.kept (ba_via hbxy hbqx)
                have hnew : ∃ g, A = some ⟨g, 0, none⟩ ∧ W1.heap.size ≤ g ∧ u3.ownBlock ≠ some g ∧ wy.ownsRow W1.heap.size 3 1 (.slice A xs.length c) xs.length (i64s xs) := by
                  have ho := hR.own
                  rcases ho.2 with ⟨_, h0⟩ | ⟨g, cap, cur, hv, hbg, _⟩
                  · omega
                  · injection hv with hA1 _ hc1
                    refine ⟨g, hA1, hbg, fun he => ?_, ho⟩
                    have h1 := (HC.out.own.lt g he).2
                    rcases hR.place g (by rw [hA1]; rfl) with h2 | h2
                    · cases h2
                    · omega
                have HNW := Lib.hid hnew
                have HCX := Lib.hid hCy
                have HRE := Lib.hid hrest
                have hb1y : Below W1.heap.size W1 wy := ba_via hbxy (ba_via hbqx hbq)
                clear hnew hCy hrest hR hX hends hxp
                have hm1 : ¬ ((0 : Int) ≤ -1) := by omega
                go_wp2_with (at_builtin; refine wpList_push rfl (.tmp 44) (.tmp 46) _ rfl elemRow ((show Row wy wy u3.ownBlock W1.heap.size 58 1 u3 rs.length (rs.map chV) from ⟨HCX.out.own, fun k hk => .inl hk.symm⟩).alloc _) ((Exc.refl u3.ownBlock.toList wy).alloc _) (by intro k hk; simp [hk]) (by omega) rfl wy.heap.size 1 1 [.slice A xs.length c] rfl rfl ?_ (by simp [Value.oneCell']) (by unfold maxLen; omega) (by omega) ?_; (· intro j u hu; exact one_new _ _ _ _ j u hu); intro v2 wE hRE hXE hOE)
                have hpush := ChsAt.push (r := ⟨A, c, xs⟩) (w2 := wE) (v2 := v2) HCX.out HNW.out hRE.own (fun k hk hne => (hOE k (by simp; omega) hne).trans (Below.heap_alloc _ _ k hk)) (fun k hk => hRE.place k hk)
                have hbE : Below W1.heap.size W1 wE := hb1y.trans (hXE.below (by omega) (fun g hg => (HCX.out.own.lt g (by simpa using hg)).1))
                go_roundw
                case rel => exact ⟨q + 1, rs ++ [⟨A, c, xs⟩], HQ.out, by go_num, by rw [chainsTo_yes hsec, List.map_append, HRS.out, ← HRE.out]; rfl, hpush, hbE⟩
                case measure => have := HQ.out; simp [intOf]; omega
    · obtain rfl : q = n := by omega
      have hqi : ¬ ((q : Int) < q) := by omega
      go_wp2_with (first
        | (refine wpList_load_mid rfl 34 (.tmp 1) rfl _ _ rfl _ _ (HDB.out.via belr).range Tryz.underlying34 rfl (by kernel_rfl) ?_)
        | (go_at_call 42; (with_reducible refine (HCNq.out _ belr).mono ?_); rintro e wc ⟨rfl, hbwc⟩))
      have hCc := HC.out.kept hbwc
      obtain ⟨A5, c5, rfl, hnc5, hxx5, hC5⟩ := own_form hCc.own (by unfold maxLen; omega)
      go_ret
      refine ⟨A5, c5, rs, rfl, HRS.out, hnc5, hC5, fun r hr => ?_, ba_via hbwc hbwq⟩
      obtain ⟨g, h1, h2, h3, h4⟩ := hCc.each r hr
      have hl : r.l ∈ S.chainsTo x.js q q := by rw [← HRS.out]; exact List.mem_map_of_mem hr
      have hll : r.l.length ≤ q + 1 := by
        unfold S.chainsTo at hl
        obtain ⟨i, _, hi⟩ := List.mem_map.1 hl
        rw [← hi]
        exact chainOf_le _ _ _
      have := own_cells h4 (by unfold maxLen; omega)
      exact ⟨this.1, this.2.1⟩
def S.hopE (last : Int) (x : Bool × Int) (e : Int) : Bool × Int := if last < e ∧ (x.1 = false ∨ e < x.2) then (true, e) else x
def S.hopC (last : Int) (x : Bool × Int) (c : SCh) : Bool × Int := if c.is = true then S.hopE last (S.hopE last x c.lo) c.hi else x
def S.hop (last : Int) (cs : List SCh) : Bool × Int := cs.foldl (S.hopC last) (false, 0)
def S.allEnds (cs : List SCh) : List Int := S.ends2 (cs.filter (·.is))
theorem hop_next (last : Int) {cs : List SCh} {k : Nat} (h : k < cs.length) : S.hop last (cs.take (k + 1)) = S.hopC last (S.hop last (cs.take k)) cs[k] := by
  have e : cs.take (k + 1) = cs.take k ++ [cs[k]] := by rw [List.take_add_one, List.getElem?_eq_getElem h]; rfl
  unfold S.hop
  rw [e, List.foldl_append]
  rfl
def HopAt (last : Int) (E : List Int) (x : Bool × Int) : Prop :=
  (x.1 = false ∧ ∀ e, e ∈ E → e ≤ last) ∨ (x.1 = true ∧ x.2 ∈ E ∧ last < x.2 ∧ ∀ e, e ∈ E → last < e → x.2 ≤ e)
theorem hopE_at {last : Int} {E : List Int} {x : Bool × Int} (h : HopAt last E x) (e : Int) : HopAt last (E ++ [e]) (S.hopE last x e) := by
  unfold S.hopE
  rcases h with ⟨h1, h2⟩ | ⟨h1, h2, h3, h4⟩
  · by_cases hl : last < e
    · rw [if_pos ⟨hl, .inl h1⟩]
      refine .inr ⟨rfl, by simp, hl, fun e' he' hle => ?_⟩
      rcases List.mem_append.1 he' with h | h
      · have := h2 e' h; omega
      · rw [List.mem_singleton] at h; show e ≤ e'; omega
    · rw [if_neg (fun h => hl h.1)]
      refine .inl ⟨h1, fun e' he' => ?_⟩
      rcases List.mem_append.1 he' with h | h
      · exact h2 e' h
      · rw [List.mem_singleton] at h; omega
  · by_cases hl : last < e ∧ (x.1 = false ∨ e < x.2)
    · rw [if_pos hl]
      have hlt : e < x.2 := by
        rcases hl.2 with h | h
        · rw [h1] at h; cases h
        · exact h
      refine .inr ⟨rfl, by simp, hl.1, fun e' he' hle => ?_⟩
      show e ≤ e'
      rcases List.mem_append.1 he' with h | h
      · have := h4 e' h hle; omega
      · rw [List.mem_singleton] at h; omega
    · rw [if_neg hl]
      refine .inr ⟨h1, List.mem_append_left _ h2, h3, fun e' he' hle => ?_⟩
      rcases List.mem_append.1 he' with h | h
      · exact h4 e' h hle
      · rw [List.mem_singleton] at h
        subst h
        by_cases h5 : e' < x.2
        · exact absurd ⟨hle, .inr h5⟩ hl
        · omega
theorem allEnds_cons (c : SCh) (cs : List SCh) : S.allEnds (c :: cs) = (if c.is = true then [c.lo, c.hi] else []) ++ S.allEnds cs := by
  unfold S.allEnds
  rw [List.filter_cons]
  split
  · unfold S.ends2
    rw [List.flatMap_cons]
  · simp
theorem hop_at (last : Int) (cs : List SCh) : HopAt last (S.allEnds cs) (S.hop last cs) := by
  suffices hs : ∀ (cs : List SCh) (E : List Int) (x : Bool × Int), HopAt last E x → HopAt last (E ++ S.allEnds cs) (cs.foldl (S.hopC last) x) by
    have := hs cs [] (false, 0) (.inl ⟨rfl, fun e he => by cases he⟩)
    simpa [S.hop] using this
  intro cs
  induction cs with
  | nil => intro E x h; simpa [S.allEnds, S.ends2] using h
  | cons c t ih =>
    intro E x h
    rw [List.foldl_cons, allEnds_cons]
    by_cases hi : c.is = true
    · have e : S.hopC last x c = S.hopE last (S.hopE last x c.lo) c.hi := by unfold S.hopC; rw [if_pos hi]
      rw [if_pos hi, e]
      have := ih _ _ (hopE_at (hopE_at h c.lo) c.hi)
      simpa using this
    · have e : S.hopC last x c = x := by unfold S.hopC; rw [if_neg hi]
      rw [if_neg hi, e]
      simpa using ih _ _ h
structure UpTo (E : List Int) (last : Int) (U : List Int) : Prop where
  asc : U.Pairwise (· < ·)
  mem : ∀ e, e ∈ U ↔ (e ∈ E ∧ e ≤ last)
theorem upto_nil {E : List Int} {last : Int} (h : ∀ e, e ∈ E → last < e) : UpTo E last [] :=
  ⟨List.Pairwise.nil, fun e => ⟨fun h => (by cases h), fun ⟨h1, h2⟩ => (by have := h e h1; omega)⟩⟩
theorem upto_next {E : List Int} {last : Int} {U : List Int} (h : UpTo E last U) {n : Int} (h1 : n ∈ E) (h2 : last < n) (h3 : ∀ e, e ∈ E → last < e → n ≤ e) : UpTo E n (U ++ [n]) := by
  refine ⟨List.pairwise_append.2 ⟨h.asc, by simp, fun a ha b hb => ?_⟩, fun e => ?_⟩
  · rw [List.mem_singleton] at hb
    have := ((h.mem a).1 ha).2
    omega
  · rw [List.mem_append, List.mem_singleton, h.mem]
    constructor
    · rintro (⟨h4, h5⟩ | rfl)
      · exact ⟨h4, by omega⟩
      · exact ⟨h1, by omega⟩
    · rintro ⟨h4, h5⟩
      by_cases h6 : e ≤ last
      · exact .inl ⟨h4, h6⟩
      · have := h3 e h4 (by omega)
        exact .inr (by omega)
theorem upto_meas {E : List Int} {last n : Int} (h1 : n ∈ E) (h2 : last < n) : E.countP (fun e => decide (n < e)) < E.countP (fun e => decide (last < e)) := by
  induction E with
  | nil => cases h1
  | cons a t ih =>
    rw [List.countP_cons, List.countP_cons]
    have hmono : t.countP (fun e => decide (n < e)) ≤ t.countP (fun e => decide (last < e)) := List.countP_mono_left (fun e _ he => by rw [decide_eq_true_eq] at he ⊢; omega)
    rcases List.mem_cons.1 h1 with h | h
    · subst h
      simp only [Int.lt_irrefl, decide_false, h2, decide_true]
      simp
      omega
    · have := ih h
      by_cases h3 : n < a
      · have h4 : last < a := by omega
        simp only [h3, h4, decide_true, if_true]
        omega
      · simp only [h3, decide_false]
        by_cases h4 : last < a
        · simp only [h4, decide_true, if_true, Bool.false_eq_true, if_false]
          omega
        · simp only [h4, decide_false, Bool.false_eq_true, if_false]
          omega
theorem sh_shortF (f : Int → Int) : ∀ (P : List Int) (v : Int) (out : List Stp), ((P.map fun p => (⟨p, f p⟩ : Stp)).foldl (fun x s => (s.val, if s.val = x.1 then x.2 else x.2 ++ [s])) (v, out)).2 = out ++ S.sh f v P := by
  intro P
  induction P with
  | nil => intro v out; simp [S.sh]
  | cons p t ih =>
    intro v out
    rw [List.map_cons, List.foldl_cons, S.sh]
    rw [ih]
    show (if f p = v then out else out ++ [⟨p, f p⟩]) ++ S.sh f (f p) t = _
    by_cases h : f p = v
    · rw [if_pos h, if_pos h, h]
    · rw [if_neg h, if_neg h]
      simp
theorem sh_short (f : Int → Int) (P : List Int) : S.shortSt (P.map fun p => (⟨p, f p⟩ : Stp)) = S.sh f 0 P := by
  have := sh_shortF f P 0 []
  unfold S.shortSt S.shortStF
  rw [this]
  rfl
theorem sh_more {f : Int → Int} {Q0 : List Int} (hc : ∀ a b, a ≤ b → (∀ q, q ∈ Q0 → ¬ (a < q ∧ q ≤ b)) → f a = f b) : ∀ (P Q : List Int) (a : Int), P.Pairwise (· < ·) → Q.Pairwise (· < ·) → (∀ p, p ∈ P → a < p) → (∀ q, q ∈ Q → q ∈ P) → (∀ q, q ∈ Q0 → a < q → q ∈ Q) → S.sh f (f a) P = S.sh f (f a) Q := by
  intro P
  induction P with
  | nil =>
    intro Q a _ _ _ hQ _
    cases Q with
    | nil => rfl
    | cons q t => exact absurd (hQ q (by simp)) (by simp)
  | cons p t ih =>
    intro Q a hP hQa ha hQ h0
    rw [List.pairwise_cons] at hP
    have hap := ha p (by simp)
    by_cases hp : p ∈ Q
    · -- p is the first of Q
      cases Q with
      | nil => cases hp
      | cons q u =>
        rw [List.pairwise_cons] at hQa
        have hqp : q = p := by
          rcases List.mem_cons.1 (hQ q (by simp)) with h | h
          · exact h
          · have h1 := hP.1 q h
            rcases List.mem_cons.1 hp with h2 | h2
            · exact h2.symm
            · have := hQa.1 p h2; omega
        subst hqp
        have key : S.sh f (f q) t = S.sh f (f q) u := by
          refine ih u q hP.2 hQa.2 hP.1 (fun x hx => ?_) (fun x hx hlt => ?_)
          · rcases List.mem_cons.1 (hQ x (by simp [hx])) with h | h
            · have := hQa.1 x hx; omega
            · exact h
          · rcases List.mem_cons.1 (h0 x hx (by omega)) with h | h
            · omega
            · exact h
        rw [S.sh, S.sh]
        by_cases he : f q = f a
        · rw [if_pos he, if_pos he, ← he]
          exact key
        · rw [if_neg he, if_neg he, key]
    · have he : f p = f a := (hc a p (by omega) (fun q hq ⟨h1, h2⟩ => by
        have h3 := h0 q hq h1
        rcases List.mem_cons.1 (hQ q h3) with h | h
        · subst h; exact hp h3
        · have := hP.1 q h; omega)).symm
      rw [S.sh, if_pos he, ← he]
      refine ih Q p hP.2 hQa hP.1 (fun q hq => ?_) (fun q hq hlt => h0 q hq (by omega))
      rcases List.mem_cons.1 (hQ q hq) with h | h
      · subst h; exact absurd hq hp
      · exact h
theorem refOf_same {x : Dt} {rs : List Rod} {C : List (List Int)} (z : Bx) {U : List Int} {last : Int} (hU : UpTo (S.allEnds (C.map (S.schOf x rs))) last U) (hall : ∀ e, e ∈ S.allEnds (C.map (S.schOf x rs)) → e ≤ last)
    (hin : ∀ c, c ∈ C.map (S.schOf x rs) → c.is = true → -1048576 ≤ c.lo ∧ c.lo < c.hi) :
    S.shortSt (U.map fun p => (⟨p, S.supplyAt x rs C z p⟩ : Stp)) = S.supplyOf x rs C z := by
  have hf : (fun p => S.supplyAt x rs C z p) = fun p => S.valueAt p ((C.map (S.schOf x rs)).filter (S.sup rs z)) := by
    funext p
    exact supplyAt_sup x rs C z p
  have hsub : ∀ c, c ∈ (C.map (S.schOf x rs)).filter (S.sup rs z) → c ∈ C.map (S.schOf x rs) ∧ c.is = true := fun c hc => by
    obtain ⟨h1, h2⟩ := List.mem_filter.1 hc
    unfold S.sup at h2
    rw [Bool.and_eq_true] at h2
    exact ⟨h1, h2.1⟩
  rw [sh_short (fun p => S.supplyAt x rs C z p), hf]
  unfold S.supplyOf
  rw [short_ofL]
  have h0 : S.valueAt (-1048577) ((C.map (S.schOf x rs)).filter (S.sup rs z)) = 0 := valueAt_none fun c hc => by
    obtain ⟨h1, h2⟩ := hsub c hc
    have := hin c h1 h2
    omega
  obtain ⟨p1, p2⟩ := places_inv ((C.map (S.schOf x rs)).filter (S.sup rs z))
  have key := sh_more (f := fun p => S.valueAt p ((C.map (S.schOf x rs)).filter (S.sup rs z))) (Q0 := S.ends2 ((C.map (S.schOf x rs)).filter (S.sup rs z))) (valueAt_const _) U (S.places ((C.map (S.schOf x rs)).filter (S.sup rs z))) (-1048577) hU.asc p1 (fun p hp => ?_) (fun q hq => ?_) (fun q hq _ => (p2 q).2 hq)
  · simp only [h0] at key
    exact key
  · obtain ⟨h1, _⟩ := (hU.mem p).1 hp
    unfold S.allEnds at h1
    obtain ⟨c, hc, he⟩ := ends2_mem.1 h1
    obtain ⟨h2, h3⟩ := List.mem_filter.1 hc
    have := hin c h2 h3
    rcases he with rfl | rfl <;> omega
  · obtain ⟨c, hc, he⟩ := ends2_mem.1 ((p2 q).1 hq)
    obtain ⟨h1, h2⟩ := hsub c hc
    have h3 : q ∈ S.allEnds (C.map (S.schOf x rs)) := ends2_mem.2 ⟨c, List.mem_filter.2 ⟨h1, h2⟩, he⟩
    exact (hU.mem q).2 ⟨h3, hall q h3⟩
end Go.Proofs.YtffkmgjmlahfpaaGreat
