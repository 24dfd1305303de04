/- Lemmas. -/
import Derived.Test.YtffkmgjmlahfpaaGreatRows
import Derived.WalkKit
import Derived.ProofKit
import Derived.Lib.Hide
import Derived.BigQuiet
import Derived.Handy
import Derived.StillTail
import Derived.Maps.AppendAt
import Derived.BigRegion
import Derived.Deep.CutRange
import Derived.Deep.RegionHeld3
import Derived.RangeFuncNested
import Derived.RangeFuncBound
import Derived.RangeFuncCalls
import Derived.RangeFuncLeaves
import Derived.RangeFuncFrom
import Derived.Deep.MidRow
import Derived.Maps.OwnOps
import Derived.Maps.OwnSet
import Derived.OwnWalkIn
import Derived.TacticsInMore
import Derived.LoopNIn
import Derived.LoopIn
import Derived.Shelf.Abstract
import Derived.Deep.LoopGhost
import Derived.Test.YtffkmgjmlahfpaaGreatYY
import Derived.Test.YtffkmgjmlahfpaaGreatYZ
import Derived.Test.YtffkmgjmlahfpaaGreatYAB
import Derived.Test.YtffkmgjmlahfpaaGreatYQ
import Derived.Test.YtffkmgjmlahfpaaGreatYM
import Derived.Test.YtffkmgjmlahfpaaGreatYL
import Derived.Test.YtffkmgjmlahfpaaGreatYI
import Derived.Test.YtffkmgjmlahfpaaGreatYG
import Derived.Test.YtffkmgjmlahfpaaGreatYF
import Derived.Test.YtffkmgjmlahfpaaGreatYB
import Derived.Test.YtffkmgjmlahfpaaGreatYU
import Derived.Test.YtffkmgjmlahfpaaGreatYA
import Derived.Test.YtffkmgjmlahfpaaGreatYC
import Derived.Test.YtffkmgjmlahfpaaGreatYH
import Derived.Test.YtffkmgjmlahfpaaGreatYD
import Derived.Test.YtffkmgjmlahfpaaGreatYE
import Derived.Test.YtffkmgjmlahfpaaGreatYJ
import Derived.Test.YtffkmgjmlahfpaaGreatYK
import Derived.Test.YtffkmgjmlahfpaaGreatYP
import Derived.Test.YtffkmgjmlahfpaaGreatYO
import Derived.Test.YtffkmgjmlahfpaaGreatYV
import Derived.Test.YtffkmgjmlahfpaaGreatYAA
import Derived.Test.YtffkmgjmlahfpaaGreatYN
import Derived.Test.YtffkmgjmlahfpaaGreatYX
import Derived.Test.YtffkmgjmlahfpaaGreatYW
import Derived.Test.YtffkmgjmlahfpaaGreatYT
import Derived.Test.YtffkmgjmlahfpaaGreatYR
import Derived.Test.YtffkmgjmlahfpaaGreatYS
import Derived.Test.YtffkmgjmlahfpaaGreatYAE
import Derived.Test.YtffkmgjmlahfpaaGreatYAC
import Derived.Test.YtffkmgjmlahfpaaGreatYAD
import Derived.Test.YtffkmgjmlahfpaaGreatYAH
import Derived.Test.YtffkmgjmlahfpaaGreatYAI
import Derived.Test.YtffkmgjmlahfpaaGreatYAJ
set_option linter.unusedVariables false
set_option linter.unusedSimpArgs false
namespace Go.Proofs.YtffkmgjmlahfpaaGreat
open Go.RowKit
set_option maxRecDepth 20000 in
set_option maxHeartbeats 2000000 in
theorem rlegs16_any (l : List BarR) (rs : List Rn) (A : Option Addr) (n c : Nat) (A' : Option Addr) (n' c' : Nat) (B : Nat) (w : World) (hB : B ≤ w.heap.size) (hA : BarsAt w B A n l) (hR : RunsAt w B A' n' rs) (i k j k0 : Nat) (r : BarR) (hL : Lies l rs i k j k0 r) (L : Nat) (hLL : (S.legsOf r.b.code).length = L) :
    Calls Tryz.prog 95 #[.slice A n c, .slice A' n' c', .int .i64 i] w (GivesOne 89 6 L ((S.legsL (S.laidPath r.b (rs[k]'hL.st.lt) j)).flatMap boxC) w) := by
  have HP := Lib.hid (rpoints16_any l rs A n c A' n' c' B w hB hA hR i k j k0 r hL L hLL)
  have HLP := Lib.hid (show (S.laidPath r.b (rs[k]'hL.st.lt) j).length = L + 1 by rw [laidPath_len, hLL])
  have hl6 := legs_len r.b.code
  rw [hLL] at hl6
  clear hA hR
  generalize S.laidPath r.b (rs[k]'hL.st.lt) j = LP at *
  clear hL hLL
  have HLN := Lib.hid (show (S.legsL LP).length = L by rw [S.legsL, legsTo_len, HLP.out]; rfl)
  have HLL := Lib.hid (show S.legsL LP = S.legsTo LP L by rw [S.legsL, HLP.out]; rfl)
  have HLS := Lib.hid (fun m => legsTo_snoc LP m)
  have HTW := Lib.hid (fun (p q : Pt) (W : World) (A : Option Addr) (c B' : Nat) (hw : B' ≤ W.heap.size) (hs : Cells W B' A ([p, q].flatMap ptC)) => hull_two p q ▸ rhull_any A 2 c [p, q] p B' W rfl (by omega) hw hs rfl)
  go_enter Tryz.func95, Tryz.ntmps95
  go_wp2_with (first
    | (go_at_call 156; (with_reducible refine (HP.out).mono ?_); rintro e w1 ⟨Aw1, cw1, rfl, how1, hbw1⟩; obtain ⟨hcw1, hfw1⟩ := bcell hbw1))
  have hs1 := (own_cells how1 (by unfold maxLen; omega)).1
  have hcw := (own_cells how1 (by unfold maxLen; omega)).2.1
  have hbw : Below w.heap.size w w1 := hbw1
  clear hcw1 hfw1 how1
  go_loopw [8, 9] (fun v i wr => ∃ (q : Nat) (A3 : Option Addr) (c3 : Nat), q ≤ L ∧ i = .int .i64 ((q + 1 : Nat) : Int) ∧ v = .slice A3 q c3 ∧ Row w1 wr none w.heap.size 89 6 (.slice A3 q c3) q ((S.legsTo LP q).flatMap boxC) ∧ Exc [] w1 wr) (fun _ i _ => L + 1 - (intOf i).toNat)
  case atStart => exact ⟨0, none, 0, Nat.zero_le _, rfl, rfl, by simpa [S.legsTo] using Row.none_ _ _ _ _, Exc.refl _ _⟩
  case round =>
    obtain ⟨q, A3, c3, hq, rfl, rfl, hRW, hX⟩ := hrel
    have hbx : Below w1.heap.size w1 wr := hX.below (Nat.le_refl _) (by simp)
    have hsz := hbx.size
    by_cases hlt : q < L
    · have hs' := hs1.below hbx
      obtain ⟨b4, o4, rfl, hbl, _⟩ := hs'.at_ (by rw [flat_len ptC 3 ptC_len, HLP.out]; omega)
      have hs2 := Cells.two (k := q) hs' (by have := HLP.out; omega)
      have HTq := Lib.hid (fun (W : World) (A : Option Addr) (c B' : Nat) (hw : B' ≤ W.heap.size) (hs : Cells W B' A ([S.ptD LP q, S.ptD LP (q + 1)].flatMap ptC)) => HTW.out _ _ W A c B' hw hs)
      have HSq := Lib.hid (show (S.legsTo LP (q + 1)).flatMap boxC = (S.legsTo LP q).flatMap boxC ++ boxC (S.legB (S.ptD LP q) (S.ptD LP (q + 1))) by rw [HLS.out, List.flatMap_append]; simp)
      generalize S.legB (S.ptD LP q) (S.ptD LP (q + 1)) = X at *
      generalize [S.ptD LP q, S.ptD LP (q + 1)].flatMap ptC = P2 at *
      have hki : (q : Int) + 1 < (L : Int) + 1 := by omega
      have hq6 : q ≤ 6 := by omega
      have hcp : q + 1 + 1 ≤ cw1 := by omega
      have hcpi : (q : Int) + 1 + 1 ≤ (cw1 : Int) := by omega
      have e2 : q + 1 + 1 - q = 2 := by omega
      go_wp2_with (first
        | (go_at_call 157; (with_reducible refine (HTq.out _ _ _ _ (Nat.le_trans (Nat.le_refl _) hsz) hs2).mono ?_); rintro e w2 ⟨rfl, hbw2⟩; obtain ⟨hcw2, hfw2⟩ := bcell hbw2)
        | (at_builtin; refine wpList_push rfl (.tmp 20) (.tmp 28) _ rfl elemBx ((hRW.via hbw2).alloc _) ((Exc.via hbw2 hX).alloc _) (by simp) hbw.size rfl (w2.heap.size) 1 1 [.int .i64 X.lo.x, .int .i64 X.lo.y, .int .i64 X.lo.z, .int .i64 X.hi.x, .int .i64 X.hi.y, .int .i64 X.hi.z] rfl rfl ?_ (by simp [Value.oneCell']) (by unfold maxLen; omega) (by omega) ?_; (· intro j u hu; exact by have := (Cells.newRow w2 #[.int .i64 X.lo.x, .int .i64 X.lo.y, .int .i64 X.lo.z, .int .i64 X.hi.x, .int .i64 X.hi.y, .int .i64 X.hi.z] 89 (0, 0)).get (k := j) (v := u) hu; rwa [Nat.zero_add] at this); intro v' w' hR' hX' hO'))
      obtain ⟨A5, c5, rfl, _, _, _⟩ := own_form hR'.own
      go_roundw
      case rel => exact ⟨q + 1, A5, c5, by omega, by go_num, rfl, by rw [HSq.out]; exact hR', hX'⟩
      case measure => simp [intOf]; omega
    · have he : q = L := by omega
      subst he
      have hki : ¬ (q : Int) + 1 < (q : Int) + 1 := by omega
      go_wp2
      go_ret
      refine ⟨A3, c3, rfl, ?_, ba_via hbx hbw⟩
      have := hRW.own
      rwa [← HLL.out] at this
set_option maxRecDepth 20000 in
set_option maxHeartbeats 2000000 in
theorem rmain_any (x : Dt) (B : Nat) (w : World) (hB : B ≤ w.heap.size) (hA : DtAt w B x) (h : S.laid (bars x.bs) x.rs = true) (i : Nat) (m : Mn) (hm : (S.mains (bars x.bs) x.rs)[i]? = some m) :
    Calls Tryz.prog 43 #[dtV x, .int .i64 i] w fun e w' => e = .returned (.tuple #[boxV m.leg, .bool m.has]) ∧ Below w.heap.size w w' := by
  obtain ⟨k, j, k0, r, hL⟩ := lies_of h (List.getElem?_eq_some_iff.1 hm).1
  have hmn : m = S.mnOf r.b.size r.b.mark (S.mainLeg (S.laidPath r.b (x.rs[k]'hL.st.lt) j)) := by
    have := hL.st.get
    rw [hm] at this
    injection this
  have HA := Lib.hid hA
  have hl6 := legs_len r.b.code
  have hlp := laidPath_len r.b (x.rs[k]'hL.st.lt) j
  have HLG := Lib.hid (fun (W : World) (hw : B ≤ W.heap.size) (hh : DtAt W B x) => rlegs16_any x.bs x.rs x.bA x.bn x.bc x.rA x.rn x.rc B W hw hh.bars hh.runs i k j k0 r hL _ rfl)
  have hln : (S.legsL (S.laidPath r.b (x.rs[k]'hL.st.lt) j)).length = (S.legsOf r.b.code).length := by rw [S.legsL, legsTo_len, hlp]; rfl
  clear hA hm
  generalize S.laidPath r.b (x.rs[k]'hL.st.lt) j = LP at *
  cases hml : S.mainLeg LP with
  | none =>
    have hid := main_none (by omega) hml
    have HMG := Lib.hid (fun (W : World) (A : Option Addr) (c B' : Nat) (hw : B' ≤ W.heap.size) (hs : Cells W B' A ((S.legsL LP).flatMap boxC)) => hid ▸ mainleg_any A (S.legsOf r.b.code).length c (S.legsL LP) B' W hln (by omega) hw hs)
    rw [hml] at hmn
    subst hmn
    unfold dtV
    go_enter Tryz.func43, Tryz.ntmps43
    go_wp2_with (first
      | (go_at_call 95; (with_reducible refine (HLG.out _ (size_via hB bel) (HA.out.at_ hB bel)).mono ?_); rintro e w1 ⟨Aw1, cw1, rfl, how1, hbw1⟩; obtain ⟨hcw1, hfw1⟩ := bcell hbw1; have hzw1_0 : w.heap.size < w1.heap.size := lt_via hbw1 (by first | omega | (simp; done) | (simp; omega)); have hzw1_1 : w.heap.size + 1 < w1.heap.size := lt_via hbw1 (by first | omega | (simp; done) | (simp; omega)))
      | (go_at_call 96; (with_reducible refine (HMG.out _ _ _ _ (Nat.le_refl _) (own_cells how1 (by unfold maxLen; omega)).1).mono ?_); rintro e w2 ⟨rfl, hbw2⟩; obtain ⟨hcw2, hfw2⟩ := bcell hbw2; have hzw2_0 : w.heap.size < w2.heap.size := lt_via hbw2 (by first | omega | (simp; done) | (simp; omega)); have hzw2_1 : w.heap.size + 1 < w2.heap.size := lt_via hbw2 (by first | omega | (simp; done) | (simp; omega))))
    have hbel : Below w.heap.size w w2 := bel
    exact bodyPost_ret (v := .tuple #[.agg #[.int .i64 0, .int .i64 0, .int .i64 0, .int .i64 0, .int .i64 0, .int .i64 0], .bool false]) (by simp [results, Tryz.results43, go_sem, *]) rfl ⟨rfl, ((((((hbel.setCell (Nat.le_succ _) _).setCell (Nat.le_succ _) _).setCell (Nat.le_succ _) _).setCell (Nat.le_succ _) _).setCell (Nat.le_succ _) _).setCell (Nat.le_succ _) _)⟩
  | some b =>
    obtain ⟨jj, hid, hg, hjj⟩ := main_some (by omega) hml
    have HMG := Lib.hid (fun (W : World) (A : Option Addr) (c B' : Nat) (hw : B' ≤ W.heap.size) (hs : Cells W B' A ((S.legsL LP).flatMap boxC)) => hid ▸ mainleg_any A (S.legsOf r.b.code).length c (S.legsL LP) B' W hln (by omega) hw hs)
    rw [hml] at hmn
    subst hmn
    have HG := Lib.hid hg
    have hjl : jj < (S.legsOf r.b.code).length := by omega
    have hji : (jj : Int) < ((S.legsOf r.b.code).length : Int) := by omega
    clear hid hg
    unfold dtV
    go_enter Tryz.func43, Tryz.ntmps43
    go_wp2_with (first
      | (go_at_call 95; (with_reducible refine (HLG.out _ (size_via hB bel) (HA.out.at_ hB bel)).mono ?_); rintro e w1 ⟨Aw1, cw1, rfl, how1, hbw1⟩; obtain ⟨hcw1, hfw1⟩ := bcell hbw1; have hzw1_0 : w.heap.size < w1.heap.size := lt_via hbw1 (by first | omega | (simp; done) | (simp; omega)); have hzw1_1 : w.heap.size + 1 < w1.heap.size := lt_via hbw1 (by first | omega | (simp; done) | (simp; omega)))
      | (go_at_call 96; (with_reducible refine (HMG.out _ _ _ _ (Nat.le_refl _) (own_cells how1 (by unfold maxLen; omega)).1).mono ?_); rintro e w2 ⟨rfl, hbw2⟩; obtain ⟨hcw2, hfw2⟩ := bcell hbw2
         have hzw2_0 : w.heap.size < w2.heap.size := lt_via hbw2 (by first | omega | (simp; done) | (simp; omega))
         have hzw2_1 : w.heap.size + 1 < w2.heap.size := lt_via hbw2 (by first | omega | (simp; done) | (simp; omega))
         have hsL := (own_cells how1 (by unfold maxLen; omega)).1
         obtain ⟨b4, o4, rfl, hbl4, hxx⟩ := hsL.at_ (by rw [flat_len boxC 6 boxC_len, hln]; omega)
         clear hxx
         obtain ⟨c0, c1, c2, c3, c4, c5⟩ := hsL.boxes HG.out))
    have hbel : Below w.heap.size w w2 := bel
    exact bodyPost_ret (v := .tuple #[.agg #[.int .i64 b.lo.x, .int .i64 b.lo.y, .int .i64 b.lo.z, .int .i64 b.hi.x, .int .i64 b.hi.y, .int .i64 b.hi.z], .bool true]) (by simp [results, Tryz.results43, go_sem, *]) rfl ⟨rfl, ((((((hbel.setCell (Nat.le_succ _) _).setCell (Nat.le_succ _) _).setCell (Nat.le_succ _) _).setCell (Nat.le_succ _) _).setCell (Nat.le_succ _) _).setCell (Nat.le_succ _) _)⟩
theorem rsteelArea_any (d : Int) (w : World) (h : S.size d = true) :
    Calls Tryz.prog 98 #[.int .i64 d] w fun e w' => e = .returned (.int .i64 (S.steelArea d)) ∧ w = w' := by
  rcases size_cases h with rfl | rfl | rfl | rfl | rfl | rfl | rfl | rfl | rfl
  all_goals (
    go_enter Tryz.func98, Tryz.ntmps98
    go_wp2
    go_ret
    exact ⟨rfl, rfl⟩)
theorem rends_rod (x : Dt) (r : Rod) (A : Option Addr) (c : Nat) (B : Nat) (w : World) (hB : B ≤ w.heap.size) (hA : DtAt w B x) (hleg : Cells w B A (r.legs.flatMap boxC)) (h : RodFit x r) (hr : S.rule x.rule = true) (hm : S.member x.m = true) (h0 : 0 ≤ r.main) :
    Calls Tryz.prog 159 #[ruleV x.rule, memV x.m x.mA x.mn x.mc x.hA x.hn x.hc, barV r.bar.b r.bar.A r.bar.n r.bar.c, .slice A r.legs.length c] w fun e w' => e = .returned (.tuple #[.int .i64 (S.lowOf x r), .int .i64 (S.upOf x r)]) ∧ Below w.heap.size w w' := by
  obtain ⟨q, hq, hqe, _⟩ := idxf_some (xs := r.legs) (p := S.isMainB) (by rw [← h.main]; exact h0)
  have hl6 := legs_len r.bar.b.code
  have hE : EndsAt w B x.mA x.mn x.hA x.hn x.m r.bar.A r.bar.n r.bar.b A r.legs.length r.legs := ⟨hA.sol, hA.bars.each _ h.mem, hleg, rfl, by have := h.len; omega, hA.name⟩
  have := rends_yes x.rule x.m x.mA x.mn x.mc x.hA x.hn x.hc r.bar.b r.bar.A r.bar.n r.bar.c A r.legs.length c r.legs B w hB hE (rod_given h hr hm h0) q hq hqe
  have e : r.main.toNat = q := by rw [h.main, hqe]; rfl
  unfold S.lowOf S.upOf S.legOf
  rw [e]
  exact this
set_option maxHeartbeats 2000000 in
theorem rshort_any (l : List Stp) (A : Option Addr) (n c : Nat) (B : Nat) (w : World) (hB : B ≤ w.heap.size) (hA : StepsAt w B A n l) (hm : n ≤ 10000) :
    Calls Tryz.prog 89 #[.slice A n c] w fun e w' => ∃ (A' : Option Addr) (c' : Nat), e = .returned (.slice A' (S.shortSt l).length c') ∧ w'.ownsRow w.heap.size 81 2 (.slice A' (S.shortSt l).length c') (S.shortSt l).length ((S.shortSt l).flatMap stC) ∧ Below w.heap.size w w' := by
  have HN := Lib.hid hA.len
  have hs := hA.cells
  clear hA
  go_enter Tryz.func89, Tryz.ntmps89
  go_wp2
  go_loopw [3, 4, 5] (fun v u i wr => ∃ k : Nat, k ≤ n ∧ i = .int .i64 k ∧ ∃ (la : Int) (out : List Stp), u = .int .i64 la ∧ Hid ((la, out) = S.shortStF (l.take k)) ∧ Row w wr none w.heap.size 81 2 v out.length (out.flatMap stC) ∧ Exc [] w wr) (fun _ _ i _ => n - (intOf i).toNat)
  case atStart => exact ⟨0, Nat.zero_le _, rfl, 0, [], rfl, Lib.hid rfl, Row.none_ _ _ _ _, Exc.refl _ _⟩
  case round =>
    obtain ⟨k, hk, rfl, la, out, rfl, hu, hR, hX⟩ := hrel
    have hbr : Below w.heap.size w wr := hX.below (Nat.le_refl _) (by simp)
    by_cases hlt : k < n
    · have hkx : k < l.length := by have := HN.out; omega
      have hs' := hs.below (hbr.mono hB)
      obtain ⟨b, o, rfl, hbB, hx⟩ := hs'.at_ (by rw [flat_len stC 2 stC_len]; omega)
      have c1w := hs.rowj stC_len hkx 1 rfl
      clear hx
      have c0 := hs'.row0 stC_len hkx rfl
      have c1 := hs'.rowj stC_len hkx 1 rfl
      clear hs'
      have hbl : b < wr.heap.size := by have := hbr.size; omega
      have hki : (k : Int) < n := by omega
      have HV := Lib.hid (shortStF_next hkx)
      have hol : out.length ≤ 10000 := by
        have h1 := shortStF_len (l.take k)
        rw [← hu.out, List.length_take] at h1
        simp only [] at h1
        omega
      rw [← hu.out] at HV
      generalize l[k] = r at *
      by_cases h1 : r.val = la
      · have hb1 : (r.val != la) = false := by simp [h1]
        have HV2 := Lib.hid (HV.out.trans (by rw [if_pos h1]))
        clear h1
        go_wp2
        go_roundw
        case rel => exact ⟨k + 1, by omega, by go_num, r.val, out, rfl, Lib.hid HV2.out.symm, hR, hX⟩
        case measure => simp [intOf]; omega
      · have hb1 : (r.val != la) = true := by simp [h1]
        have HV2 := Lib.hid (HV.out.trans (by rw [if_neg h1]))
        clear h1
        have HR1 := Lib.hid hR
        have HX1 := Lib.hid hX
        have hss := hX.size
        have HLT := Lib.hid hR.own.lt
        clear hR hX
        go_wp2_with (at_builtin; refine wpList_push rfl (.tmp 19) (.tmp 24) _ rfl elemSt (HR1.out.alloc _) (HX1.out.alloc _) (by simp) (Nat.le_refl _) rfl wr.heap.size 1 1 [.int .i64 r.fro, .int .i64 r.val] rfl rfl ?_ (by simp [Value.oneCell']) (by unfold maxLen; omega) (by omega) ?_; (· intro j u hu; have := (Cells.newRow wr #[.int .i64 r.fro, .int .i64 r.val] 81 (0, 0)).get (k := j) (v := u) hu; simpa using this); intro v2 wE hRE hXE hOE; have c1E := ((hXE.below (Nat.le_refl _) (by simp)).cell (p := ⟨b, o + k * 2 + 1, none⟩) (by show b < _; omega)).trans c1w; have hblE : b < wE.heap.size := (by have := hXE.size; omega))
        go_roundw
        case rel => exact ⟨k + 1, by omega, by go_num, r.val, out ++ [r], rfl, Lib.hid HV2.out.symm, by simpa using hRE, hXE⟩
        case measure => simp [intOf]; omega
    · have hr2 := hR.own
      have HE := Lib.hid (show out = S.shortSt l by have := hu.out; rw [List.take_of_length_le (by have := HN.out; omega)] at this; unfold S.shortSt; rw [← this])
      clear hu
      have hol : out.length ≤ 10000 := by
        rw [HE.out]
        have h1 := shortStF_len l
        have := HN.out
        unfold S.shortSt
        omega
      obtain ⟨A5, c5, rfl, _, _, _⟩ := own_form hr2 (by unfold maxLen; omega)
      go_wp2
      go_ret
      rw [← HE.out]
      exact ⟨A5, c5, rfl, hr2, hbr⟩
set_option maxHeartbeats 4000000 in
theorem rin_any (a : Bx) (x1 x2 y z : Int) (w : World) :
    Calls Tryz.prog 144 #[boxV a, .agg #[.int .i64 x1, .int .i64 y, .int .i64 z, .int .i64 x2, .int .i64 y, .int .i64 z]] w fun e w' => e = .returned (.bool (S.inside ⟨⟨x1, y, z⟩, ⟨x2, y, z⟩⟩ a)) ∧ Below w.heap.size w w' := by
  have H := Lib.hid (show S.inside ⟨⟨x1, y, z⟩, ⟨x2, y, z⟩⟩ a = ((decide (a.lo.y ≤ y) && decide (y ≤ a.hi.y)) && (decide (a.lo.z ≤ z) && decide (z ≤ a.hi.z))) from rfl)
  unfold boxV
  by_cases h1 : a.lo.y ≤ y <;> by_cases h2 : y ≤ a.hi.y <;> by_cases h3 : a.lo.z ≤ z <;> by_cases h4 : z ≤ a.hi.z
  all_goals (
    have HE := Lib.hid (H.out.trans (by simp only [h1, h2, h3, h4, decide_true, decide_false, Bool.and_true, Bool.and_false, Bool.true_and, Bool.false_and]; rfl))
    go_enter Tryz.func144, Tryz.ntmps144
    go_wp2
    go_ret
    exact ⟨ret_b HE.out.symm, bel⟩)
theorem jointOk_in {l : List Mn} {j : Jn} {i k : Nat} (hi : j.first = (i : Int)) (hk : j.second = (k : Int)) (h : S.jointIn l j = true) {a b : Mn} (ha : l[i]? = some a) (hb : l[k]? = some b) : S.jointOk l j = S.jointOn a b := by
  unfold S.jointOk
  rw [h, hi, hk]
  simp [ha, hb]
set_option maxRecDepth 20000 in
set_option maxHeartbeats 4000000 in
theorem rjoint_in (x : Dt) (B : Nat) (w : World) (hB : B ≤ w.heap.size) (hA : DtAt w B x) (h : S.laid (bars x.bs) x.rs = true) (i k : Nat) (a b : Mn) (ha : (S.mains (bars x.bs) x.rs)[i]? = some a) (hb : (S.mains (bars x.bs) x.rs)[k]? = some b) :
    Calls Tryz.prog 64 #[dtV x, .agg #[.int .i64 i, .int .i64 k]] w fun e w' => e = .returned (.bool (S.jointOn a b)) ∧ Below w.heap.size w w' := by
  have HA := Lib.hid hA
  have HC := Lib.hid (fun (W : World) (hw : B ≤ W.heap.size) (hh : DtAt W B x) => rcount25_any x B W hw hh h)
  have HM1 := Lib.hid (fun (W : World) (hw : B ≤ W.heap.size) (hh : DtAt W B x) => rmain_any x B W hw hh h i a ha)
  have HM2 := Lib.hid (fun (W : World) (hw : B ≤ W.heap.size) (hh : DtAt W B x) => rmain_any x B W hw hh h k b hb)
  have HE := Lib.hid (show S.jointOn a b = (a.has && b.has && decide (a.leg.lo.x < b.leg.lo.x) && decide (a.leg.hi.x < b.leg.hi.x) && decide (b.leg.lo.x ≤ a.leg.hi.x)) from rfl)
  have hil := (List.getElem?_eq_some_iff.1 ha).1
  have hkl := (List.getElem?_eq_some_iff.1 hb).1
  have hii : (i : Int) < ((S.mains (bars x.bs) x.rs).length : Int) := by omega
  have hki : (k : Int) < ((S.mains (bars x.bs) x.rs).length : Int) := by omega
  have hDB : Blk ((w.alloc (.cells #[.string x.m.name, .slice x.mA x.mn x.mc, .slice x.hA x.hn x.hc, .int .i64 x.m.cover, .int .i64 x.m.aggr, .int .i64 x.m.poker, .slice x.bA x.bn x.bc, .slice x.rA x.rn x.rc, .slice x.jA x.jn x.jc, .slice x.dA x.dn x.dc, .int .i64 x.rule.num, .int .i64 x.rule.den, .int .i64 x.rule.pnum, .int .i64 x.rule.pden, .int .i64 x.rule.bnum, .int .i64 x.rule.bden, .int .i64 x.rule.lnum, .int .i64 x.rule.lden, .int .i64 x.rule.least] 34)).alloc (.cells #[.int .i64 i, .int .i64 k] 124)) w.heap.size 34 #[.string x.m.name, .slice x.mA x.mn x.mc, .slice x.hA x.hn x.hc, .int .i64 x.m.cover, .int .i64 x.m.aggr, .int .i64 x.m.poker, .slice x.bA x.bn x.bc, .slice x.rA x.rn x.rc, .slice x.jA x.jn x.jc, .slice x.dA x.dn x.dc, .int .i64 x.rule.num, .int .i64 x.rule.den, .int .i64 x.rule.pnum, .int .i64 x.rule.pden, .int .i64 x.rule.bnum, .int .i64 x.rule.bden, .int .i64 x.rule.lnum, .int .i64 x.rule.lden, .int .i64 x.rule.least] := (Blk.new w 34 #[.string x.m.name, .slice x.mA x.mn x.mc, .slice x.hA x.hn x.hc, .int .i64 x.m.cover, .int .i64 x.m.aggr, .int .i64 x.m.poker, .slice x.bA x.bn x.bc, .slice x.rA x.rn x.rc, .slice x.jA x.jn x.jc, .slice x.dA x.dn x.dc, .int .i64 x.rule.num, .int .i64 x.rule.den, .int .i64 x.rule.pnum, .int .i64 x.rule.pden, .int .i64 x.rule.bnum, .int .i64 x.rule.bden, .int .i64 x.rule.lnum, .int .i64 x.rule.lden, .int .i64 x.rule.least]).alloc _
  clear hA ha hb hil hkl h
  generalize (S.mains (bars x.bs) x.rs).length = n at *
  have hRG := hDB.range
  have HDB := Lib.hid hDB
  clear hDB
  unfold dtV at HC HM1 HM2
  unfold dtV
  go_enter Tryz.func64, Tryz.ntmps64
  go_upto_region 2 with (first
    | (refine wpList_load_mid rfl 34 (.tmp 2) rfl _ _ rfl _ _ hRG Tryz.underlying34 rfl (by kernel_rfl) ?_)
    | (go_at_call 42; (with_reducible refine (HC.out _ (size_via hB bel) (HA.out.at_ hB bel)).mono ?_); rintro e w1 ⟨rfl, hbw1⟩; obtain ⟨hcw1, hfw1⟩ := bcell hbw1; have hzw1_0 : w.heap.size < w1.heap.size := lt_via hbw1 (by first | omega | (simp; done) | (simp; omega)); have hzw1_1 : w.heap.size + 1 < w1.heap.size := lt_via hbw1 (by first | omega | (simp; done) | (simp; omega))))
  have hRG1 := (HDB.out.via hbw1).range
  have hi0 : ¬ (i : Int) < 0 := by omega
  have hk0 : ¬ (k : Int) < 0 := by omega
  have hi1 : ¬ (n : Int) ≤ (i : Int) := by omega
  have hk1 : ¬ (n : Int) ≤ (k : Int) := by omega
  have hJ0 : w1.cell? ⟨w.heap.size + 1, 0, none⟩ = some (.int .i64 i) := by
    have := (Blk.via (by simpa using Blk.new (w.alloc (.cells #[.string x.m.name, .slice x.mA x.mn x.mc, .slice x.hA x.hn x.hc, .int .i64 x.m.cover, .int .i64 x.m.aggr, .int .i64 x.m.poker, .slice x.bA x.bn x.bc, .slice x.rA x.rn x.rc, .slice x.jA x.jn x.jc, .slice x.dA x.dn x.dc, .int .i64 x.rule.num, .int .i64 x.rule.den, .int .i64 x.rule.pnum, .int .i64 x.rule.pden, .int .i64 x.rule.bnum, .int .i64 x.rule.bden, .int .i64 x.rule.lnum, .int .i64 x.rule.lden, .int .i64 x.rule.least] 34)) 124 #[.int .i64 i, .int .i64 k]) hbw1).cell 0
    simpa using this
  have hJ1 : w1.cell? ⟨w.heap.size + 1, 1, none⟩ = some (.int .i64 k) := by
    have := (Blk.via (by simpa using Blk.new (w.alloc (.cells #[.string x.m.name, .slice x.mA x.mn x.mc, .slice x.hA x.hn x.hc, .int .i64 x.m.cover, .int .i64 x.m.aggr, .int .i64 x.m.poker, .slice x.bA x.bn x.bc, .slice x.rA x.rn x.rc, .slice x.jA x.jn x.jc, .slice x.dA x.dn x.dc, .int .i64 x.rule.num, .int .i64 x.rule.den, .int .i64 x.rule.pnum, .int .i64 x.rule.pden, .int .i64 x.rule.bnum, .int .i64 x.rule.bden, .int .i64 x.rule.lnum, .int .i64 x.rule.lden, .int .i64 x.rule.least] 34)) 124 #[.int .i64 i, .int .i64 k]) hbw1).cell 1
    simpa using this
  have hbv1 : Below w.heap.size w w1 := bel
  have HDB1 := Lib.hid (HDB.out.via hbw1)
  clear hcw1 hfw1
  clear hRG HDB hbw1 HC
  go_upto_region 5 with (first
    | (refine wpList_load_mid rfl 34 (.tmp 2) rfl _ _ rfl _ _ hRG1 Tryz.underlying34 rfl (by kernel_rfl) ?_)
    | (go_at_call 43; (with_reducible refine (HM1.out _ (size_via hB bel) (HA.out.at_ hB bel)).mono ?_); rintro e w2 ⟨rfl, hbw2⟩; obtain ⟨hcw2, hfw2⟩ := bcell hbw2))
  have hbv2 : Below w.heap.size w w2 := bel
  have hRG2 : (w2.alloc (.cells #[.int .i64 a.leg.lo.x, .int .i64 a.leg.lo.y, .int .i64 a.leg.lo.z, .int .i64 a.leg.hi.x, .int .i64 a.leg.hi.y, .int .i64 a.leg.hi.z] 89)).rangeAt w.heap.size 0 [.string x.m.name, .slice x.mA x.mn x.mc, .slice x.hA x.hn x.hc, .int .i64 x.m.cover, .int .i64 x.m.aggr, .int .i64 x.m.poker, .slice x.bA x.bn x.bc, .slice x.rA x.rn x.rc, .slice x.jA x.jn x.jc, .slice x.dA x.dn x.dc, .int .i64 x.rule.num, .int .i64 x.rule.den, .int .i64 x.rule.pnum, .int .i64 x.rule.pden, .int .i64 x.rule.bnum, .int .i64 x.rule.bden, .int .i64 x.rule.lnum, .int .i64 x.rule.lden, .int .i64 x.rule.least] := ((HDB1.out.via hbw2).alloc _).range
  have hz2 : w.heap.size + 1 < w2.heap.size := lt_via hbw2 hzw1_1
  have hb1 := (Blk.new w2 89 #[.int .i64 a.leg.lo.x, .int .i64 a.leg.lo.y, .int .i64 a.leg.lo.z, .int .i64 a.leg.hi.x, .int .i64 a.leg.hi.y, .int .i64 a.leg.hi.z])
  clear HM1 HDB1 hRG1
  cases hb : b.has
  all_goals (
    rw [hb] at HM2 HE
    clear hb
    go_upto_region 6 with (first
      | (refine wpList_load_mid rfl 34 (.tmp 2) rfl _ _ rfl _ _ hRG2 Tryz.underlying34 rfl (by kernel_rfl) ?_)
      | (go_at_call 43; (with_reducible refine (HM2.out _ (size_via hB bel) (HA.out.at_ hB bel)).mono ?_); rintro e w3 ⟨rfl, hbw3⟩; obtain ⟨hcw3, hfw3⟩ := bcell hbw3))
    have hbv3 : Below w.heap.size w w3 := ba_via hbw3 (ba_alloc hbv2 _)
    have hx := hb1.via hbw3
    have hx0 := hx.cell 0
    have hx3 := hx.cell 3
    have hlx := hx.lt
    simp only [List.getElem?_toArray, List.getElem?_cons_zero, List.getElem?_cons_succ] at hx0 hx3
    clear hcw3 hfw3 hcw2 hfw2
    clear hx
    cases ha : a.has
    all_goals (
      rw [ha] at HE
      go_wp2
      all_goals (go_ret; exact ⟨ret_b (by rw [HE.out, Bool.eq_iff_iff]; all_goals (first | (simp; done) | (simp; omega))), ba_alloc hbv3 _⟩)))
set_option maxRecDepth 20000 in
set_option maxHeartbeats 4000000 in
theorem rjoint_out (x : Dt) (jn : Jn) (B : Nat) (w : World) (hB : B ≤ w.heap.size) (hA : DtAt w B x) (hl : S.laid (bars x.bs) x.rs = true) (h : S.jointIn (S.mains (bars x.bs) x.rs) jn = false) :
    Calls Tryz.prog 64 #[dtV x, jnV jn] w fun e w' => e = .returned (.bool (S.jointOk (S.mains (bars x.bs) x.rs) jn)) ∧ Below w.heap.size w w' := by
  have H := Lib.hid (show S.jointOk (S.mains (bars x.bs) x.rs) jn = false by unfold S.jointOk; rw [h]; rfl)
  have HA := Lib.hid hA
  have HC := Lib.hid (fun (W : World) (hw : B ≤ W.heap.size) (hh : DtAt W B x) => rcount25_any x B W hw hh hl)
  rw [H.out]
  have hcs : jn.first < 0 ∨ (¬ jn.first < 0 ∧ ((S.mains (bars x.bs) x.rs).length : Int) ≤ jn.first) ∨ (¬ jn.first < 0 ∧ ¬ ((S.mains (bars x.bs) x.rs).length : Int) ≤ jn.first ∧ jn.second < 0) ∨ (¬ jn.first < 0 ∧ ¬ ((S.mains (bars x.bs) x.rs).length : Int) ≤ jn.first ∧ ¬ jn.second < 0 ∧ ((S.mains (bars x.bs) x.rs).length : Int) ≤ jn.second) := by
    simp only [S.jointIn, Bool.and_eq_false_iff, decide_eq_false_iff_not] at h
    omega
  have hDB : Blk ((w.alloc (.cells #[.string x.m.name, .slice x.mA x.mn x.mc, .slice x.hA x.hn x.hc, .int .i64 x.m.cover, .int .i64 x.m.aggr, .int .i64 x.m.poker, .slice x.bA x.bn x.bc, .slice x.rA x.rn x.rc, .slice x.jA x.jn x.jc, .slice x.dA x.dn x.dc, .int .i64 x.rule.num, .int .i64 x.rule.den, .int .i64 x.rule.pnum, .int .i64 x.rule.pden, .int .i64 x.rule.bnum, .int .i64 x.rule.bden, .int .i64 x.rule.lnum, .int .i64 x.rule.lden, .int .i64 x.rule.least] 34)).alloc (.cells #[.int .i64 jn.first, .int .i64 jn.second] 124)) w.heap.size 34 #[.string x.m.name, .slice x.mA x.mn x.mc, .slice x.hA x.hn x.hc, .int .i64 x.m.cover, .int .i64 x.m.aggr, .int .i64 x.m.poker, .slice x.bA x.bn x.bc, .slice x.rA x.rn x.rc, .slice x.jA x.jn x.jc, .slice x.dA x.dn x.dc, .int .i64 x.rule.num, .int .i64 x.rule.den, .int .i64 x.rule.pnum, .int .i64 x.rule.pden, .int .i64 x.rule.bnum, .int .i64 x.rule.bden, .int .i64 x.rule.lnum, .int .i64 x.rule.lden, .int .i64 x.rule.least] := (Blk.new w 34 #[.string x.m.name, .slice x.mA x.mn x.mc, .slice x.hA x.hn x.hc, .int .i64 x.m.cover, .int .i64 x.m.aggr, .int .i64 x.m.poker, .slice x.bA x.bn x.bc, .slice x.rA x.rn x.rc, .slice x.jA x.jn x.jc, .slice x.dA x.dn x.dc, .int .i64 x.rule.num, .int .i64 x.rule.den, .int .i64 x.rule.pnum, .int .i64 x.rule.pden, .int .i64 x.rule.bnum, .int .i64 x.rule.bden, .int .i64 x.rule.lnum, .int .i64 x.rule.lden, .int .i64 x.rule.least]).alloc _
  have hRG := hDB.range
  clear hA h H hDB hl
  generalize (S.mains (bars x.bs) x.rs).length = n at *
  unfold dtV at HC
  unfold dtV jnV
  rcases hcs with h | ⟨h, h'⟩ | ⟨h, h', h2⟩ | ⟨h, h', h2, h3⟩
  all_goals (
    go_enter Tryz.func64, Tryz.ntmps64
    go_wp2_with (first
      | (refine wpList_load_mid rfl 34 (.tmp 2) rfl _ _ rfl _ _ hRG Tryz.underlying34 rfl (by kernel_rfl) ?_)
      | (go_at_call 42; (with_reducible refine (HC.out _ (size_via hB bel) (HA.out.at_ hB bel)).mono ?_); rintro e w1 ⟨rfl, hbw1⟩; obtain ⟨hcw1, hfw1⟩ := bcell hbw1; have hzw1_0 : w.heap.size < w1.heap.size := lt_via hbw1 (by first | omega | (simp; done) | (simp; omega)); have hzw1_1 : w.heap.size + 1 < w1.heap.size := lt_via hbw1 (by first | omega | (simp; done) | (simp; omega))))
    go_ret
    exact ⟨rfl, bel⟩)
theorem rjoint_any (x : Dt) (jn : Jn) (B : Nat) (w : World) (hB : B ≤ w.heap.size) (hA : DtAt w B x) (hl : S.laid (bars x.bs) x.rs = true) :
    Calls Tryz.prog 64 #[dtV x, jnV jn] w fun e w' => e = .returned (.bool (S.jointOk (S.mains (bars x.bs) x.rs) jn)) ∧ Below w.heap.size w w' := by
  by_cases h : S.jointIn (S.mains (bars x.bs) x.rs) jn = true
  · have h' := h
    simp only [S.jointIn, Bool.and_eq_true, decide_eq_true_eq] at h'
    obtain ⟨i, hi⟩ : ∃ i : Nat, jn.first = (i : Int) := ⟨jn.first.toNat, by omega⟩
    obtain ⟨k, hk⟩ : ∃ i : Nat, jn.second = (i : Int) := ⟨jn.second.toNat, by omega⟩
    have hix : i < (S.mains (bars x.bs) x.rs).length := by omega
    have hkx : k < (S.mains (bars x.bs) x.rs).length := by omega
    rw [jointOk_in hi hk h (List.getElem?_eq_getElem hix) (List.getElem?_eq_getElem hkx)]
    unfold jnV
    rw [hi, hk]
    exact rjoint_in x B w hB hA hl i k _ _ (List.getElem?_eq_getElem hix) (List.getElem?_eq_getElem hkx)
  · exact rjoint_out x jn B w hB hA hl (by simpa using h)
theorem rfind23_any (l : List Dm) (m : ByteArray) (A : Option Addr) (n c : Nat) (B : Nat) (w : World) (hB : B ≤ w.heap.size) (hA : DemsAt w B A n l) :
    Calls Tryz.prog 116 #[.slice A n c, .string m] w fun e w' => e = .returned (.int .i64 (idxf l (S.isDem m))) ∧ Below w.heap.size w w' := by
  have HN := Lib.hid hA.len
  have hm := hA.max
  have hs := hA.cells
  clear hA
  go_enter Tryz.func116, Tryz.ntmps116
  go_wp2
  go_loopw [5] (fun i wr => ∃ k : Nat, k ≤ n ∧ i = .int .i64 k ∧ Hid (∀ j (h : j < l.length), j < k → S.isDem m l[j] = false) ∧ Below w.heap.size w wr) (fun i _ => n - (intOf i).toNat)
  case atStart => exact ⟨0, Nat.zero_le _, rfl, Lib.hid fun j _ hj => absurd hj (by omega), Below.refl _ _⟩
  case round =>
    obtain ⟨k, hk, rfl, HNO, hbr⟩ := hrel
    by_cases hlt : k < n
    · have hki : (k : Int) < (n : Int) := by omega
      have hkx : k < l.length := by have := HN.out; omega
      have hkl : k < l.length := hkx
      have hs' := hs.below (hbr.mono hB)
      obtain ⟨b, o, rfl, _, _⟩ := hs'.at_ (by rw [flat_len dmC 8 dmC_len]; omega)
      have c0 := hs'.row0 dmC_len hkl rfl
      have HE := Lib.hid (show S.isDem m l[k] = (l[k].name.toList == m.toList) from rfl)
      have HX := Lib.hid (fun hx => idxf_hit (p := S.isDem m) hkx hx HNO.out)
      generalize hq : S.isDem m l[k] = q at *
      have HQ := Lib.hid hq
      clear hq hs'
      generalize hmk : l[k].name = mk at *
      have HMK := Lib.hid hmk
      clear hmk
      by_cases hx : (mk.toList == m.toList) = true
      · have hq : q = true := HE.out.trans hx
        subst hq
        go_wp2
        go_ret
        exact ⟨ret_i (HX.out trivial).symm, hbr⟩
      · have hx' : (mk.toList == m.toList) = false := by simpa using hx
        have hq : q = false := HE.out.trans hx'
        subst hq
        clear hx
        go_wp2
        go_roundw
        case rel =>
          refine ⟨k + 1, by omega, by go_num, Lib.hid fun j hj hjk => ?_, hbr⟩
          by_cases hjk' : j = k
          · subst hjk'; exact HQ.out
          · exact HNO.out j hj (by omega)
        case measure => simp [intOf]; omega
    · have HX := Lib.hid (idxf_miss (p := S.isDem m) (xs := l) fun j hj => HNO.out j hj (by have := HN.out; omega))
      go_wp2
      go_ret
      exact ⟨ret_i HX.out.symm, hbr⟩
theorem idxf_first {α : Type} {p : α → Bool} {xs : List α} {k : Nat} (hk : k < xs.length) (h : p xs[k] = true) : (idxf xs p = (k : Int)) ↔ anyb (xs.take k) p = false := by
  constructor
  · intro he
    unfold idxf at he
    split at he
    · rename_i i hi
      have : i = k := by omega
      subst this
      obtain ⟨_, _, h3⟩ := List.findIdx?_eq_some_iff_getElem.1 hi
      unfold anyb
      rw [List.any_eq_false]
      intro x hx
      obtain ⟨j, hj, rfl⟩ := List.mem_iff_getElem.1 hx
      rw [List.length_take] at hj
      rw [List.getElem_take]
      exact h3 j (by omega)
    · omega
  · intro he
    refine idxf_hit hk h (fun j hj hjk => ?_)
    unfold anyb at he
    rw [List.any_eq_false] at he
    have hm : xs[j] ∈ xs.take k := by
      have hjt : j < (xs.take k).length := by rw [List.length_take]; omega
      have e : (xs.take k)[j] = xs[j] := List.getElem_take
      rw [← e]
      exact List.getElem_mem _
    simpa using he _ hm
theorem isDem_self (d : Dm) : S.isDem d.name d = true := by simp [S.isDem]
set_option maxHeartbeats 2000000 in
theorem rdems_any (l : List Dm) (A : Option Addr) (n c : Nat) (B : Nat) (w : World) (hB : B ≤ w.heap.size) (hA : DemsAt w B A n l) :
    Calls Tryz.prog 62 #[.slice A n c] w fun e w' => e = .returned (.bool (S.dems l)) ∧ Below w.heap.size w w' := by
  have HA := Lib.hid hA
  have hmx := hA.max
  have hL := hA.len
  clear hA
  by_cases h20 : 20 < n
  · have HS := Lib.hid (show S.dems l = false from by unfold S.dems; rw [hL]; simp; omega)
    clear hL
    go_enter Tryz.func62, Tryz.ntmps62
    go_wp2
    go_ret
    exact ⟨ret_b HS.out.symm, bel⟩
  clear hL
  go_enter Tryz.func62, Tryz.ntmps62
  go_wp2
  go_loopw [3] (fun i wr => ∃ k : Nat, k ≤ n ∧ i = .int .i64 k ∧ Hid (∀ j, j < k → S.demAt l j = true) ∧ Below w.heap.size w wr) (fun i _ => n - (intOf i).toNat)
  case atStart => exact ⟨0, Nat.zero_le _, rfl, Lib.hid (fun j hj => absurd hj (by omega)), Below.refl _ _⟩
  case round =>
    obtain ⟨k, hk, rfl, HNO, hbr⟩ := hrel
    by_cases hlt : k < n
    · have hkx : k < l.length := by have := HA.out.len; omega
      have hki : (k : Int) < (n : Int) := by omega
      have hwr : B ≤ wr.heap.size := by have := hbr.size; omega
      have HA' := Lib.hid (HA.out.at_ hB hbr)
      have hs' := HA'.out.cells
      obtain ⟨b, o, hAe, hbB, _⟩ := hs'.at_ (by rw [flat_len dmC 8 dmC_len]; omega)
      have hbw : b < wr.heap.size := by omega
      subst hAe
      have c0 := hs'.row0 dmC_len hkx rfl
      have c1 := hs'.rowj dmC_len hkx 1 rfl
      have c2 := hs'.rowj dmC_len hkx 2 rfl
      have c3 := hs'.rowj dmC_len hkx 3 rfl
      have c4 := hs'.rowj dmC_len hkx 4 rfl
      have c5 := hs'.rowj dmC_len hkx 5 rfl
      have c6 := hs'.rowj dmC_len hkx 6 rfl
      have c7 := hs'.rowj dmC_len hkx 7 rfl
      have HNS := Lib.hid (fun h => show S.dems l = false from rng_no (p := S.demAt l) (k := k) hkx h)
      have HGO := Lib.hid (fun (h : S.demAt l k = true) => show ∀ j, j < k + 1 → S.demAt l j = true from fun j hj => by
        by_cases hjk : j = k
        · subst hjk; exact h
        · exact HNO.out j (by omega))
      have hge : l[k]? = some l[k] := List.getElem?_eq_getElem hkx
      have HF := Lib.hid (idxf_first (p := S.isDem l[k].name) hkx (isDem_self _))
      have HFC := Lib.hid (fun (W : World) (hw : B ≤ W.heap.size) (hh : DemsAt W B (some ⟨b, o, none⟩) n l) => rfind23_any l l[k].name (some ⟨b, o, none⟩) n c B W hw hh)
      have HNC := Lib.hid (fun w => risname_any l[k].name w (HA'.out.name _ (List.getElem_mem hkx)))
      have HBC := Lib.hid (fun w => rbvalid_any l[k].zone w)
      have HSC := Lib.hid (fun (W : World) (hw : B ≤ W.heap.size) (hh : StepsAt W B l[k].A l[k].n l[k].st) => rsteps_any l[k].st l[k].A l[k].n l[k].c B W hw hh)
      have HSA := Lib.hid (HA'.out.each _ (List.getElem_mem hkx))
      have HAT := Lib.hid (show S.demAt l k = (S.isName l[k].name && S.boxOk l[k].zone && S.steps l[k].st && !anyb (l.take k) (S.isDem l[k].name)) by unfold S.demAt S.demRight; rw [hge])
      clear hs' hge
      unfold boxV at HBC
      generalize anyb (l.take k) (S.isDem l[k].name) = t3 at *
      generalize idxf l (S.isDem l[k].name) = ix at *
      generalize S.isName l[k].name = t0 at *
      generalize S.boxOk l[k].zone = t1 at *
      generalize S.steps l[k].st = t2 at *
      generalize l[k] = d at *
      have hcs : t0 = false ∨ (t0 = true ∧ ¬ ix = (k : Int)) ∨ (t0 = true ∧ ix = (k : Int) ∧ t1 = false) ∨ (t0 = true ∧ ix = (k : Int) ∧ t1 = true ∧ t2 = false) ∨ (t0 = true ∧ ix = (k : Int) ∧ t1 = true ∧ t2 = true) := by
        by_cases hh : ix = (k : Int)
        · cases t0 <;> cases t1 <;> cases t2 <;> simp [hh]
        · cases t0 <;> simp [hh]
      rcases hcs with rfl | ⟨rfl, h1⟩ | ⟨rfl, h1, rfl⟩ | ⟨rfl, h1, rfl, rfl⟩ | ⟨rfl, h1, rfl, rfl⟩
      rotate_right
      · have HG := Lib.hid (HGO.out (by rw [HAT.out, HF.out.1 h1]; rfl))
        subst h1
        go_wp2_with (first
          | (go_at_call 112; (with_reducible refine (HNC.out _).mono ?_); rintro e w' ⟨rfl, rfl⟩)
          | ((go_at_call 116; (with_reducible refine (HFC.out _ (size_via hwr belr) (HA'.out.at_ hwr belr)).mono ?_); rintro e w2 ⟨rfl, hbw2⟩; obtain ⟨hcw2, hfw2⟩ := bcell hbw2); have hq2 : b < w2.heap.size := lt_via hbw2 hbw)
          | ((go_at_call 117; (with_reducible refine (HBC.out _).mono ?_); rintro e w3 ⟨rfl, hbw3⟩; obtain ⟨hcw3, hfw3⟩ := bcell hbw3); have hq3 : b < w3.heap.size := lt_via hbw3 hq2)
          | (go_at_call 50; (with_reducible refine (HSC.out _ (size_via hwr belr) (HSA.out.below (Below.mono belr hwr))).mono ?_); rintro e w4 ⟨rfl, hbw4⟩; obtain ⟨hcw4, hfw4⟩ := bcell hbw4))
        go_roundw
        case rel => exact ⟨k + 1, by omega, by go_num, Lib.hid HG.out, belr⟩
        case measure => simp [intOf]; omega
      all_goals (
        have HG := Lib.hid (HNS.out (by
          rw [HAT.out]
          first
            | rfl
            | (have h3 : t3 = true := by
                 cases t3 with
                 | true => rfl
                 | false => exact (h1 (HF.out.2 rfl)).elim
               rw [h3]; simp)
            | simp))
        go_wp2_with (first
          | (go_at_call 112; (with_reducible refine (HNC.out _).mono ?_); rintro e w' ⟨rfl, rfl⟩)
          | ((go_at_call 116; (with_reducible refine (HFC.out _ (size_via hwr belr) (HA'.out.at_ hwr belr)).mono ?_); rintro e w2 ⟨rfl, hbw2⟩; obtain ⟨hcw2, hfw2⟩ := bcell hbw2); have hq2 : b < w2.heap.size := lt_via hbw2 hbw)
          | ((go_at_call 117; (with_reducible refine (HBC.out _).mono ?_); rintro e w3 ⟨rfl, hbw3⟩; obtain ⟨hcw3, hfw3⟩ := bcell hbw3); have hq3 : b < w3.heap.size := lt_via hbw3 hq2)
          | (go_at_call 50; (with_reducible refine (HSC.out _ (size_via hwr belr) (HSA.out.below (Below.mono belr hwr))).mono ?_); rintro e w4 ⟨rfl, hbw4⟩; obtain ⟨hcw4, hfw4⟩ := bcell hbw4))
        go_ret
        exact ⟨ret_b HG.out.symm, belr⟩)
    · have HG := Lib.hid (show S.dems l = true from rng_yes (p := S.demAt l) (by have := HA.out.len; simp; omega) (fun j hj => HNO.out j (by have := HA.out.len; omega)))
      go_wp2
      go_ret
      exact ⟨ret_b HG.out.symm, bel⟩
end Go.Proofs.YtffkmgjmlahfpaaGreat
