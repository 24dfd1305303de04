/- Lemmas. -/
import Derived.Test.YtmfpbafpnoomeaaGreatMAX
set_option linter.unusedVariables false
set_option linter.unusedSimpArgs false
namespace Go.Proofs.YtmfpbafpnoomeaaGreat
open Go.RowKit
theorem spare_err (x : Dt) (d er : Int) (w : World) (he : (er == 0) = false)
 (hPA : ∀ W, Below w.heap.size w W -> Calls Tryz.prog 42 #[dtV x, .int .i64 d] W fun e w' => e = .returned (.tuple #[.slice none 0 0, .int .i64 er]) /\ Below W.heap.size W w') :
 Calls Tryz.prog 17 #[dtV x, .int .i64 d] w fun e w' => e = .returned (.tuple #[.int .i64 0, .int .i64 0, .int .i64 er]) /\ Below w.heap.size w w' := by
 have HPA := lh hPA
 have he2 : ¬ (er = 0) := by simpa using he
 clear hPA
 unfold dtV at HPA
 unfold dtV
 have hDB := Blk.new w 34 (dtc x)
 have hW1 : Below w.heap.size w (w.alloc (.cells (dtc x) 34)) := ba_alloc (Below.refl _ _) _
 go_enter Tryz.func17, Tryz.ntmps17
 go_upto_region 1 with fail
 generalize (w.alloc (.cells (dtc x) 34)) = W1 at *
 have HDB := lh hDB
 clear hDB
 go_wp2_with (first
  | ((with_reducible refine at_load 34 2 ?_); refine wpList_load_mid rfl 34 (.tmp 2) rfl _ _ rfl _ _ (HDB.out.via belr).range Tryz.underlying34 rfl (by kernel_rfl) ?_)
  | (go_at_call 42; (with_reducible refine (HPA.out _ belr).mono ?_); rintro e w2 ⟨rfl, hbw2⟩))
 go_ret3
 exact ⟨rfl, bel⟩
theorem rspare_err (x : Dt) (d er : Int) (w : World) (he : (er == 0) = false)
 (hGV : ∀ W, Below w.heap.size w W -> Calls Tryz.prog 43 #[dtV x, .int .i64 d] W fun e w' => e = .returned (.int .i64 er) /\ Below W.heap.size W w') :
 Calls Tryz.prog 19 #[dtV x, .int .i64 d] w fun e w' => e = .returned (.tuple #[.int .i64 0, .int .i64 0, .int .i64 er]) /\ Below w.heap.size w w' := by
 have HGV := lh hGV
 have he2 : ¬ (er = 0) := by simpa using he
 clear hGV
 unfold dtV at HGV
 unfold dtV
 have hDB := Blk.new w 34 (dtc x)
 have hW1 : Below w.heap.size w (w.alloc (.cells (dtc x) 34)) := ba_alloc (Below.refl _ _) _
 go_enter Tryz.func19, Tryz.ntmps19
 go_upto_region 1 with fail
 generalize (w.alloc (.cells (dtc x) 34)) = W1 at *
 have HDB := lh hDB
 clear hDB
 go_wp2_with (first
  | ((with_reducible refine at_load 34 2 ?_); refine wpList_load_mid rfl 34 (.tmp 2) rfl _ _ rfl _ _ (HDB.out.via belr).range Tryz.underlying34 rfl (by kernel_rfl) ?_)
  | (go_at_call 43; (with_reducible refine (HGV.out _ belr).mono ?_); rintro e w2 ⟨rfl, hbw2⟩))
 go_ret3
 exact ⟨rfl, bel⟩
set_option maxRecDepth 20000 in
set_option maxHeartbeats 8000000 in
theorem rspare_yes (x : Dt) (k : Nat) (s : List Stp) (dm : Dm) (w : World) (hk : k < x.dn) (hs2 : s.length <= 200) (hst : S.steps s = true) (hwt : S.steps dm.st = true) (hdn : dm.n <= 200)
 (hdc : ∀ W, Below w.heap.size w W -> ∃ bD oD, x.dA = some ⟨bD, oD, none⟩ /\ bD < W.heap.size /\ ∀ j v, (dmC dm)[j]? = some v -> W.cell? ⟨bD, oD + k * 8 + j, none⟩ = some v)
 (hds : ∀ W, Below w.heap.size w W -> StepsAt W w.heap.size dm.A dm.n dm.st)
 (hGV : ∀ W, Below w.heap.size w W -> Calls Tryz.prog 43 #[dtV x, .int .i64 k] W fun e w' => e = .returned (.int .i64 0) /\ Below W.heap.size W w')
 (hOF : ∀ W, Below w.heap.size w W -> Calls Tryz.prog 44 #[dtV x, .int .i64 k] W (GivesSt s W)) :
 Calls Tryz.prog 19 #[dtV x, .int .i64 k] w fun e w' => e = .returned (.tuple #[.int .i64 (S.spareOf (S.partsOf s dm.st)).1, .int .i64 (S.spareOf (S.partsOf s dm.st)).2.1, .int .i64 (S.spareOf (S.partsOf s dm.st)).2.2]) /\ Below w.heap.size w w' := by
 have HGV := lh hGV
 have HOF := lh hOF
 have HDC := lh hdc
 have HDS := lh hds
 have HST := lh hst
 have HWT := lh hwt
 have hwn : dm.st.length = dm.n := (hds w (Below.refl _ _)).len
 have hki : (k : Int) < x.dn := by omega
 clear hGV hOF hdc hds hst hwt
 unfold dtV at HGV HOF
 unfold dtV
 have hDB := Blk.new w 34 (dtc x)
 have hW1 : Below w.heap.size w (w.alloc (.cells (dtc x) 34)) := ba_alloc (Below.refl _ _) _
 go_enter Tryz.func19, Tryz.ntmps19
 go_upto_region 1 with fail
 generalize (w.alloc (.cells (dtc x) 34)) = W1 at *
 have HDB := lh hDB
 clear hDB
 go_upto_region 7 with (first
  | ((with_reducible refine at_load 34 2 ?_); refine wpList_load_mid rfl 34 (.tmp 2) rfl _ _ rfl _ _ (HDB.out.via belr).range Tryz.underlying34 rfl (by kernel_rfl) ?_)
  | (go_at_call 43; (with_reducible refine (HGV.out _ belr).mono ?_); rintro e w2 ⟨rfl, hbw2⟩)
  | (go_at_call 44; (with_reducible refine (HOF.out _ belr).mono ?_); rintro e w3 ⟨A3, c3, rfl, hO3, hbw3⟩))
 have hb13 : Below W1.heap.size W1 w3 := ba_via hbw3 hbw2
 have hw3 : Below w.heap.size w w3 := ba_via hb13 hW1
 have HD3 := lh (HDB.out.via hb13)
 have hC3 := (own_cells hO3 (by unfold maxLen; omega)).1
 have hpl := rplaces_any s dm.st A3 dm.A s.length c3 dm.n dm.c w3 rfl hwn (by omega) (by omega) hC3 (((HDS.out _ hw3).cells).mono hw3.size)
 rw [mg_spots HST.out HWT.out] at hpl
 have HC3 := lh hC3
 clear hO3 hbw2 hbw3 hb13 hW1 HDB HGV HOF hC3
 obtain ⟨n1, hn1⟩ : ∃ n1, n1 = s.length := ⟨_, rfl⟩
 have HN1 := lh hn1
 rw [<- hn1] at hs2 hpl
 rw [<- hn1]
 have HPLC := lh hpl
 clear hn1 hpl
 obtain ⟨bD, oD, hdA, hbD, hdm⟩ := HDC.out w3 hw3
 have k7 := hdm 7 _ rfl
 have hDx := HD3.out
 have d9 := hDx.cell 9
 have dl := hDx.lt
 simp only [ga1, ga2, ga3] at d9
 rw [hdA] at d9
 clear hdm hDx
 go_upto_region 9 with (go_at_call 45; (with_reducible refine HPLC.out.mono ?_); rintro e w4 ⟨A4, c4, rfl, hC4, hbw4⟩)
 have hw4 : Below w.heap.size w w4 := ba_via hbw4 hw3
 have HS4 := lh ((HC3.out.below hbw4).mono hbw4.size)
 have HC4 := lh hC4
 have hpn := spots_len s dm.st
 rw [hwn, <- HN1.out] at hpn
 obtain ⟨m, hm⟩ : ∃ m, m = (S.spots s dm.st).length := ⟨_, rfl⟩
 have HM := lh hm
 rw [<- hm] at hpn
 rw [<- hm]
 clear hm hC4 hbw4 HPLC d9 dl k7 HC3 HD3 hdA hbD hw3
 go_wp2
 go_loopw [12, 13, 14, 15] (fun ub ua uf i wr => ∃ q : Nat, q <= m /\ i = .int .i64 q /\ ∃ (be at_ : Int) (fo : Bool), ub = .int .i64 be /\ ua = .int .i64 at_ /\ uf = .bool fo /\ Hid ((fo = false /\ S.spareL ((S.partsOf s dm.st).take q) = none) ∨ (fo = true /\ ∃ p, S.spareL ((S.partsOf s dm.st).take q) = some p /\ be = p.there - p.wants /\ at_ = p.lo)) /\ Below w4.heap.size w4 wr) (fun _ _ _ i _ => m - (intOf i).toNat)
 case atStart => exact ⟨0, Nat.zero_le _, rfl, 0, 0, false, rfl, rfl, rfl, lh (.inl ⟨rfl, rfl⟩), Below.refl _ _⟩
 case round =>
  obtain ⟨q, hq, rfl, be, at_, fo, rfl, rfl, rfl, hst, hbr⟩ := hrel
  have hsr := hbr.size
  have hbwr : Below w.heap.size w wr := ba_via hbr hw4
  by_cases hlt : q < m
  ·have hqx : q < (S.spots s dm.st).length := by rw [<- HM.out]; exact hlt
   have hqi : (q : Int) < m := by omega
   have hqp : q < (S.partsOf s dm.st).length := by rw [partsOf_len]; exact hqx
   obtain ⟨b, o, hA5, hbb, hcc⟩ := (HC4.out.below hbr).at_ (by simp; omega)
   subst hA5
   have hck := hcc q _ (i64s_get hqx)
   have hbl : b < wr.heap.size := by omega
   have HNX := lh (spareL_next hqp)
   rw [partsOf_get hqp] at HNX
   unfold S.partAt at HNX
   rw [show (S.spots s dm.st).getD q 0 = (S.spots s dm.st)[q] by simp [List.getD_eq_getElem?_getD, hqx]] at HNX
   obtain ⟨P, hP⟩ : ∃ P, P = (S.spots s dm.st)[q] := ⟨_, rfl⟩
   rw [<- hP] at hck HNX
   generalize S.spotEnd (S.spots s dm.st) q = E at *
   obtain ⟨q1, hq1⟩ : ∃ q1, q1 = q + 1 := ⟨_, rfl⟩
   have e1 : IntKind.i64.wrap ((q : Int) + 1) = (q1 : Int) := by rw [show ((q : Int) + 1) = (q1 : Int) by omega]; exact IntWalk.i64_in _ (by omega)
   have HQ1 := lh hq1
   have HSA := lh (fun (W : World) (hw : Below wr.heap.size wr W) => rat10_any s P A3 n1 c3 W.heap.size W (Nat.le_refl _) ⟨HN1.out.symm, by omega, (HS4.out.below (hbr.trans (hw.mono hsr))).mono (Nat.le_trans hsr hw.size)⟩ (by omega) HST.out)
   have HSB := lh (fun (W : World) (hw : Below wr.heap.size wr W) => rat10_any dm.st P dm.A dm.n dm.c w.heap.size W (ba_via hw hbwr).size (HDS.out W (ba_via hw hbwr)) (by omega) HWT.out)
   obtain ⟨ta0, ta1⟩ := valueOf_bd HST.out P
   obtain ⟨tb0, tb1⟩ := valueOf_bd HWT.out P
   clear hcc hP hq1 hqx hqp
   generalize S.valueOf P s = va at *
   generalize S.valueOf P dm.st = vb at *
   have ev : IntKind.i64.wrap (va - vb) = va - vb := IntWalk.i64_in _ (by omega)
   go_upto_region 16 with (go_at_call 46; (with_reducible refine (HSB.out _ belr).mono ?_); rintro e w7 ⟨rfl, hbw7⟩)
   have hck7 := (hbw7.cell (p := ⟨b, o + q, none⟩) hbl).trans hck
   have hbl7 : b < w7.heap.size := by have := hbw7.size; omega
   go_upto_region 17 with (go_at_call 46; (with_reducible refine (HSA.out _ (ba_via belr hbw7)).mono ?_); rintro e w8 ⟨rfl, hbw8⟩)
   have h8 : Below wr.heap.size wr w8 := ba_via hbw8 hbw7
   have HB := lh (hbr.trans (h8.mono hsr))
   have hck8 := (hbw8.cell (p := ⟨b, o + q, none⟩) hbl7).trans hck7
   have hbl8 : b < w8.heap.size := by have := hbw8.size; omega
   clear hbw7 hbw8 HSA HSB hck hck7 hbl7 h8 ta0 ta1 tb0 tb1
   by_cases h0 : 0 < vb
   ·have b0 : decide (0 < vb) = true := decide_eq_true h0
    rcases hst.out with ⟨rfl, h2⟩ | ⟨rfl, p, h2, h3, h4⟩
    ·have HNE := lh (show S.spareL ((S.partsOf s dm.st).take (q + 1)) = some ⟨P, E, va, vb⟩ by rw [HNX.out, h2]; unfold S.spareNext; rw [if_pos h0])
     clear h0 h2 HNX hst
     go_wp2
     go_roundw
     case rel => exact ⟨q1, by have := HQ1.out; omega, rfl, _, _, _, rfl, rfl, rfl, lh (.inr ⟨rfl, _, by rw [HQ1.out]; exact HNE.out, rfl, rfl⟩), HB.out⟩
     case measure => have := HQ1.out; simp [intOf]; omega
    ·by_cases hs : va - vb < be
     ·have bs : decide (va - vb < be) = true := decide_eq_true hs
      have HNE := lh (show S.spareL ((S.partsOf s dm.st).take (q + 1)) = some ⟨P, E, va, vb⟩ by
       rw [HNX.out, h2]
       unfold S.spareNext
       rw [if_pos h0]
       show (if va - vb < p.there - p.wants then _ else _) = _
       rw [<- h3, if_pos hs])
      clear h0 h2 h3 h4 hs HNX hst
      go_wp2
      go_roundw
      case rel => exact ⟨q1, by have := HQ1.out; omega, rfl, _, _, _, rfl, rfl, rfl, lh (.inr ⟨rfl, _, by rw [HQ1.out]; exact HNE.out, rfl, rfl⟩), HB.out⟩
      case measure => have := HQ1.out; simp [intOf]; omega
     ·have bs : decide (va - vb < be) = false := decide_eq_false hs
      have HNE := lh (show S.spareL ((S.partsOf s dm.st).take (q + 1)) = some p by
       rw [HNX.out, h2]
       unfold S.spareNext
       rw [if_pos h0]
       show (if va - vb < p.there - p.wants then _ else _) = _
       rw [<- h3, if_neg hs])
      have HBE := lh h3
      have HAT := lh h4
      clear h0 h2 h3 h4 hs HNX hst
      go_wp2
      go_roundw
      case rel => exact ⟨q1, by have := HQ1.out; omega, rfl, be, at_, true, rfl, rfl, rfl, lh (.inr ⟨rfl, p, by rw [HQ1.out]; exact HNE.out, HBE.out, HAT.out⟩), HB.out⟩
      case measure => have := HQ1.out; simp [intOf]; omega
   ·have b0 : decide (0 < vb) = false := decide_eq_false h0
    have HNE := lh (show S.spareL ((S.partsOf s dm.st).take (q + 1)) = S.spareL ((S.partsOf s dm.st).take q) by rw [HNX.out]; unfold S.spareNext; rw [if_neg h0])
    have HST2 := lh (show (fo = false /\ S.spareL ((S.partsOf s dm.st).take (q + 1)) = none) ∨ (fo = true /\ ∃ p, S.spareL ((S.partsOf s dm.st).take (q + 1)) = some p /\ be = p.there - p.wants /\ at_ = p.lo) by rw [HNE.out]; exact hst.out)
    clear h0 HNX hst HNE
    go_wp2
    go_roundw
    case rel => exact ⟨q1, by have := HQ1.out; omega, rfl, be, at_, fo, rfl, rfl, rfl, by rw [HQ1.out]; exact HST2, HB.out⟩
    case measure => have := HQ1.out; simp [intOf]; omega
  ·have hqn : q = m := by omega
   have hqi : ¬ ((q : Int) < m) := by omega
   have hT : (S.partsOf s dm.st).take q = S.partsOf s dm.st := List.take_of_length_le (by rw [hqn, HM.out, partsOf_len]; exact Nat.le_refl _)
   have hst2 := hst.out
   rw [hT] at hst2
   rcases hst2 with ⟨rfl, h2⟩ | ⟨rfl, p, h2, h3, h4⟩
   ·have HE := lh (show S.spareOf (S.partsOf s dm.st) = (0, 0, 12) by unfold S.spareOf; rw [h2])
    clear hT h2 hst
    subst hqn
    go_wp2
    go_ret3
    exact ⟨by rw [HE.out]; rfl, hbwr⟩
   ·have HE := lh (show S.spareOf (S.partsOf s dm.st) = (be, at_, 0) by unfold S.spareOf; rw [h2, h3, h4])
    clear hT h2 h3 h4 hst
    subst hqn
    go_wp2
    go_ret3
    exact ⟨by rw [HE.out]; rfl, hbwr⟩
section
variable {x : Dt} {ds : List Dm} {w : World}
theorem bad_Ratio (h : DtOk w x ds) (d p : Int) (hg : S.given27 x ds d ≠ 0) : ∀ W, Below w.heap.size w W -> Calls Tryz.prog 18 #[dtV x, .int .i64 d, .int .i64 p] W fun e w' => e = .returned (.tuple #[.agg #[.int .i64 0, .int .i64 0], .int .i64 (S.given27 x ds d)]) /\ Below W.heap.size W w' := fun W hw =>
 ratio_err x d p _ W (by simpa using hg) (fun V hV => good_known h d V (hw.trans (hV.mono hw.size)))
end
theorem rratio_err (x : Dt) (d p er : Int) (w : World) (he : (er == 0) = false)
 (hGV : ∀ W, Below w.heap.size w W -> Calls Tryz.prog 43 #[dtV x, .int .i64 d] W fun e w' => e = .returned (.int .i64 er) /\ Below W.heap.size W w') :
 Calls Tryz.prog 20 #[dtV x, .int .i64 d, .int .i64 p] w fun e w' => e = .returned (.tuple #[.agg #[.int .i64 0, .int .i64 0], .int .i64 er]) /\ Below w.heap.size w w' := by
 have HGV := lh hGV
 have he2 : ¬ (er = 0) := by simpa using he
 have he3 : (er != 0) = true := by simp [he2]
 clear hGV
 unfold dtV at HGV
 unfold dtV
 have hDB := (Blk.new w 34 (dtc x)).alloc (.cells #[.int .i64 0, .int .i64 0] 54)
 have hSB := Blk.newN (W := w.alloc (.cells (dtc x) 34)) (n := w.heap.size + 1) (by simp) 54 #[.int .i64 0, .int .i64 0]
 have hW1 : Below w.heap.size w ((w.alloc (.cells (dtc x) 34)).alloc (.cells #[.int .i64 0, .int .i64 0] 54)) := ba_alloc (ba_alloc (Below.refl _ _) _) _
 go_enter Tryz.func20, Tryz.ntmps20
 go_upto_region 1 with fail
 generalize ((w.alloc (.cells (dtc x) 34)).alloc (.cells #[.int .i64 0, .int .i64 0] 54)) = W1 at *
 have HDB := lh hDB
 clear hDB
 go_upto_region 2 with (first
  | ((with_reducible refine at_load 34 3 ?_); refine wpList_load_mid rfl 34 (.tmp 3) rfl _ _ rfl _ _ (HDB.out.via belr).range Tryz.underlying34 rfl (by kernel_rfl) ?_)
  | (go_at_call 43; (with_reducible refine (HGV.out _ belr).mono ?_); rintro e w2 ⟨rfl, hbw2⟩))
 have hS2 := hSB.via hbw2
 have s0 := hS2.cell 0
 have s1 := hS2.cell 1
 have sf0 := hS2.frozen 0
 have sf1 := hS2.frozen 1
 have sl := hS2.lt
 simp only [ga1, ga2, ga3] at s0 s1
 have hw2 : Below w.heap.size w w2 := ba_via hbw2 hW1
 clear HDB HGV hSB hS2
 go_wp2
 exact bodyPost_ret (v := .tuple #[.agg #[.int .i64 0, .int .i64 0], .int .i64 er]) (by simp [results, Tryz.results20, go_sem, *]) rfl ⟨rfl, (hw2.setCell (Nat.le_succ _) _).setCell (Nat.le_succ _) _⟩
set_option maxHeartbeats 1000000 in
theorem rratio_out (x : Dt) (d p : Int) (w : World) (hp : S.place p = false)
 (hGV : ∀ W, Below w.heap.size w W -> Calls Tryz.prog 43 #[dtV x, .int .i64 d] W fun e w' => e = .returned (.int .i64 0) /\ Below W.heap.size W w') :
 Calls Tryz.prog 20 #[dtV x, .int .i64 d, .int .i64 p] w fun e w' => e = .returned (.tuple #[.agg #[.int .i64 0, .int .i64 0], .int .i64 2]) /\ Below w.heap.size w w' := by
 have HGV := lh hGV
 have HPL := lh (fun W => hp ▸ rplace10_any p W)
 clear hGV
 unfold dtV at HGV
 unfold dtV
 have hDB := (Blk.new w 34 (dtc x)).alloc (.cells #[.int .i64 0, .int .i64 0] 54)
 have hSB := Blk.newN (W := w.alloc (.cells (dtc x) 34)) (n := w.heap.size + 1) (by simp) 54 #[.int .i64 0, .int .i64 0]
 have hW1 : Below w.heap.size w ((w.alloc (.cells (dtc x) 34)).alloc (.cells #[.int .i64 0, .int .i64 0] 54)) := ba_alloc (ba_alloc (Below.refl _ _) _) _
 go_enter Tryz.func20, Tryz.ntmps20
 go_upto_region 1 with fail
 generalize ((w.alloc (.cells (dtc x) 34)).alloc (.cells #[.int .i64 0, .int .i64 0] 54)) = W1 at *
 have HDB := lh hDB
 clear hDB
 go_upto_region 4 with (first
  | ((with_reducible refine at_load 34 3 ?_); refine wpList_load_mid rfl 34 (.tmp 3) rfl _ _ rfl _ _ (HDB.out.via belr).range Tryz.underlying34 rfl (by kernel_rfl) ?_)
  | (go_at_call 43; (with_reducible refine (HGV.out _ belr).mono ?_); rintro e w2 ⟨rfl, hbw2⟩))
 have hS2 := hSB.via hbw2
 have s0 := hS2.cell 0
 have s1 := hS2.cell 1
 have sf0 := hS2.frozen 0
 have sf1 := hS2.frozen 1
 have sl := hS2.lt
 simp only [ga1, ga2, ga3] at s0 s1
 have hw2 : Below w.heap.size w w2 := ba_via hbw2 hW1
 clear HDB HGV hSB hS2
 go_wp2_with (go_at_call 26; (with_reducible refine (HPL.out _).mono ?_); rintro e w' ⟨rfl, rfl⟩)
 exact bodyPost_ret (v := .tuple #[.agg #[.int .i64 0, .int .i64 0], .int .i64 2]) (by simp [results, Tryz.results20, go_sem, *]) rfl ⟨rfl, (hw2.setCell (Nat.le_succ _) _).setCell (Nat.le_succ _) _⟩
set_option maxRecDepth 20000 in
set_option maxHeartbeats 4000000 in
theorem rratio_yes (x : Dt) (k : Nat) (p a : Int) (dm : Dm) (w : World) (hk : k < x.dn) (hp : S.place p = true) (hwt : S.steps dm.st = true) (hdn : dm.n <= 200) (ha : 0 <= a /\ a <= 1099511627776)
 (hdc : ∀ W, Below w.heap.size w W -> ∃ bD oD, x.dA = some ⟨bD, oD, none⟩ /\ bD < W.heap.size /\ ∀ j v, (dmC dm)[j]? = some v -> W.cell? ⟨bD, oD + k * 8 + j, none⟩ = some v)
 (hds : ∀ W, Below w.heap.size w W -> StepsAt W w.heap.size dm.A dm.n dm.st)
 (hGV : ∀ W, Below w.heap.size w W -> Calls Tryz.prog 43 #[dtV x, .int .i64 k] W fun e w' => e = .returned (.int .i64 0) /\ Below W.heap.size W w')
 (hSA : ∀ W, Below w.heap.size w W -> Calls Tryz.prog 52 #[dtV x, .int .i64 k, .int .i64 p] W fun e w' => e = .returned (.int .i64 a) /\ Below W.heap.size W w') :
 Calls Tryz.prog 20 #[dtV x, .int .i64 k, .int .i64 p] w fun e w' => e = .returned (.tuple #[.agg #[.int .i64 (S.ratioOf a (S.valueOf p dm.st)).1, .int .i64 (S.ratioOf a (S.valueOf p dm.st)).2.1], .int .i64 (S.ratioOf a (S.valueOf p dm.st)).2.2]) /\ Below w.heap.size w w' := by
 have HGV := lh hGV
 have HSA := lh hSA
 have HDC := lh hdc
 have HPL := lh (fun W => hp ▸ rplace10_any p W)
 have HSB := lh (fun (W : World) (hw : Below w.heap.size w W) => rat10_any dm.st p dm.A dm.n dm.c w.heap.size W hw.size (hds W hw) (by omega) hwt)
 obtain ⟨tb0, tb1⟩ := valueOf_bd hwt p
 have hki : (k : Int) < x.dn := by omega
 clear hGV hSA hdc hds hwt
 generalize S.valueOf p dm.st = b at *
 unfold dtV at HGV HSA
 unfold dtV
 have hDB := (Blk.new w 34 (dtc x)).alloc (.cells #[.int .i64 0, .int .i64 0] 54)
 have hSB := Blk.newN (W := w.alloc (.cells (dtc x) 34)) (n := w.heap.size + 1) (by simp) 54 #[.int .i64 0, .int .i64 0]
 have hW1 : Below w.heap.size w ((w.alloc (.cells (dtc x) 34)).alloc (.cells #[.int .i64 0, .int .i64 0] 54)) := ba_alloc (ba_alloc (Below.refl _ _) _) _
 go_enter Tryz.func20, Tryz.ntmps20
 go_upto_region 1 with fail
 generalize ((w.alloc (.cells (dtc x) 34)).alloc (.cells #[.int .i64 0, .int .i64 0] 54)) = W1 at *
 have HDB := lh hDB
 clear hDB
 go_upto_region 6 with (first
  | ((with_reducible refine at_load 34 3 ?_); refine wpList_load_mid rfl 34 (.tmp 3) rfl _ _ rfl _ _ (HDB.out.via belr).range Tryz.underlying34 rfl (by kernel_rfl) ?_)
  | (go_at_call 43; (with_reducible refine (HGV.out _ belr).mono ?_); rintro e w2 ⟨rfl, hbw2⟩)
  | (go_at_call 26; (with_reducible refine (HPL.out _).mono ?_); rintro e w' ⟨rfl, rfl⟩))
 have hw2 : Below w.heap.size w w2 := ba_via hbw2 hW1
 obtain ⟨bD, oD, hdA, hbD, hdm⟩ := HDC.out w2 hw2
 have k7 := hdm 7 _ rfl
 have HD2 := lh (HDB.out.via hbw2)
 have hDx := HD2.out
 have d9 := hDx.cell 9
 have dl := hDx.lt
 simp only [ga1, ga2, ga3] at d9
 rw [hdA] at d9
 have HS2 := lh (hSB.via hbw2)
 have HSA2 := lh (fun (W : World) (hw : Below w2.heap.size w2 W) => HSA.out W (ba_via hw hw2))
 clear hdm hDx HDB HGV hSB HSA hdA
 go_upto_region 7 with (go_at_call 46; (with_reducible refine (HSB.out _ hw2).mono ?_); rintro e w3 ⟨rfl, hbw3⟩)
 have HD3 := lh (HD2.out.via hbw3)
 have HS3 := lh (HS2.out.via hbw3)
 have hw3 : Below w.heap.size w w3 := ba_via hbw3 hw2
 clear HD2 d9 dl k7 HS2
 by_cases h0 : b = 0
 ·have HR := lh (show S.ratioOf a b = (0, 0, 16) by unfold S.ratioOf; rw [if_pos h0])
  have bz : (b == 0) = true := by simp [h0]
  have hS3 := HS3.out
  have s0 := hS3.cell 0
  have s1 := hS3.cell 1
  have sf0 := hS3.frozen 0
  have sf1 := hS3.frozen 1
  have sl := hS3.lt
  simp only [ga1, ga2, ga3] at s0 s1
  clear HD3 HSA2 hS3 HS3
  go_wp2
  exact bodyPost_ret (v := .tuple #[.agg #[.int .i64 0, .int .i64 0], .int .i64 16]) (by simp [results, Tryz.results20, go_sem, *]) rfl ⟨by rw [HR.out], (hw3.setCell (Nat.le_succ _) _).setCell (Nat.le_succ _) _⟩
 ·have bz : (b == 0) = false := by simp [h0]
  have hmk := fun W => rmake_any a b W ha.1 (by omega) (by omega) (by omega)
  have hr : S.ratioOf a b = (a / gcdI a b, b / gcdI a b, 0) := by unfold S.ratioOf; rw [if_neg h0]
  generalize a / gcdI a b = r1 at *
  generalize b / gcdI a b = r2 at *
  have HMK := lh hmk
  have HR := lh hr
  clear hmk hr
  go_wp2_with (first
   | ((with_reducible refine at_load 34 3 ?_); refine wpList_load_mid rfl 34 (.tmp 3) rfl _ _ rfl _ _ (HD3.out.via belr).range Tryz.underlying34 rfl (by kernel_rfl) ?_)
   | (go_at_call 52; (with_reducible refine (HSA2.out _ (ba_via belr hbw3)).mono ?_); rintro e w4 ⟨rfl, hbw4⟩)
   | (go_at_call 51; (with_reducible refine (HMK.out _).mono ?_); rintro e w5 ⟨rfl, hbw5⟩; have h35 : Below w3.heap.size w3 w5 := belr; have hS5 := HS3.out.via h35; have s0 := hS5.cell 0; have s1 := hS5.cell 1; have sf0 := hS5.frozen 0; have sf1 := hS5.frozen 1; have sl := hS5.lt; simp only [ga1, ga2, ga3] at s0 s1; clear HS3 hS5))
  have hw5 : Below w.heap.size w w5 := ba_via h35 hw3
  exact bodyPost_ret (v := .tuple #[.agg #[.int .i64 r1, .int .i64 r2], .int .i64 0]) (by simp [results, Tryz.results20, go_sem, *]) rfl ⟨by rw [HR.out], (hw5.setCell (Nat.le_succ _) _).setCell (Nat.le_succ _) _⟩
section
variable {x : Dt} {ds : List Dm} {w : World}
theorem bad_Spare (h : DtOk w x ds) (d : Int) (hg : S.given27 x ds d ≠ 0) : ∀ W, Below w.heap.size w W -> Calls Tryz.prog 17 #[dtV x, .int .i64 d] W fun e w' => e = .returned (.tuple #[.int .i64 0, .int .i64 0, .int .i64 (S.given27 x ds d)]) /\ Below W.heap.size W w' := fun W hw =>
 spare_err x d _ W (by simpa using hg) (fun V hV => bad_parts h d hg V (hw.trans (hV.mono hw.size)))
end
section
variable {x : Dt} {ds : List Dm} {w : World}
theorem good_rSpare (h : DtOk w x ds) (hlk : S.look x (S.dems ds) = true) (hC : (S.cOf x).length <= 100) {k : Nat} {dm : Dm} (hk : ds[k]? = some dm) {rs : List Rod} (hrs : RodsOf x (S.nOf x) rs) :
 ∀ W, Below w.heap.size w W -> Calls Tryz.prog 19 #[dtV x, .int .i64 k] W fun e w' => e = .returned (.tuple #[.int .i64 (S.spareOf (S.partsD x rs dm)).1, .int .i64 (S.spareOf (S.partsD x rs dm)).2.1, .int .i64 (S.spareOf (S.partsD x rs dm)).2.2]) /\ Below W.heap.size W w' := fun W hw =>
 rspare_yes x k (S.supplyOf x rs (S.cOf x) dm.zone) dm W (dem_n h hlk hk).1 (sup_steps h hlk hC dm.zone hrs) (sup_valid hlk hC hrs dm.zone) (dem_steps hlk hk).1 (dem_n h hlk hk).2
  (fun V hV => sec_dem h hk V (hw.trans (hV.mono hw.size))) (dem_at h hk hw) (fun V hV => good_rGiven h hlk hk V (hw.trans (hV.mono hw.size))) (fun V hV => good_rOf h hlk hC hk hrs V (hw.trans (hV.mono hw.size)))
theorem good_rRatio (h : DtOk w x ds) (hlk : S.look x (S.dems ds) = true) (hC : (S.cOf x).length <= 100) {k : Nat} {dm : Dm} (hk : ds[k]? = some dm) (p : Int) {rs : List Rod} (hrs : RodsOf x (S.nOf x) rs) :
 ∀ W, Below w.heap.size w W -> Calls Tryz.prog 20 #[dtV x, .int .i64 k, .int .i64 p] W fun e w' => e = .returned (.tuple #[.agg #[.int .i64 (S.ratioD x rs dm p).1, .int .i64 (S.ratioD x rs dm p).2.1], .int .i64 (S.ratioD x rs dm p).2.2]) /\ Below W.heap.size W w' := fun W hw => by
 unfold S.ratioD
 cases hp : S.place p
 ·rw [if_neg (by decide)]
  exact rratio_out x k p W hp (fun V hV => good_rGiven h hlk hk V (hw.trans (hV.mono hw.size)))
 ·rw [if_pos rfl]
  have hpp : -1048576 <= p /\ p <= 1048576 := by unfold S.place at hp; simpa using hp
  have hbd := valueOf_bd (sup_valid hlk hC hrs dm.zone) p
  have hAT := fun V hV => good_rAt h hlk hk p hrs V hV
  rw [sup_at hpp.1 hlk hrs] at hAT
  exact rratio_yes x k p _ dm W (dem_n h hlk hk).1 hp (dem_steps hlk hk).1 (dem_n h hlk hk).2 hbd
   (fun V hV => sec_dem h hk V (hw.trans (hV.mono hw.size))) (dem_at h hk hw) (fun V hV => good_rGiven h hlk hk V (hw.trans (hV.mono hw.size))) (fun V hV => hAT V (hw.trans (hV.mono hw.size)))
theorem bad_rSpare (h : DtOk w x ds) (d : Int) (hg : S.given27 x ds d ≠ 0) : ∀ W, Below w.heap.size w W -> Calls Tryz.prog 19 #[dtV x, .int .i64 d] W fun e w' => e = .returned (.tuple #[.int .i64 0, .int .i64 0, .int .i64 (S.given27 x ds d)]) /\ Below W.heap.size W w' := fun W hw =>
 rspare_err x d _ W (by simpa using hg) (fun V hV => any_rgiven27 h d V (hw.trans (hV.mono hw.size)))
theorem bad_rRatio (h : DtOk w x ds) (d p : Int) (hg : S.given27 x ds d ≠ 0) : ∀ W, Below w.heap.size w W -> Calls Tryz.prog 20 #[dtV x, .int .i64 d, .int .i64 p] W fun e w' => e = .returned (.tuple #[.agg #[.int .i64 0, .int .i64 0], .int .i64 (S.given27 x ds d)]) /\ Below W.heap.size W w' := fun W hw =>
 rratio_err x d p _ W (by simpa using hg) (fun V hV => any_rgiven27 h d V (hw.trans (hV.mono hw.size)))
end
theorem sparesLaw_big (x : Dt) (d p : Int) (w : World)
 (hSM : ∀ W, Below w.heap.size w W -> Calls Tryz.prog 11 #[dtV x] W fun e w' => e = .returned (.bool false) /\ Below W.heap.size W w') :
 Calls Tryz.prog 4 #[dtV x, .int .i64 d, .int .i64 p] w fun e w' => e = .returned (.bool true) /\ Below w.heap.size w w' := by
 have HA := lh (fun w => awake27_any w)
 have HSM := lh hSM
 clear hSM
 unfold dtV at HSM
 unfold dtV
 have hDB := Blk.new w 34 (dtc x)
 have hW1 : Below w.heap.size w (w.alloc (.cells (dtc x) 34)) := ba_alloc (Below.refl _ _) _
 go_enter Tryz.func4, Tryz.ntmps4
 go_upto_region 1 with fail
 generalize (w.alloc (.cells (dtc x) 34)) = W1 at *
 have HDB := lh hDB
 clear hDB
 go_wp2_with (first
  | (go_at_call 10; (with_reducible refine (HA.out _).mono ?_); rintro e wa ⟨rfl, hbwa⟩)
  | ((with_reducible refine at_load 34 3 ?_); refine wpList_load_mid rfl 34 (.tmp 3) rfl _ _ rfl _ _ (HDB.out.via belr).range Tryz.underlying34 rfl (by kernel_rfl) ?_)
  | (go_at_call 11; (with_reducible refine (HSM.out _ belr).mono ?_); rintro e wb ⟨rfl, hbwb⟩))
 go_ret
 exact ⟨rfl, bel⟩
set_option maxRecDepth 20000 in
set_option maxHeartbeats 8000000 in
theorem sparesLaw_yes (x : Dt) (d p a b e1 r1 r2 e2 : Int) (w : World)
 (hSM : ∀ W, Below w.heap.size w W -> Calls Tryz.prog 11 #[dtV x] W fun e w' => e = .returned (.bool true) /\ Below W.heap.size W w')
 (hSP : ∀ W, Below w.heap.size w W -> Calls Tryz.prog 17 #[dtV x, .int .i64 d] W fun e w' => e = .returned (.tuple #[.int .i64 a, .int .i64 b, .int .i64 e1]) /\ Below W.heap.size W w')
 (hRA : ∀ W, Below w.heap.size w W -> Calls Tryz.prog 18 #[dtV x, .int .i64 d, .int .i64 p] W fun e w' => e = .returned (.tuple #[.agg #[.int .i64 r1, .int .i64 r2], .int .i64 e2]) /\ Below W.heap.size W w')
 (hRSP : ∀ W, Below w.heap.size w W -> Calls Tryz.prog 19 #[dtV x, .int .i64 d] W fun e w' => e = .returned (.tuple #[.int .i64 a, .int .i64 b, .int .i64 e1]) /\ Below W.heap.size W w')
 (hRRA : ∀ W, Below w.heap.size w W -> Calls Tryz.prog 20 #[dtV x, .int .i64 d, .int .i64 p] W fun e w' => e = .returned (.tuple #[.agg #[.int .i64 r1, .int .i64 r2], .int .i64 e2]) /\ Below W.heap.size W w') :
 Calls Tryz.prog 4 #[dtV x, .int .i64 d, .int .i64 p] w fun e w' => e = .returned (.bool true) /\ Below w.heap.size w w' := by
 have HA := lh (fun w => awake27_any w)
 have HSM := lh hSM
 have HSP := lh hSP
 have HRA := lh hRA
 have HRSP := lh hRSP
 have HRRA := lh hRRA
 clear hSM hSP hRA hRSP hRRA
 unfold dtV at HSM HSP HRA HRSP HRRA
 unfold dtV
 have hDB := Blk.new w 34 (dtc x)
 have hW1 : Below w.heap.size w (w.alloc (.cells (dtc x) 34)) := ba_alloc (Below.refl _ _) _
 go_enter Tryz.func4, Tryz.ntmps4
 go_upto_region 1 with fail
 generalize (w.alloc (.cells (dtc x) 34)) = W1 at *
 have HDB := lh hDB
 clear hDB
 go_upto_region 7 with (first
  | (go_at_call 10; (with_reducible refine (HA.out _).mono ?_); rintro e wa ⟨rfl, hbwa⟩)
  | ((with_reducible refine at_load 34 3 ?_); refine wpList_load_mid rfl 34 (.tmp 3) rfl _ _ rfl _ _ (HDB.out.via belr).range Tryz.underlying34 rfl (by kernel_rfl) ?_)
  | (go_at_call 11; (with_reducible refine (HSM.out _ belr).mono ?_); rintro e wb ⟨rfl, hbwb⟩)
  | (go_at_call 17; (with_reducible refine (HSP.out _ belr).mono ?_); rintro e wc ⟨rfl, hbwc⟩)
  | (go_at_call 18; (with_reducible refine (HRA.out _ belr).mono ?_); rintro e wd ⟨rfl, hbwd⟩))
 have h1d : Below W1.heap.size W1 wd := ba_via hbwd (ba_via hbwc (ba_via hbwb hbwa))
 have h1e : Below W1.heap.size W1 (wd.alloc (.cells #[.int .i64 r1, .int .i64 r2] 54)) := ba_alloc h1d _
 have hFD := Blk.new wd 54 #[.int .i64 r1, .int .i64 r2]
 generalize (wd.alloc (.cells #[.int .i64 r1, .int .i64 r2] 54)) = We at *
 have hwe : Below w.heap.size w We := ba_via h1e hW1
 have HDD := lh (HDB.out.via h1e)
 have HFD := lh hFD
 clear h1d hbwa hbwb hbwc hbwd hW1 HDB h1e hFD HA HSM HSP HRA
 generalize wd.heap.size = gd at *
 go_upto_region 9 with (first
  | ((with_reducible refine at_load 34 3 ?_); refine wpList_load_mid rfl 34 (.tmp 3) rfl _ _ rfl _ _ (HDD.out.via belr).range Tryz.underlying34 rfl (by kernel_rfl) ?_)
  | (go_at_call 19; (with_reducible refine (HRSP.out _ (ba_via belr hwe)).mono ?_); rintro e wf ⟨rfl, hbwf⟩)
  | (go_at_call 20; (with_reducible refine (HRRA.out _ (ba_via belr hwe)).mono ?_); rintro e wg ⟨rfl, hbwg⟩))
 have heg : Below We.heap.size We (wg.alloc (.cells #[.int .i64 r1, .int .i64 r2] 54)) := ba_alloc (ba_via hbwg hbwf) _
 have hFG := Blk.new wg 54 #[.int .i64 r1, .int .i64 r2]
 generalize (wg.alloc (.cells #[.int .i64 r1, .int .i64 r2] 54)) = Wg at *
 have hwg : Below w.heap.size w Wg := ba_via heg hwe
 have hFE := HFD.out.via heg
 clear hbwf hbwg HDD HFD HRSP HRRA
 generalize wg.heap.size = gg at *
 have f0 := hFE.cell 0
 have f1 := hFE.cell 1
 have fl := hFE.lt
 have g0 := hFG.cell 0
 have g1 := hFG.cell 1
 have gl := hFG.lt
 simp only [ga1, ga2, ga3] at f0 f1 g0 g1
 have aa : (a == a) = true := by simp
 have bb : (b == b) = true := by simp
 have ee : (e1 == e1) = true := by simp
 have rr1 : (r1 == r1) = true := by simp
 have rr2 : (r2 == r2) = true := by simp
 have ff : (e2 == e2) = true := by simp
 clear hFE hFG heg
 go_wp2
 go_ret
 exact ⟨by simp, hwg⟩
theorem spares_walk (x : Dt) (ds : List Dm) (d p : Int) (w : World) (h : DtOk w x ds) :
 Calls Tryz.prog 4 #[dtV x, .int .i64 d, .int .i64 p] w fun e w' => e = .returned (.bool true) /\ Below w.heap.size w w' := by
 have HSM : ∀ W, Below w.heap.size w W -> Calls Tryz.prog 11 #[dtV x] W fun e w' => e = .returned (.bool (S.small25 x ds)) /\ Below W.heap.size W w' := fun W hw =>
  small25_any x ds w.heap.size W hw.size (h.at_.at_ (Nat.le_refl _) hw) (h.dems.at_ (Nat.le_refl _) hw)
 cases hsm : S.small25 x ds
 ·rw [hsm] at HSM
  exact sparesLaw_big x d p w HSM
 ·rw [hsm] at HSM
  by_cases hg : S.given27 x ds d = 0
  ·obtain ⟨hlk, k, dm, rfl, hk⟩ := given27_zero hg
   have g := look_ok hlk
   obtain ⟨rs, hrs⟩ := rods_ex g.laid
   have hC := few_chains hsm g.laid
   exact sparesLaw_yes x k p _ _ _ _ _ _ w HSM (good_Spare h hlk hC hk hrs) (good_Ratio h hlk hC hk p hrs) (good_rSpare h hlk hC hk hrs) (good_rRatio h hlk hC hk p hrs)
  ·exact sparesLaw_yes x d p _ _ _ _ _ _ w HSM (bad_Spare h d hg) (bad_Ratio h d p hg) (bad_rSpare h d hg) (bad_rRatio h d p hg)
end Go.Proofs.YtmfpbafpnoomeaaGreat
