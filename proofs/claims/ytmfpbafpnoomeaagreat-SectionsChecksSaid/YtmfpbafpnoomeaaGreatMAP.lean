/- Lemmas. -/
import Derived.Test.YtmfpbafpnoomeaaGreatMAO
set_option linter.unusedVariables false
set_option linter.unusedSimpArgs false
namespace Go.Proofs.YtmfpbafpnoomeaaGreat
open Go.RowKit
theorem hopE_no {last : Int} {x : Bool × Int} {e : Int} (h : decide (last < e) = false) : S.hopE last x e = x := by
 unfold S.hopE
 rw [if_neg (fun h2 => of_decide_eq_false h h2.1)]
theorem hopE_new {last n e : Int} (h : decide (last < e) = true) : S.hopE last (false, n) e = (true, e) := by
 unfold S.hopE
 rw [if_pos ⟨of_decide_eq_true h, .inl rfl⟩]
theorem hopE_less {last n e : Int} (h : decide (last < e) = true) (h2 : decide (e < n) = true) : S.hopE last (true, n) e = (true, e) := by
 unfold S.hopE
 rw [if_pos ⟨of_decide_eq_true h, .inr (of_decide_eq_true h2)⟩]
theorem hopE_more {last n e : Int} (h2 : decide (e < n) = false) : S.hopE last (true, n) e = (true, n) := by
 unfold S.hopE
 rw [if_neg]
 rintro ⟨_, h | h⟩
 ·cases h
 ·exact of_decide_eq_false h2 h
theorem nodup_len : ∀ {U E : List Int}, U.Nodup -> (∀ e, e ∈ U -> e ∈ E) -> U.length <= E.length := by
 intro U
 induction U with
 | nil => intro E _ _; simp
 | cons a t ih =>
  intro E hn hs
  rw [List.nodup_cons] at hn
  have ha := hs a (by simp)
  have h1 := ih (E := E.erase a) hn.2 (fun e he => (List.mem_erase_of_ne (fun h => hn.1 (by rw [<- h]; exact he))).2 (hs e (by simp [he])))
  have h2 := List.length_erase_of_mem ha
  have h3 : 0 < E.length := List.length_pos_of_mem ha
  rw [List.length_cons]
  omega
theorem upto_len {E : List Int} {last : Int} {U : List Int} (h : UpTo E last U) : U.length <= E.length := by
 have hn : U.Nodup := h.asc.imp (fun h => by omega)
 exact nodup_len hn (fun e he => ((h.mem e).1 he).1)
set_option maxRecDepth 20000 in
set_option maxHeartbeats 16000000 in
theorem rof26_core (x : Dt) (C : List (List Int)) (k : Nat) (g : List Int -> SCh) (su : List Int -> Bool) (ar : List Int -> Int) (f : Int -> Int) (w : World) (hc : ChSays x C k (fun l => ((g l).lo, (g l).hi, (g l).is)) su ar w) (hl : C.length <= 100)
 (hlo : ∀ e, e ∈ S.allEnds (C.map g) -> -1048577 < e)
 (hres : ∀ (U : List Int) (last : Int), UpTo (S.allEnds (C.map g)) last U -> (∀ e, e ∈ S.allEnds (C.map g) -> e <= last) -> (S.shortSt (U.map fun p => (⟨p, f p⟩ : Stp))).length <= 200)
 (hAT : ∀ (p : Int) W, Below w.heap.size w W -> Calls Tryz.prog 52 #[dtV x, .int .i64 k, .int .i64 p] W fun e w' => e = .returned (.int .i64 (f p)) /\ Below W.heap.size W w')
 (hCH : ∀ W, Below w.heap.size w W -> Calls Tryz.prog 73 #[dtV x] W (GivesChs C W)) :
 Calls Tryz.prog 44 #[dtV x, .int .i64 k] w fun e w' => ∃ (U : List Int) (last : Int) (A : Option Addr) (c : Nat), UpTo (S.allEnds (C.map g)) last U /\ (∀ e, e ∈ S.allEnds (C.map g) -> e <= last) /\
  e = .returned (.tuple #[.slice A (S.shortSt (U.map fun p => (⟨p, f p⟩ : Stp))).length c, .int .i64 0]) /\ w'.ownsRow w.heap.size 136 2 (.slice A (S.shortSt (U.map fun p => (⟨p, f p⟩ : Stp))).length c) (S.shortSt (U.map fun p => (⟨p, f p⟩ : Stp))).length ((S.shortSt (U.map fun p => (⟨p, f p⟩ : Stp))).flatMap stC) /\ Below w.heap.size w w' := by
 have HCH := lh hCH
 have HAN := lh hc.anch
 have HAT := lh hAT
 have HLO := lh hlo
 have HRES := lh hres
 have HEL : Hid ((S.allEnds (C.map g)).length <= 200) := lh (by
  unfold S.allEnds
  rw [ends2_len]
  have := List.length_filter_le (fun c : SCh => c.is) (C.map g)
  rw [List.length_map] at this
  omega)
 clear hCH hc hAT hlo hres
 unfold dtV at HCH HAN HAT
 unfold dtV
 have hDB := Blk.new w 34 (dtc x)
 have hW1 : Below w.heap.size w (w.alloc (.cells (dtc x) 34)) := ba_alloc (Below.refl _ _) _
 go_enter Tryz.func44, Tryz.ntmps44
 go_upto_region 1 with fail
 generalize (w.alloc (.cells (dtc x) 34)) = W1 at *
 have HDB := lh hDB
 clear hDB
 go_upto_region 2 with (first
  | ((with_reducible refine at_load 34 2 ?_); refine wpList_load_mid rfl 34 (.tmp 2) rfl _ _ rfl _ _ (HDB.out.via belr).range Tryz.underlying34 rfl (by kernel_rfl) ?_)
  | (go_at_call 73; (with_reducible refine (HCH.out _ belr).mono ?_); rintro e w1 ⟨A1, c1, rs, rfl, hrs, hrc, hcc, hce, hbw1⟩))
 have hb11 : Below W1.heap.size W1 w1 := belr
 have hw1 : Below w.heap.size w w1 := ba_via hb11 hW1
 have hrl : rs.length = C.length := by rw [<- hrs, List.length_map]
 have HRL := lh (fun (q : Nat) (hq : q < rs.length) (hqC : q < C.length) => show rs[q].l = C[q] from by
  have h1 : (rs.map (·.l))[q]? = C[q]? := by rw [hrs]
  rw [List.getElem?_map, List.getElem?_eq_getElem hq, List.getElem?_eq_getElem hqC] at h1
  exact Option.some.inj h1)
 have HCC := lh hcc
 have HCE := lh hce
 have HD1 := lh (HDB.out.via hb11)
 obtain ⟨nc, hnc⟩ : ∃ nc, nc = rs.length := ⟨_, rfl⟩
 have HNR := lh hnc
 have HNC := lh (hnc.trans hrl)
 rw [<- hnc]
 have hncl : nc <= 100 := by rw [hnc, hrl]; exact hl
 have hw1s := hw1.size
 clear hrs hrc hcc hce hbw1 hnc hrl hl
 go_upto_region 4 with fail
 go_loopw [7, 8] (fun v u wr => ∃ (U : List Int) (last : Int), u = .int .i64 last /\ Hid (UpTo (S.allEnds (C.map g)) last U) /\ wr.ownsRow w1.heap.size 136 2 v (U.map fun p => (⟨p, f p⟩ : Stp)).length ((U.map fun p => (⟨p, f p⟩ : Stp)).flatMap stC) /\ Below w1.heap.size w1 wr) (fun _ u _ => (S.allEnds (C.map g)).countP (fun e => decide (intOf u < e)))
 case atStart => exact ⟨[], -1048577, rfl, lh (upto_nil HLO.out), World.ownsRow_nil _ _ _ _, Below.refl _ _⟩
 case round =>
  generalize wr = wq at *
  obtain ⟨U, last, rfl, hU, hO, hbq⟩ := hrel
  have HO := lh hO
  have hul := upto_len hU.out
  have hul2 : (U.map fun p => (⟨p, f p⟩ : Stp)).length <= 200 := by rw [List.length_map]; exact Nat.le_trans hul HEL.out
  clear hO hul
  have hbwq : Below w.heap.size w wq := ba_via hbq hw1
  have hqs := hbq.size
  go_upto_region 6 with fail
  go_loopw [9, 10, 11] (fun s9 s10 s11 wr => ∃ (q : Nat) (fd : Bool) (nx : Int), q <= nc /\ s11 = .int .i64 q /\ s9 = .int .i64 nx /\ s10 = .bool fd /\ Hid ((fd, nx) = S.hop last ((C.map g).take q)) /\ Below wq.heap.size wq wr) (fun _ _ s _ => nc - (intOf s).toNat)
  case atStart => exact ⟨0, false, 0, Nat.zero_le _, rfl, rfl, rfl, lh rfl, Below.refl _ _⟩
  case round =>
   obtain ⟨q, fd, nx, hq, rfl, rfl, rfl, hh, hbr⟩ := hrel
   have hbqr : Below w1.heap.size w1 wr := ba_via hbr hbq
   have hbwr : Below w.heap.size w wr := ba_via hbr hbwq
   by_cases hlt : q < nc
   ·have hqx : q < rs.length := by rw [<- HNR.out]; exact hlt
    have hqC : q < C.length := by rw [<- HNC.out]; exact hlt
    have hqi : (q : Int) < nc := by omega
    have HNX := lh (hop_next last (cs := C.map g) (k := q) (by rw [List.length_map]; exact hqC))
    rw [<- hh.out, List.getElem_map] at HNX
    have hsr := hbqr.size
    obtain ⟨bA, oA, hAe, hbA, hxx⟩ := (HCC.out.below hbqr).at_ (by rw [List.length_map]; omega)
    clear hxx
    have hc0 := (HCC.out.below hbqr)
    rw [hAe] at hc0
    have c0 := hc0.get (k := q) (v := chV rs[q]) (by rw [List.getElem?_map, List.getElem?_eq_getElem hqx]; rfl)
    have hrq := HRL.out q hqx hqC
    have HCQ := lh (((HCE.out rs[q] (List.getElem_mem hqx)).1.below hbqr).mono hsr)
    unfold chV at c0
    rw [hrq] at c0 HCQ
    have hmem := List.getElem_mem hqC
    have hbAl : bA < wr.heap.size := by omega
    have HA1 := lh (fun (W : World) (hw : Below wr.heap.size wr W) => HAN.out _ hmem rs[q].A rs[q].c W (ba_via hw hbwr) ((HCQ.out.below hw).mono hw.size))
    have HDR := lh (HD1.out.via hbqr)
    have HHC := lh (show S.hopC last (fd, nx) (g C[q]) = if (g C[q]).is = true then S.hopE last (S.hopE last (fd, nx) (g C[q]).lo) (g C[q]).hi else (fd, nx) from rfl)
    rw [HHC.out] at HNX
    rw [hAe]
    clear hc0 HCQ hmem hrq hAe HHC
    generalize rs[q].A = rA at *
    generalize rs[q].c = rc at *
    generalize (g C[q]).is = tok at *
    generalize (g C[q]).lo = lo at *
    generalize (g C[q]).hi = hi at *
    generalize C[q].length = ll at *
    go_upto_region 8 with fail
    refine wp_region_mixF 3 [0, 4] [8] _ 49 #[.int .i64 0, .int .i64 0] (by kernel_rfl) (by kernel_rfl) (of_decide_eq_true (by kernel_rfl)) rfl rfl (fun _ _ => by kernel_rfl) (by intro c a d v w h; cases d <;> exact h) ?_
    try simp only [wpSegsF, gt1, gt2, gt3, gt4, List.take_nil, List.drop_nil]
    repeat (go_big_quiet_step (fail))
    refine wpQuiet_nil ?_
    intro wA hCwA hGwA
    have hbA' : Below wr.heap.size wr wA := ba_via hGwA (ba_drew (Below.refl _ _))
    clear hCwA hGwA
    have hRGA := (HDR.out.via hbA').range
    go_wp2_with ((refine wpList_load_mid rfl 34 (.tmp 2) rfl _ _ rfl _ _ hRGA Tryz.underlying34 rfl (by kernel_rfl) ?_))
    refine segF_next (show Below _ _ _ from belr) ?_
    clear hRGA
    try simp only [wpSegsF, gt1, gt2, gt3, gt4, List.take_nil, List.drop_nil]
    repeat (go_big_quiet_step (fail))
    refine wpQuiet_nil ?_
    intro wB hCwB hGwB
    have hbB : Below wr.heap.size wr wB := ba_via hGwB hbA'
    clear hCwB hGwB
    go_wp2_with ((go_at_call 74; (with_reducible refine (HA1.out _ belr).mono ?_); rintro e w2 ⟨rfl, hbw2⟩))
    refine segF_next (show Below _ _ _ from belr) ?_
    try simp only [wpSegsF, endAt, gt1, gt2, gt3, gt4, List.take_nil, List.drop_nil]
    repeat (go_big_quiet_step (fail))
    refine wpQuiet_nil ?_
    intro b1 wD hOwD hGwD hLb1 hKb1
    simp only [endAt, List.drop_succ_cons, List.drop_zero, Nat.reduceAdd]
    have hbD2 : Below wr.heap.size wr wD := ba_via hGwD belr
    have hbl1 : b1 < wD.heap.size := hKb1.lt
    have y0 := hKb1.cell 0
    have y1 := hKb1.cell 1
    have x0 := hKb1.frozen 0
    have x1 := hKb1.frozen 1
    simp only [ga1, ga2, ga3] at y0 y1
    clear hOwD hGwD
    go_upto_region 9 with fail
    obtain ⟨W2, eW2, hW2, hB2⟩ := span_set2 hbD2 hLb1 hKb1 (.int .i64 lo) (.int .i64 hi)
    rw [eW2]
    clear eW2 y0 y1 x0 x1 hKb1 hbl1 hbD2 hbB hbA' hbw2 c0 HA1 HDR
    clear wD w2 wB wA
    have y0 := hB2.cell 0
    have y1 := hB2.cell 1
    have bl := hB2.lt
    simp only [ga1, ga2, ga3] at y0 y1
    have hbE : Below wq.heap.size wq W2 := ba_via hW2 hbr
    clear hB2 hW2 hbr
    cases tok
    ·have HV := lh (show S.hop last ((C.map g).take (q + 1)) = (fd, nx) by rw [HNX.out, if_neg (by simp)])
     go_wp2
     go_roundw
     case rel => exact ⟨q + 1, fd, nx, by omega, by go_num, rfl, rfl, lh HV.out.symm, hbE⟩
     case measure => simp [intOf]; omega
    ·rw [if_pos rfl] at HNX
     cases a1 : decide (last < lo)
     ·cases fd
      ·cases b1 : decide (last < hi)
       ·have HV := lh (show S.hop last ((C.map g).take (q + 1)) = (false, nx) by rw [HNX.out, hopE_no a1, hopE_no b1])
        go_wp2
        go_roundw
        case rel => exact ⟨q + 1, false, nx, by omega, by go_num, rfl, rfl, lh HV.out.symm, hbE⟩
        case measure => simp [intOf]; omega
       ·have HV := lh (show S.hop last ((C.map g).take (q + 1)) = (true, hi) by rw [HNX.out, hopE_no a1, hopE_new b1])
        go_wp2
        go_roundw
        case rel => exact ⟨q + 1, true, hi, by omega, by go_num, rfl, rfl, lh HV.out.symm, hbE⟩
        case measure => simp [intOf]; omega
      ·cases b1 : decide (last < hi)
       ·have HV := lh (show S.hop last ((C.map g).take (q + 1)) = (true, nx) by rw [HNX.out, hopE_no a1, hopE_no b1])
        go_wp2
        go_roundw
        case rel => exact ⟨q + 1, true, nx, by omega, by go_num, rfl, rfl, lh HV.out.symm, hbE⟩
        case measure => simp [intOf]; omega
       ·cases b2 : decide (hi < nx)
        ·have HV := lh (show S.hop last ((C.map g).take (q + 1)) = (true, nx) by rw [HNX.out, hopE_no a1, hopE_more b2])
         go_wp2
         go_roundw
         case rel => exact ⟨q + 1, true, nx, by omega, by go_num, rfl, rfl, lh HV.out.symm, hbE⟩
         case measure => simp [intOf]; omega
        ·have HV := lh (show S.hop last ((C.map g).take (q + 1)) = (true, hi) by rw [HNX.out, hopE_no a1, hopE_less b1 b2])
         go_wp2
         go_roundw
         case rel => exact ⟨q + 1, true, hi, by omega, by go_num, rfl, rfl, lh HV.out.symm, hbE⟩
         case measure => simp [intOf]; omega
     ·cases fd
      ·cases b1 : decide (last < hi)
       ·have HV := lh (show S.hop last ((C.map g).take (q + 1)) = (true, lo) by rw [HNX.out, hopE_new a1, hopE_no b1])
        go_wp2
        go_roundw
        case rel => exact ⟨q + 1, true, lo, by omega, by go_num, rfl, rfl, lh HV.out.symm, hbE⟩
        case measure => simp [intOf]; omega
       ·cases b2 : decide (hi < lo)
        ·have HV := lh (show S.hop last ((C.map g).take (q + 1)) = (true, lo) by rw [HNX.out, hopE_new a1, hopE_more b2])
         go_wp2
         go_roundw
         case rel => exact ⟨q + 1, true, lo, by omega, by go_num, rfl, rfl, lh HV.out.symm, hbE⟩
         case measure => simp [intOf]; omega
        ·have HV := lh (show S.hop last ((C.map g).take (q + 1)) = (true, hi) by rw [HNX.out, hopE_new a1, hopE_less b1 b2])
         go_wp2
         go_roundw
         case rel => exact ⟨q + 1, true, hi, by omega, by go_num, rfl, rfl, lh HV.out.symm, hbE⟩
         case measure => simp [intOf]; omega
      ·cases a2 : decide (lo < nx)
       ·cases b1 : decide (last < hi)
        ·have HV := lh (show S.hop last ((C.map g).take (q + 1)) = (true, nx) by rw [HNX.out, hopE_more a2, hopE_no b1])
         go_wp2
         go_roundw
         case rel => exact ⟨q + 1, true, nx, by omega, by go_num, rfl, rfl, lh HV.out.symm, hbE⟩
         case measure => simp [intOf]; omega
        ·cases b2 : decide (hi < nx)
         ·have HV := lh (show S.hop last ((C.map g).take (q + 1)) = (true, nx) by rw [HNX.out, hopE_more a2, hopE_more b2])
          go_wp2
          go_roundw
          case rel => exact ⟨q + 1, true, nx, by omega, by go_num, rfl, rfl, lh HV.out.symm, hbE⟩
          case measure => simp [intOf]; omega
         ·have HV := lh (show S.hop last ((C.map g).take (q + 1)) = (true, hi) by rw [HNX.out, hopE_more a2, hopE_less b1 b2])
          go_wp2
          go_roundw
          case rel => exact ⟨q + 1, true, hi, by omega, by go_num, rfl, rfl, lh HV.out.symm, hbE⟩
          case measure => simp [intOf]; omega
       ·cases b1 : decide (last < hi)
        ·have HV := lh (show S.hop last ((C.map g).take (q + 1)) = (true, lo) by rw [HNX.out, hopE_less a1 a2, hopE_no b1])
         go_wp2
         go_roundw
         case rel => exact ⟨q + 1, true, lo, by omega, by go_num, rfl, rfl, lh HV.out.symm, hbE⟩
         case measure => simp [intOf]; omega
        ·cases b2 : decide (hi < lo)
         ·have HV := lh (show S.hop last ((C.map g).take (q + 1)) = (true, lo) by rw [HNX.out, hopE_less a1 a2, hopE_more b2])
          go_wp2
          go_roundw
          case rel => exact ⟨q + 1, true, lo, by omega, by go_num, rfl, rfl, lh HV.out.symm, hbE⟩
          case measure => simp [intOf]; omega
         ·have HV := lh (show S.hop last ((C.map g).take (q + 1)) = (true, hi) by rw [HNX.out, hopE_less a1 a2, hopE_less b1 b2])
          go_wp2
          go_roundw
          case rel => exact ⟨q + 1, true, hi, by omega, by go_num, rfl, rfl, lh HV.out.symm, hbE⟩
          case measure => simp [intOf]; omega
   ·have hqn : q = nc := by omega
    have hqi : ¬ ((q : Int) < nc) := by omega
    have HH := lh (show (fd, nx) = S.hop last (C.map g) by rw [hh.out, List.take_of_length_le (by rw [List.length_map, <- HNC.out, hqn]; exact Nat.le_refl _)])
    have HHA := lh (hop_at last (C.map g))
    rw [<- HH.out] at HHA
    have HOr := lh (own_kept HO.out (fun j hj => hbr.block j (HO.out.lt j hj).2))
    have HDR := lh (HD1.out.via hbqr)
    have hrs1 := hbqr.size
    clear hh
    cases fd
    ·have HALL := lh (show ∀ e, e ∈ S.allEnds (C.map g) -> e <= last by
      rcases HHA.out with ⟨_, h⟩ | ⟨h, _⟩
      ·exact h
      ·cases h)
     have hres := HRES.out U last hU.out HALL.out
     have HP := lh hU
     obtain ⟨L, hL⟩ : ∃ L, L = (U.map fun p => (⟨p, f p⟩ : Stp)) := ⟨_, rfl⟩
     rw [<- hL] at HOr hul2 hres
     obtain ⟨A7, c7, he7, _, _, hC7⟩ := own_form HOr.out (by unfold maxLen; omega)
     subst he7
     have HST := lh (show StepsAt wr wr.heap.size A7 L.length L from ⟨rfl, by omega, hC7⟩)
     have HSH := lh (rshort_any L A7 L.length c7 wr.heap.size wr (Nat.le_refl _) HST.out (by omega))
     clear hC7 HOr
     obtain ⟨SS, hSS⟩ : ∃ SS, SS = S.shortSt L := ⟨_, rfl⟩
     rw [<- hSS] at HSH hres
     have HSS := lh (show S.shortSt (U.map fun p => (⟨p, f p⟩ : Stp)) = SS by rw [hSS, hL])
     clear hSS hL
     generalize L.length = ll at *
     have hr1 : ¬ ((200 : Int) < (SS.length : Int)) := by omega
     go_wp2_with (go_at_call 75; (with_reducible refine HSH.out.mono ?_); rintro e w3 ⟨A3, c3, rfl, hO3, hbw3⟩)
     go_ret2
     refine ⟨U, last, A3, c3, HP.out.out, HALL.out, (by rw [HSS.out]; rfl), ?_, ba_via hbw3 hbwr⟩
     rw [HSS.out]
     exact own_mono hO3 hbwr.size
    ·have hnx : nx ∈ S.allEnds (C.map g) /\ last < nx /\ ∀ e, e ∈ S.allEnds (C.map g) -> last < e -> nx <= e := by
      rcases HHA.out with ⟨h, _⟩ | ⟨_, h1, h2, h3⟩
      ·cases h
      ·exact ⟨h1, h2, h3⟩
     have HU2 := lh (upto_next hU.out hnx.1 hnx.2.1 hnx.2.2)
     have HME := lh (upto_meas hnx.1 hnx.2.1)
     have HAT1 := lh (fun (W : World) (hw : Below wr.heap.size wr W) => HAT.out nx W (ba_via hw hbwr))
     have HLM := lh (show ((U ++ [nx]).map fun p => (⟨p, f p⟩ : Stp)) = (U.map fun p => (⟨p, f p⟩ : Stp)) ++ [⟨nx, f nx⟩] by rw [List.map_append]; rfl)
     clear hnx HHA
     generalize (U.map fun p => (⟨p, f p⟩ : Stp)) = L at *
     generalize f nx = fv at *
     go_wp2_with (first
      | ((with_reducible refine at_load 34 2 ?_); refine wpList_load_mid rfl 34 (.tmp 2) rfl _ _ rfl _ _ (HDR.out.via belr).range Tryz.underlying34 rfl (by kernel_rfl) ?_)
      | (go_at_call 52; (with_reducible refine (HAT1.out _ belr).mono ?_); rintro e w3 ⟨rfl, hbw3⟩; have hb3 : Below wr.heap.size wr w3 := (by assumption); have HO3 := lh (own_kept HOr.out (fun j hj => hb3.block j (HOr.out.lt j hj).2)); have h3s := hb3.size; have hb13 : Below w1.heap.size w1 w3 := ba_via hb3 hbqr; have hbE1 : w1.heap.size <= w3.heap.size := (by omega))
      | (at_builtin; refine wpList_push rfl (.tmp 67) (.tmp 74) _ rfl elemSt ((show Row w3 w3 u7.ownBlock w1.heap.size 136 2 u7 L.length (L.flatMap stC) from ⟨HO3.out, fun k hk => .inl hk.symm⟩).alloc _) ((Exc.refl u7.ownBlock.toList w3).alloc _) (by intro k hk; simp [hk]) hbE1 rfl w3.heap.size 1 1 [.int .i64 nx, .int .i64 fv] rfl rfl ?_ (by simp [Value.oneCell']) (by unfold maxLen; omega) (by omega) ?_; (· intro j u hu; have := (Cells.newRow w3 #[.int .i64 nx, .int .i64 fv] 136 (0, 0)).get (k := j) (v := u) hu; simpa using this); intro v2 wE hRE hXE hOE))
     have hown := hRE.own
     have hbE : Below w1.heap.size w1 wE := hb13.trans (hXE.below (by omega) (fun g hg => (HO3.out.lt g (by simpa using hg)).1))
     go_roundw
     case rel => exact ⟨U ++ [nx], nx, rfl, HU2, by rw [HLM.out]; simpa using hown, hbE⟩
     case measure => exact HME.out
end Go.Proofs.YtmfpbafpnoomeaaGreat
