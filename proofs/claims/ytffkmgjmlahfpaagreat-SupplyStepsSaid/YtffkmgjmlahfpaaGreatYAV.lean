/- Lemmas. -/
import Derived.Test.YtffkmgjmlahfpaaGreatYAQ
import Derived.Test.YtffkmgjmlahfpaaGreatYAE
import Derived.Test.YtffkmgjmlahfpaaGreatYY
import Derived.Test.YtffkmgjmlahfpaaGreatYAA
import Derived.Test.YtffkmgjmlahfpaaGreatYAR
import Derived.Test.YtffkmgjmlahfpaaGreatYAC
import Derived.Test.YtffkmgjmlahfpaaGreatYAT
import Derived.Test.YtffkmgjmlahfpaaGreatYAU
set_option linter.unusedVariables false
set_option linter.unusedSimpArgs false
namespace Go.Proofs.YtffkmgjmlahfpaaGreat
open Go.RowKit
theorem span_set2 {w0 w : World} {b : Nat} {T : TypeId} {z0 z1 : Value} (h0 : Below w0.heap.size w0 w) (hl : w0.heap.size ≤ b) (hb : Blk w b T #[z0, z1]) (v0 v1 : Value) :
    ∃ W, ((w.setCell ⟨b, 0, none⟩ v0).setCell ⟨b, 1, none⟩ v1) = W ∧ Below w0.heap.size w0 W ∧ Blk W b T #[v0, v1] := by
  refine ⟨_, rfl, ba_set (ba_set h0 hl _) hl _, ?_⟩
  have := (hb.set 0 v0).set 1 v1
  simpa only [List.setIfInBounds_toArray, List.set_cons_zero, List.set_cons_succ] using this
def S.refIn (sp : List Int → Int × Int × Bool) (su : List Int → Bool) (p : Int) (l : List Int) : Bool := (sp l).2.2 && su l && decide ((sp l).1 ≤ p) && decide (p < (sp l).2.1)
def S.refAt (sp : List Int → Int × Int × Bool) (su : List Int → Bool) (ar : List Int → Int) (p : Int) (C : List (List Int)) : Int := C.foldl (fun n l => if S.refIn sp su p l then n + ar l else n) 0
theorem refAt_next (sp : List Int → Int × Int × Bool) (su : List Int → Bool) (ar : List Int → Int) (p : Int) {C : List (List Int)} {k : Nat} (h : k < C.length) : S.refAt sp su ar p (C.take (k + 1)) = if S.refIn sp su p C[k] then S.refAt sp su ar p (C.take k) + ar C[k] else S.refAt sp su ar p (C.take k) := by
  have e : C.take (k + 1) = C.take k ++ [C[k]] := by rw [List.take_add_one, List.getElem?_eq_getElem h]; rfl
  unfold S.refAt
  rw [e, List.foldl_append]
  rfl
theorem refAt_bd (sp : List Int → Int × Int × Bool) (su : List Int → Bool) (ar : List Int → Int) (p : Int) (C : List (List Int)) (h : ∀ l, l ∈ C → 0 ≤ ar l ∧ ar l ≤ 1000000) : 0 ≤ S.refAt sp su ar p C ∧ S.refAt sp su ar p C ≤ 1000000 * (C.length : Int) := by
  suffices hs : ∀ (C : List (List Int)) (n : Int), (∀ l, l ∈ C → 0 ≤ ar l ∧ ar l ≤ 1000000) → n ≤ C.foldl (fun n l => if S.refIn sp su p l then n + ar l else n) n ∧ C.foldl (fun n l => if S.refIn sp su p l then n + ar l else n) n ≤ n + 1000000 * (C.length : Int) by
    have := hs C 0 h
    unfold S.refAt
    omega
  intro C
  induction C with
  | nil => intro n _; simp
  | cons l t ih =>
    intro n h
    rw [List.foldl_cons, List.length_cons]
    have h1 := h l (by simp)
    have h2 := ih (if S.refIn sp su p l then n + ar l else n) (fun l hl => h l (by simp [hl]))
    push_cast
    split at h2 <;> split <;> first | omega | contradiction
set_option maxRecDepth 20000 in
set_option maxHeartbeats 8000000 in
theorem rat26_core (x : Dt) (C : List (List Int)) (k : Nat) (p : Int) (sp : List Int → Int × Int × Bool) (su : List Int → Bool) (ar : List Int → Int) (w : World) (hc : ChSays x C k sp su ar w)
    (hCH : ∀ W, Below w.heap.size w W → Calls Tryz.prog 23 #[dtV x] W (GivesChs C W)) :
    Calls Tryz.prog 37 #[dtV x, .int .i64 k, .int .i64 p] w fun e w' => e = .returned (.int .i64 (S.refAt sp su ar p C)) ∧ Below w.heap.size w w' := by
  have HCH := Lib.hid hCH
  have HAN := Lib.hid hc.anch
  have HSU := Lib.hid hc.sups
  have HAR := Lib.hid hc.area
  have HBD := Lib.hid hc.bd
  have hcl := hc.len
  clear hCH hc
  unfold dtV at HCH HAN HSU HAR
  unfold dtV
  have hDB := Blk.new w 34 #[.string x.m.name, .slice x.mA x.mn x.mc, .slice x.hA x.hn x.hc, .int .i64 x.m.cover, .int .i64 x.m.aggr, .int .i64 x.m.poker, .slice x.bA x.bn x.bc, .slice x.rA x.rn x.rc, .slice x.jA x.jn x.jc, .slice x.dA x.dn x.dc, .int .i64 x.rule.num, .int .i64 x.rule.den, .int .i64 x.rule.pnum, .int .i64 x.rule.pden, .int .i64 x.rule.bnum, .int .i64 x.rule.bden, .int .i64 x.rule.lnum, .int .i64 x.rule.lden, .int .i64 x.rule.least]
  have hW1 : Below w.heap.size w (w.alloc (.cells #[.string x.m.name, .slice x.mA x.mn x.mc, .slice x.hA x.hn x.hc, .int .i64 x.m.cover, .int .i64 x.m.aggr, .int .i64 x.m.poker, .slice x.bA x.bn x.bc, .slice x.rA x.rn x.rc, .slice x.jA x.jn x.jc, .slice x.dA x.dn x.dc, .int .i64 x.rule.num, .int .i64 x.rule.den, .int .i64 x.rule.pnum, .int .i64 x.rule.pden, .int .i64 x.rule.bnum, .int .i64 x.rule.bden, .int .i64 x.rule.lnum, .int .i64 x.rule.lden, .int .i64 x.rule.least] 34)) := ba_alloc (Below.refl _ _) _
  go_enter Tryz.func37, Tryz.ntmps37
  go_upto_region 1 with fail
  generalize (w.alloc (.cells #[.string x.m.name, .slice x.mA x.mn x.mc, .slice x.hA x.hn x.hc, .int .i64 x.m.cover, .int .i64 x.m.aggr, .int .i64 x.m.poker, .slice x.bA x.bn x.bc, .slice x.rA x.rn x.rc, .slice x.jA x.jn x.jc, .slice x.dA x.dn x.dc, .int .i64 x.rule.num, .int .i64 x.rule.den, .int .i64 x.rule.pnum, .int .i64 x.rule.pden, .int .i64 x.rule.bnum, .int .i64 x.rule.bden, .int .i64 x.rule.lnum, .int .i64 x.rule.lden, .int .i64 x.rule.least] 34)) = W1 at *
  have HDB := Lib.hid hDB
  clear hDB
  go_upto_region 2 with (first
    | ((with_reducible refine at_load 34 3 ?_); refine wpList_load_mid rfl 34 (.tmp 3) rfl _ _ rfl _ _ (HDB.out.via belr).range Tryz.underlying34 rfl (by kernel_rfl) ?_)
    | (go_at_call 23; (with_reducible refine (HCH.out _ belr).mono ?_); rintro e w1 ⟨A1, c1, rs, rfl, hrs, hrc, hcc, hce, hbw1⟩))
  have hb11 : Below W1.heap.size W1 w1 := belr
  have hw1 : Below w.heap.size w w1 := ba_via hb11 hW1
  have hrl : rs.length = C.length := by rw [← hrs, List.length_map]
  have HRL := Lib.hid (fun (q : Nat) (hq : q < rs.length) (hqC : q < C.length) => show rs[q].l = C[q] from by
    have h1 : (rs.map (·.l))[q]? = C[q]? := by rw [hrs]
    rw [List.getElem?_map, List.getElem?_eq_getElem hq, List.getElem?_eq_getElem hqC] at h1
    exact Option.some.inj h1)
  have HCC := Lib.hid hcc
  have HCE := Lib.hid hce
  obtain ⟨nc, hnc⟩ : ∃ nc, nc = rs.length := ⟨_, rfl⟩
  have HNR := Lib.hid hnc
  have HNC := Lib.hid (hnc.trans hrl)
  rw [← hnc]
  have hncl : nc ≤ 2000 := by rw [hnc, hrl]; exact hcl
  clear hrs hrc hcc hce hbw1 hnc hrl hcl
  go_upto_region 4 with fail
  go_loopw [8, 9] (fun v i wr => ∃ q : Nat, q ≤ nc ∧ i = .int .i64 q ∧ ∃ u : Int, v = .int .i64 u ∧ Hid (u = S.refAt sp su ar p (C.take q)) ∧ Below w1.heap.size w1 wr) (fun _ i _ => nc - (intOf i).toNat)
  case atStart => exact ⟨0, Nat.zero_le _, rfl, 0, rfl, Lib.hid rfl, Below.refl _ _⟩
  case round =>
    obtain ⟨q, hq, rfl, u, rfl, hu, hbr⟩ := hrel
    have hbwr : Below w.heap.size w wr := ba_via hbr hw1
    have hub := refAt_bd sp su ar p (C.take q) (fun l hl => HBD.out l (List.mem_of_mem_take hl))
    rw [← hu.out, List.length_take] at hub
    have hu1 : 0 ≤ u := hub.1
    have hu2 : u ≤ 2000000000 := by omega
    clear hub
    by_cases hlt : q < nc
    · have hqx : q < rs.length := by rw [← HNR.out]; exact hlt
      have hqC : q < C.length := by rw [← HNC.out]; exact hlt
      have hqi : (q : Int) < nc := by omega
      have HNX := Lib.hid (refAt_next sp su ar p hqC)
      rw [← hu.out] at HNX
      have hsr := hbr.size
      obtain ⟨bA, oA, hAe, hbA, hxx⟩ := (HCC.out.below hbr).at_ (by rw [List.length_map]; omega)
      clear hxx
      have HAE := Lib.hid hAe
      have hc0 := (HCC.out.below hbr)
      rw [hAe] at hc0
      have c0 := hc0.get (k := q) (v := chV rs[q]) (by rw [List.getElem?_map, List.getElem?_eq_getElem hqx]; rfl)
      have hrq := HRL.out q hqx hqC
      have HCQ := Lib.hid (((HCE.out rs[q] (List.getElem_mem hqx)).1.below hbr).mono hsr)
      unfold chV at c0
      rw [hrq] at c0 HCQ
      have hmem := List.getElem_mem hqC
      have hbAl : bA < wr.heap.size := by omega
      have hba := HBD.out _ hmem
      have HA1 := Lib.hid (fun (W : World) (hw : Below wr.heap.size wr W) => HAN.out _ hmem rs[q].A rs[q].c W (ba_via hw hbwr) ((HCQ.out.below hw).mono hw.size))
      have HS1 := Lib.hid (fun (W : World) (hw : Below wr.heap.size wr W) => HSU.out _ hmem rs[q].A rs[q].c W (ba_via hw hbwr) ((HCQ.out.below hw).mono hw.size))
      have HR1 := Lib.hid (fun (W : World) (hw : Below wr.heap.size wr W) => HAR.out _ hmem rs[q].A rs[q].c W (ba_via hw hbwr) ((HCQ.out.below hw).mono hw.size))
      have HIN := Lib.hid (show S.refIn sp su p C[q] = ((sp C[q]).2.2 && su C[q] && decide ((sp C[q]).1 ≤ p) && decide (p < (sp C[q]).2.1)) from rfl)
      have HDR := Lib.hid (HDB.out.via (ba_via hbr hb11))
      rw [hAe]
      clear hc0 HCQ hmem hrq hAe
      generalize rs[q].A = rA at *
      generalize rs[q].c = rc at *
      generalize S.refIn sp su p C[q] = tin at *
      generalize ar C[q] = av at *
      generalize su C[q] = ts at *
      generalize (sp C[q]).2.2 = tok at *
      generalize (sp C[q]).1 = lo at *
      generalize (sp C[q]).2.1 = hi at *
      generalize C[q].length = ll at *
      go_upto_region 6 with fail
      refine wp_region_mixF 3 [0, 4] [8] _ 45 #[.int .i64 0, .int .i64 0] (by kernel_rfl) (by kernel_rfl) (of_decide_eq_true (by kernel_rfl)) rfl rfl (fun _ _ => by kernel_rfl) (by intro c a d v w h; cases d <;> exact h) ?_
      try simp only [wpSegsF, List.take_succ_cons, List.take_zero, List.drop_succ_cons, List.drop_zero, List.take_nil, List.drop_nil]
      repeat (go_big_quiet_step (fail))
      refine wpQuiet_nil ?_
      intro wA hCwA hGwA
      have hbA' : Below wr.heap.size wr wA := ba_via hGwA (ba_drew (Below.refl _ _))
      clear hCwA hGwA
      have hRGA := (HDR.out.via hbA').range
      go_wp2_with ((refine wpList_load_mid rfl 34 (.tmp 3) rfl _ _ rfl _ _ hRGA Tryz.underlying34 rfl (by kernel_rfl) ?_))
      refine segF_next (show Below _ _ _ from belr) ?_
      clear hRGA
      try simp only [wpSegsF, List.take_succ_cons, List.take_zero, List.drop_succ_cons, List.drop_zero, List.take_nil, List.drop_nil]
      repeat (go_big_quiet_step (fail))
      refine wpQuiet_nil ?_
      intro wB hCwB hGwB
      have hbB : Below wr.heap.size wr wB := ba_via hGwB hbA'
      clear hCwB hGwB
      go_wp2_with ((go_at_call 44; (with_reducible refine (HA1.out _ belr).mono ?_); rintro e w2 ⟨rfl, hbw2⟩))
      refine segF_next (show Below _ _ _ from belr) ?_
      try simp only [wpSegsF, endAt, List.take_succ_cons, List.take_zero, List.drop_succ_cons, List.drop_zero, List.take_nil, List.drop_nil]
      repeat (go_big_quiet_step (fail))
      refine wpQuiet_nil ?_
      intro b1 wD hOwD hGwD hLb1 hKb1
      simp only [endAt, List.drop_succ_cons, List.drop_zero, Nat.reduceAdd]
      have hbD2 : Below wr.heap.size wr wD := ba_via hGwD belr
      have hbl1 : b1 < wD.heap.size := hKb1.lt
      have y0 := hKb1.cell 0
      have y1 := hKb1.cell 1
      have x0 := hKb1.frozen 0
      have x1 := hKb1.frozen 1
      simp only [List.getElem?_toArray, List.getElem?_cons_zero, List.getElem?_cons_succ] at y0 y1
      clear hOwD hGwD
      go_upto_region 7 with fail
      obtain ⟨W2, eW2, hW2, hB2⟩ := span_set2 hbD2 hLb1 hKb1 (.int .i64 lo) (.int .i64 hi)
      rw [eW2]
      clear eW2 y0 y1 x0 x1 hKb1 hbl1 hbD2 hbB hbA' hbw2
      clear wD w2 wB wA
      have y0 := hB2.cell 0
      have y1 := hB2.cell 1
      have bl := hB2.lt
      simp only [List.getElem?_toArray, List.getElem?_cons_zero, List.getElem?_cons_succ] at y0 y1
      have c0' := (hW2.cell (p := ⟨bA, oA + q, none⟩) hbAl).trans c0
      have hbAl2 : bA < W2.heap.size := by have := hW2.size; omega
      have HD2 := Lib.hid (HDR.out.via hW2)
      have HSE := Lib.hid (fun (W : World) (hw : Below W2.heap.size W2 W) => HS1.out W (ba_via hw hW2))
      clear c0 hB2
      cases tok
      · have HV := Lib.hid (show S.refAt sp su ar p (C.take (q + 1)) = u by rw [HNX.out, if_neg (by rw [HIN.out]; simp)])
        refine wp_region_mix 12 [8] (by kernel_rfl) (by kernel_rfl) (of_decide_eq_true (by kernel_rfl)) ?_
        try simp only [wpSegs, List.take_succ_cons, List.take_zero, List.drop_succ_cons, List.drop_zero, List.take_nil, List.drop_nil]
        repeat (first | (refine quietLoad (by rfl) 34 (.tmp 3) rfl _ _ rfl _ _ (quietBy fun W hw => (HD2.out.via hw).range) Tryz.underlying34 rfl (by kernel_rfl) ?_; intro aQ hQ; simp only [go_sem, List.setIfInBounds_toArray, List.set_cons_succ, List.set_cons_zero] at hQ; subst hQ) | go_big_quiet_step (fail))
        refine wpQuiet_nil ?_
        show wpList _ _ _ _ _ _
        go_wp2_with (fail)
        refine seg_next (grow_to belr) ?_
        try simp only [wpSegs, List.take_succ_cons, List.take_zero, List.drop_succ_cons, List.drop_zero, List.take_nil, List.drop_nil]
        repeat (go_big_quiet_step (fail))
        refine wpQuiet_nil ?_
        show wpList _ _ _ _ _ _
        go_wp2
        go_roundw
        case rel => exact ⟨q + 1, by omega, by go_num, u, rfl, Lib.hid HV.out.symm, ba_via (ba_via (ba_drew (Below.refl _ _)) hW2) hbr⟩
        case measure => simp [intOf]; omega
      · cases ts
        · have HV := Lib.hid (show S.refAt sp su ar p (C.take (q + 1)) = u by rw [HNX.out, if_neg (by rw [HIN.out]; simp)])
          refine wp_region_mix 12 [8] (by kernel_rfl) (by kernel_rfl) (of_decide_eq_true (by kernel_rfl)) ?_
          try simp only [wpSegs, List.take_succ_cons, List.take_zero, List.drop_succ_cons, List.drop_zero, List.take_nil, List.drop_nil]
          repeat (first | (refine quietLoad (by rfl) 34 (.tmp 3) rfl _ _ rfl _ _ (quietBy fun W hw => (HD2.out.via hw).range) Tryz.underlying34 rfl (by kernel_rfl) ?_; intro aQ hQ; simp only [go_sem, List.setIfInBounds_toArray, List.set_cons_succ, List.set_cons_zero] at hQ; subst hQ) | go_big_quiet_step (fail))
          refine wpQuiet_nil ?_
          show wpList _ _ _ _ _ _
          go_wp2_with ((go_at_call 91; (with_reducible refine (HSE.out _ belr).mono ?_); rintro e w3 ⟨rfl, hbw3⟩))
          refine seg_next (grow_to belr) ?_
          try simp only [wpSegs, List.take_succ_cons, List.take_zero, List.drop_succ_cons, List.drop_zero, List.take_nil, List.drop_nil]
          repeat (go_big_quiet_step (fail))
          refine wpQuiet_nil ?_
          show wpList _ _ _ _ _ _
          have hb9 : Below wr.heap.size wr w3 := ba_via (ba_via hbw3 (ba_drew (Below.refl _ _))) hW2
          go_wp2
          go_roundw
          case rel => exact ⟨q + 1, by omega, by go_num, u, rfl, Lib.hid HV.out.symm, ba_via hb9 hbr⟩
          case measure => simp [intOf]; omega
        · by_cases h1 : lo ≤ p
          · by_cases h2 : p < hi
            · have HV := Lib.hid (show S.refAt sp su ar p (C.take (q + 1)) = u + av by rw [HNX.out, if_pos (by rw [HIN.out, decide_eq_true h1, decide_eq_true h2]; rfl)])
              have e1 : IntKind.i64.wrap (u + av) = u + av := IntWalk.i64_in _ (by omega)
              refine wp_region_mix 12 [8] (by kernel_rfl) (by kernel_rfl) (of_decide_eq_true (by kernel_rfl)) ?_
              try simp only [wpSegs, List.take_succ_cons, List.take_zero, List.drop_succ_cons, List.drop_zero, List.take_nil, List.drop_nil]
              repeat (first | (refine quietLoad (by rfl) 34 (.tmp 3) rfl _ _ rfl _ _ (quietBy fun W hw => (HD2.out.via hw).range) Tryz.underlying34 rfl (by kernel_rfl) ?_; intro aQ hQ; simp only [go_sem, List.setIfInBounds_toArray, List.set_cons_succ, List.set_cons_zero] at hQ; subst hQ) | go_big_quiet_step (fail))
              refine wpQuiet_nil ?_
              show wpList _ _ _ _ _ _
              go_wp2_with ((go_at_call 91; (with_reducible refine (HSE.out _ belr).mono ?_); rintro e w3 ⟨rfl, hbw3⟩))
              refine seg_next (grow_to belr) ?_
              try simp only [wpSegs, List.take_succ_cons, List.take_zero, List.drop_succ_cons, List.drop_zero, List.take_nil, List.drop_nil]
              repeat (go_big_quiet_step (fail))
              refine wpQuiet_nil ?_
              show wpList _ _ _ _ _ _
              have hb9 : Below W2.heap.size W2 w3 := ba_via hbw3 (ba_drew (Below.refl _ _))
              have c0'' := (hb9.cell (p := ⟨bA, oA + q, none⟩) hbAl2).trans c0'
              have hbAl3 : bA < w3.heap.size := by have := hb9.size; omega
              have HD9 := Lib.hid (HD2.out.via hb9)
              have HRE := Lib.hid (fun (W : World) (hw : Below w3.heap.size w3 W) => HR1.out W (ba_via (ba_via hw hb9) hW2))
              clear hbw3 y0 y1 bl
              go_upto_region 8 with fail
              refine wp_region_mix 1 [6] (by kernel_rfl) (by kernel_rfl) (of_decide_eq_true (by kernel_rfl)) ?_
              try simp only [wpSegs, List.take_succ_cons, List.take_zero, List.drop_succ_cons, List.drop_zero, List.take_nil, List.drop_nil]
              repeat (first | (refine quietLoad (by rfl) 34 (.tmp 3) rfl _ _ rfl _ _ (quietBy fun W hw => (HD9.out.via hw).range) Tryz.underlying34 rfl (by kernel_rfl) ?_; intro aQ hQ; simp only [go_sem, List.setIfInBounds_toArray, List.set_cons_succ, List.set_cons_zero] at hQ; subst hQ) | go_big_quiet_step (fail))
              refine wpQuiet_nil ?_
              show wpList _ _ _ _ _ _
              go_wp2_with ((go_at_call 45; (with_reducible refine (HRE.out _ belr).mono ?_); rintro e w4 ⟨rfl, hbw4⟩))
              refine seg_next (grow_to belr) ?_
              try simp only [wpSegs, List.take_succ_cons, List.take_zero, List.drop_succ_cons, List.drop_zero, List.take_nil, List.drop_nil]
              repeat (go_big_quiet_step (fail))
              refine wpQuiet_nil ?_
              show wpList _ _ _ _ _ _
              have hb10 : Below wr.heap.size wr w4 := ba_via (ba_via (ba_via hbw4 (ba_drew (Below.refl _ _))) hb9) hW2
              go_wp2
              go_roundw
              case rel => exact ⟨q + 1, by omega, by go_num, u + av, rfl, Lib.hid HV.out.symm, ba_via hb10 hbr⟩
              case measure => simp [intOf]; omega
            · have h3 : decide (p < hi) = false := decide_eq_false h2
              have HF := Lib.hid h3
              have HV := Lib.hid (show S.refAt sp su ar p (C.take (q + 1)) = u by rw [HNX.out, if_neg (by rw [HIN.out, HF.out]; simp)])
              refine wp_region_mix 12 [8] (by kernel_rfl) (by kernel_rfl) (of_decide_eq_true (by kernel_rfl)) ?_
              try simp only [wpSegs, List.take_succ_cons, List.take_zero, List.drop_succ_cons, List.drop_zero, List.take_nil, List.drop_nil]
              repeat (first | (refine quietLoad (by rfl) 34 (.tmp 3) rfl _ _ rfl _ _ (quietBy fun W hw => (HD2.out.via hw).range) Tryz.underlying34 rfl (by kernel_rfl) ?_; intro aQ hQ; simp only [go_sem, List.setIfInBounds_toArray, List.set_cons_succ, List.set_cons_zero] at hQ; subst hQ) | go_big_quiet_step (fail))
              refine wpQuiet_nil ?_
              show wpList _ _ _ _ _ _
              go_wp2_with ((go_at_call 91; (with_reducible refine (HSE.out _ belr).mono ?_); rintro e w3 ⟨rfl, hbw3⟩))
              refine seg_next (grow_to belr) ?_
              try simp only [wpSegs, List.take_succ_cons, List.take_zero, List.drop_succ_cons, List.drop_zero, List.take_nil, List.drop_nil]
              repeat (go_big_quiet_step (fail))
              refine wpQuiet_nil ?_
              show wpList _ _ _ _ _ _
              have hb9 : Below wr.heap.size wr w3 := ba_via (ba_via hbw3 (ba_drew (Below.refl _ _))) hW2
              go_wp2
              go_roundw
              case rel => exact ⟨q + 1, by omega, by go_num, u, rfl, Lib.hid HV.out.symm, ba_via hb9 hbr⟩
              case measure => simp [intOf]; omega
          · have h3 : decide (lo ≤ p) = false := decide_eq_false h1
            have HF := Lib.hid h3
            have HV := Lib.hid (show S.refAt sp su ar p (C.take (q + 1)) = u by rw [HNX.out, if_neg (by rw [HIN.out, HF.out]; simp)])
            refine wp_region_mix 12 [8] (by kernel_rfl) (by kernel_rfl) (of_decide_eq_true (by kernel_rfl)) ?_
            try simp only [wpSegs, List.take_succ_cons, List.take_zero, List.drop_succ_cons, List.drop_zero, List.take_nil, List.drop_nil]
            repeat (first | (refine quietLoad (by rfl) 34 (.tmp 3) rfl _ _ rfl _ _ (quietBy fun W hw => (HD2.out.via hw).range) Tryz.underlying34 rfl (by kernel_rfl) ?_; intro aQ hQ; simp only [go_sem, List.setIfInBounds_toArray, List.set_cons_succ, List.set_cons_zero] at hQ; subst hQ) | go_big_quiet_step (fail))
            refine wpQuiet_nil ?_
            show wpList _ _ _ _ _ _
            go_wp2_with ((go_at_call 91; (with_reducible refine (HSE.out _ belr).mono ?_); rintro e w3 ⟨rfl, hbw3⟩))
            refine seg_next (grow_to belr) ?_
            try simp only [wpSegs, List.take_succ_cons, List.take_zero, List.drop_succ_cons, List.drop_zero, List.take_nil, List.drop_nil]
            repeat (go_big_quiet_step (fail))
            refine wpQuiet_nil ?_
            show wpList _ _ _ _ _ _
            have hb9 : Below wr.heap.size wr w3 := ba_via (ba_via hbw3 (ba_drew (Below.refl _ _))) hW2
            go_wp2
            go_roundw
            case rel => exact ⟨q + 1, by omega, by go_num, u, rfl, Lib.hid HV.out.symm, ba_via hb9 hbr⟩
            case measure => simp [intOf]; omega
    · have hqn : q = nc := by omega
      have hqi : ¬ ((q : Int) < nc) := by omega
      have HU := Lib.hid (show u = S.refAt sp su ar p C by rw [hu.out, List.take_of_length_le (by rw [hqn, HNC.out]; exact Nat.le_refl _)])
      go_wp2
      go_ret
      exact ⟨ret_i HU.out, hbwr⟩
end Go.Proofs.YtffkmgjmlahfpaaGreat
