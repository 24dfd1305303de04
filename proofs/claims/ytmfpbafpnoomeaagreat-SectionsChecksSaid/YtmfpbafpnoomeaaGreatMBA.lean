/- Lemmas. -/
import Derived.Test.YtmfpbafpnoomeaaGreatMAX
set_option linter.unusedVariables false
set_option linter.unusedSimpArgs false
namespace Go.Proofs.YtmfpbafpnoomeaaGreat
open Go.RowKit
theorem check_err (x : Dt) (w : World)
 (hLV : ∀ W, Below w.heap.size w W -> Calls Tryz.prog 53 #[dtV x] W fun e w' => e = .returned (.bool false) /\ Below W.heap.size W w') :
 Calls Tryz.prog 21 #[dtV x] w fun e w' => e = .returned (.tuple #[.slice none 0 0, .int .i64 1]) /\ Below w.heap.size w w' := by
 have HLV := lh hLV
 clear hLV
 unfold dtV at HLV
 unfold dtV
 have hDB := Blk.new w 34 #[.string x.m.name, .slice x.mA x.mn x.mc, .slice x.hA x.hn x.hc, .int .i64 x.m.cover, .int .i64 x.m.aggr, .int .i64 x.m.poker, .slice x.bA x.bn x.bc, .slice x.rA x.rn x.rc, .slice x.jA x.jn x.jc, .slice x.dA x.dn x.dc, .int .i64 x.rule.num, .int .i64 x.rule.den, .int .i64 x.rule.pnum, .int .i64 x.rule.pden, .int .i64 x.rule.bnum, .int .i64 x.rule.bden, .int .i64 x.rule.lnum, .int .i64 x.rule.lden, .int .i64 x.rule.least]
 have hW1 : Below w.heap.size w (w.alloc (.cells #[.string x.m.name, .slice x.mA x.mn x.mc, .slice x.hA x.hn x.hc, .int .i64 x.m.cover, .int .i64 x.m.aggr, .int .i64 x.m.poker, .slice x.bA x.bn x.bc, .slice x.rA x.rn x.rc, .slice x.jA x.jn x.jc, .slice x.dA x.dn x.dc, .int .i64 x.rule.num, .int .i64 x.rule.den, .int .i64 x.rule.pnum, .int .i64 x.rule.pden, .int .i64 x.rule.bnum, .int .i64 x.rule.bden, .int .i64 x.rule.lnum, .int .i64 x.rule.lden, .int .i64 x.rule.least] 34)) := ba_alloc (Below.refl _ _) _
 go_enter Tryz.func21, Tryz.ntmps21
 go_upto_region 1 with fail
 generalize (w.alloc (.cells #[.string x.m.name, .slice x.mA x.mn x.mc, .slice x.hA x.hn x.hc, .int .i64 x.m.cover, .int .i64 x.m.aggr, .int .i64 x.m.poker, .slice x.bA x.bn x.bc, .slice x.rA x.rn x.rc, .slice x.jA x.jn x.jc, .slice x.dA x.dn x.dc, .int .i64 x.rule.num, .int .i64 x.rule.den, .int .i64 x.rule.pnum, .int .i64 x.rule.pden, .int .i64 x.rule.bnum, .int .i64 x.rule.bden, .int .i64 x.rule.lnum, .int .i64 x.rule.lden, .int .i64 x.rule.least] 34)) = W1 at *
 have HDB := lh hDB
 clear hDB
 go_wp2_with (first
  | ((with_reducible refine at_load 34 1 ?_); refine wpList_load_mid rfl 34 (.tmp 1) rfl _ _ rfl _ _ (HDB.out.via belr).range Tryz.underlying34 rfl (by kernel_rfl) ?_)
  | (go_at_call 53; (with_reducible refine (HLV.out _ belr).mono ?_); rintro e w2 ⟨rfl, hbw2⟩))
 go_ret2
 exact ⟨rfl, bel⟩
set_option maxHeartbeats 1000000 in
theorem passes_any (x : Dt) (L : List ByteArray) (w : World) (hL : L.length <= 100)
 (hCK : ∀ W, Below w.heap.size w W -> Calls Tryz.prog 21 #[dtV x] W (GivesFn L W)) :
 Calls Tryz.prog 22 #[dtV x] w fun e w' => e = .returned (.tuple #[.bool (decide (L.length = 0)), .int .i64 0]) /\ Below w.heap.size w w' := by
 have HCK := lh hCK
 clear hCK
 unfold dtV at HCK
 unfold dtV
 have hDB := Blk.new w 34 #[.string x.m.name, .slice x.mA x.mn x.mc, .slice x.hA x.hn x.hc, .int .i64 x.m.cover, .int .i64 x.m.aggr, .int .i64 x.m.poker, .slice x.bA x.bn x.bc, .slice x.rA x.rn x.rc, .slice x.jA x.jn x.jc, .slice x.dA x.dn x.dc, .int .i64 x.rule.num, .int .i64 x.rule.den, .int .i64 x.rule.pnum, .int .i64 x.rule.pden, .int .i64 x.rule.bnum, .int .i64 x.rule.bden, .int .i64 x.rule.lnum, .int .i64 x.rule.lden, .int .i64 x.rule.least]
 have hW1 : Below w.heap.size w (w.alloc (.cells #[.string x.m.name, .slice x.mA x.mn x.mc, .slice x.hA x.hn x.hc, .int .i64 x.m.cover, .int .i64 x.m.aggr, .int .i64 x.m.poker, .slice x.bA x.bn x.bc, .slice x.rA x.rn x.rc, .slice x.jA x.jn x.jc, .slice x.dA x.dn x.dc, .int .i64 x.rule.num, .int .i64 x.rule.den, .int .i64 x.rule.pnum, .int .i64 x.rule.pden, .int .i64 x.rule.bnum, .int .i64 x.rule.bden, .int .i64 x.rule.lnum, .int .i64 x.rule.lden, .int .i64 x.rule.least] 34)) := ba_alloc (Below.refl _ _) _
 go_enter Tryz.func22, Tryz.ntmps22
 go_upto_region 1 with fail
 generalize (w.alloc (.cells #[.string x.m.name, .slice x.mA x.mn x.mc, .slice x.hA x.hn x.hc, .int .i64 x.m.cover, .int .i64 x.m.aggr, .int .i64 x.m.poker, .slice x.bA x.bn x.bc, .slice x.rA x.rn x.rc, .slice x.jA x.jn x.jc, .slice x.dA x.dn x.dc, .int .i64 x.rule.num, .int .i64 x.rule.den, .int .i64 x.rule.pnum, .int .i64 x.rule.pden, .int .i64 x.rule.bnum, .int .i64 x.rule.bden, .int .i64 x.rule.lnum, .int .i64 x.rule.lden, .int .i64 x.rule.least] 34)) = W1 at *
 have HDB := lh hDB
 clear hDB
 go_upto_region 2 with (first
  | ((with_reducible refine at_load 34 1 ?_); refine wpList_load_mid rfl 34 (.tmp 1) rfl _ _ rfl _ _ (HDB.out.via belr).range Tryz.underlying34 rfl (by kernel_rfl) ?_)
  | (go_at_call 21; (with_reducible refine (HCK.out _ belr).mono ?_); rintro e w2 ⟨A2, c2, rfl, hC2, hbw2⟩))
 have hw2 : Below w.heap.size w w2 := ba_via hbw2 hW1
 clear hC2 hbw2 hW1 HDB HCK
 obtain ⟨n, hn⟩ : ∃ n, n = L.length := ⟨_, rfl⟩
 obtain ⟨bb, hbb⟩ : ∃ bb : Bool, bb = decide (L.length = 0) := ⟨_, rfl⟩
 have HB := lh hbb
 have hz : ((n : Int) == 0) = bb := by rw [hbb, <- hn, Bool.eq_iff_iff]; simp
 rw [<- hn]
 clear hbb hn
 go_wp2
 go_ret2
 exact ⟨by rw [<- HB.out]; rfl, hw2⟩
theorem rcheck_err (x : Dt) (w : World)
 (hLV : ∀ W, Below w.heap.size w W -> Calls Tryz.prog 54 #[dtV x] W fun e w' => e = .returned (.bool false) /\ Below W.heap.size W w') :
 Calls Tryz.prog 23 #[dtV x] w fun e w' => e = .returned (.tuple #[.slice none 0 0, .int .i64 1]) /\ Below w.heap.size w w' := by
 have HLV := lh hLV
 clear hLV
 unfold dtV at HLV
 unfold dtV
 have hDB := Blk.new w 34 #[.string x.m.name, .slice x.mA x.mn x.mc, .slice x.hA x.hn x.hc, .int .i64 x.m.cover, .int .i64 x.m.aggr, .int .i64 x.m.poker, .slice x.bA x.bn x.bc, .slice x.rA x.rn x.rc, .slice x.jA x.jn x.jc, .slice x.dA x.dn x.dc, .int .i64 x.rule.num, .int .i64 x.rule.den, .int .i64 x.rule.pnum, .int .i64 x.rule.pden, .int .i64 x.rule.bnum, .int .i64 x.rule.bden, .int .i64 x.rule.lnum, .int .i64 x.rule.lden, .int .i64 x.rule.least]
 have hW1 : Below w.heap.size w (w.alloc (.cells #[.string x.m.name, .slice x.mA x.mn x.mc, .slice x.hA x.hn x.hc, .int .i64 x.m.cover, .int .i64 x.m.aggr, .int .i64 x.m.poker, .slice x.bA x.bn x.bc, .slice x.rA x.rn x.rc, .slice x.jA x.jn x.jc, .slice x.dA x.dn x.dc, .int .i64 x.rule.num, .int .i64 x.rule.den, .int .i64 x.rule.pnum, .int .i64 x.rule.pden, .int .i64 x.rule.bnum, .int .i64 x.rule.bden, .int .i64 x.rule.lnum, .int .i64 x.rule.lden, .int .i64 x.rule.least] 34)) := ba_alloc (Below.refl _ _) _
 go_enter Tryz.func23, Tryz.ntmps23
 go_upto_region 1 with fail
 generalize (w.alloc (.cells #[.string x.m.name, .slice x.mA x.mn x.mc, .slice x.hA x.hn x.hc, .int .i64 x.m.cover, .int .i64 x.m.aggr, .int .i64 x.m.poker, .slice x.bA x.bn x.bc, .slice x.rA x.rn x.rc, .slice x.jA x.jn x.jc, .slice x.dA x.dn x.dc, .int .i64 x.rule.num, .int .i64 x.rule.den, .int .i64 x.rule.pnum, .int .i64 x.rule.pden, .int .i64 x.rule.bnum, .int .i64 x.rule.bden, .int .i64 x.rule.lnum, .int .i64 x.rule.lden, .int .i64 x.rule.least] 34)) = W1 at *
 have HDB := lh hDB
 clear hDB
 go_wp2_with (first
  | ((with_reducible refine at_load 34 1 ?_); refine wpList_load_mid rfl 34 (.tmp 1) rfl _ _ rfl _ _ (HDB.out.via belr).range Tryz.underlying34 rfl (by kernel_rfl) ?_)
  | (go_at_call 54; (with_reducible refine (HLV.out _ belr).mono ?_); rintro e w2 ⟨rfl, hbw2⟩))
 go_ret2
 exact ⟨rfl, bel⟩
set_option maxRecDepth 20000 in
set_option maxHeartbeats 8000000 in
theorem rcheck_yes (x : Dt) (ds : List Dm) (Ls : Nat -> List Sp) (w : World) (hds : ds.length = x.dn) (h20 : x.dn <= 20) (hLs : ∀ k, (Ls k).length <= 400)
 (hdc : ∀ k (dm : Dm), ds[k]? = some dm -> ∀ W, Below w.heap.size w W -> ∃ bD oD, x.dA = some ⟨bD, oD, none⟩ /\ bD < W.heap.size /\ ∀ j v, (dmC dm)[j]? = some v -> W.cell? ⟨bD, oD + k * 8 + j, none⟩ = some v)
 (hLV : ∀ W, Below w.heap.size w W -> Calls Tryz.prog 54 #[dtV x] W fun e w' => e = .returned (.bool true) /\ Below W.heap.size W w')
 (hSP : ∀ k, k < x.dn -> ∀ W, Below w.heap.size w W -> Calls Tryz.prog 15 #[dtV x, .int .i64 k] W (GivesSpn (Ls k) W)) :
 Calls Tryz.prog 23 #[dtV x] w (GivesFn (S.failN ds Ls x.dn) w) := by
 have HLV := lh hLV
 have HSP := lh hSP
 have HDC := lh hdc
 have HLS := lh hLs
 have HDS := lh hds
 clear hLV hSP hdc hLs hds
 unfold dtV at HLV HSP
 unfold dtV
 have hDB := Blk.new w 34 #[.string x.m.name, .slice x.mA x.mn x.mc, .slice x.hA x.hn x.hc, .int .i64 x.m.cover, .int .i64 x.m.aggr, .int .i64 x.m.poker, .slice x.bA x.bn x.bc, .slice x.rA x.rn x.rc, .slice x.jA x.jn x.jc, .slice x.dA x.dn x.dc, .int .i64 x.rule.num, .int .i64 x.rule.den, .int .i64 x.rule.pnum, .int .i64 x.rule.pden, .int .i64 x.rule.bnum, .int .i64 x.rule.bden, .int .i64 x.rule.lnum, .int .i64 x.rule.lden, .int .i64 x.rule.least]
 have hW1 : Below w.heap.size w (w.alloc (.cells #[.string x.m.name, .slice x.mA x.mn x.mc, .slice x.hA x.hn x.hc, .int .i64 x.m.cover, .int .i64 x.m.aggr, .int .i64 x.m.poker, .slice x.bA x.bn x.bc, .slice x.rA x.rn x.rc, .slice x.jA x.jn x.jc, .slice x.dA x.dn x.dc, .int .i64 x.rule.num, .int .i64 x.rule.den, .int .i64 x.rule.pnum, .int .i64 x.rule.pden, .int .i64 x.rule.bnum, .int .i64 x.rule.bden, .int .i64 x.rule.lnum, .int .i64 x.rule.lden, .int .i64 x.rule.least] 34)) := ba_alloc (Below.refl _ _) _
 go_enter Tryz.func23, Tryz.ntmps23
 go_upto_region 1 with fail
 generalize (w.alloc (.cells #[.string x.m.name, .slice x.mA x.mn x.mc, .slice x.hA x.hn x.hc, .int .i64 x.m.cover, .int .i64 x.m.aggr, .int .i64 x.m.poker, .slice x.bA x.bn x.bc, .slice x.rA x.rn x.rc, .slice x.jA x.jn x.jc, .slice x.dA x.dn x.dc, .int .i64 x.rule.num, .int .i64 x.rule.den, .int .i64 x.rule.pnum, .int .i64 x.rule.pden, .int .i64 x.rule.bnum, .int .i64 x.rule.bden, .int .i64 x.rule.lnum, .int .i64 x.rule.lden, .int .i64 x.rule.least] 34)) = W1 at *
 have HDB := lh hDB
 clear hDB
 go_upto_region 3 with (first
  | ((with_reducible refine at_load 34 1 ?_); refine wpList_load_mid rfl 34 (.tmp 1) rfl _ _ rfl _ _ (HDB.out.via belr).range Tryz.underlying34 rfl (by kernel_rfl) ?_)
  | (go_at_call 54; (with_reducible refine (HLV.out _ belr).mono ?_); rintro e w2 ⟨rfl, hbw2⟩))
 have hw2 : Below w.heap.size w w2 := ba_via hbw2 hW1
 have HD2 := lh (HDB.out.via hbw2)
 clear HDB hbw2 hW1 HLV
 go_wp2
 go_loopw [4, 5] (fun v i wr => ∃ q : Nat, q <= x.dn /\ i = .int .i64 q /\ wr.ownsRow w2.heap.size 71 2 v (S.failN ds Ls q).length ((S.failN ds Ls q).flatMap fnC) /\ Below w2.heap.size w2 wr) (fun _ i _ => x.dn - (intOf i).toNat)
 case atStart => exact ⟨0, Nat.zero_le _, rfl, World.ownsRow_nil _ _ _ _, Below.refl _ _⟩
 case round =>
  obtain ⟨q, hq, rfl, hO, hbr⟩ := hrel
  have HO := lh hO
  have hsr := hbr.size
  have hbwr : Below w.heap.size w wr := ba_via hbr hw2
  have hfl := failN_len ds Ls q
  clear hO
  have HDR := lh (HD2.out.via hbr)
  have hDx := HDR.out
  have d9 := hDx.cell 9
  have dl := hDx.lt
  simp only [ga1, ga2, ga3] at d9
  clear hDx
  by_cases hlt : q < x.dn
  ·have hqx : q < ds.length := by rw [HDS.out]; exact hlt
   have hqi : (q : Int) < x.dn := by omega
   have HFN := lh (show S.failN ds Ls (q + 1) = S.failN ds Ls q ++ (match Ls q, ds[q]? with | _ :: _, some d => [d.name] | _, _ => []) from rfl)
   obtain ⟨bD, oD, hdA, hbD, hdm⟩ := HDC.out q ds[q] (List.getElem?_eq_getElem hqx) wr hbwr
   rw [List.getElem?_eq_getElem hqx] at HFN
   generalize ds[q] = dm at *
   have hlq := HLS.out q
   have m0 := hdm 0 _ rfl
   simp only [Nat.add_zero] at m0
   rw [hdA] at HDR d9
   rw [hdA]
   have HSQ := lh (fun (W : World) (hw : Below wr.heap.size wr W) => HSP.out q hlt W (ba_via hw hbwr))
   rw [hdA] at HSQ
   clear hdm
   generalize Ls q = lq at *
   obtain ⟨q1, hq1⟩ : ∃ q1, q1 = q + 1 := ⟨_, rfl⟩
   have e1 : IntKind.i64.wrap ((q : Int) + 1) = (q1 : Int) := by rw [show ((q : Int) + 1) = (q1 : Int) by omega]; exact IntWalk.i64_in _ (by omega)
   have HQ1 := lh hq1
   obtain ⟨fl, hfe⟩ : ∃ fl, fl = (S.failN ds Ls q).length := ⟨_, rfl⟩
   have HO2 := HO.out
   rw [<- hfe] at hfl HO2
   have HFE := lh hfe
   clear hfe HO
   have HO := lh HO2
   clear HO2 hq1
   go_upto_region 10 with (first
    | ((with_reducible refine at_load 34 1 ?_); refine wpList_load_mid rfl 34 (.tmp 1) rfl _ _ rfl _ _ (HDR.out.via belr).range Tryz.underlying34 rfl (by kernel_rfl) ?_)
    | (go_at_call 15; (with_reducible refine (HSQ.out _ belr).mono ?_); rintro e w8 ⟨A8, c8, rfl, hC8, hbw8⟩))
   have h8s := hbw8.size
   have HO8 := lh (own_kept HO.out (fun k hk => hbw8.block k (HO.out.lt k hk).2))
   have HB8 := lh (hbr.trans (hbw8.mono hsr))
   have hN8 := HDR.out.via hbw8
   have n9 := hN8.cell 9
   have nl := hN8.lt
   simp only [ga1, ga2, ga3] at n9
   have m8 := (hbw8.cell (p := ⟨bD, oD + q * 8, none⟩) hbD).trans m0
   have hbD8 : bD < w8.heap.size := by omega
   clear hN8 HSQ hC8 hbw8 hbr HO d9 dl m0 HDR
   cases lq with
   | nil =>
    have HN := lh (show S.failN ds Ls (q + 1) = S.failN ds Ls q by rw [HFN.out]; simp)
    clear HFN
    go_wp2
    go_roundw
    case rel => exact ⟨q1, by have := HQ1.out; omega, rfl, by rw [HQ1.out, HN.out, <- HFE.out]; exact HO8.out, HB8.out⟩
    case measure => have := HQ1.out; simp [intOf]; omega
   | cons t r =>
    have HN := lh (show S.failN ds Ls (q + 1) = S.failN ds Ls q ++ [dm.name] from HFN.out)
    obtain ⟨lz, hlz⟩ : ∃ lz, lz = (t :: r).length := ⟨_, rfl⟩
    have hz1 : 0 < lz := by rw [hlz]; simp
    have hz2 : decide (0 < lz) = true := decide_eq_true hz1
    have hz3 : decide ((0 : Int) < (lz : Int)) = true := decide_eq_true (by omega)
    rw [<- hlz]
    clear HFN hlz hlq
    go_wp2_with (at_builtin; refine wpList_append_cells rfl (.tmp 30) (.tmp 38) _ rfl elemFn w2.heap.size _ fl ((S.failN ds Ls q).flatMap fnC) rfl (own_kept HO8.out (fun k hk => (ba_alloc (Below.refl _ _) _).block k (HO8.out.lt k hk).2)) (some ⟨w8.heap.size, 0, none⟩) 1 1 [.int .i64 1, .string dm.name] _ rfl rfl (Cells.newRow w8 #[.int .i64 1, .string dm.name] 71 (0, 0)) (by simp [Value.oneCell']) (by unfold maxLen; omega) (by omega) (by simp; omega) ?_; intro v2 wE hOE hbE)
    go_roundw
    case rel => exact ⟨q1, by have := HQ1.out; omega, rfl, by rw [HQ1.out, HN.out, List.length_append, <- HFE.out]; simpa using hOE, HB8.out.trans (((ba_alloc (Below.refl _ _) _).mono (by omega)).trans hbE)⟩
    case measure => have := HQ1.out; simp [intOf]; omega
  ·have hqn : q = x.dn := by omega
   have hqi : ¬ ((q : Int) < x.dn) := by omega
   rw [hqn] at HO
   obtain ⟨A9, c9, hu, _, _, hC9⟩ := own_form HO.out (by unfold maxLen; have := failN_len ds Ls x.dn; omega)
   subst hu
   go_wp2
   go_ret2
   exact ⟨A9, c9, rfl, hC9, hbwr⟩
section
variable {x : Dt} {ds : List Dm} {w : World}
theorem good_Passes (h : DtOk w x ds) (hlk : S.look x (S.dems ds) = true) (hC : (S.cOf x).length <= 100) {rs : List Rod} (hrs : RodsOf x (S.nOf x) rs) :
 ∀ W, Below w.heap.size w W -> Calls Tryz.prog 22 #[dtV x] W fun e w' => e = .returned (.tuple #[.bool (decide ((S.failN ds (S.spansD x rs ds) x.dn).length = 0)), .int .i64 0]) /\ Below W.heap.size W w' := fun W hw => by
 have h20 : ds.length <= 20 := by
  have := (look_ok hlk).dems
  unfold S.dems at this
  simp only [Bool.and_eq_true, decide_eq_true_eq] at this
  exact this.1
 have hn := failN_len ds (S.spansD x rs ds) x.dn
 have hd := h.dems.len
 exact passes_any x _ W (by omega) (fun V hV => good_Check h hlk hC hrs V (hw.trans (hV.mono hw.size)))
theorem bad_Check (h : DtOk w x ds) (hlk : S.look x (S.dems ds) = false) : ∀ W, Below w.heap.size w W -> Calls Tryz.prog 21 #[dtV x] W fun e w' => e = .returned (.tuple #[.slice none 0 0, .int .i64 1]) /\ Below W.heap.size W w' := fun W hw => by
 have hLV := sec_lv h
 rw [hlk] at hLV
 exact check_err x W (fun V hV => hLV V (hw.trans (hV.mono hw.size)))
end
section
variable {x : Dt} {ds : List Dm} {w : World}
theorem good_rCheck (h : DtOk w x ds) (hlk : S.look x (S.dems ds) = true) (hC : (S.cOf x).length <= 100) {rs : List Rod} (hrs : RodsOf x (S.nOf x) rs) :
 ∀ W, Below w.heap.size w W -> Calls Tryz.prog 23 #[dtV x] W (GivesFn (S.failN ds (S.spansD x rs ds) x.dn) W) := fun W hw => by
 have h20 : ds.length <= 20 := by
  have := (look_ok hlk).dems
  unfold S.dems at this
  simp only [Bool.and_eq_true, decide_eq_true_eq] at this
  exact this.1
 have hLV := fun V hV => rlook_any x ds w.heap.size V (Below.size hV) (h.at_.at_ (Nat.le_refl _) hV) (h.dems.at_ (Nat.le_refl _) hV)
 rw [hlk] at hLV
 refine rcheck_yes x ds (S.spansD x rs ds) W h.dems.len (by rw [<- h.dems.len]; exact h20) (fun k => ?_) (fun k dm hk V hV => sec_dem h hk V (hw.trans (hV.mono hw.size))) (fun V hV => hLV V (hw.trans (hV.mono hw.size))) (fun k hk V hV => ?_)
 ·unfold S.spansD
  cases hk : ds[k]? with
  | none => exact Nat.zero_le _
  | some dm => exact Nat.le_trans (spansL_len _) (partsD_len h hlk hC hk hrs)
 ·have hkx : k < ds.length := by rw [h.dems.len]; exact hk
  unfold S.spansD
  rw [List.getElem?_eq_getElem hkx]
  exact good_rSpans h hlk hC (List.getElem?_eq_getElem hkx) hrs V (hw.trans (hV.mono hw.size))
theorem bad_rCheck (h : DtOk w x ds) (hlk : S.look x (S.dems ds) = false) : ∀ W, Below w.heap.size w W -> Calls Tryz.prog 23 #[dtV x] W fun e w' => e = .returned (.tuple #[.slice none 0 0, .int .i64 1]) /\ Below W.heap.size W w' := fun W hw => by
 have hLV := fun V hV => rlook_any x ds w.heap.size V (Below.size hV) (h.at_.at_ (Nat.le_refl _) hV) (h.dems.at_ (Nat.le_refl _) hV)
 rw [hlk] at hLV
 exact rcheck_err x W (fun V hV => hLV V (hw.trans (hV.mono hw.size)))
end
theorem passes_err (x : Dt) (w : World)
 (hCK : ∀ W, Below w.heap.size w W -> Calls Tryz.prog 21 #[dtV x] W fun e w' => e = .returned (.tuple #[.slice none 0 0, .int .i64 1]) /\ Below W.heap.size W w') :
 Calls Tryz.prog 22 #[dtV x] w fun e w' => e = .returned (.tuple #[.bool false, .int .i64 1]) /\ Below w.heap.size w w' := by
 have HCK := lh hCK
 clear hCK
 unfold dtV at HCK
 unfold dtV
 have hDB := Blk.new w 34 (dtc x)
 have hW1 : Below w.heap.size w (w.alloc (.cells (dtc x) 34)) := ba_alloc (Below.refl _ _) _
 go_enter Tryz.func22, Tryz.ntmps22
 go_upto_region 1 with fail
 generalize (w.alloc (.cells (dtc x) 34)) = W1 at *
 have HDB := lh hDB
 clear hDB
 go_wp2_with (first
  | ((with_reducible refine at_load 34 1 ?_); refine wpList_load_mid rfl 34 (.tmp 1) rfl _ _ rfl _ _ (HDB.out.via belr).range Tryz.underlying34 rfl (by kernel_rfl) ?_)
  | (go_at_call 21; (with_reducible refine (HCK.out _ belr).mono ?_); rintro e w2 ⟨rfl, hbw2⟩))
 go_ret2
 exact ⟨rfl, bel⟩
theorem checksLaw_big (x : Dt) (w : World)
 (hSM : ∀ W, Below w.heap.size w W -> Calls Tryz.prog 11 #[dtV x] W fun e w' => e = .returned (.bool false) /\ Below W.heap.size W w') :
 Calls Tryz.prog 5 #[dtV x] w fun e w' => e = .returned (.bool true) /\ Below w.heap.size w w' := by
 have HA := lh (fun w => awake27_any w)
 have HSM := lh hSM
 clear hSM
 unfold dtV at HSM
 unfold dtV
 have hDB := Blk.new w 34 (dtc x)
 have hW1 : Below w.heap.size w (w.alloc (.cells (dtc x) 34)) := ba_alloc (Below.refl _ _) _
 go_enter Tryz.func5, Tryz.ntmps5
 go_upto_region 1 with fail
 generalize (w.alloc (.cells (dtc x) 34)) = W1 at *
 have HDB := lh hDB
 clear hDB
 go_wp2_with (first
  | (go_at_call 10; (with_reducible refine (HA.out _).mono ?_); rintro e wa ⟨rfl, hbwa⟩)
  | ((with_reducible refine at_load 34 1 ?_); refine wpList_load_mid rfl 34 (.tmp 1) rfl _ _ rfl _ _ (HDB.out.via belr).range Tryz.underlying34 rfl (by kernel_rfl) ?_)
  | (go_at_call 11; (with_reducible refine (HSM.out _ belr).mono ?_); rintro e wb ⟨rfl, hbwb⟩))
 go_ret
 exact ⟨rfl, bel⟩
set_option maxHeartbeats 8000000 in
theorem checksLaw_no (x : Dt) (w : World)
 (hSM : ∀ W, Below w.heap.size w W -> Calls Tryz.prog 11 #[dtV x] W fun e w' => e = .returned (.bool true) /\ Below W.heap.size W w')
 (hCK : ∀ W, Below w.heap.size w W -> Calls Tryz.prog 21 #[dtV x] W fun e w' => e = .returned (.tuple #[.slice none 0 0, .int .i64 1]) /\ Below W.heap.size W w')
 (hPA : ∀ W, Below w.heap.size w W -> Calls Tryz.prog 22 #[dtV x] W fun e w' => e = .returned (.tuple #[.bool false, .int .i64 1]) /\ Below W.heap.size W w')
 (hRC : ∀ W, Below w.heap.size w W -> Calls Tryz.prog 23 #[dtV x] W fun e w' => e = .returned (.tuple #[.slice none 0 0, .int .i64 1]) /\ Below W.heap.size W w') :
 Calls Tryz.prog 5 #[dtV x] w fun e w' => e = .returned (.bool true) /\ Below w.heap.size w w' := by
 have HA := lh (fun w => awake27_any w)
 have HSM := lh hSM
 have HCK := lh hCK
 have HPA := lh hPA
 have HRC := lh hRC
 have HEQ := lh (fun W => eqFn_yes [] none 0 0 none 0 W.heap.size W (Nat.le_refl _) rfl (by decide) Cells.nil Cells.nil)
 clear hSM hCK hPA hRC
 unfold dtV at HSM HCK HPA HRC
 unfold dtV
 have hDB := Blk.new w 34 (dtc x)
 have hW1 : Below w.heap.size w (w.alloc (.cells (dtc x) 34)) := ba_alloc (Below.refl _ _) _
 go_enter Tryz.func5, Tryz.ntmps5
 go_upto_region 1 with fail
 generalize (w.alloc (.cells (dtc x) 34)) = W1 at *
 have HDB := lh hDB
 clear hDB
 go_wp2_with (first
  | (go_at_call 10; (with_reducible refine (HA.out _).mono ?_); rintro e wa ⟨rfl, hbwa⟩)
  | ((with_reducible refine at_load 34 1 ?_); refine wpList_load_mid rfl 34 (.tmp 1) rfl _ _ rfl _ _ (HDB.out.via belr).range Tryz.underlying34 rfl (by kernel_rfl) ?_)
  | (go_at_call 11; (with_reducible refine (HSM.out _ belr).mono ?_); rintro e wb ⟨rfl, hbwb⟩)
  | (go_at_call 21; (with_reducible refine (HCK.out _ belr).mono ?_); rintro e wc ⟨rfl, hbwc⟩)
  | (go_at_call 22; (with_reducible refine (HPA.out _ belr).mono ?_); rintro e wd ⟨rfl, hbwd⟩)
  | (go_at_call 23; (with_reducible refine (HRC.out _ belr).mono ?_); rintro e we ⟨rfl, hbwe⟩)
  | (go_at_call 24; (with_reducible refine (HEQ.out _).mono ?_); rintro e wf ⟨rfl, hbwf⟩))
 go_ret
 exact ⟨rfl, bel⟩
set_option maxRecDepth 20000 in
set_option maxHeartbeats 8000000 in
theorem checksLaw_yes (x : Dt) (L : List ByteArray) (w : World) (hL : L.length <= 400)
 (hSM : ∀ W, Below w.heap.size w W -> Calls Tryz.prog 11 #[dtV x] W fun e w' => e = .returned (.bool true) /\ Below W.heap.size W w')
 (hCK : ∀ W, Below w.heap.size w W -> Calls Tryz.prog 21 #[dtV x] W (GivesFn L W))
 (hPA : ∀ W, Below w.heap.size w W -> Calls Tryz.prog 22 #[dtV x] W fun e w' => e = .returned (.tuple #[.bool (decide (L.length = 0)), .int .i64 0]) /\ Below W.heap.size W w')
 (hRC : ∀ W, Below w.heap.size w W -> Calls Tryz.prog 23 #[dtV x] W (GivesFn L W)) :
 Calls Tryz.prog 5 #[dtV x] w fun e w' => e = .returned (.bool true) /\ Below w.heap.size w w' := by
 have HA := lh (fun w => awake27_any w)
 have HSM := lh hSM
 have HCK := lh hCK
 have HPA := lh hPA
 have HRC := lh hRC
 clear hSM hCK hPA hRC
 unfold dtV at HSM HCK HPA HRC
 unfold dtV
 obtain ⟨n1, hn1⟩ : ∃ n1, n1 = L.length := ⟨_, rfl⟩
 obtain ⟨bb, hbb⟩ : ∃ bb : Bool, bb = decide (L.length = 0) := ⟨_, rfl⟩
 have hz : ((n1 : Int) == 0) = bb := by rw [hbb, <- hn1, Bool.eq_iff_iff]; simp
 have HN1 := lh hn1
 rw [<- hbb] at HPA
 rw [<- hn1] at hL
 clear hbb hn1
 have hDB := Blk.new w 34 (dtc x)
 have hW1 : Below w.heap.size w (w.alloc (.cells (dtc x) 34)) := ba_alloc (Below.refl _ _) _
 go_enter Tryz.func5, Tryz.ntmps5
 go_upto_region 1 with fail
 generalize (w.alloc (.cells (dtc x) 34)) = W1 at *
 have HDB := lh hDB
 clear hDB
 go_upto_region 8 with (first
  | (go_at_call 10; (with_reducible refine (HA.out _).mono ?_); rintro e wa ⟨rfl, hbwa⟩)
  | ((with_reducible refine at_load 34 1 ?_); refine wpList_load_mid rfl 34 (.tmp 1) rfl _ _ rfl _ _ (HDB.out.via belr).range Tryz.underlying34 rfl (by kernel_rfl) ?_)
  | (go_at_call 11; (with_reducible refine (HSM.out _ belr).mono ?_); rintro e wb ⟨rfl, hbwb⟩)
  | (go_at_call 21; (with_reducible refine (HCK.out _ belr).mono ?_); rintro e wc ⟨A1, c1, rfl, hC1, hbwc⟩; have HC1 := lh hC1; clear hC1)
  | (go_at_call 22; (with_reducible refine (HPA.out _ belr).mono ?_); rintro e wd ⟨rfl, hbwd⟩)
  | (go_at_call 23; (with_reducible refine (HRC.out _ belr).mono ?_); rintro e we ⟨A2, c2, rfl, hC2, hbwe⟩))
 have hce : Below wc.heap.size wc we := ba_via hbwe hbwd
 have hwe : Below w.heap.size w we := ba_via hce (ba_via (ba_via hbwc (ba_via hbwb hbwa)) hW1)
 have heq := eqFn_yes L A1 n1 c1 A2 c2 we.heap.size we (Nat.le_refl _) HN1.out.symm (by omega) ((HC1.out.below hce).mono hce.size) hC2
 have HEQ := lh heq
 rw [<- HN1.out]
 have bbe : (bb == bb) = true := by simp
 clear heq hC2 HC1 hbwa hbwb hbwc hbwd hbwe hce hW1 HDB HA HSM HCK HPA HRC
 cases bb
 all_goals (
  go_wp2_with (go_at_call 24; (with_reducible refine (HEQ.out).mono ?_); rintro e wg ⟨rfl, hbwg⟩)
  go_ret
  exact ⟨rfl, ba_via hbwg hwe⟩)
theorem checks_walk (x : Dt) (ds : List Dm) (w : World) (h : DtOk w x ds) :
 Calls Tryz.prog 5 #[dtV x] w fun e w' => e = .returned (.bool true) /\ Below w.heap.size w w' := by
 have HSM : ∀ W, Below w.heap.size w W -> Calls Tryz.prog 11 #[dtV x] W fun e w' => e = .returned (.bool (S.small25 x ds)) /\ Below W.heap.size W w' := fun W hw =>
  small25_any x ds w.heap.size W hw.size (h.at_.at_ (Nat.le_refl _) hw) (h.dems.at_ (Nat.le_refl _) hw)
 cases hsm : S.small25 x ds
 ·rw [hsm] at HSM
  exact checksLaw_big x w HSM
 ·rw [hsm] at HSM
  cases hlk : S.look x (S.dems ds)
  ·exact checksLaw_no x w HSM (bad_Check h hlk) (fun W hw => passes_err x W (fun V hV => bad_Check h hlk V (hw.trans (hV.mono hw.size)))) (bad_rCheck h hlk)
  ·have g := look_ok hlk
   obtain ⟨rs, hrs⟩ := rods_ex g.laid
   have hC := few_chains hsm g.laid
   have hn := failN_len ds (S.spansD x rs ds) x.dn
   have h20 : ds.length <= 20 := by
    have := g.dems
    unfold S.dems at this
    simp only [Bool.and_eq_true, decide_eq_true_eq] at this
    exact this.1
   have hd := h.dems.len
   exact checksLaw_yes x _ w (by omega) HSM (good_Check h hlk hC hrs) (good_Passes h hlk hC hrs) (good_rCheck h hlk hC hrs)
end Go.Proofs.YtmfpbafpnoomeaaGreat
