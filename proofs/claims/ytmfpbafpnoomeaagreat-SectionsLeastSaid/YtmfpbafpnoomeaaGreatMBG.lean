/- Lemmas. -/
import Derived.Test.YtmfpbafpnoomeaaGreatMAW
import Derived.Test.YtmfpbafpnoomeaaGreatMAT
set_option linter.unusedVariables false
set_option linter.unusedSimpArgs false
namespace Go.Proofs.YtmfpbafpnoomeaaGreat
open Go.RowKit
set_option maxRecDepth 20000 in
set_option maxHeartbeats 2000000 in
theorem leastLaw_zero (x : Dt) (u p : Int) (w : World) (hdn : x.dn = 0) :
 Calls Tryz.prog 8 #[dtV x, .int .u8 u, .int .i32 p] w fun e w' => e = .returned (.bool true) /\ Below w.heap.size w w' := by
 have bz : ((x.dn : Int) == 0) = true := by rw [hdn]; rfl
 clear hdn
 have HA := lh (fun w => awake27_any w)
 unfold dtV
 have hDB := Blk.new w 34 (dtc x)
 have hW1 : Below w.heap.size w (w.alloc (.cells (dtc x) 34)) := ba_alloc (Below.refl _ _) _
 go_enter Tryz.func8, Tryz.ntmps8
 go_upto_region 1 with fail
 generalize (w.alloc (.cells (dtc x) 34)) = W1 at *
 have HDB := lh hDB
 clear hDB
 go_upto_region 3 with (go_at_call 10; (with_reducible refine (HA.out _).mono ?_); rintro e wa ⟨rfl, hbwa⟩)
 have hwa : Below w.heap.size w wa := ba_via hbwa hW1
 have HDA := lh (HDB.out.via hbwa)
 have hDx := HDA.out
 have d9 := hDx.cell 9
 have dl := hDx.lt
 simp only [ga1, ga2, ga3] at d9
 clear hDx HDB hbwa hW1 HA
 refine wp_region_mix 0 [5, 6, 5] (by kernel_rfl) (by kernel_rfl) (of_decide_eq_true (by kernel_rfl)) ?_
 try simp only [wpSegs, gt1, gt2, gt3, gt4, List.take_nil, List.drop_nil]
 repeat (go_big_quiet_step (fail))
 refine wpQuiet_nil ?_
 show wpList _ _ _ _ _ _
 go_wp2_with (fail)
 refine seg_next (grow_to belr) ?_
 try simp only [wpSegs, gt1, gt2, gt3, gt4, List.take_nil, List.drop_nil]
 repeat (go_big_quiet_step (fail))
 refine wpQuiet_nil ?_
 show wpList _ _ _ _ _ _
 go_wp2_with (fail)
 refine seg_next (grow_to belr) ?_
 try simp only [wpSegs, gt1, gt2, gt3, gt4, List.take_nil, List.drop_nil]
 repeat (go_big_quiet_step (fail))
 refine wpQuiet_nil ?_
 show wpList _ _ _ _ _ _
 go_wp2_with (fail)
 refine seg_next (grow_to belr) ?_
 try simp only [wpSegs, gt1, gt2, gt3, gt4, List.take_nil, List.drop_nil]
 repeat (go_big_quiet_step (fail))
 refine wpQuiet_nil ?_
 show wpList _ _ _ _ _ _
 go_wp2
 go_ret
 exact ⟨rfl, ba_via belr hwa⟩
set_option maxRecDepth 20000 in
set_option maxHeartbeats 4000000 in
theorem leastLaw_no (x : Dt) (u : Nat) ( p : Int) (w : World) (hu : u <= 255) (hdn : 0 < x.dn) (hmx : x.dn <= 9223372036854775807)
 (hRD : ∀ W, Below w.heap.size w W -> Calls Tryz.prog 25 #[dtV x, .int .i64 (u % x.dn : Nat)] W fun e w' => e = .returned (.bool false) /\ Below W.heap.size W w') :
 Calls Tryz.prog 8 #[dtV x, .int .u8 u, .int .i32 p] w fun e w' => e = .returned (.bool true) /\ Below w.heap.size w w' := by
 have bz : ((x.dn : Int) == 0) = false := by simp; omega
 have bn : (x.dn : Int) ≠ 0 := by omega
 have e1 : IntKind.i64.wrap (u : Int) = (u : Int) := IntWalk.i64_in _ (by omega)
 have e2 : (u : Int).tmod (x.dn : Int) = ((u % x.dn : Nat) : Int) := by rw [Int.tmod_eq_emod_of_nonneg (by omega)]; exact (Int.natCast_emod u x.dn).symm
 have hkd : u % x.dn < x.dn := Nat.mod_lt _ (by omega)
 generalize u % x.dn = k at *
 have e3 : IntKind.i64.wrap (k : Int) = (k : Int) := IntWalk.i64_in _ (by omega)
 have HA := lh (fun w => awake27_any w)
 have HRD := lh hRD
 clear hRD
 unfold dtV at HRD
 unfold dtV
 have hDB := Blk.new w 34 (dtc x)
 have hW1 : Below w.heap.size w (w.alloc (.cells (dtc x) 34)) := ba_alloc (Below.refl _ _) _
 go_enter Tryz.func8, Tryz.ntmps8
 go_upto_region 1 with fail
 generalize (w.alloc (.cells (dtc x) 34)) = W1 at *
 have HDB := lh hDB
 clear hDB
 go_upto_region 3 with (go_at_call 10; (with_reducible refine (HA.out _).mono ?_); rintro e wa ⟨rfl, hbwa⟩)
 have hwa : Below w.heap.size w wa := ba_via hbwa hW1
 have HDA := lh (HDB.out.via hbwa)
 have hDx := HDA.out
 have d9 := hDx.cell 9
 have dl := hDx.lt
 simp only [ga1, ga2, ga3] at d9
 clear hDx HDB hbwa hW1 HA
 refine wp_region_mix 0 [5, 6, 5] (by kernel_rfl) (by kernel_rfl) (of_decide_eq_true (by kernel_rfl)) ?_
 try simp only [wpSegs, gt1, gt2, gt3, gt4, List.take_nil, List.drop_nil]
 repeat (go_big_quiet_step (fail))
 refine wpQuiet_nil ?_
 show wpList _ _ _ _ _ _
 go_wp2_with ((refine wpList_load_gdF (by rfl) 34 (.tmp 3) rfl _ _ rfl _ _ (HDA.out.via belr).range Tryz.underlying34 rfl (by kernel_rfl) ?_))
 refine seg_next (grow_to belr) ?_
 try simp only [wpSegs, gt1, gt2, gt3, gt4, List.take_nil, List.drop_nil]
 repeat (go_big_quiet_step (fail))
 refine wpQuiet_nil ?_
 show wpList _ _ _ _ _ _
 go_wp2_with ((go_at_call 25; (with_reducible refine (HRD.out _ (ba_via belr hwa)).mono ?_); rintro e wr ⟨rfl, hbwr⟩))
 refine seg_next (grow_to belr) ?_
 try simp only [wpSegs, gt1, gt2, gt3, gt4, List.take_nil, List.drop_nil]
 repeat (go_big_quiet_step (fail))
 refine wpQuiet_nil ?_
 show wpList _ _ _ _ _ _
 go_wp2_with (fail)
 refine seg_next (grow_to belr) ?_
 try simp only [wpSegs, gt1, gt2, gt3, gt4, List.take_nil, List.drop_nil]
 repeat (go_big_quiet_step (fail))
 refine wpQuiet_nil ?_
 show wpList _ _ _ _ _ _
 go_wp2
 go_ret
 exact ⟨rfl, ba_via belr hwa⟩
set_option maxRecDepth 20000 in
set_option maxHeartbeats 4000000 in
theorem leastLaw_off (x : Dt) (u : Nat) ( p : Int) (w : World) (hu : u <= 255) (hdn : 0 < x.dn) (hmx : x.dn <= 9223372036854775807) (hp : -2147483648 <= p /\ p <= 2147483647) (hpp : S.place p = false)
 (hRD : ∀ W, Below w.heap.size w W -> Calls Tryz.prog 25 #[dtV x, .int .i64 (u % x.dn : Nat)] W fun e w' => e = .returned (.bool true) /\ Below W.heap.size W w') :
 Calls Tryz.prog 8 #[dtV x, .int .u8 u, .int .i32 p] w fun e w' => e = .returned (.bool true) /\ Below w.heap.size w w' := by
 have bz : ((x.dn : Int) == 0) = false := by simp; omega
 have bn : (x.dn : Int) ≠ 0 := by omega
 have e1 : IntKind.i64.wrap (u : Int) = (u : Int) := IntWalk.i64_in _ (by omega)
 have e2 : (u : Int).tmod (x.dn : Int) = ((u % x.dn : Nat) : Int) := by rw [Int.tmod_eq_emod_of_nonneg (by omega)]; exact (Int.natCast_emod u x.dn).symm
 have hkd : u % x.dn < x.dn := Nat.mod_lt _ (by omega)
 generalize u % x.dn = k at *
 have e3 : IntKind.i64.wrap (k : Int) = (k : Int) := IntWalk.i64_in _ (by omega)
 have e4 : IntKind.i64.wrap p = p := IntWalk.i64_in _ (by omega)
 have HPL := lh (fun W => hpp ▸ rplace10_any p W)
 have HA := lh (fun w => awake27_any w)
 have HRD := lh hRD
 clear hRD
 unfold dtV at HRD
 unfold dtV
 have hDB := Blk.new w 34 (dtc x)
 have hW1 : Below w.heap.size w (w.alloc (.cells (dtc x) 34)) := ba_alloc (Below.refl _ _) _
 go_enter Tryz.func8, Tryz.ntmps8
 go_upto_region 1 with fail
 generalize (w.alloc (.cells (dtc x) 34)) = W1 at *
 have HDB := lh hDB
 clear hDB
 go_upto_region 3 with (go_at_call 10; (with_reducible refine (HA.out _).mono ?_); rintro e wa ⟨rfl, hbwa⟩)
 have hwa : Below w.heap.size w wa := ba_via hbwa hW1
 have HDA := lh (HDB.out.via hbwa)
 have hDx := HDA.out
 have d9 := hDx.cell 9
 have dl := hDx.lt
 simp only [ga1, ga2, ga3] at d9
 clear hDx HDB hbwa hW1 HA
 refine wp_region_mix 0 [5, 6, 5] (by kernel_rfl) (by kernel_rfl) (of_decide_eq_true (by kernel_rfl)) ?_
 try simp only [wpSegs, gt1, gt2, gt3, gt4, List.take_nil, List.drop_nil]
 repeat (go_big_quiet_step (fail))
 refine wpQuiet_nil ?_
 show wpList _ _ _ _ _ _
 go_wp2_with ((refine wpList_load_gdF (by rfl) 34 (.tmp 3) rfl _ _ rfl _ _ (HDA.out.via belr).range Tryz.underlying34 rfl (by kernel_rfl) ?_))
 refine seg_next (grow_to belr) ?_
 try simp only [wpSegs, gt1, gt2, gt3, gt4, List.take_nil, List.drop_nil]
 repeat (go_big_quiet_step (fail))
 refine wpQuiet_nil ?_
 show wpList _ _ _ _ _ _
 go_wp2_with ((go_at_call 25; (with_reducible refine (HRD.out _ (ba_via belr hwa)).mono ?_); rintro e wr ⟨rfl, hbwr⟩))
 refine seg_next (grow_to belr) ?_
 try simp only [wpSegs, gt1, gt2, gt3, gt4, List.take_nil, List.drop_nil]
 repeat (go_big_quiet_step (fail))
 refine wpQuiet_nil ?_
 show wpList _ _ _ _ _ _
 go_wp2_with ((go_at_call 26; (with_reducible refine (HPL.out _).mono ?_); rintro e w' ⟨rfl, rfl⟩))
 refine seg_next (grow_to belr) ?_
 try simp only [wpSegs, gt1, gt2, gt3, gt4, List.take_nil, List.drop_nil]
 repeat (go_big_quiet_step (fail))
 refine wpQuiet_nil ?_
 show wpList _ _ _ _ _ _
 go_wp2
 go_ret
 exact ⟨rfl, ba_via belr hwa⟩
set_option maxHeartbeats 4000000 in
theorem least1_any (x : Dt) (k g gd : Nat) (p n m : Int) (dm : Dm) (w : World) (hk : k < x.dn) (hb : 0 <= n /\ n <= 1099511627776 /\ 0 <= m /\ m <= 1099511627776)
 (hD : Blk w g 34 (dtc x)) (hd : Blk w gd 3 #[.int .i64 k])
 (hdc : ∀ W, Below w.heap.size w W -> ∃ bD oD, x.dA = some ⟨bD, oD, none⟩ /\ bD < W.heap.size /\ ∀ j v, (dmC dm)[j]? = some v -> W.cell? ⟨bD, oD + k * 8 + j, none⟩ = some v)
 (hSA : ∀ W, Below w.heap.size w W -> Calls Tryz.prog 28 #[dtV x, .int .i64 k, .int .i64 p] W fun e w' => e = .returned (.tuple #[.int .i64 n, .int .i64 0]) /\ Below W.heap.size W w')
 (hDA : ∀ W, Below w.heap.size w W -> Calls Tryz.prog 29 #[dmV dm, .int .i64 p] W fun e w' => e = .returned (.tuple #[.int .i64 m, .int .i64 0]) /\ Below W.heap.size W w') :
 Calls Tryz.prog 34 #[.int .i64 p, .pointer (some ⟨g, 0, none⟩), .pointer (some ⟨gd, 0, none⟩)] w fun e w' => e = .returned (.tuple #[.int .i64 (n - m), .int .i64 m, .bool true]) /\ Below w.heap.size w w' := by
 have ev : IntKind.i64.wrap (n - m) = n - m := IntWalk.i64_in _ (by omega)
 have HSA := lh hSA
 have HDA := lh hDA
 have HDC := lh hdc
 have HD := lh hD
 have HK := lh hd
 have k0 := hd.cell 0
 have kl := hd.lt
 simp only [ga1, ga2, ga3] at k0
 have hki : (k : Int) < x.dn := by omega
 clear hSA hDA hdc hD hd
 unfold dtV at HSA
 unfold dmV at HDA
 go_enter Tryz.func34, Tryz.ntmps34
 go_upto_region 2 with (first
  | ((with_reducible refine at_load 34 1 ?_); refine wpList_load_mid rfl 34 (.tmp 1) rfl _ _ rfl _ _ (HD.out.via belr).range Tryz.underlying34 rfl (by kernel_rfl) ?_)
  | (go_at_call 28; (with_reducible refine (HSA.out _ belr).mono ?_); rintro e w1 ⟨rfl, hbw1⟩))
 obtain ⟨bD, oD, hdA, hbD, hdm⟩ := HDC.out w1 hbw1
 have m0 := hdm 0 _ rfl
 have m1 := hdm 1 _ rfl
 have m2 := hdm 2 _ rfl
 have m3 := hdm 3 _ rfl
 have m4 := hdm 4 _ rfl
 have m5 := hdm 5 _ rfl
 have m6 := hdm 6 _ rfl
 have m7 := hdm 7 _ rfl
 simp only [Nat.add_zero] at m0
 have hDx := HD.out.via hbw1
 have d9 := hDx.cell 9
 have dl := hDx.lt
 simp only [ga1, ga2, ga3] at d9
 rw [hdA] at d9
 have hK1 := HK.out.via hbw1
 have kk0 := hK1.cell 0
 have kl1 := hK1.lt
 simp only [ga1, ga2, ga3] at kk0
 clear hdm hDx HD HK HDC hdA hK1 HSA k0
 go_wp2_with (go_at_call 29; (with_reducible refine (HDA.out _ (ba_via belr hbw1)).mono ?_); rintro e w2 ⟨rfl, hbw2⟩)
 go_ret3
 exact ⟨rfl, ba_via hbw2 hbw1⟩
set_option maxRecDepth 20000 in
set_option maxHeartbeats 8000000 in
theorem leastLaw_yes (x : Dt) (u : Nat) (p a b e n f sp mp mb : Int) (w : World) (hu : u <= 255) (hdn : 0 < x.dn) (hmx : x.dn <= 9223372036854775807) (hp : -2147483648 <= p /\ p <= 2147483647) (hpp : S.place p = true)
 (hcs : (e = 12 /\ mp = 0 /\ f = 12) ∨ (e = 0 /\ 0 < mb /\ (mp = 0 ∨ a < sp ∨ (sp = a /\ b <= p)) /\ ((a < 0 /\ f = 0) ∨ (¬ a < 0 /\ f = 12))))
 (hRD : ∀ W, Below w.heap.size w W -> Calls Tryz.prog 25 #[dtV x, .int .i64 (u % x.dn : Nat)] W fun e w' => e = .returned (.bool true) /\ Below W.heap.size W w')
 (hSP : ∀ W, Below w.heap.size w W -> Calls Tryz.prog 17 #[dtV x, .int .i64 (u % x.dn : Nat)] W fun e' w' => e' = .returned (.tuple #[.int .i64 a, .int .i64 b, .int .i64 e]) /\ Below W.heap.size W w')
 (hFA : ∀ W, Below w.heap.size w W -> Calls Tryz.prog 12 #[dtV x, .int .i64 (u % x.dn : Nat)] W fun e' w' => e' = .returned (.tuple #[.int .i64 n, .int .i64 f]) /\ Below W.heap.size W w')
 (hCP : ∀ (W : World) (g gd : Nat), Below w.heap.size w W -> Blk W g 34 (dtc x) -> Blk W gd 3 #[.int .i64 (u % x.dn : Nat)] -> Calls Tryz.prog 34 #[.int .i64 p, .pointer (some ⟨g, 0, none⟩), .pointer (some ⟨gd, 0, none⟩)] W fun e w' => e = .returned (.tuple #[.int .i64 sp, .int .i64 mp, .bool true]) /\ Below W.heap.size W w')
 (hCN : e = 0 -> ∀ (W : World) (g gd : Nat), Below w.heap.size w W -> Blk W g 34 (dtc x) -> Blk W gd 3 #[.int .i64 (u % x.dn : Nat)] -> Calls Tryz.prog 34 #[.int .i64 b, .pointer (some ⟨g, 0, none⟩), .pointer (some ⟨gd, 0, none⟩)] W fun e w' => e = .returned (.tuple #[.int .i64 a, .int .i64 mb, .bool true]) /\ Below W.heap.size W w') :
 Calls Tryz.prog 8 #[dtV x, .int .u8 u, .int .i32 p] w fun e w' => e = .returned (.bool true) /\ Below w.heap.size w w' := by
 have bz : ((x.dn : Int) == 0) = false := by simp; omega
 have bn : (x.dn : Int) ≠ 0 := by omega
 have e1 : IntKind.i64.wrap (u : Int) = (u : Int) := IntWalk.i64_in _ (by omega)
 have e2 : (u : Int).tmod (x.dn : Int) = ((u % x.dn : Nat) : Int) := by rw [Int.tmod_eq_emod_of_nonneg (by omega)]; exact (Int.natCast_emod u x.dn).symm
 have hkd : u % x.dn < x.dn := Nat.mod_lt _ (by omega)
 generalize u % x.dn = k at *
 have e3 : IntKind.i64.wrap (k : Int) = (k : Int) := IntWalk.i64_in _ (by omega)
 have e4 : IntKind.i64.wrap p = p := IntWalk.i64_in _ (by omega)
 have HPL := lh (fun W => hpp ▸ rplace10_any p W)
 have HA := lh (fun w => awake27_any w)
 have HRD := lh hRD
 have HFA := lh hFA
 have HSP := lh hSP
 have HCP := lh hCP
 have HCN := lh hCN
 have HCS := lh hcs
 clear hRD hFA hSP hCP hCN hcs
 unfold dtV at HRD HFA HSP
 unfold dtV
 have hDB := Blk.new w 34 (dtc x)
 have hW1 : Below w.heap.size w (w.alloc (.cells (dtc x) 34)) := ba_alloc (Below.refl _ _) _
 go_enter Tryz.func8, Tryz.ntmps8
 go_upto_region 1 with fail
 generalize (w.alloc (.cells (dtc x) 34)) = W1 at *
 have HDB := lh hDB
 clear hDB
 go_upto_region 3 with (go_at_call 10; (with_reducible refine (HA.out _).mono ?_); rintro e wa ⟨rfl, hbwa⟩)
 have hwa : Below w.heap.size w wa := ba_via hbwa hW1
 have HDA := lh (HDB.out.via hbwa)
 have hDx := HDA.out
 have d9 := hDx.cell 9
 have dl := hDx.lt
 simp only [ga1, ga2, ga3] at d9
 clear hDx HDB hbwa hW1 HA
 refine wp_region_mix 0 [5, 6, 5] (by kernel_rfl) (by kernel_rfl) (of_decide_eq_true (by kernel_rfl)) ?_
 try simp only [wpSegs, gt1, gt2, gt3, gt4, List.take_nil, List.drop_nil]
 repeat (go_big_quiet_step (fail))
 refine wpQuiet_nil ?_
 show wpList _ _ _ _ _ _
 go_wp2_with ((refine wpList_load_gdF (by rfl) 34 (.tmp 3) rfl _ _ rfl _ _ (HDA.out.via belr).range Tryz.underlying34 rfl (by kernel_rfl) ?_))
 refine seg_next (grow_to belr) ?_
 try simp only [wpSegs, gt1, gt2, gt3, gt4, List.take_nil, List.drop_nil]
 repeat (go_big_quiet_step (fail))
 refine wpQuiet_nil ?_
 show wpList _ _ _ _ _ _
 go_wp2_with ((go_at_call 25; (with_reducible refine (HRD.out _ (ba_via belr hwa)).mono ?_); rintro e wr ⟨rfl, hbwr⟩))
 refine seg_next (grow_to belr) ?_
 try simp only [wpSegs, gt1, gt2, gt3, gt4, List.take_nil, List.drop_nil]
 repeat (go_big_quiet_step (fail))
 refine wpQuiet_nil ?_
 show wpList _ _ _ _ _ _
 go_wp2_with ((go_at_call 26; (with_reducible refine (HPL.out _).mono ?_); rintro e w' ⟨rfl, rfl⟩))
 refine seg_next (grow_to belr) ?_
 try simp only [wpSegs, gt1, gt2, gt3, gt4, List.take_nil, List.drop_nil]
 repeat (go_big_quiet_step (fail))
 refine wpQuiet_nil ?_
 show wpList _ _ _ _ _ _
 have har : Below wa.heap.size wa wr := belr
 have hwr : Below w.heap.size w wr := ba_via har hwa
 have HDR := lh (HDA.out.via har)
 have hDx := HDR.out
 have d9 := hDx.cell 9
 have dl := hDx.lt
 simp only [ga1, ga2, ga3] at d9
 clear hDx HDA HRD hwa har hbwr
 go_upto_region 6 with fail
 have hKD := Blk.new wr 3 #[.int .i64 k]
 have h5 : Below wr.heap.size wr (wr.alloc (.cells #[.int .i64 k] 3)) := ba_alloc (Below.refl _ _) _
 have hw5 : Below w.heap.size w (wr.alloc (.cells #[.int .i64 k] 3)) := ba_via h5 hwr
 have HD5 := lh (HDR.out.via h5)
 generalize (wr.alloc (.cells #[.int .i64 k] 3)) = W5 at *
 have k0 := hKD.cell 0
 have kl := hKD.lt
 simp only [ga1, ga2, ga3] at k0
 have HK5 := lh hKD
 generalize wr.heap.size = gk at *
 clear h5 hKD HDR d9 dl hwr
 go_upto_region 8 with (first
  | ((with_reducible refine at_load 34 3 ?_); refine wpList_load_mid rfl 34 (.tmp 3) rfl _ _ rfl _ _ (HD5.out.via belr).range Tryz.underlying34 rfl (by kernel_rfl) ?_)
  | (go_at_call 17; (with_reducible refine (HSP.out _ (ba_via belr hw5)).mono ?_); rintro e w6 ⟨rfl, hbw6⟩))
 have hw6 : Below w.heap.size w w6 := ba_via hbw6 hw5
 have HD6 := lh (HD5.out.via hbw6)
 have HK6 := lh (HK5.out.via hbw6)
 have k0 := HK6.out.cell 0
 have kl := HK6.out.lt
 simp only [ga1, ga2, ga3] at k0
 clear HD5 HK5 hbw6 hw5 HSP
 go_upto_region 9 with (first
  | ((with_reducible refine at_load 34 3 ?_); refine wpList_load_mid rfl 34 (.tmp 3) rfl _ _ rfl _ _ (HD6.out.via belr).range Tryz.underlying34 rfl (by kernel_rfl) ?_)
  | (go_at_call 12; (with_reducible refine (HFA.out _ (ba_via belr hw6)).mono ?_); rintro e w7 ⟨rfl, hbw7⟩))
 have hw7 : Below w.heap.size w w7 := ba_via hbw7 hw6
 have HD7 := lh (HD6.out.via hbw7)
 have HK7 := lh (HK6.out.via hbw7)
 clear HD6 HK6 k0 kl hbw7 hw6 HFA
 go_upto_region 10 with (go_at_call 34; (with_reducible refine (HCP.out _ _ _ hw7 HD7.out HK7.out).mono ?_); rintro e w8 ⟨rfl, hbw8⟩)
 have hw8 : Below w.heap.size w w8 := ba_via hbw8 hw7
 have HD8 := lh (HD7.out.via hbw8)
 have HK8 := lh (HK7.out.via hbw8)
 clear HD7 HK7 hbw8 hw7 HCP
 rcases HCS.out with ⟨rfl, rfl, rfl⟩ | ⟨rfl, h2, h3, h4⟩
 ·clear HCS HCN HD8 HK8
  go_wp2
  go_ret
  exact ⟨rfl, hw8⟩
 ·have HCN2 := lh (HCN.out rfl)
  have b2 : decide (0 < mb) = true := decide_eq_true h2
  have aa : (a == a) = true := by simp
  have ha : (decide (a < 0) = true /\ f = 0) ∨ (decide (a < 0) = false /\ f = 12) := by
   rcases h4 with ⟨h, h'⟩ | ⟨h, h'⟩
   ·exact .inl ⟨decide_eq_true h, h'⟩
   ·exact .inr ⟨decide_eq_false (by omega), h'⟩
  have hm : mp = 0 ∨ ((mp == 0) = false /\ decide (a < sp) = true) ∨ ((mp == 0) = false /\ decide (a < sp) = false /\ (sp == a) = true /\ decide (b <= p) = true) := by
   by_cases h : mp = 0
   ·exact .inl h
   ·by_cases h' : a < sp
    ·exact .inr (.inl ⟨by simp [h], decide_eq_true h'⟩)
    ·rcases h3 with h5 | h5 | ⟨h5, h6⟩
     ·exact absurd h5 h
     ·exact absurd h5 h'
     ·exact .inr (.inr ⟨by simp [h], decide_eq_false h', by simp [h5], decide_eq_true h6⟩)
  clear HCS HCN h2 h3 h4
  rcases hm with rfl | ⟨m1, m2⟩ | ⟨m1, m2, m3, m4⟩
  all_goals (
   rcases ha with ⟨a1, rfl⟩ | ⟨a1, rfl⟩
   all_goals (
    go_wp2_with (go_at_call 34; (with_reducible refine (HCN2.out _ _ _ hw8 HD8.out HK8.out).mono ?_); rintro e w9 ⟨rfl, hbw9⟩)
    go_ret
    exact ⟨by simp, ba_via hbw9 hw8⟩))
theorem least_walk (x : Dt) (ds : List Dm) (u : Nat) (p : Int) (w : World) (h : DtOk w x ds) (hu : u <= 255) (hp : -2147483648 <= p /\ p <= 2147483647) :
 Calls Tryz.prog 8 #[dtV x, .int .u8 u, .int .i32 p] w fun e w' => e = .returned (.bool true) /\ Below w.heap.size w w' := by
 have hmx := h.dems.max
 have hdl := h.dems.len
 by_cases hdn : x.dn = 0
 ·exact leastLaw_zero x u p w hdn
 ·have hRD := any_ready h (u % x.dn : Nat)
  cases hrd : (S.small25 x ds && (S.given27 x ds (u % x.dn : Nat) == 0))
  ·rw [hrd] at hRD
   exact leastLaw_no x u p w hu (by omega) hmx hRD
  ·rw [hrd] at hRD
   simp only [Bool.and_eq_true, beq_iff_eq] at hrd
   obtain ⟨hsm, hg⟩ := hrd
   cases hpp : S.place p
   ·exact leastLaw_off x u p w hu (by omega) hmx hp hpp hRD
   ·obtain ⟨hlk, k, dm, hke, hk⟩ := given27_zero hg
    have hku : k = u % x.dn := by omega
    subst hku
    have g := look_ok hlk
    obtain ⟨rs, hrs⟩ := rods_ex g.laid
    have hC := few_chains hsm g.laid
    have hsv := sup_valid hlk hC hrs dm.zone
    have hwv := (dem_steps hlk hk).1
    have hkx : u % x.dn < x.dn := Nat.mod_lt _ (by omega)
    have hcl : ∀ q, -1048576 <= q /\ q <= 1048576 -> ∀ (W : World) (g gd : Nat), Below w.heap.size w W -> Blk W g 34 (dtc x) -> Blk W gd 3 #[.int .i64 (u % x.dn : Nat)] -> Calls Tryz.prog 34 #[.int .i64 q, .pointer (some ⟨g, 0, none⟩), .pointer (some ⟨gd, 0, none⟩)] W fun e w' => e = .returned (.tuple #[.int .i64 (S.valueOf q (S.supplyOf x rs (S.cOf x) dm.zone) - S.valueOf q dm.st), .int .i64 (S.valueOf q dm.st), .bool true]) /\ Below W.heap.size W w' := fun q hq W g gd hw hD hd => by
     have hAT := good_At h hlk hk hq hrs
     rw [sup_at hq.1 hlk hrs] at hAT
     have b1 := valueOf_bd hsv q
     have b2 := valueOf_bd hwv q
     exact least1_any x (u % x.dn) g gd q _ _ dm W hkx ⟨b1.1, b1.2, b2.1, b2.2⟩ hD hd (fun V hV => sec_dem h hk V (hw.trans (hV.mono hw.size))) (fun V hV => hAT V (hw.trans (hV.mono hw.size))) (fun V hV => good_demAt h hlk hk q V (hw.trans (hV.mono hw.size)))
    have hpq : -1048576 <= p /\ p <= 1048576 := by unfold S.place at hpp; simpa using hpp
    have hFA := good_Fails h hlk hC hk hrs
    have hSP := good_Spare h hlk hC hk hrs
    have hlaw := spare_law hsv hwv
    rw [show S.partsOf (S.supplyOf x rs (S.cOf x) dm.zone) dm.st = S.partsD x rs dm from rfl] at hlaw
    cases hS : S.spareL (S.partsD x rs dm) with
    | none =>
     rw [hS] at hlaw
     obtain ⟨l1, l2⟩ := hlaw
     have e1 : S.spareOf (S.partsD x rs dm) = (0, 0, 12) := by unfold S.spareOf; rw [hS]
     rw [e1] at hSP
     rw [l2] at hFA
     exact leastLaw_yes x u p 0 0 12 0 12 _ _ 0 w hu (by omega) hmx hp hpp (.inl ⟨rfl, l1 p hpq.2, rfl⟩) hRD hSP hFA (hcl p hpq) (fun he => absurd he (by decide))
    | some q =>
     rw [hS] at hlaw
     obtain ⟨l1, l2, l3, l4, l5, l6⟩ := hlaw
     have e1 : S.spareOf (S.partsD x rs dm) = (q.spare, q.lo, 0) := by unfold S.spareOf; rw [hS]; rfl
     rw [e1] at hSP
     have hcb := hcl q.lo ⟨l3, l4⟩
     rw [l2] at hcb
     have hl3 : S.valueOf p dm.st = 0 ∨ q.spare < S.valueOf p (S.supplyOf x rs (S.cOf x) dm.zone) - S.valueOf p dm.st ∨ (S.valueOf p (S.supplyOf x rs (S.cOf x) dm.zone) - S.valueOf p dm.st = q.spare /\ q.lo <= p) := by
      rcases l5 p hpq.2 with h | h | ⟨h, h'⟩
      ·exact .inl h
      ·exact .inr (.inl h)
      ·exact .inr (.inr ⟨h.symm, h'⟩)
     cases hL : S.spansL (S.partsD x rs dm) with
     | nil =>
      rw [hL] at hFA l6
      exact leastLaw_yes x u p q.spare q.lo 0 0 12 _ _ _ w hu (by omega) hmx hp hpp (.inr ⟨rfl, l1, hl3, .inr ⟨fun hn => (l6.1 hn) rfl, rfl⟩⟩) hRD hSP hFA (hcl p hpq) (fun _ => hcb)
     | cons t r =>
      rw [hL] at hFA l6
      exact leastLaw_yes x u p q.spare q.lo 0 t.lo 0 _ _ _ w hu (by omega) hmx hp hpp (.inr ⟨rfl, l1, hl3, .inl ⟨l6.2 (by simp), rfl⟩⟩) hRD hSP hFA (hcl p hpq) (fun _ => hcb)
end Go.Proofs.YtmfpbafpnoomeaaGreat
