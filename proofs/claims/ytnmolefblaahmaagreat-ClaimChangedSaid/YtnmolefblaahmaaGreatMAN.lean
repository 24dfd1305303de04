/- The law ClaimCodes, walked. (printed by tools/gen_lawcods.py) -/
import Derived.Test.YtnmolefblaahmaaGreatMAL
import Derived.Test.YtnmolefblaahmaaGreatMAM
set_option linter.unusedVariables false
set_option linter.unusedSimpArgs false
namespace Go.Proofs.YtnmolefblaahmaaGreat
open Go.RowKit
theorem codes_small (x y : Ck) (sx sy : Bool) (w : World) (hs : (sx && sy) = false)
 (hSX : ∀ W, Below w.heap.size w W → Calls Tryz.prog 15 #[ckV x] W fun e w' => e = .returned (.bool sx) ∧ Below W.heap.size W w')
 (hSY : ∀ W, Below w.heap.size w W → Calls Tryz.prog 15 #[ckV y] W fun e w' => e = .returned (.bool sy) ∧ Below W.heap.size W w') :
 Calls Tryz.prog 5 #[ckV x, ckV y] w fun e w' => e = .returned (.bool true) ∧ Below w.heap.size w w' := by
 have HA := Lib.hid (fun w => awake51_any w)
 have HSX := Lib.hid hSX
 have HSY := Lib.hid hSY
 clear hSX hSY
 unfold ckV at HSX HSY
 unfold ckV
 have hDX := (Blk.new w 39 #[.slice x.A x.n x.c, .int .i64 x.first, .int .i64 x.second, .int .i64 x.square]).alloc (.cells #[.slice y.A y.n y.c, .int .i64 y.first, .int .i64 y.second, .int .i64 y.square] 39)
 have hDY := Blk.newN (W := w.alloc (.cells #[.slice x.A x.n x.c, .int .i64 x.first, .int .i64 x.second, .int .i64 x.square] 39)) (n := w.heap.size + 1) (by simp) 39 #[.slice y.A y.n y.c, .int .i64 y.first, .int .i64 y.second, .int .i64 y.square]
 have hW1 : Below w.heap.size w ((w.alloc (.cells #[.slice x.A x.n x.c, .int .i64 x.first, .int .i64 x.second, .int .i64 x.square] 39)).alloc (.cells #[.slice y.A y.n y.c, .int .i64 y.first, .int .i64 y.second, .int .i64 y.square] 39)) := ba_alloc (ba_alloc (Below.refl _ _) _) _
 go_enter Tryz.func5, Tryz.ntmps5
 go_upto_region 1 with fail
 generalize ((w.alloc (.cells #[.slice x.A x.n x.c, .int .i64 x.first, .int .i64 x.second, .int .i64 x.square] 39)).alloc (.cells #[.slice y.A y.n y.c, .int .i64 y.first, .int .i64 y.second, .int .i64 y.square] 39)) = W1 at *
 have HX1 := Lib.hid hDX
 have HY1 := Lib.hid hDY
 clear hDX hDY
 cases sx
 ·go_wp2_with (first
   | (go_at_call 10; (with_reducible refine (HA.out _).mono ?_); rintro e wa ⟨rfl, hbwa⟩)
   | ((with_reducible refine at_load 39 2 ?_); refine wpList_load_mid rfl 39 (.tmp 2) rfl _ _ rfl _ _ (HX1.out.via belr).range Tryz.underlying39 rfl (by kernel_rfl) ?_)
   | ((with_reducible refine at_loadg 39 3 ?_); refine wpList_load_gdF (by rfl) 39 (.tmp 3) rfl _ _ rfl _ _ (HY1.out.via belr).range Tryz.underlying39 rfl (by kernel_rfl) ?_)
   | (go_at_call 15; (with_reducible refine (HSX.out _ belr).mono ?_); rintro e wb ⟨rfl, hbwb⟩)
   | (go_at_call 15; (with_reducible refine (HSY.out _ belr).mono ?_); rintro e wc ⟨rfl, hbwc⟩))
  go_ret
  exact ⟨rfl, ba_via hbwb (ba_via hbwa hW1)⟩
 ·cases sy
  ·go_wp2_with (first
    | (go_at_call 10; (with_reducible refine (HA.out _).mono ?_); rintro e wa ⟨rfl, hbwa⟩)
    | ((with_reducible refine at_load 39 2 ?_); refine wpList_load_mid rfl 39 (.tmp 2) rfl _ _ rfl _ _ (HX1.out.via belr).range Tryz.underlying39 rfl (by kernel_rfl) ?_)
    | ((with_reducible refine at_loadg 39 3 ?_); refine wpList_load_gdF (by rfl) 39 (.tmp 3) rfl _ _ rfl _ _ (HY1.out.via belr).range Tryz.underlying39 rfl (by kernel_rfl) ?_)
    | (go_at_call 15; (with_reducible refine (HSX.out _ belr).mono ?_); rintro e wb ⟨rfl, hbwb⟩)
    | (go_at_call 15; (with_reducible refine (HSY.out _ belr).mono ?_); rintro e wc ⟨rfl, hbwc⟩))
   go_ret
   exact ⟨rfl, ba_via hbwc (ba_via hbwb (ba_via hbwa hW1))⟩
  ·cases hs
set_option maxRecDepth 20000 in
set_option maxHeartbeats 6000000 in
theorem codes_no (x y : Ck) (sm : Bool) (w : World)
 (hSX : ∀ W, Below w.heap.size w W → Calls Tryz.prog 15 #[ckV x] W fun e w' => e = .returned (.bool true) ∧ Below W.heap.size W w')
 (hSY : ∀ W, Below w.heap.size w W → Calls Tryz.prog 15 #[ckV y] W fun e w' => e = .returned (.bool true) ∧ Below W.heap.size W w')
 (hEN : ∀ W, Below w.heap.size w W → Calls Tryz.prog 18 #[ckV x] W fun e w' => e = .returned (.tuple #[.slice none 0 0, .int .i64 1]) ∧ Below W.heap.size W w')
 (hS1 : ∀ W, Below w.heap.size w W → Calls Tryz.prog 19 #[ckV x, ckV y] W fun e w' => e = .returned (.bool sm) ∧ Below W.heap.size W w')
 (hS2 : ∀ W, Below w.heap.size w W → Calls Tryz.prog 14 #[ckV x, ckV y] W fun e w' => e = .returned (.bool sm) ∧ Below W.heap.size W w')
 (hS3 : ∀ W, Below w.heap.size w W → Calls Tryz.prog 19 #[ckV x, ckV x] W fun e w' => e = .returned (.bool true) ∧ Below W.heap.size W w')
 (hRF : ∀ W, Below w.heap.size w W → Calls Tryz.prog 20 #[ckV x] W fun e w' => e = .returned (.bool false) ∧ Below W.heap.size W w') :
 Calls Tryz.prog 5 #[ckV x, ckV y] w fun e w' => e = .returned (.bool true) ∧ Below w.heap.size w w' := by
 have HA := Lib.hid (fun w => awake51_any w)
 have HSX := Lib.hid hSX
 have HSY := Lib.hid hSY
 have HEN := Lib.hid hEN
 have HS1 := Lib.hid hS1
 have HS2 := Lib.hid hS2
 have HS3 := Lib.hid hS3
 have HRF := Lib.hid hRF
 clear hSX hSY hEN hS1 hS2 hS3 hRF
 unfold ckV at HSX HSY HEN HS1 HS2 HS3 HRF
 unfold ckV
 have hDX := (Blk.new w 39 #[.slice x.A x.n x.c, .int .i64 x.first, .int .i64 x.second, .int .i64 x.square]).alloc (.cells #[.slice y.A y.n y.c, .int .i64 y.first, .int .i64 y.second, .int .i64 y.square] 39)
 have hDY := Blk.newN (W := w.alloc (.cells #[.slice x.A x.n x.c, .int .i64 x.first, .int .i64 x.second, .int .i64 x.square] 39)) (n := w.heap.size + 1) (by simp) 39 #[.slice y.A y.n y.c, .int .i64 y.first, .int .i64 y.second, .int .i64 y.square]
 have hW1 : Below w.heap.size w ((w.alloc (.cells #[.slice x.A x.n x.c, .int .i64 x.first, .int .i64 x.second, .int .i64 x.square] 39)).alloc (.cells #[.slice y.A y.n y.c, .int .i64 y.first, .int .i64 y.second, .int .i64 y.square] 39)) := ba_alloc (ba_alloc (Below.refl _ _) _) _
 go_enter Tryz.func5, Tryz.ntmps5
 go_upto_region 1 with fail
 generalize ((w.alloc (.cells #[.slice x.A x.n x.c, .int .i64 x.first, .int .i64 x.second, .int .i64 x.square] 39)).alloc (.cells #[.slice y.A y.n y.c, .int .i64 y.first, .int .i64 y.second, .int .i64 y.square] 39)) = W1 at *
 have HX1 := Lib.hid hDX
 have HY1 := Lib.hid hDY
 clear hDX hDY
 go_upto_region 6 with (first
  | (go_at_call 10; (with_reducible refine (HA.out _).mono ?_); rintro e wa ⟨rfl, hbwa⟩)
  | ((with_reducible refine at_load 39 2 ?_); refine wpList_load_mid rfl 39 (.tmp 2) rfl _ _ rfl _ _ (HX1.out.via belr).range Tryz.underlying39 rfl (by kernel_rfl) ?_)
  | ((with_reducible refine at_loadg 39 3 ?_); refine wpList_load_gdF (by rfl) 39 (.tmp 3) rfl _ _ rfl _ _ (HY1.out.via belr).range Tryz.underlying39 rfl (by kernel_rfl) ?_)
  | (go_at_call 15; (with_reducible refine (HSX.out _ belr).mono ?_); rintro e wb ⟨rfl, hbwb⟩)
  | (go_at_call 15; (with_reducible refine (HSY.out _ belr).mono ?_); rintro e wc ⟨rfl, hbwc⟩)
  | (go_at_call 18; (with_reducible refine (HEN.out _ belr).mono ?_); rintro e wd ⟨rfl, hbwd⟩))
 have h1d : Below W1.heap.size W1 wd := ba_via hbwd (ba_via hbwc (ba_via hbwb hbwa))
 have hwd : Below w.heap.size w wd := ba_via h1d hW1
 have HXd := Lib.hid (HX1.out.via h1d)
 have HYd := Lib.hid (HY1.out.via h1d)
 clear HX1 HY1 hbwa hbwb hbwc hbwd h1d hW1 HA HSX HSY HEN
 have smm : (sm != sm) = false := by cases sm <;> rfl
 have smm' : (sm == sm) = true := by cases sm <;> rfl
 refine wp_region_mix 1 [2, 2, 4] (by kernel_rfl) (by kernel_rfl) (of_decide_eq_true (by kernel_rfl)) ?_
 try simp only [wpSegs, List.take_succ_cons, List.take_zero, List.drop_succ_cons, List.drop_zero, List.take_nil, List.drop_nil]
 repeat (first | first | (refine quietLoad (by rfl) 39 (.tmp 2) rfl _ _ rfl _ _ (quietBy fun W hw => (HXd.out.via hw).range) Tryz.underlying39 rfl (by kernel_rfl) ?_; intro aQ hQ; simp only [go_sem, List.setIfInBounds_toArray, List.set_cons_succ, List.set_cons_zero] at hQ; subst hQ) | (refine quietLoad (by rfl) 39 (.tmp 3) rfl _ _ rfl _ _ (quietBy fun W hw => (HYd.out.via hw).range) Tryz.underlying39 rfl (by kernel_rfl) ?_; intro aQ hQ; simp only [go_sem, List.setIfInBounds_toArray, List.set_cons_succ, List.set_cons_zero] at hQ; subst hQ) | go_big_quiet_step (fail))
 refine wpQuiet_nil ?_
 show wpList _ _ _ _ _ _
 go_wp2_with ((go_at_call 19; (with_reducible refine (HS1.out _ (ba_via belr hwd)).mono ?_); rintro e we ⟨rfl, hbwe⟩))
 refine seg_next (grow_to belr) ?_
 try simp only [wpSegs, List.take_succ_cons, List.take_zero, List.drop_succ_cons, List.drop_zero, List.take_nil, List.drop_nil]
 repeat (first | first | (refine quietLoad (by rfl) 39 (.tmp 2) rfl _ _ rfl _ _ (quietBy fun W hw => (HXd.out.via hw).range) Tryz.underlying39 rfl (by kernel_rfl) ?_; intro aQ hQ; simp only [go_sem, List.setIfInBounds_toArray, List.set_cons_succ, List.set_cons_zero] at hQ; subst hQ) | (refine quietLoad (by rfl) 39 (.tmp 3) rfl _ _ rfl _ _ (quietBy fun W hw => (HYd.out.via hw).range) Tryz.underlying39 rfl (by kernel_rfl) ?_; intro aQ hQ; simp only [go_sem, List.setIfInBounds_toArray, List.set_cons_succ, List.set_cons_zero] at hQ; subst hQ) | go_big_quiet_step (fail))
 refine wpQuiet_nil ?_
 show wpList _ _ _ _ _ _
 go_wp2_with ((go_at_call 14; (with_reducible refine (HS2.out _ (ba_via belr hwd)).mono ?_); rintro e wf ⟨rfl, hbwf⟩))
 refine seg_next (grow_to belr) ?_
 try simp only [wpSegs, List.take_succ_cons, List.take_zero, List.drop_succ_cons, List.drop_zero, List.take_nil, List.drop_nil]
 repeat (first | first | (refine quietLoad (by rfl) 39 (.tmp 2) rfl _ _ rfl _ _ (quietBy fun W hw => (HXd.out.via hw).range) Tryz.underlying39 rfl (by kernel_rfl) ?_; intro aQ hQ; simp only [go_sem, List.setIfInBounds_toArray, List.set_cons_succ, List.set_cons_zero] at hQ; subst hQ) | (refine quietLoad (by rfl) 39 (.tmp 3) rfl _ _ rfl _ _ (quietBy fun W hw => (HYd.out.via hw).range) Tryz.underlying39 rfl (by kernel_rfl) ?_; intro aQ hQ; simp only [go_sem, List.setIfInBounds_toArray, List.set_cons_succ, List.set_cons_zero] at hQ; subst hQ) | go_big_quiet_step (fail))
 refine wpQuiet_nil ?_
 show wpList _ _ _ _ _ _
 go_wp2_with ((go_at_call 19; (with_reducible refine (HS3.out _ (ba_via belr hwd)).mono ?_); rintro e wg ⟨rfl, hbwg⟩))
 refine seg_next (grow_to belr) ?_
 try simp only [wpSegs, List.take_succ_cons, List.take_zero, List.drop_succ_cons, List.drop_zero, List.take_nil, List.drop_nil]
 repeat (first | first | (refine quietLoad (by rfl) 39 (.tmp 2) rfl _ _ rfl _ _ (quietBy fun W hw => (HXd.out.via hw).range) Tryz.underlying39 rfl (by kernel_rfl) ?_; intro aQ hQ; simp only [go_sem, List.setIfInBounds_toArray, List.set_cons_succ, List.set_cons_zero] at hQ; subst hQ) | (refine quietLoad (by rfl) 39 (.tmp 3) rfl _ _ rfl _ _ (quietBy fun W hw => (HYd.out.via hw).range) Tryz.underlying39 rfl (by kernel_rfl) ?_; intro aQ hQ; simp only [go_sem, List.setIfInBounds_toArray, List.set_cons_succ, List.set_cons_zero] at hQ; subst hQ) | go_big_quiet_step (fail))
 refine wpQuiet_nil ?_
 show wpList _ _ _ _ _ _
 have hdg : Below wd.heap.size wd wg := belr
 have hwg : Below w.heap.size w wg := ba_via hdg hwd
 clear HS1 HS2 HS3
 have HXg := Lib.hid (HXd.out.via hdg)
 clear HXd HYd
 go_wp2_with (first
  | ((with_reducible refine at_load 39 2 ?_); refine wpList_load_mid rfl 39 (.tmp 2) rfl _ _ rfl _ _ (HXg.out.via belr).range Tryz.underlying39 rfl (by kernel_rfl) ?_)
  | (go_at_call 20; (with_reducible refine (HRF.out _ hwg).mono ?_); rintro e wh ⟨rfl, hbwh⟩))
 go_ret
 exact ⟨rfl, ba_via hbwh hwg⟩
set_option maxRecDepth 20000 in
set_option maxHeartbeats 6000000 in
theorem codes_yes (x y : Ck) (sm : Bool) (w : World) (hx : CkAt w w.heap.size x) (hf : S.formed x.cl = true)
 (hSX : ∀ W, Below w.heap.size w W → Calls Tryz.prog 15 #[ckV x] W fun e w' => e = .returned (.bool true) ∧ Below W.heap.size W w')
 (hSY : ∀ W, Below w.heap.size w W → Calls Tryz.prog 15 #[ckV y] W fun e w' => e = .returned (.bool true) ∧ Below W.heap.size W w')
 (hEN : ∀ W, Below w.heap.size w W → Calls Tryz.prog 18 #[ckV x] W (GivesEnc (S.enc x.cl) W))
 (hS1 : ∀ W, Below w.heap.size w W → Calls Tryz.prog 19 #[ckV x, ckV y] W fun e w' => e = .returned (.bool sm) ∧ Below W.heap.size W w')
 (hS2 : ∀ W, Below w.heap.size w W → Calls Tryz.prog 14 #[ckV x, ckV y] W fun e w' => e = .returned (.bool sm) ∧ Below W.heap.size W w')
 (hS3 : ∀ W, Below w.heap.size w W → Calls Tryz.prog 19 #[ckV x, ckV x] W fun e w' => e = .returned (.bool true) ∧ Below W.heap.size W w')
 (hRF : ∀ W, Below w.heap.size w W → Calls Tryz.prog 20 #[ckV x] W fun e w' => e = .returned (.bool true) ∧ Below W.heap.size W w')
 (hRE : ∀ W, Below w.heap.size w W → Calls Tryz.prog 23 #[ckV x] W (GivesEn1 (S.enc x.cl) W)) :
 Calls Tryz.prog 5 #[ckV x, ckV y] w fun e w' => e = .returned (.bool true) ∧ Below w.heap.size w w' := by
 have HA := Lib.hid (fun w => awake51_any w)
 have HSX := Lib.hid hSX
 have HSY := Lib.hid hSY
 have HEN := Lib.hid hEN
 have HS1 := Lib.hid hS1
 have HS2 := Lib.hid hS2
 have HS3 := Lib.hid hS3
 have HRF := Lib.hid hRF
 have HRE := Lib.hid hRE
 have HX := Lib.hid hx
 have hl1 := encB_len hf
 have hl2 := enc_len x.cl
 have HLT := Lib.hid (enc_lt (encB_lt hf))
 have HDE := Lib.hid (dec_enc hf)
 obtain ⟨nb, hnb⟩ : ∃ nb, nb = (S.enc x.cl).length := ⟨_, rfl⟩
 have hnb1 : 19 ≤ nb ∧ nb ≤ 40039 := by omega
 have HNB := Lib.hid hnb
 have hmx : maxLen = 9223372036854775807 := by unfold maxLen; decide
 have HMX := Lib.hid hmx
 clear hSX hSY hEN hS1 hS2 hS3 hRF hRE hx hl1 hl2 hnb hf hmx
 unfold GivesEnc at HEN
 unfold GivesEn1 at HRE
 rw [← HNB.out] at HEN HRE
 generalize S.enc x.cl = L at *
 unfold ckV at HSX HSY HEN HS1 HS2 HS3 HRF HRE
 unfold ckV
 have hDX := (Blk.new w 39 #[.slice x.A x.n x.c, .int .i64 x.first, .int .i64 x.second, .int .i64 x.square]).alloc (.cells #[.slice y.A y.n y.c, .int .i64 y.first, .int .i64 y.second, .int .i64 y.square] 39)
 have hDY := Blk.newN (W := w.alloc (.cells #[.slice x.A x.n x.c, .int .i64 x.first, .int .i64 x.second, .int .i64 x.square] 39)) (n := w.heap.size + 1) (by simp) 39 #[.slice y.A y.n y.c, .int .i64 y.first, .int .i64 y.second, .int .i64 y.square]
 have hW1 : Below w.heap.size w ((w.alloc (.cells #[.slice x.A x.n x.c, .int .i64 x.first, .int .i64 x.second, .int .i64 x.square] 39)).alloc (.cells #[.slice y.A y.n y.c, .int .i64 y.first, .int .i64 y.second, .int .i64 y.square] 39)) := ba_alloc (ba_alloc (Below.refl _ _) _) _
 go_enter Tryz.func5, Tryz.ntmps5
 go_upto_region 1 with fail
 generalize ((w.alloc (.cells #[.slice x.A x.n x.c, .int .i64 x.first, .int .i64 x.second, .int .i64 x.square] 39)).alloc (.cells #[.slice y.A y.n y.c, .int .i64 y.first, .int .i64 y.second, .int .i64 y.square] 39)) = W1 at *
 have HX1 := Lib.hid hDX
 have HY1 := Lib.hid hDY
 clear hDX hDY
 go_upto_region 6 with (first
  | (go_at_call 10; (with_reducible refine (HA.out _).mono ?_); rintro e wa ⟨rfl, hbwa⟩)
  | ((with_reducible refine at_load 39 2 ?_); refine wpList_load_mid rfl 39 (.tmp 2) rfl _ _ rfl _ _ (HX1.out.via belr).range Tryz.underlying39 rfl (by kernel_rfl) ?_)
  | ((with_reducible refine at_loadg 39 3 ?_); refine wpList_load_gdF (by rfl) 39 (.tmp 3) rfl _ _ rfl _ _ (HY1.out.via belr).range Tryz.underlying39 rfl (by kernel_rfl) ?_)
  | (go_at_call 15; (with_reducible refine (HSX.out _ belr).mono ?_); rintro e wb ⟨rfl, hbwb⟩)
  | (go_at_call 15; (with_reducible refine (HSY.out _ belr).mono ?_); rintro e wc ⟨rfl, hbwc⟩)
  | (go_at_call 18; (with_reducible refine (HEN.out _ belr).mono ?_); rintro e wd ⟨A4, c4, rfl, hO4, hbwd⟩))
 obtain ⟨A, c, hv, hc19, hcm, hC4⟩ := own_form hO4 (by unfold maxLen; omega)
 injection hv with hv1 _ hv3
 subst hv1 hv3
 have HC4 := Lib.hid hC4
 have hcm' : c4 ≤ 9223372036854775807 := by have := HMX.out; omega
 have h1d : Below W1.heap.size W1 wd := ba_via hbwd (ba_via hbwc (ba_via hbwb hbwa))
 have hwd : Below w.heap.size w wd := ba_via h1d hW1
 have HXd := Lib.hid (HX1.out.via h1d)
 have HYd := Lib.hid (HY1.out.via h1d)
 clear HX1 HY1 hbwa hbwb hbwc hbwd h1d hW1 HA HSX HSY HEN hO4 hC4 hcm
 have smm : (sm != sm) = false := by cases sm <;> rfl
 have smm' : (sm == sm) = true := by cases sm <;> rfl
 refine wp_region_mix 1 [2, 2, 4] (by kernel_rfl) (by kernel_rfl) (of_decide_eq_true (by kernel_rfl)) ?_
 try simp only [wpSegs, List.take_succ_cons, List.take_zero, List.drop_succ_cons, List.drop_zero, List.take_nil, List.drop_nil]
 repeat (first | first | (refine quietLoad (by rfl) 39 (.tmp 2) rfl _ _ rfl _ _ (quietBy fun W hw => (HXd.out.via hw).range) Tryz.underlying39 rfl (by kernel_rfl) ?_; intro aQ hQ; simp only [go_sem, List.setIfInBounds_toArray, List.set_cons_succ, List.set_cons_zero] at hQ; subst hQ) | (refine quietLoad (by rfl) 39 (.tmp 3) rfl _ _ rfl _ _ (quietBy fun W hw => (HYd.out.via hw).range) Tryz.underlying39 rfl (by kernel_rfl) ?_; intro aQ hQ; simp only [go_sem, List.setIfInBounds_toArray, List.set_cons_succ, List.set_cons_zero] at hQ; subst hQ) | go_big_quiet_step (fail))
 refine wpQuiet_nil ?_
 show wpList _ _ _ _ _ _
 go_wp2_with ((go_at_call 19; (with_reducible refine (HS1.out _ (ba_via belr hwd)).mono ?_); rintro e we ⟨rfl, hbwe⟩))
 refine seg_next (grow_to belr) ?_
 try simp only [wpSegs, List.take_succ_cons, List.take_zero, List.drop_succ_cons, List.drop_zero, List.take_nil, List.drop_nil]
 repeat (first | first | (refine quietLoad (by rfl) 39 (.tmp 2) rfl _ _ rfl _ _ (quietBy fun W hw => (HXd.out.via hw).range) Tryz.underlying39 rfl (by kernel_rfl) ?_; intro aQ hQ; simp only [go_sem, List.setIfInBounds_toArray, List.set_cons_succ, List.set_cons_zero] at hQ; subst hQ) | (refine quietLoad (by rfl) 39 (.tmp 3) rfl _ _ rfl _ _ (quietBy fun W hw => (HYd.out.via hw).range) Tryz.underlying39 rfl (by kernel_rfl) ?_; intro aQ hQ; simp only [go_sem, List.setIfInBounds_toArray, List.set_cons_succ, List.set_cons_zero] at hQ; subst hQ) | go_big_quiet_step (fail))
 refine wpQuiet_nil ?_
 show wpList _ _ _ _ _ _
 go_wp2_with ((go_at_call 14; (with_reducible refine (HS2.out _ (ba_via belr hwd)).mono ?_); rintro e wf ⟨rfl, hbwf⟩))
 refine seg_next (grow_to belr) ?_
 try simp only [wpSegs, List.take_succ_cons, List.take_zero, List.drop_succ_cons, List.drop_zero, List.take_nil, List.drop_nil]
 repeat (first | first | (refine quietLoad (by rfl) 39 (.tmp 2) rfl _ _ rfl _ _ (quietBy fun W hw => (HXd.out.via hw).range) Tryz.underlying39 rfl (by kernel_rfl) ?_; intro aQ hQ; simp only [go_sem, List.setIfInBounds_toArray, List.set_cons_succ, List.set_cons_zero] at hQ; subst hQ) | (refine quietLoad (by rfl) 39 (.tmp 3) rfl _ _ rfl _ _ (quietBy fun W hw => (HYd.out.via hw).range) Tryz.underlying39 rfl (by kernel_rfl) ?_; intro aQ hQ; simp only [go_sem, List.setIfInBounds_toArray, List.set_cons_succ, List.set_cons_zero] at hQ; subst hQ) | go_big_quiet_step (fail))
 refine wpQuiet_nil ?_
 show wpList _ _ _ _ _ _
 go_wp2_with ((go_at_call 19; (with_reducible refine (HS3.out _ (ba_via belr hwd)).mono ?_); rintro e wg ⟨rfl, hbwg⟩))
 refine seg_next (grow_to belr) ?_
 try simp only [wpSegs, List.take_succ_cons, List.take_zero, List.drop_succ_cons, List.drop_zero, List.take_nil, List.drop_nil]
 repeat (first | first | (refine quietLoad (by rfl) 39 (.tmp 2) rfl _ _ rfl _ _ (quietBy fun W hw => (HXd.out.via hw).range) Tryz.underlying39 rfl (by kernel_rfl) ?_; intro aQ hQ; simp only [go_sem, List.setIfInBounds_toArray, List.set_cons_succ, List.set_cons_zero] at hQ; subst hQ) | (refine quietLoad (by rfl) 39 (.tmp 3) rfl _ _ rfl _ _ (quietBy fun W hw => (HYd.out.via hw).range) Tryz.underlying39 rfl (by kernel_rfl) ?_; intro aQ hQ; simp only [go_sem, List.setIfInBounds_toArray, List.set_cons_succ, List.set_cons_zero] at hQ; subst hQ) | go_big_quiet_step (fail))
 refine wpQuiet_nil ?_
 show wpList _ _ _ _ _ _
 have hdg : Below wd.heap.size wd wg := belr
 have hwg : Below w.heap.size w wg := ba_via hdg hwd
 clear HS1 HS2 HS3
 have HXg := Lib.hid (HXd.out.via hdg)
 have HCg := Lib.hid ((HC4.out.below hdg).mono hdg.size)
 clear HXd HYd HC4 hdg
 go_upto_region 10 with (first
  | ((with_reducible refine at_load 39 2 ?_); refine wpList_load_mid rfl 39 (.tmp 2) rfl _ _ rfl _ _ (HXg.out.via belr).range Tryz.underlying39 rfl (by kernel_rfl) ?_)
  | (go_at_call 20; (with_reducible refine (HRF.out _ hwg).mono ?_); rintro e wh ⟨rfl, hbwh⟩))
 have hwh : Below w.heap.size w wh := ba_via hbwh hwg
 have HXh := Lib.hid (HXg.out.via hbwh)
 have HCh := Lib.hid ((HCg.out.below hbwh).mono hbwh.size)
 have HDC := Lib.hid (show Calls Tryz.prog 21 #[.slice A4 nb c4] wh (fun e w' => ∃ z : Ck, e = .returned (.tuple #[ckV z, .int .i64 0]) ∧ z.cl = x.cl ∧ CkAt w' w'.heap.size z ∧ Below wh.heap.size wh w') from by
  have := decode_any L A4 nb c4 wh.heap.size wh HNB.out.symm hc19 hcm' HLT.out HCh.out (Nat.le_refl _)
  rw [HDE.out] at this
  exact this)
 clear HXg HCg hbwh hwg
 go_upto_region 11 with (go_at_call 21; (with_reducible refine HDC.out.mono ?_); rintro e wi ⟨z, rfl, hzc, hza, hbwi⟩)
 have hZ := Blk.new wi 39 #[.slice z.A z.n z.c, .int .i64 z.first, .int .i64 z.second, .int .i64 z.square]
 have hb5 : Below wi.heap.size wi (wi.alloc (.cells #[.slice z.A z.n z.c, .int .i64 z.first, .int .i64 z.second, .int .i64 z.square] 39)) := ba_alloc (Below.refl _ _) _
 have hb15 : Below wh.heap.size wh (wi.alloc (.cells #[.slice z.A z.n z.c, .int .i64 z.first, .int .i64 z.second, .int .i64 z.square] 39)) := ba_alloc hbwi _
 generalize (wi.alloc (.cells #[.slice z.A z.n z.c, .int .i64 z.first, .int .i64 z.second, .int .i64 z.square] 39)) = w5 at *
 have hw5 : Below w.heap.size w w5 := hwh.trans (hb15.mono hwh.size)
 have HZ5 := Lib.hid hZ
 have HX5 := Lib.hid (HXh.out.via hb15)
 have HC5 := Lib.hid ((HCh.out.below hb15).mono hb15.size)
 have HZA := Lib.hid (show CkAt w5 wi.heap.size z from hza.below hb5)
 have hswi := hb5.size
 have hswi2 : w.heap.size ≤ wi.heap.size := Nat.le_trans hwh.size hbwi.size
 have HZC := Lib.hid hzc
 have HSZ := Lib.hid (show ∀ W, Below w5.heap.size w5 W → Calls Tryz.prog 19 #[.agg #[.slice z.A z.n z.c, .int .i64 z.first, .int .i64 z.second, .int .i64 z.square], .agg #[.slice x.A x.n x.c, .int .i64 x.first, .int .i64 x.second, .int .i64 x.square]] W (fun e w' => e = .returned (.bool true) ∧ Below W.heap.size W w') from fun W hW => by
  have hxW := HX.out.below (hw5.trans (hW.mono hw5.size))
  have hzW := HZA.out.below (hW.mono hswi)
  have hx2 : CkAt W wi.heap.size x := ⟨hxW.len, hxW.max, hxW.cells.mono hswi2, fun r hr => ⟨(hxW.each r hr).len, (hxW.each r hr).max, (hxW.each r hr).cells.mono hswi2⟩⟩
  have := same_any z x wi.heap.size W (Nat.le_trans hswi hW.size) hzW hx2
  rw [HZC.out, (same_iff x.cl x.cl).2 rfl] at this
  exact this)
 have HEQ := Lib.hid (fun (W : World) (A5 : Option Addr) (c5 : Nat) (hW : Below w5.heap.size w5 W) (hO : W.ownsRow w5.heap.size 5 1 (.slice A5 nb c5) nb (L.map bC)) => show Calls Tryz.prog 22 #[.slice A4 nb c4, .slice A5 nb c5] W (fun e w' => e = .returned (.bool true) ∧ W = w') from by
  have h1 := equalB_any L L A4 A5 nb nb c4 c5 W.heap.size W HNB.out.symm HNB.out.symm HLT.out HLT.out ((HC5.out.below hW).mono hW.size) (own_cells hO (by unfold maxLen; omega)).1
  rwa [decide_eq_true rfl] at h1)
 have HREW := Lib.hid (HRE.out w5 hw5)
 clear hZ hb5 hb15 hza hbwi hzc HXh HCh HDC HZA HC5 HRE hwh
 go_wp2_with (first
  | ((with_reducible refine at_loadg 39 2 ?_); refine wpList_load_gdF (by rfl) 39 (.tmp 2) rfl _ _ rfl _ _ (HX5.out.via belr).range Tryz.underlying39 rfl (by kernel_rfl) ?_)
  | ((with_reducible refine at_loadg 39 7 ?_); refine wpList_load_gdF (by rfl) 39 (.tmp 7) rfl _ _ rfl _ _ (HZ5.out.via belr).range Tryz.underlying39 rfl (by kernel_rfl) ?_)
  | (go_at_call 23; (with_reducible refine HREW.out.mono ?_); rintro e wj ⟨A5, c5, rfl, hO5, hbwj⟩; have HEQ2 := Lib.hid (HEQ.out _ _ _ hbwj hO5))
  | (go_at_call 22; (with_reducible refine HEQ2.out.mono ?_); rintro e w' ⟨rfl, rfl⟩)
  | (go_at_call 19; (with_reducible refine (HSZ.out _ hbwj).mono ?_); rintro e wk ⟨rfl, hbwk⟩))
 go_ret
 exact ⟨rfl, ba_via hbwk (ba_via hbwj hw5)⟩
theorem codes_walk (x y : Ck) (w : World) (hx : CkAt w w.heap.size x) (hy : CkAt w w.heap.size y) :
 Calls Tryz.prog 5 #[ckV x, ckV y] w fun e w' => e = .returned (.bool true) ∧ Below w.heap.size w w' := by
 have hSX : ∀ W, Below w.heap.size w W → Calls Tryz.prog 15 #[ckV x] W fun e w' => e = .returned (.bool (S.smallC x.cl)) ∧ Below W.heap.size W w' := fun W hW => rsmall_any x w.heap.size W hW.size (hx.below hW)
 have hSY : ∀ W, Below w.heap.size w W → Calls Tryz.prog 15 #[ckV y] W fun e w' => e = .returned (.bool (S.smallC y.cl)) ∧ Below W.heap.size W w' := fun W hW => rsmall_any y w.heap.size W hW.size (hy.below hW)
 by_cases hs : (S.smallC x.cl && S.smallC y.cl) = false
 ·exact codes_small x y _ _ w hs hSX hSY
 ·have hs2 : S.smallC x.cl = true ∧ S.smallC y.cl = true := by simpa using hs
  rw [hs2.1] at hSX
  rw [hs2.2] at hSY
  have hS1 : ∀ W, Below w.heap.size w W → Calls Tryz.prog 19 #[ckV x, ckV y] W fun e w' => e = .returned (.bool (S.same x.cl y.cl)) ∧ Below W.heap.size W w' := fun W hW => same_any x y w.heap.size W hW.size (hx.below hW) (hy.below hW)
  have hS2 : ∀ W, Below w.heap.size w W → Calls Tryz.prog 14 #[ckV x, ckV y] W fun e w' => e = .returned (.bool (S.same x.cl y.cl)) ∧ Below W.heap.size W w' := fun W hW => rsame_any x y w.heap.size W hW.size (hx.below hW) (hy.below hW)
  have hS3 : ∀ W, Below w.heap.size w W → Calls Tryz.prog 19 #[ckV x, ckV x] W fun e w' => e = .returned (.bool true) ∧ Below W.heap.size W w' := fun W hW => by
   have := same_any x x w.heap.size W hW.size (hx.below hW) (hx.below hW)
   rwa [(same_iff x.cl x.cl).2 rfl] at this
  have hRF : ∀ W, Below w.heap.size w W → Calls Tryz.prog 20 #[ckV x] W fun e w' => e = .returned (.bool (S.formed x.cl)) ∧ Below W.heap.size W w' := fun W hW => rformed_any x w.heap.size W hW.size (hx.below hW)
  cases hf : S.formed x.cl
  ·rw [hf] at hRF
   exact codes_no x y _ w hSX hSY (fun W hW => encode_no x w.heap.size W hW.size (hx.below hW) hf) hS1 hS2 hS3 hRF
  ·rw [hf] at hRF
   exact codes_yes x y _ w hx hf hSX hSY (fun W hW => encode_yes x.L x.A x.n x.c x.first x.second x.square w.heap.size W hW.size (hx.below hW) hf) hS1 hS2 hS3 hRF (fun W hW => rencode_yes x.L x.A x.n x.c x.first x.second x.square w.heap.size W hW.size (hx.below hW) hf)
end Go.Proofs.YtnmolefblaahmaaGreat
