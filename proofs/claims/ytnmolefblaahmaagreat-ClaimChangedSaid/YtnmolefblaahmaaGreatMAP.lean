/- The law ClaimChanged, walked. (printed by tools/gen_lawchg.py) -/
import Derived.Test.YtnmolefblaahmaaGreatMAL
import Derived.Test.YtnmolefblaahmaaGreatMAM
set_option linter.unusedVariables false
set_option linter.unusedSimpArgs false
namespace Go.Proofs.YtnmolefblaahmaaGreat
open Go.RowKit
theorem changed_off (x : Ck) (a y : Nat) (sm fm : Bool) (w : World) (hy : y < 256) (hs : sm = false ∨ fm = false ∨ y = 0)
 (hSX : ∀ W, Below w.heap.size w W → Calls Tryz.prog 15 #[ckV x] W fun e w' => e = .returned (.bool sm) ∧ Below W.heap.size W w')
 (hRF : ∀ W, Below w.heap.size w W → Calls Tryz.prog 20 #[ckV x] W fun e w' => e = .returned (.bool fm) ∧ Below W.heap.size W w') :
 Calls Tryz.prog 8 #[ckV x, .int .u16 a, .int .u8 y] w fun e w' => e = .returned (.bool true) ∧ Below w.heap.size w w' := by
 have HA := Lib.hid (fun w => awake51_any w)
 have HSX := Lib.hid hSX
 have HRF := Lib.hid hRF
 clear hSX hRF
 unfold ckV at HSX HRF
 unfold ckV
 have hDX := Blk.new w 39 #[.slice x.A x.n x.c, .int .i64 x.first, .int .i64 x.second, .int .i64 x.square]
 have hW1 : Below w.heap.size w (w.alloc (.cells #[.slice x.A x.n x.c, .int .i64 x.first, .int .i64 x.second, .int .i64 x.square] 39)) := ba_alloc (Below.refl _ _) _
 go_enter Tryz.func8, Tryz.ntmps8
 go_upto_region 1 with fail
 generalize (w.alloc (.cells #[.slice x.A x.n x.c, .int .i64 x.first, .int .i64 x.second, .int .i64 x.square] 39)) = W1 at *
 have HX1 := Lib.hid hDX
 clear hDX
 cases sm
 ·go_wp2_with (first
   | (go_at_call 10; (with_reducible refine (HA.out _).mono ?_); rintro e wa ⟨rfl, hbwa⟩)
   | ((with_reducible refine at_load 39 3 ?_); refine wpList_load_mid rfl 39 (.tmp 3) rfl _ _ rfl _ _ (HX1.out.via belr).range Tryz.underlying39 rfl (by kernel_rfl) ?_)
   | ((with_reducible refine at_loadg 39 3 ?_); refine wpList_load_gdF (by rfl) 39 (.tmp 3) rfl _ _ rfl _ _ (HX1.out.via belr).range Tryz.underlying39 rfl (by kernel_rfl) ?_)
   | (go_at_call 15; (with_reducible refine (HSX.out _ belr).mono ?_); rintro e wb ⟨rfl, hbwb⟩)
   | (go_at_call 20; (with_reducible refine (HRF.out _ belr).mono ?_); rintro e wc ⟨rfl, hbwc⟩))
  go_ret
  exact ⟨rfl, ba_via hbwb (ba_via hbwa hW1)⟩
 ·cases fm
  ·go_wp2_with (first
    | (go_at_call 10; (with_reducible refine (HA.out _).mono ?_); rintro e wa ⟨rfl, hbwa⟩)
    | ((with_reducible refine at_load 39 3 ?_); refine wpList_load_mid rfl 39 (.tmp 3) rfl _ _ rfl _ _ (HX1.out.via belr).range Tryz.underlying39 rfl (by kernel_rfl) ?_)
    | ((with_reducible refine at_loadg 39 3 ?_); refine wpList_load_gdF (by rfl) 39 (.tmp 3) rfl _ _ rfl _ _ (HX1.out.via belr).range Tryz.underlying39 rfl (by kernel_rfl) ?_)
    | (go_at_call 15; (with_reducible refine (HSX.out _ belr).mono ?_); rintro e wb ⟨rfl, hbwb⟩)
    | (go_at_call 20; (with_reducible refine (HRF.out _ belr).mono ?_); rintro e wc ⟨rfl, hbwc⟩))
   go_ret
   exact ⟨rfl, ba_via hbwc (ba_via hbwb (ba_via hbwa hW1))⟩
  ·have hy0 : y = 0 := by
    rcases hs with h | h | h
    ·cases h
    ·cases h
    ·exact h
   subst hy0
   go_wp2_with (first
    | (go_at_call 10; (with_reducible refine (HA.out _).mono ?_); rintro e wa ⟨rfl, hbwa⟩)
    | ((with_reducible refine at_load 39 3 ?_); refine wpList_load_mid rfl 39 (.tmp 3) rfl _ _ rfl _ _ (HX1.out.via belr).range Tryz.underlying39 rfl (by kernel_rfl) ?_)
    | ((with_reducible refine at_loadg 39 3 ?_); refine wpList_load_gdF (by rfl) 39 (.tmp 3) rfl _ _ rfl _ _ (HX1.out.via belr).range Tryz.underlying39 rfl (by kernel_rfl) ?_)
    | (go_at_call 15; (with_reducible refine (HSX.out _ belr).mono ?_); rintro e wb ⟨rfl, hbwb⟩)
    | (go_at_call 20; (with_reducible refine (HRF.out _ belr).mono ?_); rintro e wc ⟨rfl, hbwc⟩))
   go_ret
   exact ⟨rfl, ba_via hbwc (ba_via hbwb (ba_via hbwa hW1))⟩
set_option maxRecDepth 20000 in
set_option maxHeartbeats 6000000 in
theorem changed_on (x : Ck) (a y : Nat) (w : World) (hf : S.formed x.cl = true) (hsm : S.smallC x.cl = true) (ha : a < 65536) (hy : y < 256) (hy0 : y ≠ 0)
 (hSX : ∀ W, Below w.heap.size w W → Calls Tryz.prog 15 #[ckV x] W fun e w' => e = .returned (.bool true) ∧ Below W.heap.size W w')
 (hRF : ∀ W, Below w.heap.size w W → Calls Tryz.prog 20 #[ckV x] W fun e w' => e = .returned (.bool true) ∧ Below W.heap.size W w')
 (hEN : ∀ W, Below w.heap.size w W → Calls Tryz.prog 18 #[ckV x] W (GivesEnc (S.enc x.cl) W)) :
 Calls Tryz.prog 8 #[ckV x, .int .u16 a, .int .u8 y] w fun e w' => e = .returned (.bool true) ∧ Below w.heap.size w w' := by
 have HA := Lib.hid (fun w => awake51_any w)
 have HSX := Lib.hid hSX
 have HRF := Lib.hid hRF
 have HEN := Lib.hid hEN
 have HLT := Lib.hid (enc_lt (encB_lt hf))
 obtain ⟨nb, hnb⟩ : ∃ nb, nb = (S.enc x.cl).length := ⟨_, rfl⟩
 have hnb1 : 19 ≤ nb ∧ nb ≤ 2000 := by
  have := enc_small hf hsm
  omega
 have HNB := Lib.hid hnb
 have HCH := Lib.hid (fun (i z : Nat) (hi : i < (S.enc x.cl).length) (hz : z < 256) (hn : z ≠ (S.enc x.cl)[i]) => dec_changed hf i z hi hz hn HLT.out)
 have hmx : maxLen = 9223372036854775807 := by unfold maxLen; decide
 have HMX := Lib.hid hmx
 have yy : ((y : Int) == 0) = false := by simp; omega
 clear hSX hRF hEN hnb hf hsm hmx
 unfold GivesEnc at HEN
 rw [← HNB.out] at HEN
 generalize S.enc x.cl = L at *
 unfold ckV at HSX HRF HEN
 unfold ckV
 have hDX := Blk.new w 39 #[.slice x.A x.n x.c, .int .i64 x.first, .int .i64 x.second, .int .i64 x.square]
 have hW1 : Below w.heap.size w (w.alloc (.cells #[.slice x.A x.n x.c, .int .i64 x.first, .int .i64 x.second, .int .i64 x.square] 39)) := ba_alloc (Below.refl _ _) _
 go_enter Tryz.func8, Tryz.ntmps8
 go_upto_region 1 with fail
 generalize (w.alloc (.cells #[.slice x.A x.n x.c, .int .i64 x.first, .int .i64 x.second, .int .i64 x.square] 39)) = W1 at *
 have HX1 := Lib.hid hDX
 clear hDX
 go_upto_region 6 with (first
  | (go_at_call 10; (with_reducible refine (HA.out _).mono ?_); rintro e wa ⟨rfl, hbwa⟩)
  | ((with_reducible refine at_load 39 3 ?_); refine wpList_load_mid rfl 39 (.tmp 3) rfl _ _ rfl _ _ (HX1.out.via belr).range Tryz.underlying39 rfl (by kernel_rfl) ?_)
  | ((with_reducible refine at_loadg 39 3 ?_); refine wpList_load_gdF (by rfl) 39 (.tmp 3) rfl _ _ rfl _ _ (HX1.out.via belr).range Tryz.underlying39 rfl (by kernel_rfl) ?_)
  | (go_at_call 15; (with_reducible refine (HSX.out _ belr).mono ?_); rintro e wb ⟨rfl, hbwb⟩)
  | (go_at_call 20; (with_reducible refine (HRF.out _ belr).mono ?_); rintro e wc ⟨rfl, hbwc⟩)
  | (go_at_call 18; (with_reducible refine (HEN.out _ belr).mono ?_); rintro e wd ⟨A4, c4, rfl, hO4, hbwd⟩))
 have h1d : Below W1.heap.size W1 wd := ba_via hbwd (ba_via hbwc (ba_via hbwb hbwa))
 have hwd : Below w.heap.size w wd := ba_via h1d hW1
 obtain ⟨m1, rfl⟩ : ∃ m1, nb = m1 + 1 := ⟨nb - 1, by omega⟩
 obtain ⟨g4, c5, hv⟩ := ownsRow_succ hO4
 injection hv with hv1 _ hv3
 subst hv1 hv3
 have HCL := Lib.hid (cloneB_any L g4 (m1 + 1) c4 wd HNB.out.symm (by omega) (by omega) (fun j u hu => by
  have h1 := hO4.cellAt j (by
   have := (List.getElem?_eq_some_iff.1 hu).1
   rw [List.length_map] at this
   have := HNB.out
   omega)
  rw [h1, hu]))
 obtain ⟨N, hN⟩ : ∃ N, N = m1 + 1 := ⟨_, rfl⟩
 have HMN := Lib.hid hN
 rw [← hN] at HNB hnb1 HCL
 rw [← hN]
 have i1 : ¬ ((N : Int) < 19) := by omega
 have i2 : ¬ ((2000 : Int) < N) := by omega
 clear HX1 hbwa hbwb hbwc hbwd h1d hW1 HA HSX HRF HEN hO4 hN
 go_upto_region 9 with (go_at_call 32; (with_reducible refine HCL.out.mono ?_); rintro e we ⟨A5, c5, rfl, hO5, hbwe⟩)
 have hwe : Below w.heap.size w we := ba_via hbwe hwd
 obtain ⟨m2, hm2⟩ : ∃ m2, N = m2 + 1 := ⟨N - 1, by omega⟩
 have hO6 := hO5
 rw [hm2] at hO6
 obtain ⟨g5, c6, hv⟩ := ownsRow_succ hO6
 injection hv with hv1 _ hv3
 subst hv1 hv3
 clear hO6 hm2
 obtain ⟨i, hi⟩ : ∃ i, i = a % N := ⟨_, rfl⟩
 have hiN : i < N := by rw [hi]; exact Nat.mod_lt _ (by omega)
 have hiL : i < L.length := by have := HNB.out; omega
 have q49 : (a : Int).tmod (N : Int) = (i : Int) := by rw [Int.tmod_eq_emod_of_nonneg (by omega), hi]; rfl
 have ea : IntKind.i64.wrap (a : Int) = (a : Int) := IntWalk.i64_in _ (by omega)
 have ei : IntKind.i64.wrap (i : Int) = (i : Int) := IntWalk.i64_in _ (by omega)
 have hii : (i : Int) < N := by omega
 have c0 : we.cell? ⟨g5, i, none⟩ = some (.int .u8 (L[i] : Int)) := by
  rw [hO5.cellAt i (by omega)]
  exact bC_get hiL
 have f0 := hO5.frozenAt i
 have hgl := (hO5.lt g5 rfl).2
 have hx256 := HLT.out _ (List.getElem_mem hiL)
 obtain ⟨z, hxz, hz256, hzn⟩ := xor8 L[i] y hx256 hy
 have HCI := Lib.hid (HCH.out i z hiL hz256 (hzn hy0))
 have hL2 : (L.set i z).length = N := by rw [List.length_set]; exact HNB.out.symm
 have hlt2 : ∀ x, x ∈ L.set i z → x < 256 := fun x hx => by
  rcases List.mem_or_eq_of_mem_set hx with h | h
  ·exact HLT.out x h
  ·rw [h]; exact hz256
 have hO7 := (hO5.stored i (bC z)).1
 have hset : (L.map bC).set i (bC z) = (L.set i z).map bC := by rw [List.map_set]
 rw [hset] at hO7
 have hw7 : Below w.heap.size w (we.setCell ⟨g5, i, none⟩ (bC z)) := hwe.setCell (by have := (hO5.lt g5 rfl).1; have := hwd.size; simp; omega) _
 have hc8 := (own_form hO7 (by unfold maxLen; omega))
 obtain ⟨A9, c9, hv9, hc19, hcm, hC7⟩ := hc8
 injection hv9 with hv1 _ hv3
 subst hv1 hv3
 have hcm' : c5 ≤ 9223372036854775807 := by have := HMX.out; omega
 have HDC := Lib.hid (decode_any (L.set i z) (some ⟨g5, 0, none⟩) N c5 _ (we.setCell ⟨g5, i, none⟩ (bC z)) hL2 hc19 hcm' hlt2 hC7 (Nat.le_refl _))
 generalize S.dec (L.set i z) = r at *
 obtain ⟨rc, re⟩ := r
 have hre : re ≠ 0 := HCI.out
 have bre : (re == 0) = false := by simp [hre]
 have bre' : (re != 0) = true := by simp [hre]
 generalize L[i] = xi at *
 have HW7 := Lib.hid hw7
 clear hO5 hO7 hC7 hset hw7 hL2 hlt2 HCI HCH hzn hi hre HCL hbwe hcm
 go_wp2_with (go_at_call 21; (with_reducible refine HDC.out.mono ?_); rintro e wf ⟨z2, rfl, hzc, hza, hbwf⟩)
 go_ret
 exact ⟨rfl, ba_alloc (ba_via hbwf HW7.out) _⟩
theorem changed_walk (x : Ck) (a y : Nat) (w : World) (hx : CkAt w w.heap.size x) (ha : a < 65536) (hy : y < 256) :
 Calls Tryz.prog 8 #[ckV x, .int .u16 a, .int .u8 y] w fun e w' => e = .returned (.bool true) ∧ Below w.heap.size w w' := by
 have hSX : ∀ W, Below w.heap.size w W → Calls Tryz.prog 15 #[ckV x] W fun e w' => e = .returned (.bool (S.smallC x.cl)) ∧ Below W.heap.size W w' := fun W hW => rsmall_any x w.heap.size W hW.size (hx.below hW)
 have hRF : ∀ W, Below w.heap.size w W → Calls Tryz.prog 20 #[ckV x] W fun e w' => e = .returned (.bool (S.formed x.cl)) ∧ Below W.heap.size W w' := fun W hW => rformed_any x w.heap.size W hW.size (hx.below hW)
 by_cases hs : S.smallC x.cl = false ∨ S.formed x.cl = false ∨ y = 0
 ·exact changed_off x a y _ _ w hy hs hSX hRF
 ·have hs2 : S.smallC x.cl = true ∧ S.formed x.cl = true ∧ y ≠ 0 := by simpa using hs
  rw [hs2.1] at hSX
  rw [hs2.2.1] at hRF
  exact changed_on x a y w hs2.2.1 hs2.1 ha hy hs2.2.2 hSX hRF (fun W hW => encode_yes x.L x.A x.n x.c x.first x.second x.square w.heap.size W hW.size (hx.below hW) hs2.2.1)
end Go.Proofs.YtnmolefblaahmaaGreat
