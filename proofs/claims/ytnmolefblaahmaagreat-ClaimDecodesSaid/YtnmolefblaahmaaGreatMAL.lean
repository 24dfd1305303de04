/- Contract: stirruplaw51.awake: the example of the chapter holds. -/
import Derived.Test.YtnmolefblaahmaaGreatMAE
import Derived.Test.YtnmolefblaahmaaGreatMAH
import Derived.Test.YtnmolefblaahmaaGreatMAK
set_option linter.unusedVariables false
set_option linter.unusedSimpArgs false
namespace Go.Proofs.YtnmolefblaahmaaGreat
open Go.RowKit
def ex5B : List Nat := S.enc exK5.cl
theorem ex5B_len : ex5B.length = 19 := by kernel_rfl
theorem ex5B_lt : ∀ x, x ∈ ex5B → x < 256 := by decide +kernel
theorem ex5B_take : ex5B.take 7 = [67, 83, 0, 255, 255, 255, 255] := by kernel_rfl
abbrev exC5 : Array Value := #[.slice none 0 0, .int .i64 (-1), .int .i64 (-1), .int .i64 (-1)]
theorem ex5_Encode (W : World) : Calls Tryz.prog 18 #[.agg exC5] W fun e w' => ∃ (A : Option Addr) (c : Nat), e = .returned (.tuple #[.slice A 19 c, .int .i64 0]) ∧ w'.ownsRow W.heap.size 5 1 (.slice A 19 c) 19 (ex5B.map bC) ∧ Below W.heap.size W w' := by
 refine (encode_yes [] none 0 0 (-1) (-1) (-1) W.heap.size W (Nat.le_refl _) (exK5_at W _) exK5_formed).mono ?_
 rintro e w' ⟨A, c, h1, h2, h3⟩
 have e19 : (S.enc (Cl.mk (([] : List Sk).map (·.l)) (-1) (-1) (-1))).length = 19 := ex5B_len
 rw [e19] at h1 h2
 exact ⟨A, c, h1, h2, h3⟩
theorem ex5_Decode (A : Option Addr) (c B : Nat) (W : World) (hc : 19 ≤ c ∧ c ≤ 9223372036854775807) (hx : Cells W B A (ex5B.map bC)) (hB : B ≤ W.heap.size) :
 Calls Tryz.prog 21 #[.slice A 19 c] W fun e w' => ∃ x : Ck, e = .returned (.tuple #[ckV x, .int .i64 0]) ∧ x.cl = exK5.cl ∧ CkAt w' w'.heap.size x ∧ Below W.heap.size W w' := by
 have hd : S.dec ex5B = (exK5.cl, 0) := dec_enc exK5_formed
 refine (decode_any ex5B A 19 c B W ex5B_len hc.1 hc.2 ex5B_lt hx hB).mono ?_
 rintro e w' ⟨x, h1, h2, h3, h4⟩
 rw [hd] at h1 h2
 exact ⟨x, h1, h2, h3, h4⟩
set_option maxRecDepth 20000 in
set_option maxHeartbeats 4000000 in
theorem awake51_any (w : World) : Calls Tryz.prog 10 #[] w fun e w' => e = .returned (.bool true) ∧ Below w.heap.size w w' := by
 have HEX := Lib.hid (fun w => example51_any w)
 have HEN := Lib.hid (fun w => ex5_Encode w)
 have hmx : maxLen = 9223372036854775807 := by unfold maxLen; decide
 have HMX := Lib.hid hmx
 clear hmx
 go_enter Tryz.func10, Tryz.ntmps10
 go_upto_region 2 with (first
  | (go_at_call 36; (with_reducible refine (HEX.out _).mono ?_); rintro e w1 ⟨gx1, rfl, hE1, hb1⟩)
  | (go_at_call 12; (with_reducible refine (ex5_Make hE1 _ (Below.refl _ _)).mono ?_); rintro e w2 ⟨rfl, hb2⟩))
 have hK := Blk.new w2 39 exC5
 have hW3 : Below w.heap.size w (w2.alloc (.cells exC5 39)) := ba_alloc (ba_via hb2 hb1) _
 generalize (w2.alloc (.cells exC5 39)) = w3 at *
 generalize w2.heap.size = g1 at *
 have HK3 := Lib.hid hK
 clear hK hE1 hb1 hb2
 go_upto_region 3 with (first
  | ((with_reducible refine at_load 39 1 ?_); refine wpList_load_mid rfl 39 (.tmp 1) rfl _ _ rfl _ _ (HK3.out.via belr).range Tryz.underlying39 rfl (by kernel_rfl) ?_)
  | (go_at_call 18; (with_reducible refine (HEN.out _).mono ?_); rintro e w4 ⟨A4, c4, rfl, hO4, hb4⟩))
 obtain ⟨A, c, hv, hc19, hcm, hC4⟩ := own_form hO4 (by unfold maxLen; omega)
 injection hv with hv1 _ hv3
 subst hv1 hv3
 have hw4 : Below w.heap.size w w4 := ba_via hb4 hW3
 have HK4 := Lib.hid (HK3.out.via hb4)
 have HC4 := Lib.hid hC4
 have hcm' : c4 ≤ 9223372036854775807 := by have := HMX.out; omega
 have HDE := Lib.hid (ex5_Decode A4 c4 w4.heap.size w4 ⟨hc19, hcm'⟩ hC4 (Nat.le_refl _))
 clear HK3 hb4 hO4 hC4 hW3 hcm
 go_upto_region 4 with (go_at_call 21; (with_reducible refine HDE.out.mono ?_); rintro e w5 ⟨x, rfl, hxc, hxa, hb5⟩)
 have hX6 := Blk.new w5 39 #[.slice x.A x.n x.c, .int .i64 x.first, .int .i64 x.second, .int .i64 x.square]
 have hb56 : Below w5.heap.size w5 (w5.alloc (.cells #[.slice x.A x.n x.c, .int .i64 x.first, .int .i64 x.second, .int .i64 x.square] 39)) := ba_alloc (Below.refl _ _) _
 have hb46 : Below w4.heap.size w4 (w5.alloc (.cells #[.slice x.A x.n x.c, .int .i64 x.first, .int .i64 x.second, .int .i64 x.square] 39)) := ba_alloc hb5 _
 generalize (w5.alloc (.cells #[.slice x.A x.n x.c, .int .i64 x.first, .int .i64 x.second, .int .i64 x.square] 39)) = w6 at *
 have hw6 : Below w.heap.size w w6 := ba_via hb46 hw4
 have HK6 := Lib.hid (HK4.out.via hb46)
 have HC6 := Lib.hid ((HC4.out.below hb46).mono hb46.size)
 have HXA6 := Lib.hid (show CkAt w6 w5.heap.size x from hxa.below hb56)
 have hs56 := hb56.size
 have HX6 := Lib.hid hX6
 have HXC := Lib.hid hxc
 generalize w5.heap.size = g5 at *
 clear hX6 hb56 hb46 hxa hb5 HK4 HC4 HDE hw4 hxc
 go_upto_region 4 with fail
 refine wp_region_mix 4 [0, 1] (by kernel_rfl) (by kernel_rfl) (of_decide_eq_true (by kernel_rfl)) ?_
 try simp only [wpSegs, List.take_succ_cons, List.take_zero, List.drop_succ_cons, List.drop_zero, List.take_nil, List.drop_nil]
 repeat (go_big_quiet_step (fail))
 refine wpQuiet_nil ?_
 show wpList _ _ _ _ _ _
 go_wp2_with ((go_at_call 36; (with_reducible refine (HEX.out _).mono ?_); rintro e w7 ⟨gx7, rfl, hE7, hb7⟩))
 refine seg_next (grow_to belr) ?_
 try simp only [wpSegs, List.take_succ_cons, List.take_zero, List.drop_succ_cons, List.drop_zero, List.take_nil, List.drop_nil]
 repeat (first | (refine quietLoad (by rfl) 39 (.tmp 1) rfl _ _ rfl _ _ (quietBy fun W hw => (HK6.out.via hw).range) Tryz.underlying39 rfl (by kernel_rfl) ?_; intro aQ hQ; simp only [go_sem, List.setIfInBounds_toArray, List.set_cons_succ, List.set_cons_zero] at hQ; subst hQ) | go_big_quiet_step (fail))
 refine wpQuiet_nil ?_
 show wpList _ _ _ _ _ _
 go_wp2_with ((go_at_call 16; (with_reducible refine (ex5_Check hE7 _ (Below.refl _ _)).mono ?_); rintro e w8 ⟨rfl, hb8⟩))
 refine seg_next (grow_to belr) ?_
 try simp only [wpSegs, List.take_succ_cons, List.take_zero, List.drop_succ_cons, List.drop_zero, List.take_nil, List.drop_nil]
 repeat (go_big_quiet_step (fail))
 refine wpQuiet_nil ?_
 show wpList _ _ _ _ _ _
 have h68 : Below w6.heap.size w6 w8 := belr
 have hw8 : Below w.heap.size w w8 := ba_via h68 hw6
 have HK8 := Lib.hid (HK6.out.via h68)
 have HX8 := Lib.hid (HX6.out.via h68)
 have hk8 := HK8.out
 have d1 := hk8.cell 1
 have d2 := hk8.cell 2
 have d3 := hk8.cell 3
 have dl := hk8.lt
 simp only [List.getElem?_toArray, List.getElem?_cons_zero, List.getElem?_cons_succ] at d1 d2 d3
 have hc8 := (HC6.out.below h68).mono h68.size
 have hxa8 := HXA6.out.below (h68.mono hs56)
 have HSM := Lib.hid (show ∀ W, Below w8.heap.size w8 W → Calls Tryz.prog 19 #[.agg exC5, .agg #[.slice x.A x.n x.c, .int .i64 x.first, .int .i64 x.second, .int .i64 x.square]] W (fun e w' => e = .returned (.bool true) ∧ Below W.heap.size W w') from fun W hW => by
  have hsw : g5 ≤ w8.heap.size := Nat.le_trans hs56 h68.size
  have := same_any exK5 x g5 W (Nat.le_trans hsw hW.size) (exK5_at W _) (hxa8.below (hW.mono hsw))
  rw [HXC.out, (same_iff exK5.cl exK5.cl).2 rfl] at this
  exact this)
 have HPX := Lib.hid (show Calls Tryz.prog 37 #[.slice A4 19 c4, .slice (some ⟨w8.heap.size, 0, none⟩) 7 7] (w8.alloc (.cells #[.int .u8 67, .int .u8 83, .int .u8 0, .int .u8 255, .int .u8 255, .int .u8 255, .int .u8 255] 5)) (fun e w' => e = .returned (.bool true) ∧ (w8.alloc (.cells #[.int .u8 67, .int .u8 83, .int .u8 0, .int .u8 255, .int .u8 255, .int .u8 255, .int .u8 255] 5)) = w') from
  prefix_yes ex5B [67, 83, 0, 255, 255, 255, 255] A4 _ 19 7 c4 7 _ _ ex5B_len rfl (by decide) (by decide) hc19 (by decide) ex5B_lt (by decide) ((hc8.alloc (Nat.le_refl _) _).mono (by simp)) (Blk.new w8 5 #[.int .u8 67, .int .u8 83, .int .u8 0, .int .u8 255, .int .u8 255, .int .u8 255, .int .u8 255]).cells ex5B_take)
 clear hk8 hc8 hxa8 hE7 HK6 HX6 HC6 HXA6 HEX HEN HXC
 go_wp2_with (first
  | ((with_reducible refine at_loadg 39 1 ?_); refine wpList_load_gdF (by rfl) 39 (.tmp 1) rfl _ _ rfl _ _ (HK8.out.via belr).range Tryz.underlying39 rfl (by kernel_rfl) ?_)
  | ((with_reducible refine at_loadg 39 5 ?_); refine wpList_load_gdF (by rfl) 39 (.tmp 5) rfl _ _ rfl _ _ (HX8.out.via belr).range Tryz.underlying39 rfl (by kernel_rfl) ?_)
  | (go_at_call 37; (with_reducible refine HPX.out.mono ?_); rintro e w' ⟨rfl, rfl⟩)
  | (go_at_call 19; (with_reducible refine (HSM.out _ belr).mono ?_); rintro e w9 ⟨rfl, hb9⟩))
 go_ret
 exact ⟨rfl, ba_via hb9 (ba_alloc hw8 _)⟩
end Go.Proofs.YtnmolefblaahmaaGreat
