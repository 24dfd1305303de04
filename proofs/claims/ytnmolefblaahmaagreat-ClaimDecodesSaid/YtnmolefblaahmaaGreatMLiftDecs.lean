/- Lemmas. -/
import Derived.Test.YtnmolefblaahmaaGreatMRDec
import Derived.Test.YtnmolefblaahmaaGreatMAL
set_option linter.unusedVariables false
set_option linter.unusedSimpArgs false
namespace Go.Proofs.YtnmolefblaahmaaGreat
open Go.RowKit
set_option maxRecDepth 20000 in
set_option maxHeartbeats 3000000 in
theorem decodes_walk (l : List Nat) (A : Option Addr) (n c : Nat) (w : World) (hn : l.length = n) (hnc : n ≤ c) (hc : c ≤ maxLen) (hx : Cells w w.heap.size A (l.map bC)) (hl : ∀ x, x ∈ l → x < 256) :
    Calls Tryz.prog 6 #[.slice A n c] w fun e w' => e = .returned (.bool true) ∧ Below w.heap.size w w' := by
  have hc' : c ≤ 9223372036854775807 := by unfold maxLen at hc; omega
  have HA := Lib.hid (awake51_any w)
  have HD := Lib.hid (fun W (hw : Below w.heap.size w W) => decode_any l A n c w.heap.size W hn hnc hc' hl (hx.below hw) hw.size)
  have HR := Lib.hid (fun W (hw : Below w.heap.size w W) => rdecode_any l A n c w.heap.size W hn hnc hc' hl (hx.below hw) hw.size)
  have hn63 : n ≤ 9223372036854775807 := by omega
  clear hx hl hn hc hnc hc'
  have hc4 : (3000 < n ∧ n ≤ 1048576) ∨ (1048586 < n) ∨ (n ≤ 3000) ∨ (1048576 < n ∧ n ≤ 1048586) := by omega
  generalize S.dec l = r at *
  obtain ⟨cl, er⟩ := r
  have HS := Lib.hid (show S.same cl cl = true from (same_iff cl cl).2 rfl)
  have bee : (er == er) = true := by simp
  rcases hc4 with ⟨h1, h2⟩ | h1 | h1 | ⟨h1, h2⟩
  · have i1 : (3000 : Int) < n := by omega
    have i2 : (n : Int) ≤ 1048576 := by omega
    go_enter Tryz.func6, Tryz.ntmps6
    go_wp2_with (go_at_call 10; (with_reducible refine (HA.out).mono ?_); rintro e wa ⟨rfl, hbwa⟩)
    go_ret
    exact ⟨rfl, hbwa⟩
  · have i1 : (3000 : Int) < n := by omega
    have i2 : ¬ ((n : Int) ≤ 1048576) := by omega
    have i3 : (1048586 : Int) < n := by omega
    go_enter Tryz.func6, Tryz.ntmps6
    go_wp2_with (go_at_call 10; (with_reducible refine (HA.out).mono ?_); rintro e wa ⟨rfl, hbwa⟩)
    go_ret
    exact ⟨rfl, hbwa⟩
  · have i1 : ¬ ((3000 : Int) < n) := by omega
    have i3 : ¬ ((1048586 : Int) < n) := by omega
    go_enter Tryz.func6, Tryz.ntmps6
    go_upto_region 6 with (first
      | (go_at_call 10; (with_reducible refine (HA.out).mono ?_); rintro e wa ⟨rfl, hbwa⟩)
      | (go_at_call 21; (with_reducible refine (HD.out _ hbwa).mono ?_); rintro e wb ⟨x, rfl, hxc, hxa, hbb⟩))
    have hX := Blk.new wb 39 #[.slice x.A x.n x.c, .int .i64 x.first, .int .i64 x.second, .int .i64 x.square]
    have hwb : Below w.heap.size w wb := ba_via hbb hbwa
    have hb1 : Below wb.heap.size wb (wb.alloc (.cells #[.slice x.A x.n x.c, .int .i64 x.first, .int .i64 x.second, .int .i64 x.square] 39)) := ba_alloc (Below.refl _ _) _
    generalize (wb.alloc (.cells #[.slice x.A x.n x.c, .int .i64 x.first, .int .i64 x.second, .int .i64 x.square] 39)) = w1 at *
    have hw1 : Below w.heap.size w w1 := hwb.trans (hb1.mono hwb.size)
    have HX := Lib.hid hX
    have HXA := Lib.hid (show CkAt w1 wb.heap.size x from hxa.below hb1)
    have HXC := Lib.hid hxc
    have hs1 := hb1.size
    generalize wb.heap.size = g1 at *
    clear hX hbb hxa hb1 hwb hxc
    go_upto_region 7 with (go_at_call 24; (with_reducible refine (HR.out _ hw1).mono ?_); rintro e wc ⟨y, rfl, hyc, hya, hbc⟩)
    have hY := Blk.new wc 39 #[.slice y.A y.n y.c, .int .i64 y.first, .int .i64 y.second, .int .i64 y.square]
    have hb2 : Below wc.heap.size wc (wc.alloc (.cells #[.slice y.A y.n y.c, .int .i64 y.first, .int .i64 y.second, .int .i64 y.square] 39)) := ba_alloc (Below.refl _ _) _
    have hb12 : Below w1.heap.size w1 (wc.alloc (.cells #[.slice y.A y.n y.c, .int .i64 y.first, .int .i64 y.second, .int .i64 y.square] 39)) := ba_alloc hbc _
    generalize (wc.alloc (.cells #[.slice y.A y.n y.c, .int .i64 y.first, .int .i64 y.second, .int .i64 y.square] 39)) = w2 at *
    have hw2 : Below w.heap.size w w2 := hw1.trans (hb12.mono hw1.size)
    have HY := Lib.hid hY
    have hyb := hya.below hb2
    have hsc := hbc.size
    have HX2 := Lib.hid (HX.out.via hb12)
    have hxb := HXA.out.below (hb12.mono hs1)
    have hxb2 : CkAt w2 wc.heap.size x := ⟨hxb.len, hxb.max, hxb.cells.mono (by omega), fun r hr => ⟨(hxb.each r hr).len, (hxb.each r hr).max, (hxb.each r hr).cells.mono (by omega)⟩⟩
    have HSM := Lib.hid (show Calls Tryz.prog 14 #[.agg #[.slice x.A x.n x.c, .int .i64 x.first, .int .i64 x.second, .int .i64 x.square], .agg #[.slice y.A y.n y.c, .int .i64 y.first, .int .i64 y.second, .int .i64 y.square]] w2 (fun e w' => e = .returned (.bool true) ∧ Below w2.heap.size w2 w') from by
      have := rsame_any x y wc.heap.size w2 hb2.size hxb2 hyb
      rw [HXC.out, hyc, HS.out] at this
      exact this)
    clear hY hbc hya hb2 hb12 hyc hyb hxb hxb2 HX HXA hsc
    go_wp2_with (first
      | ((with_reducible refine at_load 39 3 ?_); refine wpList_load_mid rfl 39 (.tmp 3) rfl _ _ rfl _ _ (HX2.out.via (by repeat (with_reducible first | exact Below.refl _ _ | assumption | refine ba_alloc ?_ _ | refine ba_drew ?_ | refine ba_drewN ?_ _ | refine ba_via (by assumption) ?_ | (refine ba_set ?_ ?_ _; rotate_left; (first | omega | (simp; omega) | simp))))).range Tryz.underlying39 rfl (by kernel_rfl) ?_)
      | ((with_reducible refine at_load 39 5 ?_); refine wpList_load_mid rfl 39 (.tmp 5) rfl _ _ rfl _ _ (HY.out.via (by repeat (with_reducible first | exact Below.refl _ _ | assumption | refine ba_alloc ?_ _ | refine ba_drew ?_ | refine ba_drewN ?_ _ | refine ba_via (by assumption) ?_ | (refine ba_set ?_ ?_ _; rotate_left; (first | omega | (simp; omega) | simp))))).range Tryz.underlying39 rfl (by kernel_rfl) ?_)
      | (go_at_call 14; (with_reducible refine (HSM.out).mono ?_); rintro e wd ⟨rfl, hbwd⟩))
    go_ret
    exact ⟨rfl, ba_via hbwd hw2⟩
  · have i1 : (3000 : Int) < n := by omega
    have i2 : ¬ ((n : Int) ≤ 1048576) := by omega
    have i3 : ¬ ((1048586 : Int) < n) := by omega
    go_enter Tryz.func6, Tryz.ntmps6
    go_upto_region 6 with (first
      | (go_at_call 10; (with_reducible refine (HA.out).mono ?_); rintro e wa ⟨rfl, hbwa⟩)
      | (go_at_call 21; (with_reducible refine (HD.out _ hbwa).mono ?_); rintro e wb ⟨x, rfl, hxc, hxa, hbb⟩))
    have hX := Blk.new wb 39 #[.slice x.A x.n x.c, .int .i64 x.first, .int .i64 x.second, .int .i64 x.square]
    have hwb : Below w.heap.size w wb := ba_via hbb hbwa
    have hb1 : Below wb.heap.size wb (wb.alloc (.cells #[.slice x.A x.n x.c, .int .i64 x.first, .int .i64 x.second, .int .i64 x.square] 39)) := ba_alloc (Below.refl _ _) _
    generalize (wb.alloc (.cells #[.slice x.A x.n x.c, .int .i64 x.first, .int .i64 x.second, .int .i64 x.square] 39)) = w1 at *
    have hw1 : Below w.heap.size w w1 := hwb.trans (hb1.mono hwb.size)
    have HX := Lib.hid hX
    have HXA := Lib.hid (show CkAt w1 wb.heap.size x from hxa.below hb1)
    have HXC := Lib.hid hxc
    have hs1 := hb1.size
    generalize wb.heap.size = g1 at *
    clear hX hbb hxa hb1 hwb hxc
    go_upto_region 7 with (go_at_call 24; (with_reducible refine (HR.out _ hw1).mono ?_); rintro e wc ⟨y, rfl, hyc, hya, hbc⟩)
    have hY := Blk.new wc 39 #[.slice y.A y.n y.c, .int .i64 y.first, .int .i64 y.second, .int .i64 y.square]
    have hb2 : Below wc.heap.size wc (wc.alloc (.cells #[.slice y.A y.n y.c, .int .i64 y.first, .int .i64 y.second, .int .i64 y.square] 39)) := ba_alloc (Below.refl _ _) _
    have hb12 : Below w1.heap.size w1 (wc.alloc (.cells #[.slice y.A y.n y.c, .int .i64 y.first, .int .i64 y.second, .int .i64 y.square] 39)) := ba_alloc hbc _
    generalize (wc.alloc (.cells #[.slice y.A y.n y.c, .int .i64 y.first, .int .i64 y.second, .int .i64 y.square] 39)) = w2 at *
    have hw2 : Below w.heap.size w w2 := hw1.trans (hb12.mono hw1.size)
    have HY := Lib.hid hY
    have hyb := hya.below hb2
    have hsc := hbc.size
    have HX2 := Lib.hid (HX.out.via hb12)
    have hxb := HXA.out.below (hb12.mono hs1)
    have hxb2 : CkAt w2 wc.heap.size x := ⟨hxb.len, hxb.max, hxb.cells.mono (by omega), fun r hr => ⟨(hxb.each r hr).len, (hxb.each r hr).max, (hxb.each r hr).cells.mono (by omega)⟩⟩
    have HSM := Lib.hid (show Calls Tryz.prog 14 #[.agg #[.slice x.A x.n x.c, .int .i64 x.first, .int .i64 x.second, .int .i64 x.square], .agg #[.slice y.A y.n y.c, .int .i64 y.first, .int .i64 y.second, .int .i64 y.square]] w2 (fun e w' => e = .returned (.bool true) ∧ Below w2.heap.size w2 w') from by
      have := rsame_any x y wc.heap.size w2 hb2.size hxb2 hyb
      rw [HXC.out, hyc, HS.out] at this
      exact this)
    clear hY hbc hya hb2 hb12 hyc hyb hxb hxb2 HX HXA hsc
    go_wp2_with (first
      | ((with_reducible refine at_load 39 3 ?_); refine wpList_load_mid rfl 39 (.tmp 3) rfl _ _ rfl _ _ (HX2.out.via (by repeat (with_reducible first | exact Below.refl _ _ | assumption | refine ba_alloc ?_ _ | refine ba_drew ?_ | refine ba_drewN ?_ _ | refine ba_via (by assumption) ?_ | (refine ba_set ?_ ?_ _; rotate_left; (first | omega | (simp; omega) | simp))))).range Tryz.underlying39 rfl (by kernel_rfl) ?_)
      | ((with_reducible refine at_load 39 5 ?_); refine wpList_load_mid rfl 39 (.tmp 5) rfl _ _ rfl _ _ (HY.out.via (by repeat (with_reducible first | exact Below.refl _ _ | assumption | refine ba_alloc ?_ _ | refine ba_drew ?_ | refine ba_drewN ?_ _ | refine ba_via (by assumption) ?_ | (refine ba_set ?_ ?_ _; rotate_left; (first | omega | (simp; omega) | simp))))).range Tryz.underlying39 rfl (by kernel_rfl) ?_)
      | (go_at_call 14; (with_reducible refine (HSM.out).mono ?_); rintro e wd ⟨rfl, hbwd⟩))
    go_ret
    exact ⟨rfl, ba_via hbwd hw2⟩
end Go.Proofs.YtnmolefblaahmaaGreat

set_option linter.unusedVariables false
set_option linter.unusedSimpArgs false
namespace Go.Proofs.YtnmolefblaahmaaGreat
open Go.ChangeShapes Go.WideShapes Go.ChangeAt Go.RowKit
theorem laidOut_claimDecodes : laidOutB Tryz.prog = true := by kernel_rfl
set_option maxRecDepth 100000 in
theorem claimDecodes_lifted (os : Os) (started : os.Started) (H : Type) (enc : TypeId × Value → H) :
    ReturnsInHanded {} Tryz.checked os 6 .any (Rows.claimDecodesSpec.pre6 enc Tryz.prog Tryz.f6 Rows.claimDecodesRow.domain false) (Rows.claimDecodesSpec.post enc Tryz.prog Tryz.f6 false true false false) := by
  refine returnsInHanded_of_change (C := Tryz.checked) own started (by kernel_rfl) Tryz.func6
    (ChangeSpec.witness6 (enc := enc) (C := Tryz.checked) false ⟨#[], #[.slice none 0 0], []⟩ 8 (by kernel_rfl) (by kernel_rfl) (by kernel_rfl) (by kernel_rfl)) ?_
  intro W base args ds gs before hval0 hW hcnd _
  have hval : ∀ (j : Nat) t v, Tryz.f6.params[j]? = some t → args[j]? = some v → Value.okWide Tryz.prog W .any base t v := hval0
  have hW' := hW
  obtain ⟨p, q, hA0, hV, rfl, hfz, hnd⟩ := hW
  have hA : DataW.TrodAll enc Tryz.prog W 0 (fun _ => true) true Tryz.f6.params.toList args.toList ds p := hA0
  rw [Tryz.params6] at hA hval
  obtain ⟨v0, vs0, d0, ds0, p0, q0, hargs, rfl, rfl, h0, r0⟩ := trodAll_cons hA
  obtain ⟨rfl, rfl, rfl⟩ := trodAll_nil r0
  obtain rfl : args = #[v0] := by cases args; simp_all
  obtain ⟨rfl, rfl⟩ := trodVars_none hV
  have k0 := h0
  have lt0 : ∀ x ∈ p0, x.block < W.heap.size := by obtain ⟨m, hm⟩ := k0; exact DataW.trod_lt m _ _ _ hm
  have o0 := hval 0 52 v0 rfl rfl
  clear hA0 hval0 hval
  obtain ⟨A, n, c, rfl⟩ := okWide_slice Tryz.underlying52 o0
  obtain ⟨l, hl, hnc, hcm, hcs, hlt⟩ := arg_bytes h0
  refine (decodes_walk l A n c W hl hnc hcm hcs hlt).mono fun e W' ⟨he, bel⟩ => ?_
  subst he
  exact ⟨_, rfl, _, _, _, [], _, [], hW', trodAll_mk1 (shut_bool Tryz.underlying4 _), (trodAll_cons_mk (Below.trod laidOut_claimDecodes (by kernel_rfl) (of_decide_eq_true (by kernel_rfl)) k0 bel lt0) trodAll_mk0), rfl, bel.frame _, fun h => by cases h⟩

end Go.Proofs.YtnmolefblaahmaaGreat
