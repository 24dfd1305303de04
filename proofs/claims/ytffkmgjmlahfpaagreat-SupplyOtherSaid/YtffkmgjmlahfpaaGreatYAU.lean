/- Contract of the reference for layer 26: At. PRINTED by tools/gen_r26c.py. The example of the law of layer 26: stirruplaw26.example. -/
import Derived.Test.YtffkmgjmlahfpaaGreatYAQ
import Derived.Test.YtffkmgjmlahfpaaGreatYAE
import Derived.Test.YtffkmgjmlahfpaaGreatYY
import Derived.Test.YtffkmgjmlahfpaaGreatYAA
import Derived.Test.YtffkmgjmlahfpaaGreatYAC
import Derived.Test.YtffkmgjmlahfpaaGreatYN
import Derived.Test.YtffkmgjmlahfpaaGreatYAN
set_option linter.unusedVariables false
set_option linter.unusedSimpArgs false
namespace Go.Proofs.YtffkmgjmlahfpaaGreat
open Go.RowKit
structure ChSays (x : Dt) (C : List (List Int)) (k : Nat) (sp : List Int → Int × Int × Bool) (su : List Int → Bool) (ar : List Int → Int) (w : World) : Prop where
  anch : ∀ l, l ∈ C → ∀ (A : Option Addr) (c : Nat) (W : World), Below w.heap.size w W → Cells W W.heap.size A (i64s l) → Calls Tryz.prog 44 #[dtV x, .slice A l.length c] W fun e w' => e = .returned (.tuple #[.agg #[.int .i64 (sp l).1, .int .i64 (sp l).2.1], .bool (sp l).2.2]) ∧ Below W.heap.size W w'
  sups : ∀ l, l ∈ C → ∀ (A : Option Addr) (c : Nat) (W : World), Below w.heap.size w W → Cells W W.heap.size A (i64s l) → Calls Tryz.prog 91 #[dtV x, .slice A l.length c, .int .i64 k] W fun e w' => e = .returned (.bool (su l)) ∧ Below W.heap.size W w'
  area : ∀ l, l ∈ C → ∀ (A : Option Addr) (c : Nat) (W : World), Below w.heap.size w W → Cells W W.heap.size A (i64s l) → Calls Tryz.prog 45 #[dtV x, .slice A l.length c] W fun e w' => e = .returned (.int .i64 (ar l)) ∧ Below W.heap.size W w'
  bd : ∀ l, l ∈ C → 0 ≤ ar l ∧ ar l ≤ 1000000
  len : C.length ≤ 2000
set_option maxRecDepth 20000 in
theorem exat_any (x y z : Int) (w : World) : Calls Tryz.prog 136 #[.int .i64 x, .int .i64 y, .int .i64 z] w fun e w' => e = .returned (.agg #[.int .i64 x, .int .i64 y, .int .i64 z]) ∧ Below w.heap.size w w' := by
  go_enter Tryz.func136, Tryz.ntmps136
  go_wp2
  exact bodyPost_ret (v := .agg #[.int .i64 x, .int .i64 y, .int .i64 z]) (by simp [results, Tryz.results136, go_sem, *]) rfl ⟨rfl, bel⟩
abbrev strA : ByteArray := ⟨#[97]⟩
abbrev strM : ByteArray := ⟨#[109]⟩
abbrev strD : ByteArray := ⟨#[100]⟩
abbrev box2 : Array Value := #[.int .i64 0, .int .i64 0, .int .i64 0, .int .i64 1000, .int .i64 200, .int .i64 300]
abbrev barArr2 (g : Nat) : Array Value := #[.string strA, .int .i64 10, .int .i64 1, .int .i64 0, .slice (some ⟨g, 0, none⟩) 1 1]
abbrev runArr2 : Array Value := #[.string strA, .int .i64 1, .int .i64 2, .int .i64 0, .int .i64 50, .int .i64 50, .int .i64 0, .int .i64 0, .int .i64 0, .int .i64 1]
abbrev demArr2 : Array Value := #[.string strD, .int .i64 0, .int .i64 0, .int .i64 0, .int .i64 0, .int .i64 200, .int .i64 100, .slice none 0 0]
abbrev exL2 (gx gb gr gd : Nat) : List Value := [.string strM, .slice (some ⟨gx, 0, none⟩) 1 1, .slice none 0 0, .int .i64 0, .int .i64 16, .int .i64 50, .slice (some ⟨gb, 0, none⟩) 1 1, .slice (some ⟨gr, 0, none⟩) 1 1, .slice none 0 0, .slice (some ⟨gd, 0, none⟩) 1 1,
  .int .i64 40, .int .i64 1, .int .i64 1, .int .i64 1, .int .i64 1, .int .i64 1, .int .i64 1, .int .i64 1, .int .i64 0]
structure ExBlks2 (w : World) (b gx g gb gr gd : Nat) : Prop where
  nx : gx ≠ b
  n0 : g ≠ b
  n1 : gb ≠ b
  n2 : gr ≠ b
  n3 : gd ≠ b
  box : Blk w gx 89 box2
  dims : Blk w g 3 #[.int .i64 1000]
  bar : Blk w gb 158 (barArr2 g)
  run : Blk w gr 183 runArr2
  dem : Blk w gd 103 demArr2
theorem ba_exc {w W W' : World} (h : Below w.heap.size w W) (hX : Exc [w.heap.size] W W') : Below w.heap.size w W' :=
  ⟨hX.os.trans h.os, hX.tape.trans h.tape, hX.output.trans h.output, Nat.le_trans h.size hX.size, fun k hk => (hX.block k (Nat.lt_of_lt_of_le hk h.size) (by simp; omega)).trans (h.block k hk)⟩
set_option maxRecDepth 20000 in
set_option maxHeartbeats 800000 in
theorem example26_any (w : World) : Calls Tryz.prog 80 #[] w fun e w' => ∃ gx g gb gr gd, e = .returned (.agg (exL2 gx gb gr gd).toArray) ∧ ExBlks2 w' w.heap.size gx g gb gr gd ∧ Below w.heap.size w w' := by
  go_enter Tryz.func80, Tryz.ntmps80
  go_upto_region 1 with fail
  have hD0 : Blk (w.alloc (.cells #[.string ⟨#[]⟩, .slice none 0 0, .slice none 0 0, .int .i64 0, .int .i64 0, .int .i64 0, .slice none 0 0, .slice none 0 0, .slice none 0 0, .slice none 0 0, .int .i64 0, .int .i64 0, .int .i64 0, .int .i64 0, .int .i64 0, .int .i64 0, .int .i64 0, .int .i64 0, .int .i64 0] 34)) w.heap.size 34 #[.string ⟨#[]⟩, .slice none 0 0, .slice none 0 0, .int .i64 0, .int .i64 0, .int .i64 0, .slice none 0 0, .slice none 0 0, .slice none 0 0, .slice none 0 0, .int .i64 0, .int .i64 0, .int .i64 0, .int .i64 0, .int .i64 0, .int .i64 0, .int .i64 0, .int .i64 0, .int .i64 0] := Blk.new _ _ _
  have hb3 : Below w.heap.size w (w.alloc (.cells #[.string ⟨#[]⟩, .slice none 0 0, .slice none 0 0, .int .i64 0, .int .i64 0, .int .i64 0, .slice none 0 0, .slice none 0 0, .slice none 0 0, .slice none 0 0, .int .i64 0, .int .i64 0, .int .i64 0, .int .i64 0, .int .i64 0, .int .i64 0, .int .i64 0, .int .i64 0, .int .i64 0] 34)) := ba_alloc (Below.refl _ _) _
  generalize (w.alloc (.cells #[.string ⟨#[]⟩, .slice none 0 0, .slice none 0 0, .int .i64 0, .int .i64 0, .int .i64 0, .slice none 0 0, .slice none 0 0, .slice none 0 0, .slice none 0 0, .int .i64 0, .int .i64 0, .int .i64 0, .int .i64 0, .int .i64 0, .int .i64 0, .int .i64 0, .int .i64 0, .int .i64 0] 34)) = W0 at *
  go_wp2_with (first
    | (go_at_call 136; (with_reducible refine (exat_any 1000 200 300 _).mono ?_); rintro e w1 ⟨rfl, hbw1⟩)
    | (go_at_call 136; (with_reducible refine (exat_any 0 50 50 _).mono ?_); rintro e w2 ⟨rfl, hbw2⟩)
    | (go_at_call 136; (with_reducible refine (exat_any 0 200 100 _).mono ?_); rintro e w3 ⟨rfl, hbw3⟩)
    | (with_reducible refine at_store 34 0 18 ?_
       go_loud (
       have hDz : Blk (w3.alloc (.cells demArr2 103)) w.heap.size 34 #[.string ⟨#[]⟩, .slice none 0 0, .slice none 0 0, .int .i64 0, .int .i64 0, .int .i64 0, .slice none 0 0, .slice none 0 0, .slice none 0 0, .slice none 0 0, .int .i64 0, .int .i64 0, .int .i64 0, .int .i64 0, .int .i64 0, .int .i64 0, .int .i64 0, .int .i64 0, .int .i64 0] := ((((((((hD0.via hbw1).alloc _).alloc _).alloc _).via hbw2).alloc _).via hbw3).alloc _)
       have e1 := hbw1.size
       have hk2 : w1.heap.size + 1 + 1 + 1 ≤ w2.heap.size := by have := hbw2.size; simp at this; omega
       have hk3 : w2.heap.size + 1 ≤ w3.heap.size := by have := hbw3.size; simp at this; omega
       have hgb : w.heap.size < w1.heap.size := (hD0.via hbw1).lt
       have hBox : Blk (w3.alloc (.cells demArr2 103)) w1.heap.size 89 box2 := (((((((Blk.new w1 _ _).alloc _).alloc _).via hbw2).alloc _).via hbw3).alloc _)
       have hDim : Blk (w3.alloc (.cells demArr2 103)) (w1.heap.size + 1) 3 #[.int .i64 1000] := ((((((Blk.newN (n := w1.heap.size + 1) (by simp) _ _).alloc _).via hbw2).alloc _).via hbw3).alloc _)
       have hBar : Blk (w3.alloc (.cells demArr2 103)) (w1.heap.size + 1 + 1) 158 (barArr2 (w1.heap.size + 1)) := (((((Blk.newN (n := w1.heap.size + 1 + 1) (by simp) _ _).via hbw2).alloc _).via hbw3).alloc _)
       have hRun : Blk (w3.alloc (.cells demArr2 103)) w2.heap.size 183 runArr2 := (((Blk.new w2 _ _).via hbw3).alloc _)
       have hDem : Blk (w3.alloc (.cells demArr2 103)) w3.heap.size 103 demArr2 := Blk.new w3 _ _
       have hbel : Below w.heap.size w (w3.alloc (.cells demArr2 103)) := belr
       clear hbw1 hbw2 hbw3 hD0 hb3
       generalize (w3.alloc (.cells demArr2 103)) = WD at *
       have hPut : Blk (WD.setCells w.heap.size 0 (exL2 w1.heap.size (w1.heap.size + 1 + 1) w2.heap.size w3.heap.size).toArray.toList) w.heap.size 34 (exL2 w1.heap.size (w1.heap.size + 1 + 1) w2.heap.size w3.heap.size).toArray := Blk.put0 hDz (exL2 w1.heap.size (w1.heap.size + 1 + 1) w2.heap.size w3.heap.size).toArray rfl
       have hXs : Exc [w.heap.size] WD (WD.setCells w.heap.size 0 (exL2 w1.heap.size (w1.heap.size + 1 + 1) w2.heap.size w3.heap.size).toArray.toList) := exc_setCells _ _ _ _
       have hTh : WD.there w.heap.size 0 (exL2 w1.heap.size (w1.heap.size + 1 + 1) w2.heap.size w3.heap.size).toArray.size := hDz.there (by simp)
       refine wpList_store_mid rfl 34 (.tmp 0) (.tmp 18) rfl w.heap.size 0 (exL2 w1.heap.size (w1.heap.size + 1 + 1) w2.heap.size w3.heap.size).toArray rfl rfl hTh (by kernel_rfl) (all_oneCell_toArray (by simp [Value.oneCell'])) ?_
       generalize (WD.setCells w.heap.size 0 (exL2 w1.heap.size (w1.heap.size + 1 + 1) w2.heap.size w3.heap.size).toArray.toList) = WF at *)))
  have hbF : Below w.heap.size w WF := ba_exc hbel hXs
  refine bodyPost_ret (v := .agg (exL2 w1.heap.size (w1.heap.size + 1 + 1) w2.heap.size w3.heap.size).toArray) ?_ rfl ⟨_, w1.heap.size + 1, _, _, _, rfl, ⟨by omega, by omega, by omega, by omega, by omega, hBox.exc hXs (by simp; omega), hDim.exc hXs (by simp; omega), hBar.exc hXs (by simp; omega), hRun.exc hXs (by simp; omega), hDem.exc hXs (by simp; omega)⟩, hbF⟩
  have hres : (loadVar 34 ⟨w.heap.size, 0, none⟩).run Tryz.prog WF = .ok (.agg (exL2 w1.heap.size (w1.heap.size + 1 + 1) w2.heap.size w3.heap.size).toArray) WF := run_loadVar_mid WF w.heap.size 0 _ _ _ hPut.range Tryz.underlying34 rfl (by kernel_rfl)
  have ha : (asAddr (.pointer (some ⟨w.heap.size, 0, none⟩))).run Tryz.prog WF = .ok ⟨w.heap.size, 0, none⟩ WF := by kernel_rfl
  simp [results, Tryz.results80, Act.put, ha, hres, Result.andThen]
end Go.Proofs.YtffkmgjmlahfpaaGreat
