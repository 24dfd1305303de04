/- Contracts: lap.Chains of one lap; stirruplaw25.rule. Contract: stirruplaw25.example. Contract: stirruplaw25.example: the walk. The example as data; contracts: demand.Valid of no demands. Contract: lap.Stagger. Contract: stirruplaw25.awake. Contracts: lap.Valid, lap.Chains, lap.Check without laps. -/
import Derived.Test.YtplaghmehbkcnaaGreatOver
import Derived.Test.YtplaghmehbkcnaaGreatZB
import Derived.Test.YtplaghmehbkcnaaGreatStag
import Derived.Test.YtplaghmehbkcnaaGreatRow
import Derived.Test.YtplaghmehbkcnaaGreatZC
import Derived.Test.YtplaghmehbkcnaaGreatChL
set_option linter.unusedVariables false
set_option linter.unusedSimpArgs false
namespace Go.Proofs.YtplaghmehbkcnaaGreat
open Go.RowKit
set_option maxRecDepth 20000 in
set_option maxHeartbeats 4000000 in
theorem Chains_one (x : Dt) (td : Bool) (B : Nat) (w : World) (hB : B ≤ w.heap.size) (hA : DtAt w B x)
    (hD : ∀ W, Below w.heap.size w W → Calls Tryz.prog 65 #[.slice x.dA x.dn x.dc] W fun e w' => e = .returned (.bool td) ∧ Below W.heap.size W w') (h : S.look x td = true)
    (hj : x.js = [⟨0, 1⟩]) (hl : (S.mains (bars x.bs) x.rs).length = 2) :
    Calls Tryz.prog 18 #[dtV x] w fun e w' => (∃ v, e = .returned (.tuple #[v, .int .i64 0]) ∧ One2 w' v 0 1) ∧ Below w.heap.size w w' := by
  have HL := Lib.hid (fun (W : World) (hw : Below w.heap.size w W) => look_yes x td B W (size_via hB hw) (hA.at_ hB hw) (fun V hV => hD V (hw.trans (hV.mono hw.size))) h)
  have HC := Lib.hid (fun (W : World) (hw : Below w.heap.size w W) => chains_one x B W (size_via hB hw) (hA.at_ hB hw) hj)
  rw [hl] at HL
  clear hA hD h hj hl
  unfold dtV at HL HC
  unfold dtV
  go_enter Tryz.func18, Tryz.ntmps18
  have hDB : Blk (w.alloc (.cells #[.string x.m.name, .slice x.mA x.mn x.mc, .slice x.hA x.hn x.hc, .int .i64 x.m.cover, .int .i64 x.m.aggr, .int .i64 x.m.poker, .slice x.bA x.bn x.bc, .slice x.rA x.rn x.rc, .slice x.jA x.jn x.jc, .slice x.dA x.dn x.dc, .int .i64 x.rule.num, .int .i64 x.rule.den, .int .i64 x.rule.pnum, .int .i64 x.rule.pden, .int .i64 x.rule.bnum, .int .i64 x.rule.bden, .int .i64 x.rule.lnum, .int .i64 x.rule.lden, .int .i64 x.rule.least] 34)) w.heap.size 34 #[.string x.m.name, .slice x.mA x.mn x.mc, .slice x.hA x.hn x.hc, .int .i64 x.m.cover, .int .i64 x.m.aggr, .int .i64 x.m.poker, .slice x.bA x.bn x.bc, .slice x.rA x.rn x.rc, .slice x.jA x.jn x.jc, .slice x.dA x.dn x.dc, .int .i64 x.rule.num, .int .i64 x.rule.den, .int .i64 x.rule.pnum, .int .i64 x.rule.pden, .int .i64 x.rule.bnum, .int .i64 x.rule.bden, .int .i64 x.rule.lnum, .int .i64 x.rule.lden, .int .i64 x.rule.least] := Blk.new w _ _
  have hRG := hDB.range
  go_upto_region 4 with (first
    | (refine wpList_load_mid rfl 34 (.tmp 1) rfl _ _ rfl _ _ hRG Tryz.underlying34 rfl (by kernel_rfl) ?_)
    | (go_at_call 36; (with_reducible refine (HL.out _ (by repeat (first | exact Below.refl _ _ | assumption | refine ba_alloc ?_ _ | refine ba_drew ?_ | refine ba_drewN ?_ _ | refine ba_via (by assumption) ?_ | (refine ba_set ?_ ?_ _; rotate_left; (first | omega | (simp; omega) | simp))))).mono ?_); rintro e w1 ⟨A1, c1', rfl, how1, hbw1⟩; obtain ⟨hcw1, hfw1⟩ := bcell hbw1; have hzw1_0 : w.heap.size < w1.heap.size := lt_via hbw1 (by first | omega | (simp; done) | (simp; omega))))
  have hRG1 := (hDB.via hbw1).range
  clear hRG
  go_wp2_with (first
    | (refine wpList_load_mid rfl 34 (.tmp 1) rfl _ _ rfl _ _ hRG1 Tryz.underlying34 rfl (by kernel_rfl) ?_)
    | (go_at_call 49; (with_reducible refine (HC.out _ (by repeat (first | exact Below.refl _ _ | assumption | refine ba_alloc ?_ _ | refine ba_drew ?_ | refine ba_drewN ?_ _ | refine ba_via (by assumption) ?_ | (refine ba_set ?_ ?_ _; rotate_left; (first | omega | (simp; omega) | simp))))).mono ?_); rintro e w2 ⟨⟨v, rfl, hO⟩, hbw2⟩))
  go_ret2
  exact ⟨⟨v, rfl, hO⟩, (by repeat (first | exact Below.refl _ _ | assumption | refine ba_alloc ?_ _ | refine ba_drew ?_ | refine ba_drewN ?_ _ | refine ba_via (by assumption) ?_ | (refine ba_set ?_ ?_ _; rotate_left; (first | omega | (simp; omega) | simp))))⟩
def exRule : Rule := ⟨40, 1, 10, 7, 7, 10, 3, 2, 100⟩
theorem rule_any (w : World) : Calls Tryz.prog 28 #[] w fun e w' => e = .returned (ruleV exRule) ∧ Below w.heap.size w w' := by
  go_enter Tryz.func28, Tryz.ntmps28
  go_wp2
  exact bodyPost_ret (v := .agg #[.int .i64 40, .int .i64 1, .int .i64 10, .int .i64 7, .int .i64 7, .int .i64 10, .int .i64 3, .int .i64 2, .int .i64 100]) (by simp [results, Tryz.results28, go_sem, *]) rfl ⟨rfl, (by repeat (first | exact Below.refl _ _ | assumption | refine ba_alloc ?_ _ | refine ba_drew ?_ | refine ba_drewN ?_ _ | refine ba_via (by assumption) ?_ | (refine ba_set ?_ ?_ _; rotate_left; (first | omega | (simp; omega) | simp))))⟩
abbrev strA : ByteArray := ⟨#[97]⟩
abbrev strM : ByteArray := ⟨#[109]⟩
abbrev barArr (g : Nat) : Array Value := #[.string strA, .int .i64 12, .int .i64 2, .int .i64 0, .slice (some ⟨g, 0, none⟩) 1 1]
abbrev runArr : Array Value := #[.string strA, .int .i64 1, .int .i64 2, .int .i64 0, .int .i64 100, .int .i64 40, .int .i64 1000, .int .i64 0, .int .i64 12, .int .i64 2]
abbrev exL (b : Nat) (gb gr gj : Nat) : List Value := [.string strM, .slice (some ⟨b + 1, 0, none⟩) 1 1, .slice none 0 0, .int .i64 0, .int .i64 20, .int .i64 40, .slice (some ⟨gb, 0, none⟩) 1 1, .slice (some ⟨gr, 0, none⟩) 1 1, .slice (some ⟨gj, 0, none⟩) 1 1, .slice none 0 0,
  .int .i64 40, .int .i64 1, .int .i64 10, .int .i64 7, .int .i64 7, .int .i64 10, .int .i64 3, .int .i64 2, .int .i64 100]
/-- The lists of the example lie in memory, apart from block b. -/
structure ExBlks (w : World) (b g gb gr gj : Nat) : Prop where
  n0 : g ≠ b
  n1 : gb ≠ b
  n2 : gr ≠ b
  n3 : gj ≠ b
  dims : Blk w g 3 #[.int .i64 2000]
  bar : Blk w gb 119 (barArr g)
  run : Blk w gr 123 runArr
  lap : Blk w gj 88 #[.int .i64 0, .int .i64 1]
def Fin (b : Nat) (w : World) : Prop := ∃ g gb gr gj, w.rangeAt b 0 (exL b gb gr gj) ∧ ExBlks w b g gb gr gj ∧ b < w.heap.size
def Grown (b : Nat) (w w' : World) : Prop := Exc [b] w w' ∧ (Fin b w → Fin b w')
/-- What each operation leaves. -/
def ExV (b : Nat) (i : Nat) (v : Value) (w : World) : Prop :=
  match i with
  | 0 => v = .agg #[.string strM, .slice (some ⟨b + 1, 0, none⟩) 1 1, .slice none 0 0, .int .i64 0, .int .i64 20, .int .i64 40]
  | 1 => ∃ g, v = .slice (some ⟨g, 0, none⟩) 1 1 ∧ g ≠ b ∧ Blk w g 3 #[.int .i64 2000]
  | 2 => ∃ g, v = .agg (barArr g) ∧ g ≠ b ∧ Blk w g 3 #[.int .i64 2000]
  | 3 => ∃ g gb, v = .slice (some ⟨gb, 0, none⟩) 1 1 ∧ g ≠ b ∧ gb ≠ b ∧ Blk w g 3 #[.int .i64 2000] ∧ Blk w gb 119 (barArr g)
  | 4 => v = .agg #[.int .i64 1, .int .i64 2]
  | 5 => v = .agg #[.int .i64 0, .int .i64 100, .int .i64 40]
  | 6 => v = .agg #[.int .i64 1000, .int .i64 0, .int .i64 12]
  | 7 => v = .agg runArr
  | 8 => ∃ gr, v = .slice (some ⟨gr, 0, none⟩) 1 1 ∧ gr ≠ b ∧ Blk w gr 123 runArr
  | 9 => v = .agg #[.int .i64 0, .int .i64 1]
  | 10 => ∃ gj, v = .slice (some ⟨gj, 0, none⟩) 1 1 ∧ gj ≠ b ∧ Blk w gj 88 #[.int .i64 0, .int .i64 1]
  | 11 => v = ruleV exRule
  | 12 => ∃ g gb gr gj, v = .agg (exL b gb gr gj).toArray ∧ ExBlks w b g gb gr gj
  | 13 => Fin b w
  | _ => True
theorem Blk.grown {b : Nat} {w w' : World} (h : Grown b w w') {g : Nat} {t : TypeId} {cs : Array Value} (hB : Blk w g t cs) (hn : g ≠ b) : Blk w' g t cs := hB.exc h.1 (by simpa using hn)
theorem ExBlks.grown {b : Nat} {w w' : World} (h : Grown b w w') {g gb gr gj : Nat} (hB : ExBlks w b g gb gr gj) : ExBlks w' b g gb gr gj :=
  ⟨hB.n0, hB.n1, hB.n2, hB.n3, hB.dims.grown h hB.n0, hB.bar.grown h hB.n1, hB.run.grown h hB.n2, hB.lap.grown h hB.n3⟩
theorem ExV.stable (b : Nat) : ∀ i v w w', ExV b i v w → Grown b w w' → ExV b i v w' := by
  intro i v w w' h hg
  rcases i with _ | _ | _ | _ | _ | _ | _ | _ | _ | _ | _ | _ | _ | _ | i
  · exact h
  · obtain ⟨g, h1, h2, h3⟩ := h; exact ⟨g, h1, h2, h3.grown hg h2⟩
  · obtain ⟨g, h1, h2, h3⟩ := h; exact ⟨g, h1, h2, h3.grown hg h2⟩
  · obtain ⟨g, gb, h1, h2, h3, h4, h5⟩ := h; exact ⟨g, gb, h1, h2, h3, h4.grown hg h2, h5.grown hg h3⟩
  · exact h
  · exact h
  · exact h
  · exact h
  · obtain ⟨g, h1, h2, h3⟩ := h; exact ⟨g, h1, h2, h3.grown hg h2⟩
  · exact h
  · obtain ⟨g, h1, h2, h3⟩ := h; exact ⟨g, h1, h2, h3.grown hg h2⟩
  · exact h
  · obtain ⟨g, gb, gr, gj, h1, h2⟩ := h; exact ⟨g, gb, gr, gj, h1, h2.grown hg⟩
  · exact hg.2 h
  · trivial
theorem Grown.of {b : Nat} {w w' : World} (h : Exc [] w w') : Grown b w w' := by
  refine ⟨⟨h.os, h.tape, h.output, h.size, fun k hk _ => h.block k hk (by simp)⟩, fun hf => ?_⟩
  obtain ⟨g, gb, gr, gj, h1, h2, h3⟩ := hf
  have hB : ∀ {g : Nat} {t : TypeId} {cs : Array Value}, Blk w g t cs → Blk w' g t cs := fun hb => hb.exc h (by simp)
  refine ⟨g, gb, gr, gj, fun j v hv => ?_, ⟨h2.n0, h2.n1, h2.n2, h2.n3, hB h2.dims, hB h2.bar, hB h2.run, hB h2.lap⟩, Nat.lt_of_lt_of_le h3 h.size⟩
  exact (h.cell (p := ⟨b, 0 + j, none⟩) h3 (by simp)).trans (h1 j v hv)
structure ExS (b : Nat) (w3 : World) (a : Act) (w : World) : Prop where
  size : a.tmps.size = 20
  s0 : a.tmps.getD 0 undef = .pointer (some ⟨b, 0, none⟩)
  s1 : a.tmps.getD 1 undef = .pointer (some ⟨b + 1 + 1, 0, none⟩)
  defers : a.defers = []
  exc : Exc [b] w3 w
  there : w.there b 0 19
  lt : b < w.heap.size
theorem there_exc {w w' : World} {b n : Nat} (h : w.there b 0 n) (hX : Exc [] w w') (hb : b < w.heap.size) : w'.there b 0 n := fun j hj => by
  obtain ⟨h1, h2⟩ := h j hj
  rw [hX.cell (p := ⟨b, 0 + j, none⟩) hb (by simp), hX.frozen (p := ⟨b, 0 + j, none⟩) hb (by simp)]
  exact ⟨h1, h2⟩
theorem ExS.put {b : Nat} {w3 : World} {a : Act} {w w' : World} (h : ExS b w3 a w) (hX : Exc [] w w') {d : Nat} (h7 : 7 ≤ d) (v : Value) : ExS b w3 (a.put (some d) v) w' := by
  refine ⟨by simpa [Act.put] using h.size, ?_, ?_, h.defers, h.exc.join hX (by simp), there_exc h.there hX h.lt, Nat.lt_of_lt_of_le h.lt hX.size⟩
  · have := h.s0
    simp only [Act.put, Array.getD_eq_getD_getElem?] at this ⊢
    rw [Array.getElem?_setIfInBounds_ne (by omega)]
    exact this
  · have := h.s1
    simp only [Act.put, Array.getD_eq_getD_getElem?] at this ⊢
    rw [Array.getElem?_setIfInBounds_ne (by omega)]
    exact this
theorem ex_step {b : Nat} {w3 : World} {l : List Oper} {Q : Exit → Act → World → Prop} {j : Nat} {a : Act} {w w' : World} {o : Oper} {v : Value} {d : Nat} (ho : l.toArray[j]? = some o) (hg : o.guard = none) (hd : o.dst = some d) (h7 : 7 ≤ d) (hS : ExS b w3 a w)
    (hr : (execOp a.eval o).run Tryz.prog w = .ok (.value v) w') (hX : Exc [] w w') (hV : ExV b j v w') :
    wpOp Tryz.prog l.toArray Q j (fun a' w' => ∃ v, a' = a.put o.dst v ∧ (o.dst = none → v = undef) ∧ ExV b j v w' ∧ Grown b w w' ∧ ExS b w3 a' w') a w := by
  refine op_val ho hg hr ⟨v, rfl, fun h => ?_, hV, Grown.of hX, ?_⟩
  · rw [hd] at h; cases h
  · rw [hd]; exact hS.put hX h7 v
set_option maxRecDepth 20000 in
set_option maxHeartbeats 4000000 in
theorem example_any (w : World) : Calls Tryz.prog 30 #[] w fun e w' => ∃ g gb gr gj, e = .returned (.agg (exL w.heap.size gb gr gj).toArray) ∧ ExBlks w' w.heap.size g gb gr gj ∧ Blk w' (w.heap.size + 1) 98 #[.int .i64 0, .int .i64 0, .int .i64 0, .int .i64 3000, .int .i64 200, .int .i64 400] ∧ Below w.heap.size w w' := by
  go_enter Tryz.func30, Tryz.ntmps30
  go_wp2
  have hD0 : Blk (((w.alloc (.cells #[.string ⟨#[]⟩, .slice none 0 0, .slice none 0 0, .int .i64 0, .int .i64 0, .int .i64 0, .slice none 0 0, .slice none 0 0, .slice none 0 0, .slice none 0 0, .int .i64 0, .int .i64 0, .int .i64 0, .int .i64 0, .int .i64 0, .int .i64 0, .int .i64 0, .int .i64 0, .int .i64 0] 34)).alloc (.cells #[.int .i64 0, .int .i64 0, .int .i64 0, .int .i64 3000, .int .i64 200, .int .i64 400] 98)).alloc (.cells #[.string ⟨#[109]⟩, .slice (some ⟨w.heap.size + 1, 0, none⟩) 1 1, .slice none 0 0, .int .i64 0, .int .i64 20, .int .i64 40] 26)) w.heap.size 34 #[.string ⟨#[]⟩, .slice none 0 0, .slice none 0 0, .int .i64 0, .int .i64 0, .int .i64 0, .slice none 0 0, .slice none 0 0, .slice none 0 0, .slice none 0 0, .int .i64 0, .int .i64 0, .int .i64 0, .int .i64 0, .int .i64 0, .int .i64 0, .int .i64 0, .int .i64 0, .int .i64 0] := ((Blk.new w _ _).alloc _).alloc _
  have hBx : Blk (((w.alloc (.cells #[.string ⟨#[]⟩, .slice none 0 0, .slice none 0 0, .int .i64 0, .int .i64 0, .int .i64 0, .slice none 0 0, .slice none 0 0, .slice none 0 0, .slice none 0 0, .int .i64 0, .int .i64 0, .int .i64 0, .int .i64 0, .int .i64 0, .int .i64 0, .int .i64 0, .int .i64 0, .int .i64 0] 34)).alloc (.cells #[.int .i64 0, .int .i64 0, .int .i64 0, .int .i64 3000, .int .i64 200, .int .i64 400] 98)).alloc (.cells #[.string ⟨#[109]⟩, .slice (some ⟨w.heap.size + 1, 0, none⟩) 1 1, .slice none 0 0, .int .i64 0, .int .i64 20, .int .i64 40] 26)) (w.heap.size + 1) 98 #[.int .i64 0, .int .i64 0, .int .i64 0, .int .i64 3000, .int .i64 200, .int .i64 400] := by
    have := (Blk.new (w.alloc (.cells #[.string ⟨#[]⟩, .slice none 0 0, .slice none 0 0, .int .i64 0, .int .i64 0, .int .i64 0, .slice none 0 0, .slice none 0 0, .slice none 0 0, .slice none 0 0, .int .i64 0, .int .i64 0, .int .i64 0, .int .i64 0, .int .i64 0, .int .i64 0, .int .i64 0, .int .i64 0, .int .i64 0] 34)) 98 #[.int .i64 0, .int .i64 0, .int .i64 0, .int .i64 3000, .int .i64 200, .int .i64 400]).alloc (.cells #[.string ⟨#[109]⟩, .slice (some ⟨w.heap.size + 1, 0, none⟩) 1 1, .slice none 0 0, .int .i64 0, .int .i64 20, .int .i64 40] 26)
    simpa using this
  have hMb : Blk (((w.alloc (.cells #[.string ⟨#[]⟩, .slice none 0 0, .slice none 0 0, .int .i64 0, .int .i64 0, .int .i64 0, .slice none 0 0, .slice none 0 0, .slice none 0 0, .slice none 0 0, .int .i64 0, .int .i64 0, .int .i64 0, .int .i64 0, .int .i64 0, .int .i64 0, .int .i64 0, .int .i64 0, .int .i64 0] 34)).alloc (.cells #[.int .i64 0, .int .i64 0, .int .i64 0, .int .i64 3000, .int .i64 200, .int .i64 400] 98)).alloc (.cells #[.string ⟨#[109]⟩, .slice (some ⟨w.heap.size + 1, 0, none⟩) 1 1, .slice none 0 0, .int .i64 0, .int .i64 20, .int .i64 40] 26)) (w.heap.size + 1 + 1) 26 #[.string ⟨#[109]⟩, .slice (some ⟨w.heap.size + 1, 0, none⟩) 1 1, .slice none 0 0, .int .i64 0, .int .i64 20, .int .i64 40] := by
    have := Blk.new ((w.alloc (.cells #[.string ⟨#[]⟩, .slice none 0 0, .slice none 0 0, .int .i64 0, .int .i64 0, .int .i64 0, .slice none 0 0, .slice none 0 0, .slice none 0 0, .slice none 0 0, .int .i64 0, .int .i64 0, .int .i64 0, .int .i64 0, .int .i64 0, .int .i64 0, .int .i64 0, .int .i64 0, .int .i64 0] 34)).alloc (.cells #[.int .i64 0, .int .i64 0, .int .i64 0, .int .i64 3000, .int .i64 200, .int .i64 400] 98)) 26 #[.string ⟨#[109]⟩, .slice (some ⟨w.heap.size + 1, 0, none⟩) 1 1, .slice none 0 0, .int .i64 0, .int .i64 20, .int .i64 40]
    simpa using this
  have hb3 : Below w.heap.size w (((w.alloc (.cells #[.string ⟨#[]⟩, .slice none 0 0, .slice none 0 0, .int .i64 0, .int .i64 0, .int .i64 0, .slice none 0 0, .slice none 0 0, .slice none 0 0, .slice none 0 0, .int .i64 0, .int .i64 0, .int .i64 0, .int .i64 0, .int .i64 0, .int .i64 0, .int .i64 0, .int .i64 0, .int .i64 0] 34)).alloc (.cells #[.int .i64 0, .int .i64 0, .int .i64 0, .int .i64 3000, .int .i64 200, .int .i64 400] 98)).alloc (.cells #[.string ⟨#[109]⟩, .slice (some ⟨w.heap.size + 1, 0, none⟩) 1 1, .slice none 0 0, .int .i64 0, .int .i64 20, .int .i64 40] 26)) := ba_alloc (ba_alloc (ba_alloc (Below.refl _ _) _) _) _
  generalize (((w.alloc (.cells #[.string ⟨#[]⟩, .slice none 0 0, .slice none 0 0, .int .i64 0, .int .i64 0, .int .i64 0, .slice none 0 0, .slice none 0 0, .slice none 0 0, .slice none 0 0, .int .i64 0, .int .i64 0, .int .i64 0, .int .i64 0, .int .i64 0, .int .i64 0, .int .i64 0, .int .i64 0, .int .i64 0] 34)).alloc (.cells #[.int .i64 0, .int .i64 0, .int .i64 0, .int .i64 3000, .int .i64 200, .int .i64 400] 98)).alloc (.cells #[.string ⟨#[109]⟩, .slice (some ⟨w.heap.size + 1, 0, none⟩) 1 1, .slice none 0 0, .int .i64 0, .int .i64 20, .int .i64 40] 26)) = w3 at *
  refine wp_region_rel (V := ExV w.heap.size) (S := ExS w.heap.size w3) (G := Grown w.heap.size) (by kernel_rfl) (ExV.stable _) (earlyB_out (by kernel_rfl)) (distB_out (by kernel_rfl)) (fun j oj s a' w' hj hs hS => by rw [hS.size]; exact slotsB_out (N := 20) (by kernel_rfl) hj hs) ?_ ?_ ?_
  · exact ⟨rfl, rfl, rfl, rfl, (Exc.refl _ _).drew, fun j hj => ⟨by rw [show w3.drew.cell? ⟨w.heap.size, 0 + j, none⟩ = w3.cell? ⟨w.heap.size, 0 + j, none⟩ from rfl, hD0.cell]; simp [hj], hD0.frozen _⟩, hD0.lt⟩
  · intro j oj a' w' hj hS hdep
    have hMw := hMb.exc hS.exc (by simp; omega)
    have e0 : a'.eval (.tmp 0) = .pointer (some ⟨w.heap.size, 0, none⟩) := hS.s0
    have e1 : a'.eval (.tmp 1) = .pointer (some ⟨w.heap.size + 1 + 1, 0, none⟩) := hS.s1
    rcases j with _ | _ | _ | _ | _ | _ | _ | _ | _ | _ | _ | _ | _ | _ | j
    all_goals (simp only [List.getElem?_cons_zero, List.getElem?_cons_succ, Option.some.injEq, Nat.zero_add] at hj; try subst hj)
    · refine ex_step rfl rfl rfl (by decide) hS (w' := w') ?_ (Exc.refl _ _) rfl
      simp only [execOp, e1, Instr.loadAt, Instr.sureAddr, Sem.run_bind, Sem.run_pure, Result.andThen_ok, run_loadVar_mid w' (w.heap.size + 1 + 1) 0 26 [.string ⟨#[109]⟩, .slice (some ⟨w.heap.size + 1, 0, none⟩) 1 1, .slice none 0 0, .int .i64 0, .int .i64 20, .int .i64 40] _ hMw.range Tryz.underlying26 rfl (by kernel_rfl)]
    · exact ex_step rfl rfl rfl (by decide) hS (w' := w'.alloc (.cells #[.int .i64 2000] 3)) (by kernel_rfl) ((Exc.refl _ _).alloc _) ⟨_, rfl, by have := hS.lt; omega, Blk.new _ _ _⟩
    · obtain ⟨g, hv, hn, hB⟩ := hdep ⟨1, .data⟩ (by simp) rfl _ rfl
      have e8 : a'.eval (.tmp 8) = .slice (some ⟨g, 0, none⟩) 1 1 := hv
      exact ex_step rfl rfl rfl (by decide) hS (w' := w') (by simp only [execOp, List.map_toArray, List.map_cons, List.map_nil, e8]; kernel_rfl) (Exc.refl _ _) ⟨g, rfl, hn, hB⟩
    · obtain ⟨g, hv, hn, hB⟩ := hdep ⟨2, .data⟩ (by simp) rfl _ rfl
      have e9 : a'.eval (.tmp 9) = .agg (barArr g) := hv
      exact ex_step rfl rfl rfl (by decide) hS (w' := w'.alloc (.cells (barArr g) 119)) (by simp only [execOp, List.map_toArray, List.map_cons, List.map_nil, e9]; kernel_rfl) ((Exc.refl _ _).alloc _) ⟨g, _, rfl, hn, by have := hS.lt; omega, hB.alloc _, Blk.new _ _ _⟩
    · exact ex_step rfl rfl rfl (by decide) hS (w' := w') (by kernel_rfl) (Exc.refl _ _) rfl
    · exact ex_step rfl rfl rfl (by decide) hS (w' := w') (by kernel_rfl) (Exc.refl _ _) rfl
    · exact ex_step rfl rfl rfl (by decide) hS (w' := w') (by kernel_rfl) (Exc.refl _ _) rfl
    · have e11 : a'.eval (.tmp 11) = .agg #[.int .i64 1, .int .i64 2] := hdep ⟨4, .data⟩ (by simp) rfl _ rfl
      have e12 : a'.eval (.tmp 12) = .agg #[.int .i64 0, .int .i64 100, .int .i64 40] := hdep ⟨5, .data⟩ (by simp) rfl _ rfl
      have e13 : a'.eval (.tmp 13) = .agg #[.int .i64 1000, .int .i64 0, .int .i64 12] := hdep ⟨6, .data⟩ (by simp) rfl _ rfl
      exact ex_step rfl rfl rfl (by decide) hS (w' := w') (by simp only [execOp, List.map_toArray, List.map_cons, List.map_nil, e11, e12, e13]; kernel_rfl) (Exc.refl _ _) rfl
    · have e14 : a'.eval (.tmp 14) = .agg runArr := hdep ⟨7, .data⟩ (by simp) rfl _ rfl
      exact ex_step rfl rfl rfl (by decide) hS (w' := w'.alloc (.cells runArr 123)) (by simp only [execOp, List.map_toArray, List.map_cons, List.map_nil, e14]; kernel_rfl) ((Exc.refl _ _).alloc _) ⟨_, rfl, by have := hS.lt; omega, Blk.new _ _ _⟩
    · exact ex_step rfl rfl rfl (by decide) hS (w' := w') (by kernel_rfl) (Exc.refl _ _) rfl
    · have e16 : a'.eval (.tmp 16) = .agg #[.int .i64 0, .int .i64 1] := hdep ⟨9, .data⟩ (by simp) rfl _ rfl
      exact ex_step rfl rfl rfl (by decide) hS (w' := w'.alloc (.cells #[.int .i64 0, .int .i64 1] 88)) (by simp only [execOp, List.map_toArray, List.map_cons, List.map_nil, e16]; kernel_rfl) ((Exc.refl _ _).alloc _) ⟨_, rfl, by have := hS.lt; omega, Blk.new _ _ _⟩
    · refine op_call (f := 28) (args := #[]) rfl rfl (by first | kernel_rfl | (simp [execOp, go_sem, Tryz.call28]; done)) (rule_any w') ?_
      rintro e w'' ⟨rfl, hb⟩
      exact ⟨ruleV exRule, rfl, ruleV exRule, rfl, fun h => by simp at h, rfl, Grown.of (Exc.of_below hb), hS.put (Exc.of_below hb) (d := 18) (by decide) _⟩
    · have e7 : a'.eval (.tmp 7) = .agg #[.string strM, .slice (some ⟨w.heap.size + 1, 0, none⟩) 1 1, .slice none 0 0, .int .i64 0, .int .i64 20, .int .i64 40] := hdep ⟨0, .data⟩ (by simp) rfl _ rfl
      obtain ⟨g, gb, hv3, n0, n1, hB0, hB1⟩ := hdep ⟨3, .data⟩ (by simp) rfl _ rfl
      obtain ⟨gr, hv8, n2, hB2⟩ := hdep ⟨8, .data⟩ (by simp) rfl _ rfl
      obtain ⟨gj, hv10, n3, hB3⟩ := hdep ⟨10, .data⟩ (by simp) rfl _ rfl
      have e10 : a'.eval (.tmp 10) = .slice (some ⟨gb, 0, none⟩) 1 1 := hv3
      have e15 : a'.eval (.tmp 15) = .slice (some ⟨gr, 0, none⟩) 1 1 := hv8
      have e17 : a'.eval (.tmp 17) = .slice (some ⟨gj, 0, none⟩) 1 1 := hv10
      have e18 : a'.eval (.tmp 18) = ruleV exRule := hdep ⟨11, .data⟩ (by simp) rfl _ rfl
      exact ex_step rfl rfl rfl (by decide) hS (w' := w') (by simp only [execOp, List.map_toArray, List.map_cons, List.map_nil, e7, e10, e15, e17, e18]; kernel_rfl) (Exc.refl _ _) ⟨g, gb, gr, gj, rfl, n0, n1, n2, n3, hB0, hB1, hB2, hB3⟩
    · obtain ⟨g, gb, gr, gj, hv, hB⟩ := hdep ⟨12, .data⟩ (by simp) rfl _ rfl
      have e19 : a'.eval (.tmp 19) = .agg (exL w.heap.size gb gr gj).toArray := hv
      have hXs := exc_setCells w.heap.size (exL w.heap.size gb gr gj) 0 w'
      have hblt : w.heap.size < (w'.setCells w.heap.size 0 (exL w.heap.size gb gr gj)).heap.size := Nat.lt_of_lt_of_le hS.lt hXs.size
      have hF : Fin w.heap.size (w'.setCells w.heap.size 0 (exL w.heap.size gb gr gj)) := ⟨g, gb, gr, gj, World.rangeAt_setCells_same _ _ _ _ hS.there, ⟨hB.n0, hB.n1, hB.n2, hB.n3, hB.dims.exc hXs (by simpa using hB.n0), hB.bar.exc hXs (by simpa using hB.n1), hB.run.exc hXs (by simpa using hB.n2), hB.lap.exc hXs (by simpa using hB.n3)⟩, hblt⟩
      refine op_skip (w' := w'.setCells w.heap.size 0 (exL w.heap.size gb gr gj)) rfl rfl ?_ ⟨undef, rfl, fun _ => rfl, hF, ⟨hXs, fun _ => hF⟩, ⟨hS.size, hS.s0, hS.s1, hS.defers, hS.exc.join hXs (fun k hk => .inl hk), World.there_setCells hS.there _ _ _, hblt⟩⟩
      have hst := run_storeAt_mid (P := Tryz.prog) w' w.heap.size 0 34 (exL w.heap.size gb gr gj).toArray hS.there (by kernel_rfl) (by simp [Value.oneCell'])
      change Sem.run Tryz.prog (execOp a'.eval { dst := none, op := Op.store 34 (.tmp 0) (.tmp 19), type := 0, pos := "law.go:25", after := _, guard := none }) w' = _
      simp only [execOp, e0, e19, Sem.run_bind, hst]
      rfl
    · simp at hj
  · intro a' w' hS hall
    obtain ⟨g, gb, gr, gj, hr, hB, hlt⟩ := hall 13 _ rfl
    rename_i K hK
    have hres : (loadVar 34 ⟨w.heap.size, 0, none⟩).run Tryz.prog w' = .ok (.agg (exL w.heap.size gb gr gj).toArray) w' := run_loadVar_mid w' w.heap.size 0 _ _ _ hr Tryz.underlying34 rfl (by kernel_rfl)
    have hBx' := hBx.exc hS.exc (by simp)
    have hbb : Below w.heap.size w w' := by
      have h1 := hS.exc
      exact ⟨h1.os.trans hb3.os, h1.tape.trans hb3.tape, h1.output.trans hb3.output, Nat.le_trans hb3.size h1.size, fun k hk => (h1.block k (Nat.lt_of_lt_of_le hk hb3.size) (by simp; omega)).trans (hb3.block k hk)⟩
    have hs0 := hS.s0
    have hdf := hS.defers
    show K a' w'
    apply hK
    go_wp2
    refine bodyPost_ret (v := .agg (exL w.heap.size gb gr gj).toArray) ?_ hdf ⟨g, gb, gr, gj, rfl, hB, hBx', hbb⟩
    rw [Array.getD_eq_getD_getElem?] at hs0
    have ha : (asAddr (a'.tmps[0]?.getD undef)).run Tryz.prog w' = .ok ⟨w.heap.size, 0, none⟩ w' := by rw [hs0]; kernel_rfl
    simp [results, Tryz.results30, ha, hres, Result.andThen]
def exDt (b g gb gr gj : Nat) : Dt where
  m := ⟨strM, [⟨⟨0, 0, 0⟩, ⟨3000, 200, 400⟩⟩], [], 0, 20, 40⟩
  mA := some ⟨b + 1, 0, none⟩
  mn := 1
  mc := 1
  hA := none
  hn := 0
  hc := 0
  bs := [⟨⟨strA, 12, 2, 0, [2000]⟩, some ⟨g, 0, none⟩, 1, 1⟩]
  bA := some ⟨gb, 0, none⟩
  bn := 1
  bc := 1
  rs := [⟨strA, 1, 2, ⟨0, 100, 40⟩, ⟨1000, 0, 12⟩, 2⟩]
  rA := some ⟨gr, 0, none⟩
  rn := 1
  rc := 1
  js := [⟨0, 1⟩]
  jA := some ⟨gj, 0, none⟩
  jn := 1
  jc := 1
  dA := none
  dn := 0
  dc := 0
  rule := exRule
theorem ex_dtV (b g gb gr gj : Nat) : dtV (exDt b g gb gr gj) = .agg (exL b gb gr gj).toArray := rfl
theorem Blk.cells {w : World} {g : Nat} {t : TypeId} {cs : List Value} (h : Blk w g t cs.toArray) : Cells w w.heap.size (some ⟨g, 0, none⟩) cs := .inr ⟨g, 0, rfl, h.lt, fun j v hv => by
  rw [Nat.zero_add]
  exact (h.cell j).trans (by simpa using hv)⟩
theorem ex_le1 : 1 ≤ 9223372036854775807 := by decide
theorem ex_le0 : 0 ≤ 9223372036854775807 := by decide
theorem ex_at {w : World} {b g gb gr gj : Nat} (h : ExBlks w b g gb gr gj) (hB : Blk w (b + 1) 98 #[.int .i64 0, .int .i64 0, .int .i64 0, .int .i64 3000, .int .i64 200, .int .i64 400]) : DtAt w w.heap.size (exDt b g gb gr gj) := by
  refine ⟨⟨rfl, ex_le1, rfl, ex_le0, hB.cells, Cells.nil⟩, ex_le1, ⟨rfl, ex_le1, h.bar.cells, fun r hr => ?_⟩, ⟨rfl, ex_le1, h.run.cells⟩, rfl, ex_le1, h.lap.cells⟩
  rw [show (exDt b g gb gr gj).bs = [⟨⟨strA, 12, 2, 0, [2000]⟩, some ⟨g, 0, none⟩, 1, 1⟩] from rfl, List.mem_singleton] at hr
  subst hr
  exact ⟨rfl, ex_le1, ex_le1, h.dims.cells⟩
theorem ex_look (b g gb gr gj : Nat) : S.look (exDt b g gb gr gj) true = true := by kernel_rfl
theorem ex_len (b g gb gr gj : Nat) : (S.mains (bars (exDt b g gb gr gj).bs) (exDt b g gb gr gj).rs).length = 2 := by kernel_rfl
theorem ex_m0 (b g gb gr gj : Nat) : (S.mains (bars (exDt b g gb gr gj).bs) (exDt b g gb gr gj).rs)[0]? = some ⟨⟨⟨0, 100, 40⟩, ⟨2000, 100, 40⟩⟩, true, 12, strA⟩ := by kernel_rfl
theorem ex_m1 (b g gb gr gj : Nat) : (S.mains (bars (exDt b g gb gr gj).bs) (exDt b g gb gr gj).rs)[1]? = some ⟨⟨⟨1000, 100, 52⟩, ⟨3000, 100, 52⟩⟩, true, 12, strA⟩ := by kernel_rfl
theorem demand_nil (w : World) : Calls Tryz.prog 65 #[.slice none 0 0] w fun e w' => e = .returned (.bool true) ∧ Below w.heap.size w w' := by
  go_enter Tryz.func65, Tryz.ntmps65
  go_wp2
  refine wp_loop_rounds 1 ?_
  rw [rounds_succ]
  go_wp2
  go_ret
  exact ⟨rfl, (by repeat (first | exact Below.refl _ _ | assumption | refine ba_alloc ?_ _ | refine ba_drew ?_ | refine ba_drewN ?_ _ | refine ba_via (by assumption) ?_ | (refine ba_set ?_ ?_ _; rotate_left; (first | omega | (simp; omega) | simp))))⟩
end Go.Proofs.YtplaghmehbkcnaaGreat
set_option linter.unusedVariables false
set_option linter.unusedSimpArgs false
namespace Go.Proofs.YtplaghmehbkcnaaGreat
open Go.RowKit
def S.stagT (l : List Sp) (num den : Int) : Value := .tuple #[.bool (S.stagIs l num den), .int .i64 (S.stagIx l num den), .int .i64 (S.stagErr l num den)]
theorem stagT_err {l : List Sp} {num den e : Int} (h : S.stagErr l num den = e) (he : e ≠ 0) : S.stagT l num den = .tuple #[.bool false, .int .i64 0, .int .i64 e] := by
  unfold S.stagT S.stagIs S.stagIx
  rw [h, if_neg he]
  simp [he]
theorem stagT_hit {l : List Sp} {num den : Int} {k : Nat} (h : S.stagErr l num den = 0) (hk : S.stag l num den = (k : Int)) : S.stagT l num den = .tuple #[.bool false, .int .i64 k, .int .i64 0] := by
  unfold S.stagT S.stagIs S.stagIx
  rw [h, if_pos rfl, hk]
  have : ¬ ((k : Int) < 0) := by omega
  simp [this]
theorem stagT_miss {l : List Sp} {num den : Int} (h : S.stagErr l num den = 0) (hk : S.stag l num den = -1) : S.stagT l num den = .tuple #[.bool true, .int .i64 (-1), .int .i64 0] := by
  unfold S.stagT S.stagIs S.stagIx
  rw [h, if_pos rfl, hk]
  simp
set_option maxRecDepth 8000 in
set_option maxHeartbeats 4000000 in
theorem stag_any (l : List Sp) (num den : Int) (A : Option Addr) (n c : Nat) (B : Nat) (w : World) (hn : l.length = n) (hm : n ≤ 9223372036854775807) (hc : n ≤ c) (hB : B ≤ w.heap.size) (hs : Cells w B A (l.flatMap spC)) :
    Calls Tryz.prog 29 #[.slice A n c, .int .i64 num, .int .i64 den] w fun e w' => e = .returned (S.stagT l num den) ∧ Below w.heap.size w w' := by
  have HN := Lib.hid hn
  have HPL := Lib.hid (fun n w => lplace_any n w)
  clear hn
  go_enter Tryz.func29, Tryz.ntmps29
  go_wp2
  go_loopw [18] (fun i wr => ∃ k : Nat, k ≤ n ∧ i = .int .i64 k ∧ (∀ j (h : j < l.length), j < k → S.spanOk l[j] = true) ∧ Below w.heap.size w wr) (fun i _ => n - (intOf i).toNat)
  case atStart => exact ⟨0, Nat.zero_le _, rfl, fun j _ hj => absurd hj (by omega), Below.refl _ _⟩
  case round =>
    obtain ⟨k, hk, rfl, hno, hbr⟩ := hrel
    have HNO := Lib.hid hno
    clear hno
    by_cases hlt : k < n
    · have hkx : k < l.length := by have := HN.out; omega
      have hs' := hs.below (hbr.mono hB)
      obtain ⟨b, o, rfl, _, _⟩ := hs'.at_ (by rw [flat_len spC 2 spC_len]; omega)
      have c0 := hs'.row0 spC_len hkx rfl
      have c1 := hs'.rowj spC_len hkx 1 rfl
      have HGO := Lib.hid (fun (h : S.spanOk l[k] = true) (j : Nat) (hj : j < l.length) (hjk : j < k + 1) => show S.spanOk l[j] = true from by
        by_cases hjk' : j = k
        · subst hjk'; exact h
        · exact HNO.out j hj (by omega))
      have HBAD := Lib.hid (fun (h : S.spanOk l[k] = false) => stagT_err (l := l) (num := num) (den := den) (e := 1) (by unfold S.stagErr; rw [if_pos (span_bad hkx h)]) (by decide))
      have HSP := Lib.hid (show S.spanOk l[k] = (decide (l[k].lo ≤ l[k].hi) && S.place l[k].lo && S.place l[k].hi) from rfl)
      have HP0 := Lib.hid (HPL.out l[k].lo)
      have HP1 := Lib.hid (HPL.out l[k].hi)
      generalize S.place l[k].lo = t0 at *
      generalize S.place l[k].hi = t1 at *
      generalize l[k] = s at *
      clear hs' HNO
      have hcs : (s.hi < s.lo) ∨ (¬ s.hi < s.lo ∧ t0 = false) ∨ (¬ s.hi < s.lo ∧ t0 = true ∧ t1 = false) ∨ (¬ s.hi < s.lo ∧ t0 = true ∧ t1 = true) := by
        by_cases h : s.hi < s.lo
        · exact .inl h
        · cases t0
          · exact .inr (.inl ⟨h, rfl⟩)
          · cases t1
            · exact .inr (.inr (.inl ⟨h, rfl, rfl⟩))
            · exact .inr (.inr (.inr ⟨h, rfl, rfl⟩))
      rcases hcs with h1 | ⟨h1, rfl⟩ | ⟨h1, rfl, rfl⟩ | ⟨h1, rfl, rfl⟩
      rotate_right
      · have HG := Lib.hid (HGO.out (by rw [HSP.out, decide_eq_true (show s.lo ≤ s.hi by omega)]; rfl))
        go_wp2_with (first
          | (go_at_call 50; (with_reducible refine (HP0.out _).mono ?_); rintro e w' ⟨rfl, rfl⟩)
          | (go_at_call 50; (with_reducible refine (HP1.out _).mono ?_); rintro e w' ⟨rfl, rfl⟩))
        go_roundw
        case rel => exact ⟨k + 1, by omega, by go_num, HG.out, (by repeat (first | exact Below.refl _ _ | assumption | refine ba_alloc ?_ _ | refine ba_drew ?_ | refine ba_drewN ?_ _ | refine ba_via (by assumption) ?_ | (refine ba_set ?_ ?_ _; rotate_left; (first | omega | (simp; omega) | simp))))⟩
        case measure => simp [intOf]; omega
      all_goals (
        have HG := Lib.hid (HBAD.out (by rw [HSP.out]; first | rfl | (rw [decide_eq_false (show ¬ s.lo ≤ s.hi by omega)]; rfl) | (simp; done)))
        go_wp2_with (first
          | (go_at_call 50; (with_reducible refine (HP0.out _).mono ?_); rintro e w' ⟨rfl, rfl⟩)
          | (go_at_call 50; (with_reducible refine (HP1.out _).mono ?_); rintro e w' ⟨rfl, rfl⟩))
        go_ret3
        exact ⟨by rw [HG.out]; rfl, (by repeat (first | exact Below.refl _ _ | assumption | refine ba_alloc ?_ _ | refine ba_drew ?_ | refine ba_drewN ?_ _ | refine ba_via (by assumption) ?_ | (refine ba_set ?_ ?_ _; rotate_left; (first | omega | (simp; omega) | simp))))⟩)
    · have hall : ∀ j (h : j < l.length), S.spanOk l[j] = true := fun j hj => HNO.out j hj (by have := HN.out; omega)
      have HALL := Lib.hid hall
      have hany := span_all hall
      have hE0 : S.stagErr l num den = if S.stagNum num den = true then 2 else if 1000 < l.length then 4 else 0 := by
        unfold S.stagErr; rw [hany]; rfl
      by_cases hsn : S.stagNum num den = true
      · have HT := Lib.hid (stagT_err (l := l) (num := num) (den := den) (e := 2) (by rw [hE0, if_pos hsn]) (by decide))
        have hcs : (if den < num then den else num) < 1 ∨ (¬ (if den < num then den else num) < 1 ∧ 1000 < (if num < den then den else num)) := by
          simp only [S.stagNum, Bool.or_eq_true, decide_eq_true_eq] at hsn
          split <;> split <;> omega
        clear hE0 hsn hany hall
        generalize hlo : (if den < num then den else num) = lo at *
        generalize hhi : (if num < den then den else num) = hi at *
        rcases hcs with h1 | ⟨h1, h2⟩
        all_goals (
          go_wp2
          go_ret3
          exact ⟨by rw [HT.out]; rfl, (by repeat (first | exact Below.refl _ _ | assumption | refine ba_alloc ?_ _ | refine ba_drew ?_ | refine ba_drewN ?_ _ | refine ba_via (by assumption) ?_ | (refine ba_set ?_ ?_ _; rotate_left; (first | omega | (simp; omega) | simp))))⟩)
      have hsn' : (¬ (if den < num then den else num) < 1 ∧ ¬ 1000 < (if num < den then den else num)) ∧ (1 ≤ num ∧ num ≤ 1000) ∧ (1 ≤ den ∧ den ≤ 1000) := by
        simp only [S.stagNum, Bool.or_eq_true, decide_eq_true_eq] at hsn
        split <;> split <;> omega
      obtain ⟨⟨h1, h2⟩, hnum, hden⟩ := hsn'
      rw [if_neg hsn] at hE0
      generalize hlo : (if den < num then den else num) = lo at *
      generalize hhi : (if num < den then den else num) = hi at *
      by_cases h1000 : 1000 < n
      · have HT := Lib.hid (stagT_err (l := l) (num := num) (den := den) (e := 4) (by rw [hE0, if_pos (by have := HN.out; omega)]) (by decide))
        clear hE0 hsn hany hall
        go_wp2
        go_ret3
        exact ⟨by rw [HT.out]; rfl, (by repeat (first | exact Below.refl _ _ | assumption | refine ba_alloc ?_ _ | refine ba_drew ?_ | refine ba_drewN ?_ _ | refine ba_via (by assumption) ?_ | (refine ba_set ?_ ?_ _; rotate_left; (first | omega | (simp; omega) | simp))))⟩
      have HE0 := Lib.hid (show S.stagErr l num den = 0 by rw [hE0, if_neg (by have := HN.out; omega)])
      have HNW := Lib.hid (fun (i j : Nat) (hi : i < l.length) (hj : j < l.length) => near_walk (hall i hi) (hall j hj) hnum hden)
      clear hE0 hsn hany hall
      go_wp2
      have hsr := hs.below (hbr.mono hB)
      have hBr : B ≤ wr.heap.size := by have := hbr.size; omega
      clear hs
      go_loopw [57] (fun i wq => ∃ k : Nat, k ≤ n ∧ i = .int .i64 k ∧ (∀ j, j < k → S.stagP l num den j = false) ∧ Below wr.heap.size wr wq) (fun i _ => n - (intOf i).toNat)
      case atStart => exact ⟨0, Nat.zero_le _, rfl, fun j hj => absurd hj (by omega), Below.refl _ _⟩
      case round =>
        obtain ⟨k2, hk2, rfl, hno2, hbr2⟩ := hrel
        have HNO2 := Lib.hid hno2
        clear hno2
        by_cases hlt2 : k2 < n
        · have hkx : k2 < l.length := by have := HN.out; omega
          have hs' := hsr.below (hbr2.mono hBr)
          obtain ⟨b, o, rfl, hbB, _⟩ := hs'.at_ (by rw [flat_len spC 2 spC_len]; omega)
          have c0 := hs'.row0 spC_len hkx rfl
          have c1 := hs'.rowj spC_len hkx 1 rfl
          have hkc : k2 ≤ c := by omega
          have hk2i : (k2 : Int) < n := by omega
          have HNWk := Lib.hid (fun (j : Nat) (hj : j < l.length) => HNW.out k2 j hkx hj)
          have HYES := Lib.hid (fun (j : Nat) (hj : j < k2) (h : S.nearS num den l[k2] (l[j]'(by omega)) = true) => stagT_hit (l := l) (num := num) (den := den) HE0.out (stag_hit hkx (stagP_yes hkx hj h) HNO2.out))
          have HNON := Lib.hid (fun (h : ∀ j (hj : j < k2), S.nearS num den l[k2] (l[j]'(by omega)) = false) => show ∀ j, j < k2 + 1 → S.stagP l num den j = false from fun j hj => by
            by_cases hjk : j = k2
            · subst hjk; exact stagP_no hkx h
            · exact HNO2.out j (by omega))
          generalize l[k2] = a at *
          go_wp2
          have hbn := hbr2.size
          have hA := Blk.new wr 41 #[.int .i64 a.lo, .int .i64 a.hi]
          have hbw : Below w.heap.size w (wr.alloc (.cells #[.int .i64 a.lo, .int .i64 a.hi] 41)) := ba_alloc (hbr.trans (hbr2.mono hbr.size)) _
          have hsq := hs'.alloc (by omega) (.cells #[.int .i64 a.lo, .int .i64 a.hi] 41)
          have hwa : (wr.alloc (.cells #[.int .i64 a.lo, .int .i64 a.hi] 41)).heap.size = wr.heap.size + 1 := by simp
          have hbra := hbr2.trans ((ba_alloc (Below.refl _ wr) (.cells #[.int .i64 a.lo, .int .i64 a.hi] 41)).mono hbn)
          generalize wr.alloc (.cells #[.int .i64 a.lo, .int .i64 a.hi] 41) = wa at *
          clear hs' c0 c1
          go_loopw [66] (fun i wq => ∃ j : Nat, j ≤ k2 ∧ i = .int .i64 j ∧ (∀ m (hm : m < k2), m < j → S.nearS num den a (l[m]'(by omega)) = false) ∧ Below wa.heap.size wa wq) (fun i _ => k2 - (intOf i).toNat)
          case atStart => exact ⟨0, Nat.zero_le _, rfl, fun m _ hm => absurd hm (by omega), Below.refl _ _⟩
          case round =>
            obtain ⟨j, hj, rfl, hno3, hbq⟩ := hrel
            have HNO3 := Lib.hid hno3
            clear hno3
            by_cases hlt3 : j < k2
            · have hjx : j < l.length := by omega
              have hs3 := hsq.below (hbq.mono (by omega))
              have c0 := hs3.row0 spC_len hjx rfl
              have c1 := hs3.rowj spC_len hjx 1 rfl
              have hAq := hA.via hbq
              have a0 := hAq.cell 0
              have a1 := hAq.cell 1
              have ltA := hAq.lt
              simp only [List.getElem?_toArray, List.getElem?_cons_zero, List.getElem?_cons_succ] at a0 a1
              obtain ⟨x1, x2, d1, y1, y2, d2, M, p, q, v1, v2, W, z, e1, e2, e3, e4, e5, e6, e7, e8, e9, e10, e11, e12, e13, e14⟩ := HNWk.out j hjx
              have HY := Lib.hid (HYES.out j hlt3)
              have HG := Lib.hid (fun (h : S.nearS num den a (l[j]'hjx) = false) (m : Nat) (hm : m < k2) (hmj : m < j + 1) => show S.nearS num den a (l[m]'(by omega)) = false from by
                by_cases hmj' : m = j
                · subst hmj'; exact h
                · exact HNO3.out m hm (by omega))
              have E14 := Lib.hid e14
              clear e14 hs3 hAq
              generalize l[j] = s at *
              generalize S.nearS num den a s = t at *
              cases t
              · have hpz : ¬ p < z := of_decide_eq_false E14.out
                have HG' := Lib.hid (HG.out rfl)
                go_wp2
                go_roundw
                case rel => exact ⟨j + 1, by omega, by go_num, HG'.out, hbq.trans (Below.mono (by repeat (first | exact Below.refl _ _ | assumption | refine ba_alloc ?_ _ | refine ba_drew ?_ | refine ba_drewN ?_ _ | refine ba_via (by assumption) ?_ | (refine ba_set ?_ ?_ _; rotate_left; (first | omega | (simp; omega) | simp)))) hbq.size)⟩
                case measure => simp [intOf]; omega
              · have hpz : p < z := of_decide_eq_true E14.out
                have HG' := Lib.hid (HY.out rfl)
                go_wp2
                go_ret3
                exact ⟨by rw [HG'.out]; rfl, hbw.trans (Below.mono (hbq.trans (Below.mono (by repeat (first | exact Below.refl _ _ | assumption | refine ba_alloc ?_ _ | refine ba_drew ?_ | refine ba_drewN ?_ _ | refine ba_via (by assumption) ?_ | (refine ba_set ?_ ?_ _; rotate_left; (first | omega | (simp; omega) | simp)))) hbq.size)) hbw.size)⟩
            · have HNN := Lib.hid (HNON.out (fun m hm => HNO3.out m hm (by omega)))
              obtain rfl : k2 = j := by omega
              clear hj hlt3
              go_wp2
              go_roundw
              case rel => exact ⟨k2 + 1, by omega, by go_num, HNN.out, hbra.trans (hbq.mono hbra.size)⟩
              case measure => simp [intOf]; omega
        · have HT := Lib.hid (stagT_miss (l := l) (num := num) (den := den) HE0.out (stag_miss (fun j hj => HNO2.out j (by have := HN.out; omega))))
          go_wp2
          go_ret3
          exact ⟨by rw [HT.out]; rfl, hbr.trans (hbr2.mono hbr.size)⟩
end Go.Proofs.YtplaghmehbkcnaaGreat
set_option linter.unusedVariables false
set_option linter.unusedSimpArgs false
namespace Go.Proofs.YtplaghmehbkcnaaGreat
open Go.RowKit
abbrev exSp : List Sp := [⟨0, 100⟩, ⟨120, 220⟩]
theorem ex_stag1 : S.stagT exSp 6 5 = .tuple #[.bool true, .int .i64 (-1), .int .i64 0] := by kernel_rfl
theorem ex_stag2 : S.stagT exSp 13 10 = .tuple #[.bool false, .int .i64 1, .int .i64 0] := by kernel_rfl
theorem ex_lap : lLength exRule 12 false = 720 := by kernel_rfl
theorem ex_sized : S.sized exRule 12 = 0 := by kernel_rfl
set_option maxRecDepth 20000 in
set_option maxHeartbeats 4000000 in
theorem awake_any (w : World) : Calls Tryz.prog 6 #[] w fun e w' => e = .returned (.bool true) ∧ Below w.heap.size w w' := by
  have HR := Lib.hid (fun w => rule_any w)
  have HL := Lib.hid (fun w => lLength_any exRule 12 false w)
  rw [ex_lap, ex_sized] at HL
  have HS1 := Lib.hid (fun (W : World) => stag_any exSp 6 5 (some ⟨W.heap.size, 0, none⟩) 2 2 (W.alloc (.cells #[.int .i64 0, .int .i64 100, .int .i64 120, .int .i64 220] 41)).heap.size (W.alloc (.cells #[.int .i64 0, .int .i64 100, .int .i64 120, .int .i64 220] 41)) rfl (by decide) (by decide) (Nat.le_refl _) (Cells.newRow W _ _ _))
  have HS2 := Lib.hid (fun (W : World) => stag_any exSp 13 10 (some ⟨W.heap.size, 0, none⟩) 2 2 (W.alloc (.cells #[.int .i64 0, .int .i64 100, .int .i64 120, .int .i64 220] 41)).heap.size (W.alloc (.cells #[.int .i64 0, .int .i64 100, .int .i64 120, .int .i64 220] 41)) rfl (by decide) (by decide) (Nat.le_refl _) (Cells.newRow W _ _ _))
  rw [ex_stag1] at HS1
  rw [ex_stag2] at HS2
  have HE := Lib.hid (fun w => example_any w)
  have HO : Hid (∀ (W : World) (b g gb gr gj : Nat) (h : ExBlks W b g gb gr gj) (hB : Blk W (b + 1) 98 #[.int .i64 0, .int .i64 0, .int .i64 0, .int .i64 3000, .int .i64 200, .int .i64 400]), Calls Tryz.prog 9 #[.agg (exL b gb gr gj).toArray, .int .i64 0] W fun e w' => e = .returned (.tuple #[.agg #[.int .i64 1000, .int .i64 2000], .int .i64 0]) ∧ Below W.heap.size W w') :=
    Lib.hid (fun W b g gb gr gj h hB => Overlap_yes (exDt b g gb gr gj) true W.heap.size W (Nat.le_refl _) (ex_at h hB) (fun V _ => demand_nil V) (ex_look b g gb gr gj) 0 0 1 _ _ (by show 0 < 1; decide) rfl (ex_m0 b g gb gr gj) (ex_m1 b g gb gr gj))
  have HC : Hid (∀ (W : World) (b g gb gr gj : Nat) (h : ExBlks W b g gb gr gj) (hB : Blk W (b + 1) 98 #[.int .i64 0, .int .i64 0, .int .i64 0, .int .i64 3000, .int .i64 200, .int .i64 400]), Calls Tryz.prog 18 #[.agg (exL b gb gr gj).toArray] W fun e w' => (∃ v, e = .returned (.tuple #[v, .int .i64 0]) ∧ One2 w' v 0 1) ∧ Below W.heap.size W w') :=
    Lib.hid (fun W b g gb gr gj h hB => Chains_one (exDt b g gb gr gj) true W.heap.size W (Nat.le_refl _) (ex_at h hB) (fun V _ => demand_nil V) (ex_look b g gb gr gj) rfl (ex_len b g gb gr gj))
  go_enter Tryz.func6, Tryz.ntmps6
  go_upto_region 6 with (first
    | (go_at_call 28; (with_reducible refine (HR.out _).mono ?_); rintro e w1 ⟨rfl, hbw1⟩; obtain ⟨hcw1, hfw1⟩ := bcell hbw1)
    | (go_at_call 8; (with_reducible refine (HL.out _).mono ?_); rintro e w2 ⟨rfl, hbw2⟩; obtain ⟨hcw2, hfw2⟩ := bcell hbw2)
    | (go_at_call 29; (with_reducible refine (HS1.out _).mono ?_); rintro e w3 ⟨rfl, hbw3⟩; obtain ⟨hcw3, hfw3⟩ := bcell hbw3)
    | (go_at_call 29; (with_reducible refine (HS2.out _).mono ?_); rintro e w4 ⟨rfl, hbw4⟩; obtain ⟨hcw4, hfw4⟩ := bcell hbw4)
    | (go_at_call 9; (with_reducible refine (HO.out _ _ _ _ _ _ hE5 hB5).mono ?_); rintro e w6 ⟨rfl, hbw6⟩)
    | (go_at_call 18; (with_reducible refine (HC.out _ (w6.heap.size + 1) _ _ _ _ (by simpa using hE7) (by simpa using hB7)).mono ?_); rintro e w8 ⟨⟨v8, rfl, hO8⟩, hbw8⟩)
    | (go_at_call 30; (with_reducible refine (HE.out w4).mono ?_); rintro e w5 ⟨g5, gb5, gr5, gj5, rfl, hE5, hB5, hbw5⟩)
    | (go_at_call 30; (with_reducible refine (HE.out _).mono ?_); rintro e w7 ⟨g7, gb7, gr7, gj7, rfl, hE7, hB7, hbw7⟩))
  obtain ⟨g, g2, o, o2, c, c2, rfl, hg, hg2, k0, k1, k2⟩ := hO8
  have hSp := ((Blk.new w6 41 #[.int .i64 1000, .int .i64 2000]).via hbw7).via hbw8
  have s0 := hSp.cell 0
  have s1 := hSp.cell 1
  simp only [List.getElem?_toArray, List.getElem?_cons_zero, List.getElem?_cons_succ] at s0 s1
  have hbel : Below w.heap.size w w8 := (by repeat (first | exact Below.refl _ _ | assumption | refine ba_alloc ?_ _ | refine ba_drew ?_ | refine ba_drewN ?_ _ | refine ba_via (by assumption) ?_ | (refine ba_set ?_ ?_ _; rotate_left; (first | omega | (simp; omega) | simp))))
  have hq : ∀ W, (binOp .eql 41 (.agg #[.int .i64 1000, .int .i64 2000]) (.agg #[.int .i64 1000, .int .i64 2000])).run Tryz.prog W = .ok (.bool true) W := fun W => by kernel_rfl
  have hE := Lib.hid (fun (W : World) (A' : Option Addr) (h1 : Cells W W.heap.size (some ⟨g2, o2, none⟩) (i64s [0, 1])) (h2 : Cells W W.heap.size A' (i64s [0, 1])) => equal_any (some ⟨g2, o2, none⟩) A' 2 2 c2 2 [0, 1] [0, 1] W.heap.size W (Nat.le_refl _) rfl rfl (by decide) (by decide) h1 h2)
  rw [show S.eqi [0, 1] [0, 1] = true from by decide] at hE
  have hc8 : Cells w8 w8.heap.size (some ⟨g2, o2, none⟩) (i64s [0, 1]) := .inr ⟨g2, o2, rfl, hg2, fun j v hv => by
    rcases j with _ | _ | j
    · simp only [i64s, List.map_cons, List.getElem?_cons_zero, Option.some.injEq] at hv
      subst hv
      exact k1
    · simp only [i64s, List.map_cons, List.getElem?_cons_succ, List.getElem?_cons_zero, Option.some.injEq] at hv
      subst hv
      exact k2
    · simp [i64s] at hv⟩
  have hc9 := (hc8.alloc (Nat.le_refl _) (.cells #[.int .i64 0, .int .i64 1] 3)).mono (show w8.heap.size ≤ (w8.alloc (.cells #[.int .i64 0, .int .i64 1] 3)).heap.size by simp)
  have hn9 := Cells.newRow w8 #[.int .i64 0, .int .i64 1] 3 (0, 0)
  clear hbw1 hbw2 hbw3 hbw4 hbw5 hbw6 hbw7 hbw8 hcw1 hfw1 hcw2 hfw2 hcw3 hfw3 hcw4 hfw4 HR HL HS1 HS2 HE HO HC
  go_wp2_with (first
    | (go_at_call 24; (with_reducible refine (hE.out _ _ hc9 hn9).mono ?_); rintro e w9 ⟨rfl, hbw9⟩; obtain ⟨hcw9, hfw9⟩ := bcell hbw9))
  go_ret
  exact ⟨rfl, (by repeat (first | exact Below.refl _ _ | assumption | refine ba_alloc ?_ _ | refine ba_drew ?_ | refine ba_drewN ?_ _ | refine ba_via (by assumption) ?_ | (refine ba_set ?_ ?_ _; rotate_left; (first | omega | (simp; omega) | simp))))⟩
end Go.Proofs.YtplaghmehbkcnaaGreat
set_option linter.unusedVariables false
set_option linter.unusedSimpArgs false
namespace Go.Proofs.YtplaghmehbkcnaaGreat
open Go.RowKit
set_option maxRecDepth 20000 in
set_option maxHeartbeats 2000000 in
theorem lvalid_any (x : Dt) (t : Bool) (B : Nat) (n : Nat) (xs : List Value) (w : World) (hB : B ≤ w.heap.size)
    (hL : ∀ W, Below w.heap.size w W → Calls Tryz.prog 36 #[dtV x] W (GivesLook t n xs W)) :
    Calls Tryz.prog 14 #[dtV x] w fun e w' => e = .returned (.bool t) ∧ Below w.heap.size w w' := by
  have HL := Lib.hid hL
  clear hL
  unfold dtV at HL
  unfold dtV
  have hDB := (Blk.new w 34 #[.string x.m.name, .slice x.mA x.mn x.mc, .slice x.hA x.hn x.hc, .int .i64 x.m.cover, .int .i64 x.m.aggr, .int .i64 x.m.poker, .slice x.bA x.bn x.bc, .slice x.rA x.rn x.rc, .slice x.jA x.jn x.jc, .slice x.dA x.dn x.dc, .int .i64 x.rule.num, .int .i64 x.rule.den, .int .i64 x.rule.pnum, .int .i64 x.rule.pden, .int .i64 x.rule.bnum, .int .i64 x.rule.bden, .int .i64 x.rule.lnum, .int .i64 x.rule.lden, .int .i64 x.rule.least])
  have hRG := hDB.range
  go_enter Tryz.func14, Tryz.ntmps14
  go_wp2_with (first
    | (refine wpList_load_mid rfl 34 (.tmp 1) rfl _ _ rfl _ _ hRG Tryz.underlying34 rfl (by kernel_rfl) ?_)
    | (go_at_call 36; (with_reducible refine (HL.out _ (by repeat (first | exact Below.refl _ _ | assumption | refine ba_alloc ?_ _ | refine ba_drew ?_ | refine ba_drewN ?_ _ | refine ba_via (by assumption) ?_ | (refine ba_set ?_ ?_ _; rotate_left; (first | omega | (simp; omega) | simp))))).mono ?_); rintro e w1 ⟨A1, c1', rfl, how1, hbw1⟩))
  go_ret
  exact ⟨rfl, (by repeat (first | exact Below.refl _ _ | assumption | refine ba_alloc ?_ _ | refine ba_drew ?_ | refine ba_drewN ?_ _ | refine ba_via (by assumption) ?_ | (refine ba_set ?_ ?_ _; rotate_left; (first | omega | (simp; omega) | simp))))⟩
/-- A call hands back chains and no error. -/
def GivesChE (L : List (List Int)) (w : World) (e : Ending) (w' : World) : Prop :=
  ∃ (A : Option Addr) (c : Nat) (rs : List Chn), e = .returned (.tuple #[.slice A rs.length c, .int .i64 0]) ∧ rs.map (·.l) = L ∧ rs.length ≤ c ∧ Cells w' w'.heap.size A (rs.map chV) ∧ (∀ r, r ∈ rs → Cells w' w'.heap.size r.A (i64s r.l) ∧ r.l.length ≤ r.c) ∧ Below w.heap.size w w'
set_option maxRecDepth 20000 in
set_option maxHeartbeats 2000000 in
theorem lchains_yes (x : Dt) (B : Nat) (n : Nat) (xs : List Value) (L : List (List Int)) (w : World) (hB : B ≤ w.heap.size) (hn : n ≤ 2000)
    (hL : ∀ W, Below w.heap.size w W → Calls Tryz.prog 36 #[dtV x] W (GivesLook true n xs W)) (hC : ∀ W, Below w.heap.size w W → Calls Tryz.prog 49 #[dtV x, .int .i64 n] W (GivesChs L W)) :
    Calls Tryz.prog 18 #[dtV x] w (GivesChE L w) := by
  have HL := Lib.hid hL
  have HC := Lib.hid hC
  clear hL hC
  unfold dtV at HL HC
  unfold dtV
  have hDB := (Blk.new w 34 #[.string x.m.name, .slice x.mA x.mn x.mc, .slice x.hA x.hn x.hc, .int .i64 x.m.cover, .int .i64 x.m.aggr, .int .i64 x.m.poker, .slice x.bA x.bn x.bc, .slice x.rA x.rn x.rc, .slice x.jA x.jn x.jc, .slice x.dA x.dn x.dc, .int .i64 x.rule.num, .int .i64 x.rule.den, .int .i64 x.rule.pnum, .int .i64 x.rule.pden, .int .i64 x.rule.bnum, .int .i64 x.rule.bden, .int .i64 x.rule.lnum, .int .i64 x.rule.lden, .int .i64 x.rule.least])
  have hRG := hDB.range
  go_enter Tryz.func18, Tryz.ntmps18
  go_wp2_with (first
    | (refine wpList_load_mid rfl 34 (.tmp 1) rfl _ _ rfl _ _ hRG Tryz.underlying34 rfl (by kernel_rfl) ?_)
    | (refine wpList_load_mid rfl 34 (.tmp 1) rfl _ _ rfl _ _ hRG1 Tryz.underlying34 rfl (by kernel_rfl) ?_)
    | (go_at_call 36; (with_reducible refine (HL.out _ (by repeat (first | exact Below.refl _ _ | assumption | refine ba_alloc ?_ _ | refine ba_drew ?_ | refine ba_drewN ?_ _ | refine ba_via (by assumption) ?_ | (refine ba_set ?_ ?_ _; rotate_left; (first | omega | (simp; omega) | simp))))).mono ?_); rintro e w1 ⟨A1, c1', rfl, how1, hbw1⟩; have hRG1 := (hDB.via hbw1).range)
    | (go_at_call 49; (with_reducible refine (HC.out _ (by repeat (first | exact Below.refl _ _ | assumption | refine ba_alloc ?_ _ | refine ba_drew ?_ | refine ba_drewN ?_ _ | refine ba_via (by assumption) ?_ | (refine ba_set ?_ ?_ _; rotate_left; (first | omega | (simp; omega) | simp))))).mono ?_); rintro e w2 ⟨A2, c2, rs, rfl, hrs, hrc, hcc, hce, hbw2⟩))
  go_ret2
  exact ⟨A2, c2, rs, rfl, hrs, hrc, hcc, hce, (by repeat (first | exact Below.refl _ _ | assumption | refine ba_alloc ?_ _ | refine ba_drew ?_ | refine ba_drewN ?_ _ | refine ba_via (by assumption) ?_ | (refine ba_set ?_ ?_ _; rotate_left; (first | omega | (simp; omega) | simp))))⟩
set_option maxRecDepth 20000 in
set_option maxHeartbeats 2000000 in
theorem lchains_no (x : Dt) (B : Nat) (w : World) (hB : B ≤ w.heap.size)
    (hL : ∀ W, Below w.heap.size w W → Calls Tryz.prog 36 #[dtV x] W (GivesLook false 0 [] W)) :
    Calls Tryz.prog 18 #[dtV x] w fun e w' => e = .returned (.tuple #[.slice none 0 0, .int .i64 1]) ∧ Below w.heap.size w w' := by
  have HL := Lib.hid hL
  clear hL
  unfold dtV at HL
  unfold dtV
  have hDB := (Blk.new w 34 #[.string x.m.name, .slice x.mA x.mn x.mc, .slice x.hA x.hn x.hc, .int .i64 x.m.cover, .int .i64 x.m.aggr, .int .i64 x.m.poker, .slice x.bA x.bn x.bc, .slice x.rA x.rn x.rc, .slice x.jA x.jn x.jc, .slice x.dA x.dn x.dc, .int .i64 x.rule.num, .int .i64 x.rule.den, .int .i64 x.rule.pnum, .int .i64 x.rule.pden, .int .i64 x.rule.bnum, .int .i64 x.rule.bden, .int .i64 x.rule.lnum, .int .i64 x.rule.lden, .int .i64 x.rule.least])
  have hRG := hDB.range
  go_enter Tryz.func18, Tryz.ntmps18
  go_wp2_with (first
    | (refine wpList_load_mid rfl 34 (.tmp 1) rfl _ _ rfl _ _ hRG Tryz.underlying34 rfl (by kernel_rfl) ?_)
    | (go_at_call 36; (with_reducible refine (HL.out _ (by repeat (first | exact Below.refl _ _ | assumption | refine ba_alloc ?_ _ | refine ba_drew ?_ | refine ba_drewN ?_ _ | refine ba_via (by assumption) ?_ | (refine ba_set ?_ ?_ _; rotate_left; (first | omega | (simp; omega) | simp))))).mono ?_); rintro e w1 ⟨A1, c1', rfl, how1, hbw1⟩))
  go_ret2
  exact ⟨rfl, (by repeat (first | exact Below.refl _ _ | assumption | refine ba_alloc ?_ _ | refine ba_drew ?_ | refine ba_drewN ?_ _ | refine ba_via (by assumption) ?_ | (refine ba_set ?_ ?_ _; rotate_left; (first | omega | (simp; omega) | simp))))⟩
set_option maxRecDepth 20000 in
set_option maxHeartbeats 2000000 in
theorem lcheck_nil (x : Dt) (B : Nat) (n : Nat) (xs : List Value) (w : World) (hB : B ≤ w.heap.size) (hj : x.jA = none ∧ x.jn = 0 ∧ x.jc = 0)
    (hL : ∀ W, Below w.heap.size w W → Calls Tryz.prog 36 #[dtV x] W (GivesLook true n xs W)) :
    Calls Tryz.prog 16 #[dtV x] w fun e w' => e = .returned (.tuple #[.slice none 0 0, .int .i64 0]) ∧ Below w.heap.size w w' := by
  have HL := Lib.hid hL
  clear hL
  unfold dtV at HL
  unfold dtV
  rw [hj.1, hj.2.1, hj.2.2] at HL ⊢
  have hDB := (Blk.new w 34 #[.string x.m.name, .slice x.mA x.mn x.mc, .slice x.hA x.hn x.hc, .int .i64 x.m.cover, .int .i64 x.m.aggr, .int .i64 x.m.poker, .slice x.bA x.bn x.bc, .slice x.rA x.rn x.rc, .slice none 0 0, .slice x.dA x.dn x.dc, .int .i64 x.rule.num, .int .i64 x.rule.den, .int .i64 x.rule.pnum, .int .i64 x.rule.pden, .int .i64 x.rule.bnum, .int .i64 x.rule.bden, .int .i64 x.rule.lnum, .int .i64 x.rule.lden, .int .i64 x.rule.least])
  have hRG := hDB.range
  go_enter Tryz.func16, Tryz.ntmps16
  go_upto_region 5 with (first
    | (refine wpList_load_mid rfl 34 (.tmp 1) rfl _ _ rfl _ _ hRG Tryz.underlying34 rfl (by kernel_rfl) ?_)
    | (go_at_call 36; (with_reducible refine (HL.out _ (by repeat (first | exact Below.refl _ _ | assumption | refine ba_alloc ?_ _ | refine ba_drew ?_ | refine ba_drewN ?_ _ | refine ba_via (by assumption) ?_ | (refine ba_set ?_ ?_ _; rotate_left; (first | omega | (simp; omega) | simp))))).mono ?_); rintro e w1 ⟨A1, c1', rfl, how1, hbw1⟩))
  have hbw : Below w.heap.size w w1 := (by repeat (first | exact Below.refl _ _ | assumption | refine ba_alloc ?_ _ | refine ba_drew ?_ | refine ba_drewN ?_ _ | refine ba_via (by assumption) ?_ | (refine ba_set ?_ ?_ _; rotate_left; (first | omega | (simp; omega) | simp))))
  have d8 := (hDB.via hbw1).cell 8
  simp only [List.getElem?_toArray, List.getElem?_cons_zero, List.getElem?_cons_succ] at d8
  go_wp2
  refine wp_loop_rounds 1 ?_
  rw [rounds_succ]
  go_wp2
  go_ret2
  exact ⟨rfl, hbw⟩
end Go.Proofs.YtplaghmehbkcnaaGreat
