/- Contracts: lap.Chains of one lap; stirruplaw25.rule. Contract: stirruplaw25.example. Contract: stirruplaw25.example: the walk. The example as data; contracts: demand.Valid of no demands. -/
import Derived.Test.YtnjflafaflalfaaRAN
import Derived.Test.YtnjflafaflalfaaRAO
set_option linter.unusedVariables false
set_option linter.unusedSimpArgs false
namespace Go.Proofs.Ytnjflafaflalfaa
open Go.RowKit
set_option maxRecDepth 20000 in
set_option maxHeartbeats 4000000 in
theorem Chains_one (x : Dt) (td : Bool) (B : Nat) (w : World) (hB : B ≤ w.heap.size) (hA : DtAt w B x)
    (hD : ∀ W, Below w.heap.size w W → Calls Try.prog 29 #[.slice x.dA x.dn x.dc] W fun e w' => e = .returned (.bool td) ∧ Below W.heap.size W w') (h : S.look x td = true)
    (hj : x.js = [⟨0, 1⟩]) (hl : (S.mains (bars x.bs) x.rs).length = 2) :
    Calls Try.prog 15 #[dtV x] w fun e w' => (∃ v, e = .returned (.tuple #[v, .int .i64 0]) ∧ One2 w' v 0 1) ∧ Below w.heap.size w w' := by
  have HL := Lib.hid (fun (W : World) (hw : Below w.heap.size w W) => look_yes x td B W (size_via hB hw) (hA.at_ hB hw) (fun V hV => hD V (hw.trans (hV.mono hw.size))) h)
  have HC := Lib.hid (fun (W : World) (hw : Below w.heap.size w W) => chains_one x B W (size_via hB hw) (hA.at_ hB hw) hj)
  rw [hl] at HL
  clear hA hD h hj hl
  unfold dtV at HL HC
  unfold dtV
  go_enter Try.func15, Try.ntmps15
  have hDB : Blk (w.alloc (.cells #[.string x.m.name, .slice x.mA x.mn x.mc, .slice x.hA x.hn x.hc, .int .i64 x.m.cover, .int .i64 x.m.aggr, .int .i64 x.m.poker, .slice x.bA x.bn x.bc, .slice x.rA x.rn x.rc, .slice x.jA x.jn x.jc, .slice x.dA x.dn x.dc, .int .i64 x.rule.num, .int .i64 x.rule.den, .int .i64 x.rule.pnum, .int .i64 x.rule.pden, .int .i64 x.rule.bnum, .int .i64 x.rule.bden, .int .i64 x.rule.lnum, .int .i64 x.rule.lden, .int .i64 x.rule.least] 52)) w.heap.size 52 #[.string x.m.name, .slice x.mA x.mn x.mc, .slice x.hA x.hn x.hc, .int .i64 x.m.cover, .int .i64 x.m.aggr, .int .i64 x.m.poker, .slice x.bA x.bn x.bc, .slice x.rA x.rn x.rc, .slice x.jA x.jn x.jc, .slice x.dA x.dn x.dc, .int .i64 x.rule.num, .int .i64 x.rule.den, .int .i64 x.rule.pnum, .int .i64 x.rule.pden, .int .i64 x.rule.bnum, .int .i64 x.rule.bden, .int .i64 x.rule.lnum, .int .i64 x.rule.lden, .int .i64 x.rule.least] := Blk.new w _ _
  have hRG := hDB.range
  go_upto_region 4 with (first
    | (refine wpList_load_mid rfl 52 (.tmp 1) rfl _ _ rfl _ _ hRG Try.underlying52 rfl (by kernel_rfl) ?_)
    | (go_at_call 22; (with_reducible refine (HL.out _ bel).mono ?_); rintro e w1 ⟨A1, c1', rfl, how1, hbw1⟩; obtain ⟨hcw1, hfw1⟩ := bcell hbw1; have hzw1_0 : w.heap.size < w1.heap.size := lt_via hbw1 (by first | omega | (simp; done) | (simp; omega))))
  have hRG1 := (hDB.via hbw1).range
  clear hRG
  go_wp2_with (first
    | (refine wpList_load_mid rfl 52 (.tmp 1) rfl _ _ rfl _ _ hRG1 Try.underlying52 rfl (by kernel_rfl) ?_)
    | (go_at_call 24; (with_reducible refine (HC.out _ bel).mono ?_); rintro e w2 ⟨⟨v, rfl, hO⟩, hbw2⟩))
  go_ret2
  exact ⟨⟨v, rfl, hO⟩, bel⟩
def exRule : Rule := ⟨40, 1, 10, 7, 7, 10, 3, 2, 100⟩
theorem rule_any (w : World) : Calls Try.prog 12 #[] w fun e w' => e = .returned (ruleV exRule) ∧ Below w.heap.size w w' := by
  go_enter Try.func12, Try.ntmps12
  go_wp2
  exact bodyPost_ret (v := .agg #[.int .i64 40, .int .i64 1, .int .i64 10, .int .i64 7, .int .i64 7, .int .i64 10, .int .i64 3, .int .i64 2, .int .i64 100]) (by simp [results, Try.results12, go_sem, *]) rfl ⟨rfl, bel⟩
abbrev strA : ByteArray := ⟨#[97]⟩
abbrev strM : ByteArray := ⟨#[109]⟩
abbrev barArr (g : Nat) : Array Value := #[.string strA, .int .i64 12, .int .i64 2, .int .i64 0, .slice (some ⟨g, 0, none⟩) 1 1]
abbrev runArr : Array Value := #[.string strA, .int .i64 1, .int .i64 2, .int .i64 0, .int .i64 100, .int .i64 40, .int .i64 1000, .int .i64 0, .int .i64 12, .int .i64 2]
abbrev exL (b : Nat) (gb gr gj : Nat) : List Value := [.string strM, .slice (some ⟨b + 1, 0, none⟩) 1 1, .slice none 0 0, .int .i64 0, .int .i64 20, .int .i64 40, .slice (some ⟨gb, 0, none⟩) 1 1, .slice (some ⟨gr, 0, none⟩) 1 1, .slice (some ⟨gj, 0, none⟩) 1 1, .slice none 0 0,
  .int .i64 40, .int .i64 1, .int .i64 10, .int .i64 7, .int .i64 7, .int .i64 10, .int .i64 3, .int .i64 2, .int .i64 100]
structure ExBlks (w : World) (b g gb gr gj : Nat) : Prop where
  n0 : g ≠ b
  n1 : gb ≠ b
  n2 : gr ≠ b
  n3 : gj ≠ b
  dims : Blk w g 3 #[.int .i64 2000]
  bar : Blk w gb 74 (barArr g)
  run : Blk w gr 78 runArr
  lap : Blk w gj 68 #[.int .i64 0, .int .i64 1]
def Fin (b : Nat) (w : World) : Prop := ∃ g gb gr gj, w.rangeAt b 0 (exL b gb gr gj) ∧ ExBlks w b g gb gr gj ∧ b < w.heap.size
def Grown (b : Nat) (w w' : World) : Prop := Exc [b] w w' ∧ (Fin b w → Fin b w')
def ExV (b : Nat) (i : Nat) (v : Value) (w : World) : Prop :=
  match i with
  | 0 => v = .agg #[.string strM, .slice (some ⟨b + 1, 0, none⟩) 1 1, .slice none 0 0, .int .i64 0, .int .i64 20, .int .i64 40]
  | 1 => ∃ g, v = .slice (some ⟨g, 0, none⟩) 1 1 ∧ g ≠ b ∧ Blk w g 3 #[.int .i64 2000]
  | 2 => ∃ g, v = .agg (barArr g) ∧ g ≠ b ∧ Blk w g 3 #[.int .i64 2000]
  | 3 => ∃ g gb, v = .slice (some ⟨gb, 0, none⟩) 1 1 ∧ g ≠ b ∧ gb ≠ b ∧ Blk w g 3 #[.int .i64 2000] ∧ Blk w gb 74 (barArr g)
  | 4 => v = .agg #[.int .i64 1, .int .i64 2]
  | 5 => v = .agg #[.int .i64 0, .int .i64 100, .int .i64 40]
  | 6 => v = .agg #[.int .i64 1000, .int .i64 0, .int .i64 12]
  | 7 => v = .agg runArr
  | 8 => ∃ gr, v = .slice (some ⟨gr, 0, none⟩) 1 1 ∧ gr ≠ b ∧ Blk w gr 78 runArr
  | 9 => v = .agg #[.int .i64 0, .int .i64 1]
  | 10 => ∃ gj, v = .slice (some ⟨gj, 0, none⟩) 1 1 ∧ gj ≠ b ∧ Blk w gj 68 #[.int .i64 0, .int .i64 1]
  | 11 => v = ruleV exRule
  | 12 => ∃ g gb gr gj, v = .agg (exL b gb gr gj).toArray ∧ ExBlks w b g gb gr gj
  | 13 => Fin b w
  | _ => True
theorem Blk.grown {b : Nat} {w w' : World} (h : Grown b w w') {g : Nat} {t : TypeId} {cs : Array Value} (hB : Blk w g t cs) (hn : g ≠ b) : Blk w' g t cs := hB.exc h.1 (by simpa using hn)
theorem ExBlks.grown {b : Nat} {w w' : World} (h : Grown b w w') {g gb gr gj : Nat} (hB : ExBlks w b g gb gr gj) : ExBlks w' b g gb gr gj :=
  ⟨hB.n0, hB.n1, hB.n2, hB.n3, hB.dims.grown h hB.n0, hB.bar.grown h hB.n1, hB.run.grown h hB.n2, hB.lap.grown h hB.n3⟩
theorem ExV.stable (b : Nat) : ∀ i v w w', ExV b i v w → Grown b w w' → ExV b i v w' := by
  intro i v w w' h hg
  rcases i with _ | _ | _ | _ | _ | _ | _ | _ | _ | _ | _ | _ | _ | _ | i
  · exact h
  · obtain ⟨g, h1, h2, h3⟩ := h; exact ⟨g, h1, h2, h3.grown hg h2⟩
  · obtain ⟨g, h1, h2, h3⟩ := h; exact ⟨g, h1, h2, h3.grown hg h2⟩
  · obtain ⟨g, gb, h1, h2, h3, h4, h5⟩ := h; exact ⟨g, gb, h1, h2, h3, h4.grown hg h2, h5.grown hg h3⟩
  · exact h
  · exact h
  · exact h
  · exact h
  · obtain ⟨g, h1, h2, h3⟩ := h; exact ⟨g, h1, h2, h3.grown hg h2⟩
  · exact h
  · obtain ⟨g, h1, h2, h3⟩ := h; exact ⟨g, h1, h2, h3.grown hg h2⟩
  · exact h
  · obtain ⟨g, gb, gr, gj, h1, h2⟩ := h; exact ⟨g, gb, gr, gj, h1, h2.grown hg⟩
  · exact hg.2 h
  · trivial
theorem Grown.of {b : Nat} {w w' : World} (h : Exc [] w w') : Grown b w w' := by
  refine ⟨⟨h.os, h.tape, h.output, h.size, fun k hk _ => h.block k hk (by simp)⟩, fun hf => ?_⟩
  obtain ⟨g, gb, gr, gj, h1, h2, h3⟩ := hf
  have hB : ∀ {g : Nat} {t : TypeId} {cs : Array Value}, Blk w g t cs → Blk w' g t cs := fun hb => hb.exc h (by simp)
  refine ⟨g, gb, gr, gj, fun j v hv => ?_, ⟨h2.n0, h2.n1, h2.n2, h2.n3, hB h2.dims, hB h2.bar, hB h2.run, hB h2.lap⟩, Nat.lt_of_lt_of_le h3 h.size⟩
  exact (h.cell (p := ⟨b, 0 + j, none⟩) h3 (by simp)).trans (h1 j v hv)
structure ExS (b : Nat) (w3 : World) (a : Act) (w : World) : Prop where
  size : a.tmps.size = 20
  s0 : a.tmps.getD 0 undef = .pointer (some ⟨b, 0, none⟩)
  s1 : a.tmps.getD 1 undef = .pointer (some ⟨b + 1 + 1, 0, none⟩)
  defers : a.defers = []
  exc : Exc [b] w3 w
  there : w.there b 0 19
  lt : b < w.heap.size
theorem there_exc {w w' : World} {b n : Nat} (h : w.there b 0 n) (hX : Exc [] w w') (hb : b < w.heap.size) : w'.there b 0 n := fun j hj => by
  obtain ⟨h1, h2⟩ := h j hj
  rw [hX.cell (p := ⟨b, 0 + j, none⟩) hb (by simp), hX.frozen (p := ⟨b, 0 + j, none⟩) hb (by simp)]
  exact ⟨h1, h2⟩
theorem ExS.put {b : Nat} {w3 : World} {a : Act} {w w' : World} (h : ExS b w3 a w) (hX : Exc [] w w') {d : Nat} (h7 : 7 ≤ d) (v : Value) : ExS b w3 (a.put (some d) v) w' := by
  refine ⟨by simpa [Act.put] using h.size, ?_, ?_, h.defers, h.exc.join hX (by simp), there_exc h.there hX h.lt, Nat.lt_of_lt_of_le h.lt hX.size⟩
  · have := h.s0
    simp only [Act.put, Array.getD_eq_getD_getElem?] at this ⊢
    rw [Array.getElem?_setIfInBounds_ne (by omega)]
    exact this
  · have := h.s1
    simp only [Act.put, Array.getD_eq_getD_getElem?] at this ⊢
    rw [Array.getElem?_setIfInBounds_ne (by omega)]
    exact this
theorem ex_step {b : Nat} {w3 : World} {l : List Oper} {Q : Exit → Act → World → Prop} {j : Nat} {a : Act} {w w' : World} {o : Oper} {v : Value} {d : Nat} (ho : l.toArray[j]? = some o) (hg : o.guard = none) (hd : o.dst = some d) (h7 : 7 ≤ d) (hS : ExS b w3 a w)
    (hr : (execOp a.eval o).run Try.prog w = .ok (.value v) w') (hX : Exc [] w w') (hV : ExV b j v w') :
    wpOp Try.prog l.toArray Q j (fun a' w' => ∃ v, a' = a.put o.dst v ∧ (o.dst = none → v = undef) ∧ ExV b j v w' ∧ Grown b w w' ∧ ExS b w3 a' w') a w := by
  refine op_val ho hg hr ⟨v, rfl, fun h => ?_, hV, Grown.of hX, ?_⟩
  · rw [hd] at h; cases h
  · rw [hd]; exact hS.put hX h7 v
set_option maxRecDepth 20000 in
set_option maxHeartbeats 4000000 in
theorem example_any (w : World) : Calls Try.prog 14 #[] w fun e w' => ∃ g gb gr gj, e = .returned (.agg (exL w.heap.size gb gr gj).toArray) ∧ ExBlks w' w.heap.size g gb gr gj ∧ Blk w' (w.heap.size + 1) 72 #[.int .i64 0, .int .i64 0, .int .i64 0, .int .i64 3000, .int .i64 200, .int .i64 400] ∧ Below w.heap.size w w' := by
  go_enter Try.func14, Try.ntmps14
  go_wp2
  have hD0 : Blk (((w.alloc (.cells #[.string ⟨#[]⟩, .slice none 0 0, .slice none 0 0, .int .i64 0, .int .i64 0, .int .i64 0, .slice none 0 0, .slice none 0 0, .slice none 0 0, .slice none 0 0, .int .i64 0, .int .i64 0, .int .i64 0, .int .i64 0, .int .i64 0, .int .i64 0, .int .i64 0, .int .i64 0, .int .i64 0] 52)).alloc (.cells #[.int .i64 0, .int .i64 0, .int .i64 0, .int .i64 3000, .int .i64 200, .int .i64 400] 72)).alloc (.cells #[.string ⟨#[109]⟩, .slice (some ⟨w.heap.size + 1, 0, none⟩) 1 1, .slice none 0 0, .int .i64 0, .int .i64 20, .int .i64 40] 46)) w.heap.size 52 #[.string ⟨#[]⟩, .slice none 0 0, .slice none 0 0, .int .i64 0, .int .i64 0, .int .i64 0, .slice none 0 0, .slice none 0 0, .slice none 0 0, .slice none 0 0, .int .i64 0, .int .i64 0, .int .i64 0, .int .i64 0, .int .i64 0, .int .i64 0, .int .i64 0, .int .i64 0, .int .i64 0] := ((Blk.new w _ _).alloc _).alloc _
  have hBx : Blk (((w.alloc (.cells #[.string ⟨#[]⟩, .slice none 0 0, .slice none 0 0, .int .i64 0, .int .i64 0, .int .i64 0, .slice none 0 0, .slice none 0 0, .slice none 0 0, .slice none 0 0, .int .i64 0, .int .i64 0, .int .i64 0, .int .i64 0, .int .i64 0, .int .i64 0, .int .i64 0, .int .i64 0, .int .i64 0] 52)).alloc (.cells #[.int .i64 0, .int .i64 0, .int .i64 0, .int .i64 3000, .int .i64 200, .int .i64 400] 72)).alloc (.cells #[.string ⟨#[109]⟩, .slice (some ⟨w.heap.size + 1, 0, none⟩) 1 1, .slice none 0 0, .int .i64 0, .int .i64 20, .int .i64 40] 46)) (w.heap.size + 1) 72 #[.int .i64 0, .int .i64 0, .int .i64 0, .int .i64 3000, .int .i64 200, .int .i64 400] := by
    have := (Blk.new (w.alloc (.cells #[.string ⟨#[]⟩, .slice none 0 0, .slice none 0 0, .int .i64 0, .int .i64 0, .int .i64 0, .slice none 0 0, .slice none 0 0, .slice none 0 0, .slice none 0 0, .int .i64 0, .int .i64 0, .int .i64 0, .int .i64 0, .int .i64 0, .int .i64 0, .int .i64 0, .int .i64 0, .int .i64 0] 52)) 72 #[.int .i64 0, .int .i64 0, .int .i64 0, .int .i64 3000, .int .i64 200, .int .i64 400]).alloc (.cells #[.string ⟨#[109]⟩, .slice (some ⟨w.heap.size + 1, 0, none⟩) 1 1, .slice none 0 0, .int .i64 0, .int .i64 20, .int .i64 40] 46)
    simpa using this
  have hMb : Blk (((w.alloc (.cells #[.string ⟨#[]⟩, .slice none 0 0, .slice none 0 0, .int .i64 0, .int .i64 0, .int .i64 0, .slice none 0 0, .slice none 0 0, .slice none 0 0, .slice none 0 0, .int .i64 0, .int .i64 0, .int .i64 0, .int .i64 0, .int .i64 0, .int .i64 0, .int .i64 0, .int .i64 0, .int .i64 0] 52)).alloc (.cells #[.int .i64 0, .int .i64 0, .int .i64 0, .int .i64 3000, .int .i64 200, .int .i64 400] 72)).alloc (.cells #[.string ⟨#[109]⟩, .slice (some ⟨w.heap.size + 1, 0, none⟩) 1 1, .slice none 0 0, .int .i64 0, .int .i64 20, .int .i64 40] 46)) (w.heap.size + 1 + 1) 46 #[.string ⟨#[109]⟩, .slice (some ⟨w.heap.size + 1, 0, none⟩) 1 1, .slice none 0 0, .int .i64 0, .int .i64 20, .int .i64 40] := by
    have := Blk.new ((w.alloc (.cells #[.string ⟨#[]⟩, .slice none 0 0, .slice none 0 0, .int .i64 0, .int .i64 0, .int .i64 0, .slice none 0 0, .slice none 0 0, .slice none 0 0, .slice none 0 0, .int .i64 0, .int .i64 0, .int .i64 0, .int .i64 0, .int .i64 0, .int .i64 0, .int .i64 0, .int .i64 0, .int .i64 0] 52)).alloc (.cells #[.int .i64 0, .int .i64 0, .int .i64 0, .int .i64 3000, .int .i64 200, .int .i64 400] 72)) 46 #[.string ⟨#[109]⟩, .slice (some ⟨w.heap.size + 1, 0, none⟩) 1 1, .slice none 0 0, .int .i64 0, .int .i64 20, .int .i64 40]
    simpa using this
  have hb3 : Below w.heap.size w (((w.alloc (.cells #[.string ⟨#[]⟩, .slice none 0 0, .slice none 0 0, .int .i64 0, .int .i64 0, .int .i64 0, .slice none 0 0, .slice none 0 0, .slice none 0 0, .slice none 0 0, .int .i64 0, .int .i64 0, .int .i64 0, .int .i64 0, .int .i64 0, .int .i64 0, .int .i64 0, .int .i64 0, .int .i64 0] 52)).alloc (.cells #[.int .i64 0, .int .i64 0, .int .i64 0, .int .i64 3000, .int .i64 200, .int .i64 400] 72)).alloc (.cells #[.string ⟨#[109]⟩, .slice (some ⟨w.heap.size + 1, 0, none⟩) 1 1, .slice none 0 0, .int .i64 0, .int .i64 20, .int .i64 40] 46)) := ba_alloc (ba_alloc (ba_alloc (Below.refl _ _) _) _) _
  generalize (((w.alloc (.cells #[.string ⟨#[]⟩, .slice none 0 0, .slice none 0 0, .int .i64 0, .int .i64 0, .int .i64 0, .slice none 0 0, .slice none 0 0, .slice none 0 0, .slice none 0 0, .int .i64 0, .int .i64 0, .int .i64 0, .int .i64 0, .int .i64 0, .int .i64 0, .int .i64 0, .int .i64 0, .int .i64 0] 52)).alloc (.cells #[.int .i64 0, .int .i64 0, .int .i64 0, .int .i64 3000, .int .i64 200, .int .i64 400] 72)).alloc (.cells #[.string ⟨#[109]⟩, .slice (some ⟨w.heap.size + 1, 0, none⟩) 1 1, .slice none 0 0, .int .i64 0, .int .i64 20, .int .i64 40] 46)) = w3 at *
  refine wp_region_rel (V := ExV w.heap.size) (S := ExS w.heap.size w3) (G := Grown w.heap.size) (by kernel_rfl) (ExV.stable _) (earlyB_out (by kernel_rfl)) (distB_out (by kernel_rfl)) (fun j oj s a' w' hj hs hS => by rw [hS.size]; exact slotsB_out (N := 20) (by kernel_rfl) hj hs) ?_ ?_ ?_
  · exact ⟨rfl, rfl, rfl, rfl, (Exc.refl _ _).drew, fun j hj => ⟨by rw [show w3.drew.cell? ⟨w.heap.size, 0 + j, none⟩ = w3.cell? ⟨w.heap.size, 0 + j, none⟩ from rfl, hD0.cell]; simp [hj], hD0.frozen _⟩, hD0.lt⟩
  · intro j oj a' w' hj hS hdep
    have hMw := hMb.exc hS.exc (by simp; omega)
    have e0 : a'.eval (.tmp 0) = .pointer (some ⟨w.heap.size, 0, none⟩) := hS.s0
    have e1 : a'.eval (.tmp 1) = .pointer (some ⟨w.heap.size + 1 + 1, 0, none⟩) := hS.s1
    rcases j with _ | _ | _ | _ | _ | _ | _ | _ | _ | _ | _ | _ | _ | _ | j
    all_goals (simp only [List.getElem?_cons_zero, List.getElem?_cons_succ, Option.some.injEq, Nat.zero_add] at hj; try subst hj)
    · refine ex_step rfl rfl rfl (by decide) hS (w' := w') ?_ (Exc.refl _ _) rfl
      simp only [execOp, e1, Instr.loadAt, Instr.sureAddr, Sem.run_bind, Sem.run_pure, Result.andThen_ok, run_loadVar_mid w' (w.heap.size + 1 + 1) 0 46 [.string ⟨#[109]⟩, .slice (some ⟨w.heap.size + 1, 0, none⟩) 1 1, .slice none 0 0, .int .i64 0, .int .i64 20, .int .i64 40] _ hMw.range Try.underlying46 rfl (by kernel_rfl)]
    · exact ex_step rfl rfl rfl (by decide) hS (w' := w'.alloc (.cells #[.int .i64 2000] 3)) (by kernel_rfl) ((Exc.refl _ _).alloc _) ⟨_, rfl, by have := hS.lt; omega, Blk.new _ _ _⟩
    · obtain ⟨g, hv, hn, hB⟩ := hdep ⟨1, .data⟩ (by simp) rfl _ rfl
      have e8 : a'.eval (.tmp 8) = .slice (some ⟨g, 0, none⟩) 1 1 := hv
      exact ex_step rfl rfl rfl (by decide) hS (w' := w') (by simp only [execOp, List.map_toArray, List.map_cons, List.map_nil, e8]; kernel_rfl) (Exc.refl _ _) ⟨g, rfl, hn, hB⟩
    · obtain ⟨g, hv, hn, hB⟩ := hdep ⟨2, .data⟩ (by simp) rfl _ rfl
      have e9 : a'.eval (.tmp 9) = .agg (barArr g) := hv
      exact ex_step rfl rfl rfl (by decide) hS (w' := w'.alloc (.cells (barArr g) 74)) (by simp only [execOp, List.map_toArray, List.map_cons, List.map_nil, e9]; kernel_rfl) ((Exc.refl _ _).alloc _) ⟨g, _, rfl, hn, by have := hS.lt; omega, hB.alloc _, Blk.new _ _ _⟩
    · exact ex_step rfl rfl rfl (by decide) hS (w' := w') (by kernel_rfl) (Exc.refl _ _) rfl
    · exact ex_step rfl rfl rfl (by decide) hS (w' := w') (by kernel_rfl) (Exc.refl _ _) rfl
    · exact ex_step rfl rfl rfl (by decide) hS (w' := w') (by kernel_rfl) (Exc.refl _ _) rfl
    · have e11 : a'.eval (.tmp 11) = .agg #[.int .i64 1, .int .i64 2] := hdep ⟨4, .data⟩ (by simp) rfl _ rfl
      have e12 : a'.eval (.tmp 12) = .agg #[.int .i64 0, .int .i64 100, .int .i64 40] := hdep ⟨5, .data⟩ (by simp) rfl _ rfl
      have e13 : a'.eval (.tmp 13) = .agg #[.int .i64 1000, .int .i64 0, .int .i64 12] := hdep ⟨6, .data⟩ (by simp) rfl _ rfl
      exact ex_step rfl rfl rfl (by decide) hS (w' := w') (by simp only [execOp, List.map_toArray, List.map_cons, List.map_nil, e11, e12, e13]; kernel_rfl) (Exc.refl _ _) rfl
    · have e14 : a'.eval (.tmp 14) = .agg runArr := hdep ⟨7, .data⟩ (by simp) rfl _ rfl
      exact ex_step rfl rfl rfl (by decide) hS (w' := w'.alloc (.cells runArr 78)) (by simp only [execOp, List.map_toArray, List.map_cons, List.map_nil, e14]; kernel_rfl) ((Exc.refl _ _).alloc _) ⟨_, rfl, by have := hS.lt; omega, Blk.new _ _ _⟩
    · exact ex_step rfl rfl rfl (by decide) hS (w' := w') (by kernel_rfl) (Exc.refl _ _) rfl
    · have e16 : a'.eval (.tmp 16) = .agg #[.int .i64 0, .int .i64 1] := hdep ⟨9, .data⟩ (by simp) rfl _ rfl
      exact ex_step rfl rfl rfl (by decide) hS (w' := w'.alloc (.cells #[.int .i64 0, .int .i64 1] 68)) (by simp only [execOp, List.map_toArray, List.map_cons, List.map_nil, e16]; kernel_rfl) ((Exc.refl _ _).alloc _) ⟨_, rfl, by have := hS.lt; omega, Blk.new _ _ _⟩
    · refine op_call (f := 12) (args := #[]) rfl rfl (by first | kernel_rfl | (simp [execOp, go_sem, Try.call12]; done)) (rule_any w') ?_
      rintro e w'' ⟨rfl, hb⟩
      exact ⟨ruleV exRule, rfl, ruleV exRule, rfl, fun h => by simp at h, rfl, Grown.of (Exc.of_below hb), hS.put (Exc.of_below hb) (d := 18) (by decide) _⟩
    · have e7 : a'.eval (.tmp 7) = .agg #[.string strM, .slice (some ⟨w.heap.size + 1, 0, none⟩) 1 1, .slice none 0 0, .int .i64 0, .int .i64 20, .int .i64 40] := hdep ⟨0, .data⟩ (by simp) rfl _ rfl
      obtain ⟨g, gb, hv3, n0, n1, hB0, hB1⟩ := hdep ⟨3, .data⟩ (by simp) rfl _ rfl
      obtain ⟨gr, hv8, n2, hB2⟩ := hdep ⟨8, .data⟩ (by simp) rfl _ rfl
      obtain ⟨gj, hv10, n3, hB3⟩ := hdep ⟨10, .data⟩ (by simp) rfl _ rfl
      have e10 : a'.eval (.tmp 10) = .slice (some ⟨gb, 0, none⟩) 1 1 := hv3
      have e15 : a'.eval (.tmp 15) = .slice (some ⟨gr, 0, none⟩) 1 1 := hv8
      have e17 : a'.eval (.tmp 17) = .slice (some ⟨gj, 0, none⟩) 1 1 := hv10
      have e18 : a'.eval (.tmp 18) = ruleV exRule := hdep ⟨11, .data⟩ (by simp) rfl _ rfl
      exact ex_step rfl rfl rfl (by decide) hS (w' := w') (by simp only [execOp, List.map_toArray, List.map_cons, List.map_nil, e7, e10, e15, e17, e18]; kernel_rfl) (Exc.refl _ _) ⟨g, gb, gr, gj, rfl, n0, n1, n2, n3, hB0, hB1, hB2, hB3⟩
    · obtain ⟨g, gb, gr, gj, hv, hB⟩ := hdep ⟨12, .data⟩ (by simp) rfl _ rfl
      have e19 : a'.eval (.tmp 19) = .agg (exL w.heap.size gb gr gj).toArray := hv
      have hXs := exc_setCells w.heap.size (exL w.heap.size gb gr gj) 0 w'
      have hblt : w.heap.size < (w'.setCells w.heap.size 0 (exL w.heap.size gb gr gj)).heap.size := Nat.lt_of_lt_of_le hS.lt hXs.size
      have hF : Fin w.heap.size (w'.setCells w.heap.size 0 (exL w.heap.size gb gr gj)) := ⟨g, gb, gr, gj, World.rangeAt_setCells_same _ _ _ _ hS.there, ⟨hB.n0, hB.n1, hB.n2, hB.n3, hB.dims.exc hXs (by simpa using hB.n0), hB.bar.exc hXs (by simpa using hB.n1), hB.run.exc hXs (by simpa using hB.n2), hB.lap.exc hXs (by simpa using hB.n3)⟩, hblt⟩
      refine op_skip (w' := w'.setCells w.heap.size 0 (exL w.heap.size gb gr gj)) rfl rfl ?_ ⟨undef, rfl, fun _ => rfl, hF, ⟨hXs, fun _ => hF⟩, ⟨hS.size, hS.s0, hS.s1, hS.defers, hS.exc.join hXs (fun k hk => .inl hk), World.there_setCells hS.there _ _ _, hblt⟩⟩
      have hst := run_storeAt_mid (P := Try.prog) w' w.heap.size 0 52 (exL w.heap.size gb gr gj).toArray hS.there (by kernel_rfl) (by simp [Value.oneCell'])
      change Sem.run Try.prog (execOp a'.eval { dst := none, op := Op.store 52 (.tmp 0) (.tmp 19), type := 0, pos := "law.go:25", after := _, guard := none }) w' = _
      simp only [execOp, e0, e19, Sem.run_bind, hst]
      rfl
    · simp at hj
  · intro a' w' hS hall
    obtain ⟨g, gb, gr, gj, hr, hB, hlt⟩ := hall 13 _ rfl
    rename_i K hK
    have hres : (loadVar 52 ⟨w.heap.size, 0, none⟩).run Try.prog w' = .ok (.agg (exL w.heap.size gb gr gj).toArray) w' := run_loadVar_mid w' w.heap.size 0 _ _ _ hr Try.underlying52 rfl (by kernel_rfl)
    have hBx' := hBx.exc hS.exc (by simp)
    have hbb : Below w.heap.size w w' := by
      have h1 := hS.exc
      exact ⟨h1.os.trans hb3.os, h1.tape.trans hb3.tape, h1.output.trans hb3.output, Nat.le_trans hb3.size h1.size, fun k hk => (h1.block k (Nat.lt_of_lt_of_le hk hb3.size) (by simp; omega)).trans (hb3.block k hk)⟩
    have hs0 := hS.s0
    have hdf := hS.defers
    show K a' w'
    apply hK
    go_wp2
    refine bodyPost_ret (v := .agg (exL w.heap.size gb gr gj).toArray) ?_ hdf ⟨g, gb, gr, gj, rfl, hB, hBx', hbb⟩
    rw [Array.getD_eq_getD_getElem?] at hs0
    have ha : (asAddr (a'.tmps[0]?.getD undef)).run Try.prog w' = .ok ⟨w.heap.size, 0, none⟩ w' := by rw [hs0]; kernel_rfl
    simp [results, Try.results14, ha, hres, Result.andThen]
def exDt (b g gb gr gj : Nat) : Dt where
  m := ⟨strM, [⟨⟨0, 0, 0⟩, ⟨3000, 200, 400⟩⟩], [], 0, 20, 40⟩
  mA := some ⟨b + 1, 0, none⟩
  mn := 1
  mc := 1
  hA := none
  hn := 0
  hc := 0
  bs := [⟨⟨strA, 12, 2, 0, [2000]⟩, some ⟨g, 0, none⟩, 1, 1⟩]
  bA := some ⟨gb, 0, none⟩
  bn := 1
  bc := 1
  rs := [⟨strA, 1, 2, ⟨0, 100, 40⟩, ⟨1000, 0, 12⟩, 2⟩]
  rA := some ⟨gr, 0, none⟩
  rn := 1
  rc := 1
  js := [⟨0, 1⟩]
  jA := some ⟨gj, 0, none⟩
  jn := 1
  jc := 1
  dA := none
  dn := 0
  dc := 0
  rule := exRule
theorem Blk.cells {w : World} {g : Nat} {t : TypeId} {cs : List Value} (h : Blk w g t cs.toArray) : Cells w w.heap.size (some ⟨g, 0, none⟩) cs := .inr ⟨g, 0, rfl, h.lt, fun j v hv => by
  rw [Nat.zero_add]
  exact (h.cell j).trans (by simpa using hv)⟩
theorem ex_le1 : 1 ≤ 9223372036854775807 := by decide
theorem ex_le0 : 0 ≤ 9223372036854775807 := by decide
theorem ex_at {w : World} {b g gb gr gj : Nat} (h : ExBlks w b g gb gr gj) (hB : Blk w (b + 1) 72 #[.int .i64 0, .int .i64 0, .int .i64 0, .int .i64 3000, .int .i64 200, .int .i64 400]) : DtAt w w.heap.size (exDt b g gb gr gj) := by
  refine ⟨⟨rfl, ex_le1, rfl, ex_le0, hB.cells, Cells.nil⟩, ex_le1, ⟨rfl, ex_le1, h.bar.cells, fun r hr => ?_⟩, ⟨rfl, ex_le1, h.run.cells⟩, rfl, ex_le1, h.lap.cells⟩
  rw [show (exDt b g gb gr gj).bs = [⟨⟨strA, 12, 2, 0, [2000]⟩, some ⟨g, 0, none⟩, 1, 1⟩] from rfl, List.mem_singleton] at hr
  subst hr
  exact ⟨rfl, ex_le1, ex_le1, h.dims.cells⟩
theorem ex_look (b g gb gr gj : Nat) : S.look (exDt b g gb gr gj) true = true := by kernel_rfl
theorem ex_len (b g gb gr gj : Nat) : (S.mains (bars (exDt b g gb gr gj).bs) (exDt b g gb gr gj).rs).length = 2 := by kernel_rfl
theorem ex_m0 (b g gb gr gj : Nat) : (S.mains (bars (exDt b g gb gr gj).bs) (exDt b g gb gr gj).rs)[0]? = some ⟨⟨⟨0, 100, 40⟩, ⟨2000, 100, 40⟩⟩, true, 12, strA⟩ := by kernel_rfl
theorem ex_m1 (b g gb gr gj : Nat) : (S.mains (bars (exDt b g gb gr gj).bs) (exDt b g gb gr gj).rs)[1]? = some ⟨⟨⟨1000, 100, 52⟩, ⟨3000, 100, 52⟩⟩, true, 12, strA⟩ := by kernel_rfl
theorem demand_nil (w : World) : Calls Try.prog 29 #[.slice none 0 0] w fun e w' => e = .returned (.bool true) ∧ Below w.heap.size w w' := by
  go_enter Try.func29, Try.ntmps29
  go_wp2
  refine wp_loop_rounds 1 ?_
  rw [rounds_succ]
  go_wp2
  go_ret
  exact ⟨rfl, bel⟩
end Go.Proofs.Ytnjflafaflalfaa
