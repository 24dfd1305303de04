/- Contracts: lap.overlap, lap.Overlap of a valid detail. Contract: lap.chains of one lap and two bars. -/
import Derived.Test.YtnjflafaflalfaaRAM
set_option linter.unusedVariables false
set_option linter.unusedSimpArgs false
namespace Go.Proofs.Ytnjflafaflalfaa
open Go.RowKit
set_option maxRecDepth 20000 in
set_option maxHeartbeats 2000000 in
theorem overlap_in (l : List Mn) (i k : Nat) (a b : Mn) (A : Option Addr) (n c : Nat) (B : Nat) (w : World) (hn : l.length = n) (hm : n ≤ 9223372036854775807) (hB : B ≤ w.heap.size) (hs : Cells w B A (l.flatMap mnC)) (hi : l[i]? = some a) (hk : l[k]? = some b) :
    Calls Try.prog 23 #[.slice A n c, .agg #[.int .i64 i, .int .i64 k]] w fun e w' => e = .returned (.agg #[.int .i64 b.leg.lo.x, .int .i64 a.leg.hi.x]) ∧ Below w.heap.size w w' := by
  obtain ⟨hix, hia⟩ := List.getElem?_eq_some_iff.1 hi
  obtain ⟨hkx, hkb⟩ := List.getElem?_eq_some_iff.1 hk
  have hin : (i : Int) < n := by omega
  have hkn : (k : Int) < n := by omega
  have hi0 : (0 : Int) ≤ i := by omega
  have hk0 : (0 : Int) ≤ k := by omega
  obtain ⟨bL, oL, rfl, hbL, _⟩ := hs.at_ (by rw [flat_len mnC 9 mnC_len]; omega)
  have a3 := hs.rowj mnC_len hix 3 rfl
  have b0 := hs.row0 mnC_len hkx rfl
  rw [hia] at a3
  rw [hkb] at b0
  have hlb : bL < w.heap.size := by omega
  have hlb1 : bL < w.heap.size + 1 + 1 := by omega
  have hlb2 : bL < w.heap.size + 2 := by omega
  clear hs hi hk hia hkb
  go_enter Try.func23, Try.ntmps23
  go_wp2
  refine wp_region_grow_tail 17 (by kernel_rfl) (by kernel_rfl) ?_
  simp only [List.take_succ_cons, List.take_zero, List.drop_succ_cons, List.drop_zero]
  repeat (go_big_quiet_step (fail))
  all_goals (refine wpQuiet_nil ?_; intro wg hbwg; obtain ⟨hcwg, hfwg⟩ := bcell hbwg; have hzwg_0 : w.heap.size < wg.heap.size := lt_via hbwg (by first | omega | (simp; done) | (simp; omega)); have hzwg_1 : w.heap.size + 1 < wg.heap.size := lt_via hbwg (by first | omega | (simp; done) | (simp; omega)))
  have hbel : Below w.heap.size w wg := bel
  have hR : Blk wg (w.heap.size + 1) 27 #[.int .i64 0, .int .i64 0] := Blk.via (by simpa using Blk.new (w.alloc (.cells #[.int .i64 i, .int .i64 k] 68)) 27 #[.int .i64 0, .int .i64 0]) hbwg
  have z0 := hR.cell 0
  have z1 := hR.cell 1
  have f0 := hR.frozen 0
  have f1 := hR.frozen 1
  have ltR := hR.lt
  simp only [List.getElem?_toArray, List.getElem?_cons_zero, List.getElem?_cons_succ] at z0 z1
  go_wp2
  exact bodyPost_ret (v := .agg #[.int .i64 b.leg.lo.x, .int .i64 a.leg.hi.x]) (by simp [results, Try.results23, go_sem, *]) rfl ⟨rfl, (hbel.setCell (Nat.le_succ _) _).setCell (Nat.le_succ _) _⟩
set_option maxRecDepth 20000 in
set_option maxHeartbeats 4000000 in
theorem Overlap_yes (x : Dt) (td : Bool) (B : Nat) (w : World) (hB : B ≤ w.heap.size) (hA : DtAt w B x)
    (hD : ∀ W, Below w.heap.size w W → Calls Try.prog 29 #[.slice x.dA x.dn x.dc] W fun e w' => e = .returned (.bool td) ∧ Below W.heap.size W w') (h : S.look x td = true)
    (k i1 i2 : Nat) (a b : Mn) (hk : k < x.js.length) (hj : x.js[k] = ⟨i1, i2⟩) (h1 : (S.mains (bars x.bs) x.rs)[i1]? = some a) (h2 : (S.mains (bars x.bs) x.rs)[i2]? = some b) :
    Calls Try.prog 13 #[dtV x, .int .i64 k] w fun e w' => e = .returned (.tuple #[.agg #[.int .i64 b.leg.lo.x, .int .i64 a.leg.hi.x], .int .i64 0]) ∧ Below w.heap.size w w' := by
  have HA := Lib.hid hA
  have hjl := hA.jlen
  have hkn : k < x.jn := by omega
  have hki : (k : Int) < x.jn := by omega
  have hk0 : ¬ ((k : Int) < 0) := by omega
  have hk1 : ¬ ((x.jn : Int) ≤ k) := by omega
  have HL := Lib.hid (fun (W : World) (hw : Below w.heap.size w W) => look_yes x td B W (size_via hB hw) (hA.at_ hB hw) (fun V hV => hD V (hw.trans (hV.mono hw.size))) h)
  have hlen : ((S.mains (bars x.bs) x.rs).length : Int) ≤ 2000 := by
    simp only [S.look, S.laid, Bool.and_eq_true] at h
    exact mains_len h.1.1.1.1.2.2 (by omega)
  have hJc := hA.joints
  obtain ⟨bJ, oJ, hje, hbJ, _⟩ := hJc.at_ (by rw [flat_len jnC 2 jnC_len]; omega)
  rw [hje] at hJc
  have c0 := hJc.row0 jnC_len hk rfl
  have c1 := hJc.rowj jnC_len hk 1 rfl
  rw [hj] at c0 c1
  have HO := Lib.hid (fun (W : World) (A : Option Addr) (c : Nat) (hh : Cells W W.heap.size A ((S.mains (bars x.bs) x.rs).flatMap mnC)) => overlap_in _ i1 i2 a b A _ c W.heap.size W rfl (by omega) (Nat.le_refl _) hh h1 h2)
  clear hA hD h hJc hj h1 h2
  unfold dtV at HL
  unfold dtV
  generalize hjA : x.jA = jA at *
  subst hje
  generalize S.mains (bars x.bs) x.rs = L at *
  have hbJl : bJ < w.heap.size := by omega
  have hbJ1 : bJ < w.heap.size + 1 := by omega
  have hbJ2 : bJ < w.heap.size + 1 + 1 := by omega
  have hbJ3 : bJ < w.heap.size + 2 := by omega
  clear HA
  go_enter Try.func13, Try.ntmps13
  have hDB : Blk ((w.alloc (.cells #[.string x.m.name, .slice x.mA x.mn x.mc, .slice x.hA x.hn x.hc, .int .i64 x.m.cover, .int .i64 x.m.aggr, .int .i64 x.m.poker, .slice x.bA x.bn x.bc, .slice x.rA x.rn x.rc, .slice (some ⟨bJ, oJ, none⟩) x.jn x.jc, .slice x.dA x.dn x.dc, .int .i64 x.rule.num, .int .i64 x.rule.den, .int .i64 x.rule.pnum, .int .i64 x.rule.pden, .int .i64 x.rule.bnum, .int .i64 x.rule.bden, .int .i64 x.rule.lnum, .int .i64 x.rule.lden, .int .i64 x.rule.least] 52)).alloc (.cells #[.int .i64 0, .int .i64 0] 27)) w.heap.size 52 #[.string x.m.name, .slice x.mA x.mn x.mc, .slice x.hA x.hn x.hc, .int .i64 x.m.cover, .int .i64 x.m.aggr, .int .i64 x.m.poker, .slice x.bA x.bn x.bc, .slice x.rA x.rn x.rc, .slice (some ⟨bJ, oJ, none⟩) x.jn x.jc, .slice x.dA x.dn x.dc, .int .i64 x.rule.num, .int .i64 x.rule.den, .int .i64 x.rule.pnum, .int .i64 x.rule.pden, .int .i64 x.rule.bnum, .int .i64 x.rule.bden, .int .i64 x.rule.lnum, .int .i64 x.rule.lden, .int .i64 x.rule.least] := (Blk.new w _ _).alloc _
  have hRG := hDB.range
  go_wp2_with (first
    | (refine wpList_load_mid rfl 52 (.tmp 2) rfl _ _ rfl _ _ hRG Try.underlying52 rfl (by kernel_rfl) ?_)
    | (go_at_call 22; (with_reducible refine (HL.out _ bel).mono ?_); rintro e w1 ⟨A1, c1', rfl, how1, hbw1⟩; obtain ⟨hcw1, hfw1⟩ := bcell hbw1; have hzw1_0 : w.heap.size < w1.heap.size := lt_via hbw1 (by first | omega | (simp; done) | (simp; omega)); have hzw1_1 : w.heap.size + 1 < w1.heap.size := lt_via hbw1 (by first | omega | (simp; done) | (simp; omega)))
    | (go_at_call 23; (with_reducible refine (HO.out _ _ _ (own_cells how1 (by unfold maxLen; omega)).1).mono ?_); rintro e w2 ⟨rfl, hbw2⟩; obtain ⟨hcw2, hfw2⟩ := bcell hbw2; have hzw2_0 : w.heap.size < w2.heap.size := lt_via hbw2 (by first | omega | (simp; done) | (simp; omega)); have hzw2_1 : w.heap.size + 1 < w2.heap.size := lt_via hbw2 (by first | omega | (simp; done) | (simp; omega))))
  have hbel : Below w.heap.size w w2 := bel
  have hR : Blk w2 (w.heap.size + 1) 27 #[.int .i64 0, .int .i64 0] := Blk.via (Blk.via (by simpa using Blk.new (w.alloc (.cells #[.string x.m.name, .slice x.mA x.mn x.mc, .slice x.hA x.hn x.hc, .int .i64 x.m.cover, .int .i64 x.m.aggr, .int .i64 x.m.poker, .slice x.bA x.bn x.bc, .slice x.rA x.rn x.rc, .slice (some ⟨bJ, oJ, none⟩) x.jn x.jc, .slice x.dA x.dn x.dc, .int .i64 x.rule.num, .int .i64 x.rule.den, .int .i64 x.rule.pnum, .int .i64 x.rule.pden, .int .i64 x.rule.bnum, .int .i64 x.rule.bden, .int .i64 x.rule.lnum, .int .i64 x.rule.lden, .int .i64 x.rule.least] 52)) 27 #[.int .i64 0, .int .i64 0]) hbw1) hbw2
  have z0 := hR.cell 0
  have z1 := hR.cell 1
  simp only [List.getElem?_toArray, List.getElem?_cons_zero, List.getElem?_cons_succ] at z0 z1
  exact bodyPost_ret (v := .tuple #[.agg #[.int .i64 b.leg.lo.x, .int .i64 a.leg.hi.x], .int .i64 0]) (by simp [results, Try.results13, go_sem, *]) rfl ⟨rfl, (hbel.setCell (Nat.le_succ _) _).setCell (Nat.le_succ _) _⟩
def One2 (w : World) (v : Value) (a b : Int) : Prop := ∃ (g g2 o o2 c c2 : Nat), v = .slice (some ⟨g, o, none⟩) 1 c ∧ g < w.heap.size ∧ g2 < w.heap.size ∧ w.cell? ⟨g, o, none⟩ = some (.slice (some ⟨g2, o2, none⟩) 2 c2) ∧ w.cell? ⟨g2, o2, none⟩ = some (.int .i64 a) ∧ w.cell? ⟨g2, o2 + 1, none⟩ = some (.int .i64 b)
theorem elemRow : Elem Try.prog 54 58 (.slice none 0 0) 1 24 := ⟨Try.underlying54, by kernel_rfl, rfl, by decide⟩
set_option maxRecDepth 20000 in
set_option maxHeartbeats 4000000 in
theorem chains_one (x : Dt) (B : Nat) (w : World) (hB : B ≤ w.heap.size) (hA : DtAt w B x) (hj : x.js = [⟨0, 1⟩]) :
    Calls Try.prog 24 #[dtV x, .int .i64 2] w fun e w' => (∃ v, e = .returned v ∧ One2 w' v 0 1) ∧ Below w.heap.size w w' := by
  have hjl := hA.jlen
  rw [hj] at hjl
  have hJc := hA.joints
  rw [hj] at hJc
  obtain ⟨bJ, oJ, hje, hbJ, _⟩ := hJc.at_ (by rw [flat_len jnC 2 jnC_len]; simp)
  rw [hje] at hJc
  have c0 := hJc.row0 (k := 0) jnC_len (by simp) rfl
  have c1 := hJc.rowj (k := 0) jnC_len (by simp) 1 rfl
  rw [Nat.zero_mul, Nat.add_zero] at c0 c1
  simp only [List.getElem_cons_zero] at c0 c1
  have hbJl : bJ < w.heap.size := by omega
  unfold dtV
  clear hA hJc hj
  generalize x.jA = jA at *
  subst hje
  rw [← hjl]
  clear hjl
  have hmk1 : ∀ W, (Instr.makeMap 87 none).run Try.prog W = .ok (.map (some W.heap.size)) (W.alloc (.map #[] 0)) := fun _ => by kernel_rfl
  have hmk2 : ∀ W, (Instr.makeMap 91 none).run Try.prog W = .ok (.map (some W.heap.size)) (W.alloc (.map #[] 0)) := fun _ => by kernel_rfl
  go_enter Try.func24, Try.ntmps24
  go_wp2
  have hN : NextAt (((w.alloc (.cells #[.string x.m.name, .slice x.mA x.mn x.mc, .slice x.hA x.hn x.hc, .int .i64 x.m.cover, .int .i64 x.m.aggr, .int .i64 x.m.poker, .slice x.bA x.bn x.bc, .slice x.rA x.rn x.rc, .slice (some ⟨bJ, oJ, none⟩) 1 x.jc, .slice x.dA x.dn x.dc, .int .i64 x.rule.num, .int .i64 x.rule.den, .int .i64 x.rule.pnum, .int .i64 x.rule.pden, .int .i64 x.rule.bnum, .int .i64 x.rule.bden, .int .i64 x.rule.lnum, .int .i64 x.rule.lden, .int .i64 x.rule.least] 52)).alloc (.map #[] 0)).alloc (.map #[] 0)) (w.heap.size + 1) 0 (fun _ => none) := by
    have := (NextAt.new (w.alloc (.cells #[.string x.m.name, .slice x.mA x.mn x.mc, .slice x.hA x.hn x.hc, .int .i64 x.m.cover, .int .i64 x.m.aggr, .int .i64 x.m.poker, .slice x.bA x.bn x.bc, .slice x.rA x.rn x.rc, .slice (some ⟨bJ, oJ, none⟩) 1 x.jc, .slice x.dA x.dn x.dc, .int .i64 x.rule.num, .int .i64 x.rule.den, .int .i64 x.rule.pnum, .int .i64 x.rule.pden, .int .i64 x.rule.bnum, .int .i64 x.rule.bden, .int .i64 x.rule.lnum, .int .i64 x.rule.lden, .int .i64 x.rule.least] 52))).alloc (.map #[] 0)
    simpa using this
  have hS : SetAt (((w.alloc (.cells #[.string x.m.name, .slice x.mA x.mn x.mc, .slice x.hA x.hn x.hc, .int .i64 x.m.cover, .int .i64 x.m.aggr, .int .i64 x.m.poker, .slice x.bA x.bn x.bc, .slice x.rA x.rn x.rc, .slice (some ⟨bJ, oJ, none⟩) 1 x.jc, .slice x.dA x.dn x.dc, .int .i64 x.rule.num, .int .i64 x.rule.den, .int .i64 x.rule.pnum, .int .i64 x.rule.pden, .int .i64 x.rule.bnum, .int .i64 x.rule.bden, .int .i64 x.rule.lnum, .int .i64 x.rule.lden, .int .i64 x.rule.least] 52)).alloc (.map #[] 0)).alloc (.map #[] 0)) (w.heap.size + 1 + 1) 0 (fun _ => false) := by
    have := SetAt.new ((w.alloc (.cells #[.string x.m.name, .slice x.mA x.mn x.mc, .slice x.hA x.hn x.hc, .int .i64 x.m.cover, .int .i64 x.m.aggr, .int .i64 x.m.poker, .slice x.bA x.bn x.bc, .slice x.rA x.rn x.rc, .slice (some ⟨bJ, oJ, none⟩) 1 x.jc, .slice x.dA x.dn x.dc, .int .i64 x.rule.num, .int .i64 x.rule.den, .int .i64 x.rule.pnum, .int .i64 x.rule.pden, .int .i64 x.rule.bnum, .int .i64 x.rule.bden, .int .i64 x.rule.lnum, .int .i64 x.rule.lden, .int .i64 x.rule.least] 52)).alloc (.map #[] 0))
    simpa using this
  have hb3 : Below w.heap.size w (((w.alloc (.cells #[.string x.m.name, .slice x.mA x.mn x.mc, .slice x.hA x.hn x.hc, .int .i64 x.m.cover, .int .i64 x.m.aggr, .int .i64 x.m.poker, .slice x.bA x.bn x.bc, .slice x.rA x.rn x.rc, .slice (some ⟨bJ, oJ, none⟩) 1 x.jc, .slice x.dA x.dn x.dc, .int .i64 x.rule.num, .int .i64 x.rule.den, .int .i64 x.rule.pnum, .int .i64 x.rule.pden, .int .i64 x.rule.bnum, .int .i64 x.rule.bden, .int .i64 x.rule.lnum, .int .i64 x.rule.lden, .int .i64 x.rule.least] 52)).alloc (.map #[] 0)).alloc (.map #[] 0)) := ba_alloc (ba_alloc (ba_alloc (Below.refl _ _) _) _) _
  have hs3 : (((w.alloc (.cells #[.string x.m.name, .slice x.mA x.mn x.mc, .slice x.hA x.hn x.hc, .int .i64 x.m.cover, .int .i64 x.m.aggr, .int .i64 x.m.poker, .slice x.bA x.bn x.bc, .slice x.rA x.rn x.rc, .slice (some ⟨bJ, oJ, none⟩) 1 x.jc, .slice x.dA x.dn x.dc, .int .i64 x.rule.num, .int .i64 x.rule.den, .int .i64 x.rule.pnum, .int .i64 x.rule.pden, .int .i64 x.rule.bnum, .int .i64 x.rule.bden, .int .i64 x.rule.lnum, .int .i64 x.rule.lden, .int .i64 x.rule.least] 52)).alloc (.map #[] 0)).alloc (.map #[] 0)).heap.size = w.heap.size + 3 := by simp
  have c0' := (hb3.cell (p := ⟨bJ, oJ, none⟩) hbJl).trans c0
  have c1' := (hb3.cell (p := ⟨bJ, oJ + 1, none⟩) hbJl).trans c1
  clear hmk1 hmk2 c0 c1
  generalize (((w.alloc (.cells #[.string x.m.name, .slice x.mA x.mn x.mc, .slice x.hA x.hn x.hc, .int .i64 x.m.cover, .int .i64 x.m.aggr, .int .i64 x.m.poker, .slice x.bA x.bn x.bc, .slice x.rA x.rn x.rc, .slice (some ⟨bJ, oJ, none⟩) 1 x.jc, .slice x.dA x.dn x.dc, .int .i64 x.rule.num, .int .i64 x.rule.den, .int .i64 x.rule.pnum, .int .i64 x.rule.pden, .int .i64 x.rule.bnum, .int .i64 x.rule.bden, .int .i64 x.rule.lnum, .int .i64 x.rule.lden, .int .i64 x.rule.least] 52)).alloc (.map #[] 0)).alloc (.map #[] 0)) = w3 at *
  have hbJ3 : bJ < w3.heap.size := by omega
  have hs31 : w3.heap.size ≤ w.heap.size + 3 := by omega
  have hs32 : w.heap.size + 3 ≤ w3.heap.size := by omega
  clear hs3
  refine wp_loop_rounds 2 ?_
  rw [rounds_succ]
  go_wp2
  have hJ4 := Blk.new w3 68 #[.int .i64 0, .int .i64 1]
  have hNd : NextAt (w3.alloc (.cells #[.int .i64 0, .int .i64 1] 68)).drew (w.heap.size + 1) 0 (fun _ => none) := (hN.alloc _).kept rfl
  have hSd : SetAt (w3.alloc (.cells #[.int .i64 0, .int .i64 1] 68)).drew (w.heap.size + 1 + 1) 0 (fun _ => false) := (hS.alloc _).kept rfl
  have hJd : Blk (w3.alloc (.cells #[.int .i64 0, .int .i64 1] 68)).drew w3.heap.size 68 #[.int .i64 0, .int .i64 1] := hJ4
  obtain ⟨wA, hu1, hNA, hgA⟩ := hNd.put (k := 0) (v := 1) (by unfold maxLen; omega) (by unfold Wf64; omega) (by unfold Wf64; omega)
  have hSA := hSd.kept (hgA.block _ hSd.lt (by simp))
  have hJA := grown_blk hgA hJd (by omega)
  obtain ⟨wB, hu2, hSB, hgB⟩ := hSA.put (k := 1) (by unfold maxLen; omega) (by unfold Wf64; omega)
  have hNB := hNA.kept (hgB.block _ hNA.lt (by simp))
  have hJB := grown_blk hgB hJA (by omega)
  have hXB : Exc [w.heap.size + 1, w.heap.size + 1 + 1] w3 wB := (((Exc.refl _ w3).alloc _).drew.grown hgA (fun g hg => .inl (by injection hg with hg; simp [hg]))).grown hgB (fun g hg => .inl (by injection hg with hg; simp [hg]))
  have k7 : (w3.alloc (.cells #[.int .i64 0, .int .i64 1] 68)).cell? ⟨w3.heap.size, 0, none⟩ = some (.int .i64 0) ∧ (w3.alloc (.cells #[.int .i64 0, .int .i64 1] 68)).cell? ⟨w3.heap.size, 1, none⟩ = some (.int .i64 1) := ⟨hJ4.cell 0, hJ4.cell 1⟩
  have kD : (w3.alloc (.cells #[.int .i64 0, .int .i64 1] 68)).drew.cell? ⟨w3.heap.size, 0, none⟩ = some (.int .i64 0) ∧ (w3.alloc (.cells #[.int .i64 0, .int .i64 1] 68)).drew.cell? ⟨w3.heap.size, 1, none⟩ = some (.int .i64 1) := ⟨hJd.cell 0, hJd.cell 1⟩
  have kA : wA.cell? ⟨w3.heap.size, 0, none⟩ = some (.int .i64 0) ∧ wA.cell? ⟨w3.heap.size, 1, none⟩ = some (.int .i64 1) := ⟨hJA.cell 0, hJA.cell 1⟩
  have kB : wB.cell? ⟨w3.heap.size, 0, none⟩ = some (.int .i64 0) ∧ wB.cell? ⟨w3.heap.size, 1, none⟩ = some (.int .i64 1) := ⟨hJB.cell 0, hJB.cell 1⟩
  go_region_held3 (fun W' => W'.cell? ⟨w3.heap.size, 0, none⟩ = some (.int .i64 0) ∧ W'.cell? ⟨w3.heap.size, 1, none⟩ = some (.int .i64 1)) (first | exact k7 | exact kD | exact kA | exact kB) (fail)
  go_wp2
  rw [rounds_succ]
  go_wp2
  have hbB : Below w.heap.size w wB := hb3.trans (hXB.below (by omega) (by intro g hg; simp at hg; omega))
  have hsB := hXB.size
  have hl1 : (Instr.lookup 87 (.map (some (w.heap.size + 1 + 1))) (.int .i64 0) false).run Try.prog wB = .ok (.bool false) wB := by simpa using hSB.look (k := 0) (by unfold Wf64; omega)
  clear hu1 hu2 hNd hSd hJd hNA hSA hJA hgA hgB hJ4 hJB k7 kD kA kB hN hS c0' c1'
  refine wp_loop_rounds 3 ?_
  rw [rounds_succ]
  go_upto_region 13 with fail
  have hNC := hNB.alloc (.cells #[.int .i64 0] 3)
  have hSC := hSB.alloc (.cells #[.int .i64 0] 3)
  have hRC : Row (wB.alloc (.cells #[.int .i64 0] 3)) (wB.alloc (.cells #[.int .i64 0] 3)) (some wB.heap.size) w.heap.size 3 1 (.slice (some ⟨wB.heap.size, 0, none⟩) 1 1) 1 [.int .i64 0] := by
    refine ⟨?_, fun k hk => .inl (by simpa [Value.ownBlock] using hk.symm)⟩
    exact World.ownsRow_lit (base := w.heap.size) (e := 3) (size := 1) wB #[.int .i64 0] 1 (by omega) (by unfold maxLen; omega) rfl
  have hbC : Below w.heap.size w (wB.alloc (.cells #[.int .i64 0] 3)) := ba_alloc hbB _
  have hsC : wB.heap.size + 1 ≤ (wB.alloc (.cells #[.int .i64 0] 3)).heap.size := by simp
  clear hl1
  generalize (wB.alloc (.cells #[.int .i64 0] 3)) = wC at *
  have hl2 : (Instr.lookup 91 (.map (some (w.heap.size + 1))) (.int .i64 0) true).run Try.prog wC = .ok (.tuple #[.int .i64 1, .bool true]) wC := by simpa using hNC.look (k := 0) (by unfold Wf64; omega)
  go_wp2
  refine wp_loop_rounds 2 ?_
  rw [rounds_succ]
  go_wp2_with (at_builtin; refine wpList_push rfl (.tmp 54) (.tmp 56) _ rfl elemInt (hRC.alloc _) ((Exc.refl [wB.heap.size] wC).alloc _) (by simp) hbC.size rfl wC.heap.size 1 1 [.int .i64 1] rfl rfl ?_ (by simp [Value.oneCell']) (by unfold maxLen; omega) (by omega) ?_; (· intro j u hu; exact one_new _ _ _ _ j u hu); intro v1 wD hRD hXD hOD; obtain ⟨A5, c5, rfl, _, _, hCD⟩ := own_form hRD.own (by unfold maxLen; omega); have hlD : (Instr.lookup 91 (.map (some (w.heap.size + 1))) (.int .i64 1) true).run Try.prog wD = .ok (.tuple #[.int .i64 0, .bool false]) wD := by simpa using (hNC.kept (hXD.block _ hNC.lt (by simp; omega))).look (k := 1) (by unfold Wf64; omega))
  rw [rounds_succ]
  have hltC := hXD.size
  have hbD : Below w.heap.size w wD := hbC.trans (hXD.below (by omega) (by intro g hg; simp at hg; omega))
  have hSD := hSC.kept (w' := wD) (hXD.block _ hSC.lt (by simp; omega))
  have hsD := hbD.size
  go_wp2_with (at_builtin; refine wpList_push rfl (.tmp 58) (.tmp 60) _ rfl elemRow ((Row.none_ wD w.heap.size 58 1).alloc _) ((Exc.refl [] wD).alloc _) (by simp) (by omega) rfl wD.heap.size 1 1 [.slice A5 2 c5] rfl rfl ?_ (by simp [Value.oneCell']) (by unfold maxLen; omega) (by omega) ?_; (· intro j u hu; exact one_new _ _ _ _ j u hu); intro v2 wE hRE hXE hOE; obtain ⟨A6, c6, rfl, _, _, hCE⟩ := own_form hRE.own (by unfold maxLen; omega); have hlE : (Instr.lookup 87 (.map (some (w.heap.size + 1 + 1))) (.int .i64 1) false).run Try.prog wE = .ok (.bool true) wE := by simpa using (hSD.kept (w' := wE) (hXE.block _ hSD.lt (by simp))).look (k := 1) (by unfold Wf64; omega))
  rw [rounds_succ]
  go_wp2
  rw [rounds_succ]
  go_wp2
  go_ret
  obtain ⟨g, o, rfl, hg, hcg⟩ := hCE.at_ (by simp)
  obtain ⟨g2, o2, rfl, hg2, hcg2⟩ := hCD.at_ (by simp)
  have hE := hXE.size
  have e0 := hcg2 0 (.int .i64 0) rfl
  have e1 := hcg2 1 (.int .i64 1) rfl
  have e2 := hcg 0 _ rfl
  rw [Nat.add_zero] at e0 e2
  refine ⟨⟨_, rfl, g, g2, o, o2, c6, c5, rfl, hg, by omega, e2, (hXE.cell (p := ⟨g2, o2, none⟩) hg2 (by simp)).trans e0, (hXE.cell (p := ⟨g2, o2 + 1, none⟩) hg2 (by simp)).trans e1⟩, hbD.trans (hXE.below (by omega) (by simp))⟩
end Go.Proofs.Ytnjflafaflalfaa
