/- Lemmas. -/
import Derived.Test.YtmfpbafpnoomeaaGreatMAM
set_option linter.unusedVariables false
set_option linter.unusedSimpArgs false
namespace Go.Proofs.YtmfpbafpnoomeaaGreat
open Go.RowKit
theorem append_zero {P : Program} {w : World} {t E : TypeId} {z : Value} {size bytes : Nat} (hE : Elem P t E z size bytes) (ty : TypeId) (g : Nat) (hg : w.heap[g]? = some (.cells #[] E (0, 0))) (A : Option Addr) (m c : Nat) (news : List Value) (B : Nat)
 (hl : news.length = m * size) (hc : Cells w B A news) (hm : m <= 1000000) (hby : m * bytes <= 140737488355328) :
 ∃ A' c' w', (Builtin.append_ #[t, t] ty #[.slice (some ⟨g, 0, none⟩) 0 0, .slice A m c]).run P w = .ok (.slice A' m c') w' /\ Far w.heap.size w' A' news /\ Below w.heap.size w w' := by
 obtain ⟨i, hi, hz, hsz, hbb⟩ := info_parts hE.info
 have hown : w.ownsRow 0 E size (.slice (some ⟨g, 0, none⟩) 0 0) 0 [] := ⟨by simp, .inr ⟨g, 0, #[], rfl, Nat.zero_le _, hg, Nat.le_refl _, by unfold maxLen; omega, by simp, by simp⟩⟩
 by_cases h0 : m = 0
 ·subst h0
  have hn : news = [] := List.eq_nil_of_length_eq_zero (by simpa using hl)
  subst hn
  cases A with
  | none => exact ⟨_, _, w, run_append_none 0 t ty E i size hE.slice hi _ 0 [] c hown, .inl rfl, Below.refl _ _⟩
  | some ad =>
   have hr := run_append_room (P := P) w t ty E i hE.slice hi g 0 0 #[] hg ad 0 c [] (by simp) (fun j u hu => by simp at hu) (fun u hu => by cases hu) (Nat.le_refl _) (by simp)
   refine ⟨_, _, _, hr, .inl rfl, ⟨rfl, rfl, rfl, by simp, fun k hk => ?_⟩⟩
   by_cases hkg : k = g
   ·subst hkg
    rw [hg]
    exact (setRow_heap w k #[] _ E _ hg).trans (by simp)
   ·exact setRow_other w g k _ (fun e => hkg e)
 ·have hpos : 0 < news.length := by rw [hl]; exact Nat.mul_pos (by omega) hE.pos
  obtain ⟨b, o, rfl, hb, hcc⟩ := hc.at_ hpos
  have hr := run_append_grow (P := P) w t ty E i z hE.slice hi hz ⟨g, 0, none⟩ 0 0 [] (by simp) (fun j u hu => by simp at hu) ⟨b, o, none⟩ m c news (by rw [hl, hsz]) (fun j u hu => by
   have e : (Addr.add ⟨b, o, none⟩ j) = ⟨b, o + j, none⟩ := by unfold Addr.add; split <;> simp_all
   rw [e]
   exact hcc j u hu) (by omega) (by simp; omega) (growslice_fits (by omega) (by rw [Nat.zero_add, hbb]; exact hby))
  simp only [Nat.zero_add] at hr
  refine ⟨_, _, _, hr, .inr ⟨w.heap.size, rfl, Nat.le_refl _, by simp, fun j v hv => ?_⟩, ⟨rfl, rfl, rfl, by simp, fun k hk => heap_alloc_old w.drew _ hk⟩⟩
  have hjl : j < news.length := (List.getElem?_eq_some_iff.1 hv).1
  have hnew : (w.drew.alloc (.cells (#[] ++ news.toArray ++ Builtin.zeroCells z.cells (grownCap w m 0 E - m)) E)).heap[w.heap.size]? = some (.cells (#[] ++ news.toArray ++ Builtin.zeroCells z.cells (grownCap w m 0 E - m)) E (0, 0)) := heap_alloc_new w.drew _
  rw [cell_of_row _ w.heap.size j _ E (0, 0) hnew]
  rw [Array.getElem?_append_left (by simp; exact hjl)]
  simpa using hv
def CpV (W1 : World) (b1 b2 : Nat) (A1 : Option Addr) (n1 c1 : Nat) (A2 : Option Addr) (n2 c2 : Nat) (f1 f2 : List Value) (i : Nat) (a : Act) (w : World) : Prop :=
 (i = 0 -> ∃ g, a.tmps.getD 3 undef = .slice (some ⟨g, 0, none⟩) 0 0 /\ w.heap[g]? = some (.cells #[] 78 (0, 0)) /\ W1.heap.size <= g) /\ (i = 1 -> a.tmps.getD 4 undef = .pointer (some ⟨b1, 0, none⟩)) /\ (i = 2 -> a.tmps.getD 5 undef = .slice A1 n1 c1) /\ (i = 3 -> ∃ A c, a.tmps.getD 6 undef = .slice A n1 c /\ Far W1.heap.size w A f1) /\
 (i = 4 -> ∃ g, a.tmps.getD 7 undef = .slice (some ⟨g, 0, none⟩) 0 0 /\ w.heap[g]? = some (.cells #[] 78 (0, 0)) /\ W1.heap.size <= g) /\ (i = 5 -> a.tmps.getD 8 undef = .pointer (some ⟨b1, 1, none⟩)) /\ (i = 6 -> a.tmps.getD 9 undef = .slice A2 n2 c2) /\ (i = 7 -> ∃ A c, a.tmps.getD 10 undef = .slice A n2 c /\ Far W1.heap.size w A f2) /\
 (i = 8 -> ∃ A c A' c', a.tmps.getD 11 undef = .agg #[.slice A n1 c, .slice A' n2 c'] /\ Far W1.heap.size w A f1 /\ Far W1.heap.size w A' f2) /\ (i = 9 -> ∃ A c A' c', Blk w b2 24 #[.slice A n1 c, .slice A' n2 c'] /\ Far W1.heap.size w A f1 /\ Far W1.heap.size w A' f2)
structure CpS (W1 : World) (b2 : Nat) (a0 a : Act) (w : World) : Prop where
 size : a.tmps.size = 12
 fr : ∀ s, s < 3 -> a.tmps.getD s undef = a0.tmps.getD s undef
 defers : a.defers = a0.defers
 exc : Exc [b2] W1 w
 lt : b2 < W1.heap.size
 blk : ∃ cs, Blk w b2 24 cs /\ cs.size = 2
theorem below_heap {w w' : World} (hb : Below w.heap.size w w') {g : Nat} {o : Obj} (h : w.heap[g]? = some o) : w'.heap[g]? = some o := by
 have hl : g < w.heap.size := (Array.getElem?_eq_some_iff.1 h).1
 rw [hb.block g hl]
 exact h
theorem CpV.put {W1 : World} {b1 b2 : Nat} {A1 : Option Addr} {n1 c1 : Nat} {A2 : Option Addr} {n2 c2 : Nat} {f1 f2 : List Value} {i : Nat} {a : Act} {w w' : World} (h : CpV W1 b1 b2 A1 n1 c1 A2 n2 c2 f1 f2 i a w) (hb : Below w.heap.size w w') {d : Nat} (hi : i + 3 ≠ d) (v : Value) : CpV W1 b1 b2 A1 n1 c1 A2 n2 c2 f1 f2 i (a.put (some d) v) w' := by
 obtain ⟨h0, h1, h2, h3, h4, h5, h6, h7, h8, h9⟩ := h
 refine ⟨fun e => ?_, fun e => ?_, fun e => ?_, fun e => ?_, fun e => ?_, fun e => ?_, fun e => ?_, fun e => ?_, fun e => ?_, fun e => ?_⟩
 ·obtain ⟨g, g1, g2, g3⟩ := h0 e; exact ⟨g, by rw [getD_put (by subst e; exact hi)]; exact g1, below_heap hb g2, g3⟩
 ·rw [getD_put (by subst e; exact hi)]; exact h1 e
 ·rw [getD_put (by subst e; exact hi)]; exact h2 e
 ·obtain ⟨A, c, g1, g2⟩ := h3 e; exact ⟨A, c, by rw [getD_put (by subst e; exact hi)]; exact g1, g2.via hb⟩
 ·obtain ⟨g, g1, g2, g3⟩ := h4 e; exact ⟨g, by rw [getD_put (by subst e; exact hi)]; exact g1, below_heap hb g2, g3⟩
 ·rw [getD_put (by subst e; exact hi)]; exact h5 e
 ·rw [getD_put (by subst e; exact hi)]; exact h6 e
 ·obtain ⟨A, c, g1, g2⟩ := h7 e; exact ⟨A, c, by rw [getD_put (by subst e; exact hi)]; exact g1, g2.via hb⟩
 ·obtain ⟨A, c, A', c', g1, g2, g3⟩ := h8 e; exact ⟨A, c, A', c', by rw [getD_put (by subst e; exact hi)]; exact g1, g2.via hb, g3.via hb⟩
 ·obtain ⟨A, c, A', c', g1, g2, g3⟩ := h9 e; exact ⟨A, c, A', c', g1.via hb, g2.via hb, g3.via hb⟩
theorem CpS.put {W1 : World} {b2 : Nat} {a0 a : Act} {w w' : World} (h : CpS W1 b2 a0 a w) (hb : Below w.heap.size w w') {d : Nat} (h3 : 3 <= d) (v : Value) : CpS W1 b2 a0 (a.put (some d) v) w' :=
 ⟨by simpa [Act.put] using h.size, fun s hs => by rw [getD_put (by omega)]; exact h.fr s hs, h.defers, h.exc.join (Exc.of_below hb) (by simp), h.lt, (fun ⟨cs, h1, h2⟩ => ⟨cs, h1.via hb, h2⟩) h.blk⟩
theorem cp_step {W1 : World} {b1 b2 : Nat} {A1 : Option Addr} {n1 c1 : Nat} {A2 : Option Addr} {n2 c2 : Nat} {f1 f2 : List Value} {j : Nat} {a0 : Act} {l : List Oper} {Q : Exit -> Act -> World -> Prop} {a : Act} {w w' : World} {o : Oper} {v : Value} (ho : l.toArray[j]? = some o) (hg : o.guard = none) (hd : o.dst = some (j + 3)) (hS : CpS W1 b2 a0 a w)
 (hr : (execOp a.eval o).run Tryz.prog w = .ok (.value v) w') (hb : Below w.heap.size w w') (hn : CpV W1 b1 b2 A1 n1 c1 A2 n2 c2 f1 f2 j (a.put (some (j + 3)) v) w') :
 wpOp Tryz.prog l.toArray Q j (fun a' w' => CpV W1 b1 b2 A1 n1 c1 A2 n2 c2 f1 f2 j a' w' /\ (∀ i oi, l[i]? = some oi -> i ≠ j -> (∀ e ∈ oi.after, Region.binds .any e = true -> e.on ≠ j) -> CpV W1 b1 b2 A1 n1 c1 A2 n2 c2 f1 f2 i a w -> CpV W1 b1 b2 A1 n1 c1 A2 n2 c2 f1 f2 i a' w') /\ CpS W1 b2 a0 a' w') a w := by
 refine op_val ho hg hr ?_
 rw [hd]
 exact ⟨hn, fun i oi _ hij _ h => h.put hb (by omega) v, hS.put hb (by omega) v⟩
theorem cp_store {W1 : World} {b1 b2 : Nat} {A1 : Option Addr} {n1 c1 : Nat} {A2 : Option Addr} {n2 c2 : Nat} {f1 f2 : List Value} {a0 : Act} {l : List Oper} {Q : Exit -> Act -> World -> Prop} {a : Act} {w : World} {o : Oper} (ho : l.toArray[9]? = some o) (hg : o.guard = none) (hd : o.dst = none) (hS : CpS W1 b2 a0 a w) (A A' : Option Addr) (c c' : Nat)
 (g2 : Far W1.heap.size w A f1) (g3 : Far W1.heap.size w A' f2) (hr : (execOp a.eval o).run Tryz.prog w = .ok .skip (w.setCells b2 0 (#[.slice A n1 c, .slice A' n2 c'] : Array Value).toList)) :
 wpOp Tryz.prog l.toArray Q 9 (fun a' w' => CpV W1 b1 b2 A1 n1 c1 A2 n2 c2 f1 f2 9 a' w' /\ (∀ i oi, l[i]? = some oi -> i ≠ 9 -> (∀ e ∈ oi.after, Region.binds .any e = true -> e.on ≠ 9) -> CpV W1 b1 b2 A1 n1 c1 A2 n2 c2 f1 f2 i a w -> CpV W1 b1 b2 A1 n1 c1 A2 n2 c2 f1 f2 i a' w') /\ CpS W1 b2 a0 a' w') a w := by
 obtain ⟨cs, hG, hcs⟩ := hS.blk
 have hPut : Blk (w.setCells b2 0 (#[.slice A n1 c, .slice A' n2 c'] : Array Value).toList) b2 24 #[.slice A n1 c, .slice A' n2 c'] := Blk.put0 hG #[.slice A n1 c, .slice A' n2 c'] (by rw [hcs]; rfl)
 have hXs : Exc [b2] w (w.setCells b2 0 (#[.slice A n1 c, .slice A' n2 c'] : Array Value).toList) := exc_setCells _ _ _ _
 have hlt := hS.lt
 have hz : ∀ {g : Nat} {o : Obj}, w.heap[g]? = some o -> W1.heap.size <= g -> (w.setCells b2 0 (#[.slice A n1 c, .slice A' n2 c'] : Array Value).toList).heap[g]? = some o := fun h hge => (hXs.block _ (Array.getElem?_eq_some_iff.1 h).1 (by simp; omega)).trans h
 refine op_skip ho hg hr ?_
 rw [hd]
 show CpV W1 b1 b2 A1 n1 c1 A2 n2 c2 f1 f2 9 a _ /\ _ /\ CpS W1 b2 a0 a _
 refine ⟨⟨fun e => absurd e (by decide), fun e => absurd e (by decide), fun e => absurd e (by decide), fun e => absurd e (by decide), fun e => absurd e (by decide), fun e => absurd e (by decide), fun e => absurd e (by decide), fun e => absurd e (by decide), fun e => absurd e (by decide), fun _ => ⟨A, c, A', c', hPut, g2.exc hXs hlt, g3.exc hXs hlt⟩⟩, fun i oi _ hij _ h => ?_, ⟨hS.size, hS.fr, hS.defers, hS.exc.join hXs (fun k hk => .inl hk), hlt, _, hPut, rfl⟩⟩
 obtain ⟨h0, h1, h2, h3, h4, h5, h6, h7, h8, h9⟩ := h
 refine ⟨fun e => ?_, h1, h2, fun e => ?_, fun e => ?_, h5, h6, fun e => ?_, fun e => ?_, fun e => absurd e hij⟩
 ·obtain ⟨g, e1, e2, e3⟩ := h0 e; exact ⟨g, e1, hz e2 e3, e3⟩
 ·obtain ⟨A, c, e1, e2⟩ := h3 e; exact ⟨A, c, e1, e2.exc hXs hlt⟩
 ·obtain ⟨g, e1, e2, e3⟩ := h4 e; exact ⟨g, e1, hz e2 e3, e3⟩
 ·obtain ⟨A, c, e1, e2⟩ := h7 e; exact ⟨A, c, e1, e2.exc hXs hlt⟩
 ·obtain ⟨A, c, A', c', e1, e2, e3⟩ := h8 e; exact ⟨A, c, A', c', e1, e2.exc hXs hlt, e3.exc hXs hlt⟩
theorem elemBx7 : Elem Tryz.prog 22 78 (.agg #[.int .i64 0, .int .i64 0, .int .i64 0, .int .i64 0, .int .i64 0, .int .i64 0]) 6 48 := ⟨Tryz.underlying22, by kernel_rfl, rfl, by decide⟩
set_option maxRecDepth 20000 in
set_option maxHeartbeats 4000000 in
theorem rcopy17_any (xs hs : List Bx) (A1 : Option Addr) (n1 c1 : Nat) (A2 : Option Addr) (n2 c2 : Nat) (w : World) (h1 : xs.length = n1) (h2 : hs.length = n2) (m1 : n1 <= 1000000) (m2 : n2 <= 1000000) (hc1 : Cells w w.heap.size A1 (xs.flatMap boxC)) (hc2 : Cells w w.heap.size A2 (hs.flatMap boxC)) :
 Calls Tryz.prog 63 #[.agg #[.slice A1 n1 c1, .slice A2 n2 c2]] w fun e w' => ∃ A c A' c', e = .returned (.agg #[.slice A n1 c, .slice A' n2 c']) /\ Far w.heap.size w' A (xs.flatMap boxC) /\ Far w.heap.size w' A' (hs.flatMap boxC) /\ Below w.heap.size w w' := by
 have HC1 := lh hc1
 have HC2 := lh hc2
 have H1 := lh h1
 have H2 := lh h2
 clear hc1 hc2 h1 h2
 have hDB := (Blk.new w 24 #[.slice A1 n1 c1, .slice A2 n2 c2]).alloc (.cells #[.slice none 0 0, .slice none 0 0] 24)
 have hRB := Blk.newN (W := w.alloc (.cells #[.slice A1 n1 c1, .slice A2 n2 c2] 24)) (n := w.heap.size + 1) (by simp) 24 #[.slice none 0 0, .slice none 0 0]
 have hW1 : Below w.heap.size w ((w.alloc (.cells #[.slice A1 n1 c1, .slice A2 n2 c2] 24)).alloc (.cells #[.slice none 0 0, .slice none 0 0] 24)) := ba_alloc (ba_alloc (Below.refl _ _) _) _
 go_enter Tryz.func63, Tryz.ntmps63
 go_wp2
 generalize ((w.alloc (.cells #[.slice A1 n1 c1, .slice A2 n2 c2] 24)).alloc (.cells #[.slice none 0 0, .slice none 0 0] 24)) = W1 at *
 obtain ⟨a0, ha0⟩ : ∃ a0 : Act, a0 = ⟨#[.agg #[.slice A1 n1 c1, .slice A2 n2 c2], .pointer (some ⟨w.heap.size, 0, none⟩), .pointer (some ⟨w.heap.size + 1, 0, none⟩), undef, undef, undef, undef, undef, undef, undef, undef, undef], []⟩ := ⟨_, rfl⟩
 have f1 : a0.tmps.getD 1 undef = .pointer (some ⟨w.heap.size, 0, none⟩) := by rw [ha0]; rfl
 have f2 : a0.tmps.getD 2 undef = .pointer (some ⟨w.heap.size + 1, 0, none⟩) := by rw [ha0]; rfl
 refine wp_region_relA (V := CpV W1 w.heap.size (w.heap.size + 1) A1 n1 c1 A2 n2 c2 (xs.flatMap boxC) (hs.flatMap boxC)) (S := CpS W1 (w.heap.size + 1) a0) (by kernel_rfl) (earlyB_out (by kernel_rfl)) ?h0 ?hstep ?hend
 case h0 =>
  rw [ha0]
  exact ⟨rfl, fun s _ => rfl, rfl, (Exc.refl _ W1).drew, hRB.lt, _, hRB.drew, rfl⟩
 case hstep =>
  intro j oj a' w' hj hS hdep
  have e1 : a'.eval (.tmp 1) = .pointer (some ⟨w.heap.size, 0, none⟩) := (hS.fr 1 (by decide)).trans f1
  have e2 : a'.eval (.tmp 2) = .pointer (some ⟨w.heap.size + 1, 0, none⟩) := (hS.fr 2 (by decide)).trans f2
  have hbw : Below w.heap.size w w' := bel_exc hW1 hS.exc (by omega)
  have hge := hS.exc.size
  have hB1 := hDB.exc hS.exc (by simp)
  rcases j with _ | _ | _ | _ | _ | _ | _ | _ | _ | _ | j
  all_goals (simp only [List.getElem?_cons_zero, List.getElem?_cons_succ, Option.some.injEq, Nat.zero_add] at hj; try subst hj)
  ·refine cp_step rfl rfl rfl hS (w' := w'.alloc (.cells #[] 78)) (v := .slice (some ⟨w'.heap.size, 0, none⟩) 0 0) (by kernel_rfl) (ba_alloc (Below.refl _ _) _) ⟨fun _ => ⟨w'.heap.size, getD_own (by rw [hS.size]; decide), heap_alloc_new w' _, hge⟩, fun e => absurd e (by decide), fun e => absurd e (by decide), fun e => absurd e (by decide), fun e => absurd e (by decide), fun e => absurd e (by decide), fun e => absurd e (by decide), fun e => absurd e (by decide), fun e => absurd e (by decide), fun e => absurd e (by decide)⟩
  ·refine cp_step rfl rfl rfl hS (w' := w') (v := .pointer (some ⟨w.heap.size, 0, none⟩)) ?_ (Below.refl _ _) ⟨fun e => absurd e (by decide), fun _ => getD_own (by rw [hS.size]; decide), fun e => absurd e (by decide), fun e => absurd e (by decide), fun e => absurd e (by decide), fun e => absurd e (by decide), fun e => absurd e (by decide), fun e => absurd e (by decide), fun e => absurd e (by decide), fun e => absurd e (by decide)⟩
   change Sem.run Tryz.prog (execOp a'.eval { dst := some 4, op := Op.fieldAddr 24 (.tmp 1) 0, type := _, pos := _, after := _, guard := none }) w' = _
   simp [execOp, go_sem, ev e1]
  ·have e4 : a'.eval (.tmp 4) = .pointer (some ⟨w.heap.size, 0, none⟩) := (hdep ⟨1, .data⟩ (by simp) rfl).2.1 rfl
   have cc := hB1.cell 0
   simp only [ga1, ga2, ga3] at cc
   exact cp_step rfl rfl rfl hS (w' := w') (v := .slice A1 n1 c1) (by simp [execOp, go_sem, ev e4, cc]) (Below.refl _ _) ⟨fun e => absurd e (by decide), fun e => absurd e (by decide), fun _ => getD_own (by rw [hS.size]; decide), fun e => absurd e (by decide), fun e => absurd e (by decide), fun e => absurd e (by decide), fun e => absurd e (by decide), fun e => absurd e (by decide), fun e => absurd e (by decide), fun e => absurd e (by decide)⟩
  ·obtain ⟨g, g1, g2, g3⟩ := (hdep ⟨0, .data⟩ (by simp) rfl).1 rfl
   have e5 : a'.eval (.tmp 5) = .slice A1 n1 c1 := (hdep ⟨2, .data⟩ (by simp) rfl).2.2.1 rfl
   have e3 : a'.eval (.tmp 3) = .slice (some ⟨g, 0, none⟩) 0 0 := g1
   obtain ⟨A', c', w2, hr, hf, hb⟩ := append_zero (P := Tryz.prog) elemBx7 22 g g2 A1 n1 c1 (xs.flatMap boxC) w.heap.size (by rw [flat_len boxC 6 boxC_len, H1.out]) (HC1.out.below hbw) m1 (by omega)
   have hf2 : Far W1.heap.size w2 A' (xs.flatMap boxC) := by
    rcases hf with h | ⟨g', k1, k2, k3, k4⟩
    ·exact .inl h
    ·exact .inr ⟨g', k1, by omega, k3, k4⟩
   refine cp_step rfl rfl rfl hS (w' := w2) (v := .slice A' n1 c') ?_ hb ⟨fun e => absurd e (by decide), fun e => absurd e (by decide), fun e => absurd e (by decide), fun _ => ⟨A', c', getD_own (by rw [hS.size]; decide), hf2⟩, fun e => absurd e (by decide), fun e => absurd e (by decide), fun e => absurd e (by decide), fun e => absurd e (by decide), fun e => absurd e (by decide), fun e => absurd e (by decide)⟩
   change Sem.run Tryz.prog (execOp a'.eval { dst := some 6, op := Op.call { callee := .builtin .append, args := #[.tmp 3, .tmp 5], argTypes := #[22, 22] }, type := _, pos := _, after := _, guard := none }) w' = _
   simp only [execOp, resolve, invoke, builtin, Sem.run_bind, Sem.run_pure, Result.andThen_ok, List.map_toArray, List.map_cons, List.map_nil, e3, e5, hr]
  ·refine cp_step rfl rfl rfl hS (w' := w'.alloc (.cells #[] 78)) (v := .slice (some ⟨w'.heap.size, 0, none⟩) 0 0) (by kernel_rfl) (ba_alloc (Below.refl _ _) _) ⟨fun e => absurd e (by decide), fun e => absurd e (by decide), fun e => absurd e (by decide), fun e => absurd e (by decide), fun _ => ⟨w'.heap.size, getD_own (by rw [hS.size]; decide), heap_alloc_new w' _, hge⟩, fun e => absurd e (by decide), fun e => absurd e (by decide), fun e => absurd e (by decide), fun e => absurd e (by decide), fun e => absurd e (by decide)⟩
  ·refine cp_step rfl rfl rfl hS (w' := w') (v := .pointer (some ⟨w.heap.size, 1, none⟩)) ?_ (Below.refl _ _) ⟨fun e => absurd e (by decide), fun e => absurd e (by decide), fun e => absurd e (by decide), fun e => absurd e (by decide), fun e => absurd e (by decide), fun _ => getD_own (by rw [hS.size]; decide), fun e => absurd e (by decide), fun e => absurd e (by decide), fun e => absurd e (by decide), fun e => absurd e (by decide)⟩
   change Sem.run Tryz.prog (execOp a'.eval { dst := some 8, op := Op.fieldAddr 24 (.tmp 1) 1, type := _, pos := _, after := _, guard := none }) w' = _
   simp [execOp, go_sem, ev e1]
  ·have e4 : a'.eval (.tmp 8) = .pointer (some ⟨w.heap.size, 1, none⟩) := (hdep ⟨5, .data⟩ (by simp) rfl).2.2.2.2.2.1 rfl
   have cc := hB1.cell 1
   simp only [ga1, ga2, ga3] at cc
   exact cp_step rfl rfl rfl hS (w' := w') (v := .slice A2 n2 c2) (by simp [execOp, go_sem, ev e4, cc]) (Below.refl _ _) ⟨fun e => absurd e (by decide), fun e => absurd e (by decide), fun e => absurd e (by decide), fun e => absurd e (by decide), fun e => absurd e (by decide), fun e => absurd e (by decide), fun _ => getD_own (by rw [hS.size]; decide), fun e => absurd e (by decide), fun e => absurd e (by decide), fun e => absurd e (by decide)⟩
  ·obtain ⟨g, g1, g2, g3⟩ := (hdep ⟨4, .data⟩ (by simp) rfl).2.2.2.2.1 rfl
   have e5 : a'.eval (.tmp 9) = .slice A2 n2 c2 := (hdep ⟨6, .data⟩ (by simp) rfl).2.2.2.2.2.2.1 rfl
   have e3 : a'.eval (.tmp 7) = .slice (some ⟨g, 0, none⟩) 0 0 := g1
   obtain ⟨A', c', w2, hr, hf, hb⟩ := append_zero (P := Tryz.prog) elemBx7 22 g g2 A2 n2 c2 (hs.flatMap boxC) w.heap.size (by rw [flat_len boxC 6 boxC_len, H2.out]) (HC2.out.below hbw) m2 (by omega)
   have hf2 : Far W1.heap.size w2 A' (hs.flatMap boxC) := by
    rcases hf with h | ⟨g', k1, k2, k3, k4⟩
    ·exact .inl h
    ·exact .inr ⟨g', k1, by omega, k3, k4⟩
   refine cp_step rfl rfl rfl hS (w' := w2) (v := .slice A' n2 c') ?_ hb ⟨fun e => absurd e (by decide), fun e => absurd e (by decide), fun e => absurd e (by decide), fun e => absurd e (by decide), fun e => absurd e (by decide), fun e => absurd e (by decide), fun e => absurd e (by decide), fun _ => ⟨A', c', getD_own (by rw [hS.size]; decide), hf2⟩, fun e => absurd e (by decide), fun e => absurd e (by decide)⟩
   change Sem.run Tryz.prog (execOp a'.eval { dst := some 10, op := Op.call { callee := .builtin .append, args := #[.tmp 7, .tmp 9], argTypes := #[22, 22] }, type := _, pos := _, after := _, guard := none }) w' = _
   simp only [execOp, resolve, invoke, builtin, Sem.run_bind, Sem.run_pure, Result.andThen_ok, List.map_toArray, List.map_cons, List.map_nil, e3, e5, hr]
  ·obtain ⟨A, c, e6, k1⟩ := (hdep ⟨3, .data⟩ (by simp) rfl).2.2.2.1 rfl
   obtain ⟨A', c', e10, k2⟩ := (hdep ⟨7, .data⟩ (by simp) rfl).2.2.2.2.2.2.2.1 rfl
   have e6' : a'.eval (.tmp 6) = .slice A n1 c := e6
   have e10' : a'.eval (.tmp 10) = .slice A' n2 c' := e10
   refine cp_step rfl rfl rfl hS (w' := w') (v := .agg #[.slice A n1 c, .slice A' n2 c']) ?_ (Below.refl _ _) ⟨fun e => absurd e (by decide), fun e => absurd e (by decide), fun e => absurd e (by decide), fun e => absurd e (by decide), fun e => absurd e (by decide), fun e => absurd e (by decide), fun e => absurd e (by decide), fun e => absurd e (by decide), fun _ => ⟨A, c, A', c', getD_own (by rw [hS.size]; decide), k1, k2⟩, fun e => absurd e (by decide)⟩
   change Sem.run Tryz.prog (execOp a'.eval { dst := some 11, op := Op.build 24 #[(0, .tmp 6), (1, .tmp 10)], type := _, pos := _, after := _, guard := none }) w' = _
   simp only [execOp, List.map_toArray, List.map_cons, List.map_nil, e6', e10']
   kernel_rfl
  ·obtain ⟨A, c, A', c', e11, k1, k2⟩ := (hdep ⟨8, .data⟩ (by simp) rfl).2.2.2.2.2.2.2.2.1 rfl
   have e11' : a'.eval (.tmp 11) = .agg #[.slice A n1 c, .slice A' n2 c'] := e11
   obtain ⟨cs, hG, hcs⟩ := hS.blk
   have hTh : w'.there (w.heap.size + 1) 0 (#[.slice A n1 c, .slice A' n2 c'] : Array Value).size := hG.there (by rw [hcs]; exact Nat.le_refl 2)
   have hst := run_storeAt_mid (P := Tryz.prog) w' (w.heap.size + 1) 0 24 #[.slice A n1 c, .slice A' n2 c'] hTh (by kernel_rfl) (by simp [Value.oneCell'])
   refine cp_store rfl rfl rfl hS A A' c c' k1 k2 ?_
   change Sem.run Tryz.prog (execOp a'.eval { dst := none, op := Op.store 24 (.tmp 2) (.tmp 11), type := 0, pos := _, after := _, guard := none }) w' = _
   simp only [execOp, e2, e11', Sem.run_bind, hst]
   rfl
  ·simp at hj
 case hend =>
  intro a' w' hS hall
  obtain ⟨A, c, A', c', hB, k1, k2⟩ := (hall 9 _ rfl).2.2.2.2.2.2.2.2.2 rfl
  have hs2 := (hS.fr 2 (by decide)).trans f2
  have hdf : a'.defers = [] := by rw [hS.defers, ha0]
  have hbw : Below w.heap.size w w' := bel_exc hW1 hS.exc (by omega)
  rename_i K hK
  have hres : (loadVar 24 ⟨w.heap.size + 1, 0, none⟩).run Tryz.prog w' = .ok (.agg #[.slice A n1 c, .slice A' n2 c']) w' := run_loadVar_mid w' (w.heap.size + 1) 0 _ _ _ hB.range Tryz.underlying24 rfl (by kernel_rfl)
  show K a' w'
  apply hK
  go_wp2
  refine bodyPost_ret (v := .agg #[.slice A n1 c, .slice A' n2 c']) ?_ hdf ⟨A, c, A', c', rfl, k1.mono hW1.size, k2.mono hW1.size, hbw⟩
  rw [Array.getD_eq_getD_getElem?] at hs2
  have ha : (asAddr (a'.tmps[2]?.getD undef)).run Tryz.prog w' = .ok ⟨w.heap.size + 1, 0, none⟩ w' := by rw [hs2]; kernel_rfl
  simp [results, Tryz.results63, ha, hres, Result.andThen]
theorem wpList_append_cells2 {P : Program} {w : World} {ops : Array Oper} {rest : List Oper} {o : Oper} {a : Act} {Q : Exit -> Act -> World -> Prop} (hgd : o.guard = none) (s x : Operand) (t : TypeId)
 (ho : o.op = .call { callee := .builtin .append, args := #[s, x], argTypes := #[t, t] }) {E : TypeId} {z : Value} {size bytes : Nat} (hE : Elem P t E z size bytes)
 (base : Nat) (v : Value) (n : Nat) (xs : List Value) (hs : a.eval s = v) (hown : w.ownsRow base E size v n xs) (g : Nat) (m c : Nat) (news : List Value) (hx : a.eval x = .slice (some ⟨g, 0, none⟩) m c)
 (hl : news.length = m * size) (hc : ∀ j u, news[j]? = some u -> w.cell? ⟨g, j, none⟩ = some u) (h1 : ∀ u ∈ news, u.oneCell' = true) (h63 : n + m <= maxLen) (hbytes : (n + m) * bytes <= 140737488355328) (hbase : base <= w.heap.size)
 (h : ∀ v' w', w'.ownsRow base E size v' (n + m) (xs ++ news) -> Below base w w' -> w.heap.size <= w'.heap.size -> (∀ k, k < w.heap.size -> v.ownBlock ≠ some k -> w'.heap[k]? = w.heap[k]?) -> (v'.ownBlock = v.ownBlock ∨ v'.ownBlock = some w.heap.size) -> wpList P ops Q rest (a.put o.dst v') w') : wpList P ops Q (o :: rest) a w := by
 obtain ⟨i, hi, hz, hsz, hby⟩ := info_parts hE.info
 refine wpList_append_own_at w hgd s x t ho base E i z size bytes hE.slice hi hz hsz hby hE.cells hE.pos v n xs hs hown ⟨g, 0, none⟩ m c news hx hl (fun j u hu => ?_) h1 h63 hbytes hbase (fun v' w' h2 h3 _ h4 => h v' w' h2 ((Below.refl _ w).grown h3 hbase (fun k hk => (hown.lt k hk).1)) h3.size (fun k hk hne => h3.block k hk (fun e => hne e.symm)) h4)
 rw [show (⟨g, 0, none⟩ : Addr).add j = ⟨g, j, none⟩ by unfold Addr.add; split <;> simp_all]
 exact hc j u hu
def Apart (base : Nat) (w : World) (v : Value) (A : Option Addr) (cs : List Value) : Prop :=
 cs = [] ∨ ∃ g, A = some ⟨g, 0, none⟩ /\ (base <= g /\ v.ownBlock ≠ some g) /\ g < w.heap.size /\ ∀ j u, cs[j]? = some u -> w.cell? ⟨g, j, none⟩ = some u
theorem Apart.cells {base : Nat} {w : World} {v : Value} {A : Option Addr} {cs : List Value} (h : Apart base w v A cs) : Cells w w.heap.size A cs := by
 rcases h with h | ⟨g, h1, h2, h3, h4⟩
 ·exact .inl h
 ·exact .inr ⟨g, 0, h1, h3, fun j v hv => by rw [Nat.zero_add]; exact h4 j v hv⟩
theorem Apart.via {base : Nat} {w w' : World} {v : Value} {A : Option Addr} {cs : List Value} (h : Apart base w v A cs) (hb : Below w.heap.size w w') : Apart base w' v A cs := by
 rcases h with h | ⟨g, h1, h2, h3, h4⟩
 ·exact .inl h
 ·exact .inr ⟨g, h1, h2, Nat.lt_of_lt_of_le h3 hb.size, fun j u hu => (hb.cell (p := ⟨g, j, none⟩) h3).trans (h4 j u hu)⟩
theorem Apart.push {base : Nat} {w w' : World} {v v' : Value} {A : Option Addr} {cs : List Value} (h : Apart base w v A cs) (hs : w.heap.size <= w'.heap.size) (hk : ∀ k, k < w.heap.size -> v.ownBlock ≠ some k -> w'.heap[k]? = w.heap[k]?) (hv : v'.ownBlock = v.ownBlock ∨ v'.ownBlock = some w.heap.size) : Apart base w' v' A cs := by
 rcases h with h | ⟨g, h1, h2, h3, h4⟩
 ·exact .inl h
 ·refine .inr ⟨g, h1, ⟨h2.1, ?_⟩, Nat.lt_of_lt_of_le h3 hs, fun j u hu => ?_⟩
  ·rcases hv with e | e
   ·rw [e]; exact h2.2
   ·rw [e]; intro e2; injection e2 with e2; omega
  ·exact (World.cell?_of_block (hk g h3 h2.2)).trans (h4 j u hu)
theorem Apart.far {base : Nat} {w : World} {v : Value} {A : Option Addr} {cs : List Value} (h : Apart base w v A cs) : Far base w A cs := by
 rcases h with h | ⟨g, h1, h2, h3, h4⟩
 ·exact .inl h
 ·exact .inr ⟨g, h1, h2.1, h3, h4⟩
theorem elemBar7 : Elem Tryz.prog 27 138 (.agg #[.string ⟨#[]⟩, .int .i64 0, .int .i64 0, .int .i64 0, .slice none 0 0]) 5 64 := ⟨Tryz.underlying27, by kernel_rfl, rfl, by decide⟩
def GivesBs (bs : List BarR) (w : World) (e : Ending) (w' : World) : Prop :=
 ∃ (A : Option Addr) (c : Nat) (bs' : List BarR), e = .returned (.slice A bs.length c) /\ bs'.map BarR.b = bs.map BarR.b /\ Far w.heap.size w' A (bs'.flatMap barC) /\ (∀ r, r ∈ bs' -> r.n = r.b.dims.length /\ Far w.heap.size w' r.A (i64s r.b.dims)) /\ Below w.heap.size w w'
set_option maxRecDepth 20000 in
set_option maxHeartbeats 8000000 in
theorem rcopy14_any (bs : List BarR) (A : Option Addr) (n c : Nat) (w : World) (hA : BarsAt w w.heap.size A n bs) (hn : n <= 1000) (hdm : ∀ r, r ∈ bs -> r.n <= 1000) :
 Calls Tryz.prog 64 #[.slice A n c] w (GivesBs bs w) := by
 have HA := lh hA
 have HN := lh hA.len
 have HDM := lh hdm
 clear hA hdm
 go_enter Tryz.func64, Tryz.ntmps64
 go_wp2
 go_loopw [3, 4] (fun v i wr => ∃ q : Nat, q <= n /\ i = .int .i64 q /\ ∃ bs' : List BarR, Hid (bs'.map BarR.b = (bs.take q).map BarR.b) /\ Hid (∀ r, r ∈ bs' -> r.n = r.b.dims.length /\ Apart w.heap.size wr v r.A (i64s r.b.dims)) /\ wr.ownsRow w.heap.size 138 5 v q (bs'.flatMap barC) /\ Below w.heap.size w wr) (fun _ i _ => n - (intOf i).toNat)
 case atStart => exact ⟨0, Nat.zero_le _, rfl, [], lh rfl, lh (fun r hr => by cases hr), World.ownsRow_nil _ _ _ _, Below.refl _ _⟩
 case round =>
  obtain ⟨q, hq, rfl, bs', hmap, hap, hO, hbr⟩ := hrel
  have HO := lh hO
  have hsr := hbr.size
  clear hO
  by_cases hlt : q < n
  ·have hqx : q < bs.length := by rw [HN.out]; exact hlt
   have hqi : (q : Int) < n := by omega
   have HTK := lh (take_snoc hqx)
   have hAr := HA.out.at_ (Nat.le_refl _) hbr
   have hb5 := hAr.each bs[q] (List.getElem_mem hqx)
   have hdl := HDM.out bs[q] (List.getElem_mem hqx)
   obtain ⟨b, o, hA2, hbb, hxx⟩ := hAr.cells.at_ (by rw [flat_len barC 5 barC_len]; omega)
   clear hxx
   have hcs := hAr.cells
   rw [hA2] at hcs
   have c0 := hcs.row0 barC_len hqx rfl
   have c1 := hcs.rowj barC_len hqx 1 rfl
   have c2 := hcs.rowj barC_len hqx 2 rfl
   have c3 := hcs.rowj barC_len hqx 3 rfl
   have c4 := hcs.rowj barC_len hqx 4 rfl
   have hbl : b < wr.heap.size := by omega
   rw [hA2]
   clear hcs hAr hA2
   generalize bs[q] = r at *
   have HB5 := lh hb5
   clear hb5
   go_upto_region 6 with fail
   have hSB := Blk.new wr 138 #[.string r.b.mark, .int .i64 r.b.size, .int .i64 r.b.count, .int .i64 r.b.code, .slice r.A r.n r.c]
   have hbS : Below wr.heap.size wr (wr.alloc (.cells #[.string r.b.mark, .int .i64 r.b.size, .int .i64 r.b.count, .int .i64 r.b.code, .slice r.A r.n r.c] 138)) := ba_alloc (Below.refl _ _) _
   generalize (wr.alloc (.cells #[.string r.b.mark, .int .i64 r.b.size, .int .i64 r.b.count, .int .i64 r.b.code, .slice r.A r.n r.c] 138)) = W5 at *
   have k4 := (hbS.cell (p := ⟨b, o + q * 5 + 4, none⟩) hbl).trans c4
   have hbl5 : b < W5.heap.size := Nat.lt_of_lt_of_le hbl hbS.size
   have HS5 := lh hSB
   have hw5 : Below w.heap.size w W5 := hbr.trans (hbS.mono hsr)
   have hs5 := hbS.size
   have hgl := hSB.lt
   have hOl := HO.out.lt
   have HOL := lh (fun k (hk : u3.ownBlock = some k) => (show k < wr.heap.size from (hOl k hk).2))
   have HC5 := lh (HB5.out.cells.below (hbS.mono hsr))
   have HLn := lh HB5.out.len
   clear c0 c1 c2 c3 c4 hSB hOl
   go_upto_region 7 with (at_builtin; refine wpList_append_cells rfl (.tmp 16) (.tmp 21) _ rfl elemInt W5.heap.size (.slice (some ⟨W5.heap.size, 0, none⟩) 0 0) 0 [] rfl (own_zero W5 W5.heap.size _ _ (Nat.le_refl _)) r.A r.n r.c (i64s r.b.dims) w.heap.size rfl (by simp; exact HLn.out) (HC5.out.alloc hw5.size _) (by intro u hu; obtain ⟨z, _, rfl⟩ := List.mem_map.1 hu; rfl) (by unfold maxLen; omega) (by omega) (by simp) ?_; intro v2 wE hOE hbE; have hb5E : Below W5.heap.size W5 wE := (ba_alloc (Below.refl _ _) _).trans hbE; have hDE := HS5.out.via hb5E; have f4 := hDE.frozen 4; have e4 := hDE.cell 4; have dlE := hDE.lt; simp only [ga1, ga2, ga3] at e4; obtain ⟨A5, c5, hv5, _, _, hC5⟩ := own_form hOE (by unfold maxLen; omega); subst hv5)
   have hfar := own_far hOE
   rw [List.nil_append] at hfar
   have hb6 : Below wr.heap.size wr (wE.setCell ⟨wr.heap.size, 4, none⟩ (.slice A5 r.n c5)) := (hbS.trans (hb5E.mono hs5)).setCell (Nat.le_refl _) _
   have hX6 : Exc [wr.heap.size] wE (wE.setCell ⟨wr.heap.size, 4, none⟩ (.slice A5 r.n c5)) := exc_setCells wr.heap.size [.slice A5 r.n c5] 4 wE
   obtain ⟨cs6, hD6, _, hcs6⟩ := Blk.put [.slice A5 r.n c5] 4 wE _ hDE (by simp)
   change Blk (wE.setCell ⟨wr.heap.size, 4, none⟩ (.slice A5 r.n c5)) _ _ cs6 at hD6
   have hap5 : Apart w.heap.size (wE.setCell ⟨wr.heap.size, 4, none⟩ (.slice A5 r.n c5)) u3 A5 (i64s r.b.dims) := by
    rcases hfar with h | ⟨g, h1, h2, h3, h4⟩
    ·exact .inl h
    ·refine .inr ⟨g, h1, ⟨by omega, fun e => ?_⟩, Nat.lt_of_lt_of_le h3 hX6.size, fun j v hv => (hX6.cell (p := ⟨g, j, none⟩) h3 (by simp; omega)).trans (h4 j v hv)⟩
     have := HOL.out g e
     omega
   have HO6 := lh (own_kept HO.out (fun k hk => hb6.block k (HO.out.lt k hk).2))
   have HAP : Hid (∀ r', r' ∈ bs' -> r'.n = r'.b.dims.length /\ Apart w.heap.size (wE.setCell ⟨wr.heap.size, 4, none⟩ (.slice A5 r.n c5)) u3 r'.A (i64s r'.b.dims)) := lh (fun r' hr' => ⟨(hap.out r' hr').1, (hap.out r' hr').2.via hb6⟩)
   have hw6 : Below w.heap.size w (wE.setCell ⟨wr.heap.size, 4, none⟩ (.slice A5 r.n c5)) := hbr.trans (hb6.mono hsr)
   generalize (wE.setCell ⟨wr.heap.size, 4, none⟩ (.slice A5 r.n c5)) = W6 at *
   have c0 := hD6.cell 0
   have c1 := hD6.cell 1
   have c2 := hD6.cell 2
   have c3 := hD6.cell 3
   have c4 := hD6.cell 4
   have dl6 := hD6.lt
   rw [hcs6] at c0 c1 c2 c3 c4
   simp only [List.length_cons, List.length_nil, Nat.zero_add, Nat.reduceAdd, Nat.reduceLeDiff, Nat.reduceLT, and_true, and_false, if_false, if_true, Nat.sub_self, List.getElem?_toArray, List.getElem?_cons_zero, List.getElem?_cons_succ, Nat.le_refl, false_and, reduceIte] at c0 c1 c2 c3 c4
   have HAP5 := lh hap5
   have hwz := hw6.size
   clear hap5 hb6 hX6 hD6 hcs6 hfar hOE hbE hb5E hDE f4 e4 dlE hC5 HO hap hbS hgl HOL HC5 k4 hbl5 hw5 HS5
   generalize wr.heap.size = g5 at *
   go_wp2_with (at_builtin; refine wpList_append_cells2 rfl (.tmp 24) (.tmp 26) _ rfl elemBar7 w.heap.size u3 q (bs'.flatMap barC) rfl (own_kept HO6.out (fun k hk => (ba_alloc (Below.refl _ _) _).block k (HO6.out.lt k hk).2)) W6.heap.size 1 1 #[.string r.b.mark, .int .i64 r.b.size, .int .i64 r.b.count, .int .i64 r.b.code, .slice A5 r.n c5].toList rfl rfl (fun j u hu => ((Blk.new W6 138 #[.string r.b.mark, .int .i64 r.b.size, .int .i64 r.b.count, .int .i64 r.b.code, .slice A5 r.n c5]).cell j).trans (by simpa using hu)) (by simp [Value.oneCell']) (by unfold maxLen; omega) (by omega) (by simp; omega) ?_; intro v2 wF hOF hbF hszF hkF hvF)
   go_roundw
   case rel =>
    refine ⟨q + 1, by omega, by go_num, bs' ++ [⟨r.b, A5, r.n, c5⟩], lh ?_, lh (fun r' hr' => ?_), by simpa using hOF, hw6.trans (((ba_alloc (Below.refl _ _) _).mono hwz).trans hbF)⟩
    ·rw [HTK.out, List.map_append, List.map_append, hmap.out]
     rfl
    ·rcases List.mem_append.1 hr' with h | h
     ·exact ⟨(HAP.out r' h).1, ((HAP.out r' h).2.via (ba_alloc (Below.refl _ _) _)).push hszF hkF hvF⟩
     ·rw [List.mem_singleton] at h
      subst h
      exact ⟨HLn.out.symm, (HAP5.out.via (ba_alloc (Below.refl _ _) _)).push hszF hkF hvF⟩
   case measure => simp [intOf]; omega
  ·have hqn : q = n := by omega
   have hqi : ¬ ((q : Int) < n) := by omega
   obtain ⟨A9, c9, hu, _, _, hC9⟩ := own_form HO.out (by unfold maxLen; omega)
   subst hu
   have HF9 := lh (own_far HO.out)
   have HM := lh (show bs'.map BarR.b = bs.map BarR.b by rw [hmap.out, List.take_of_length_le (by rw [HN.out, hqn]; exact Nat.le_refl _)])
   have HN2 := lh (show q = bs.length by rw [HN.out, hqn])
   subst hqn
   go_wp2
   go_ret
   exact ⟨A9, c9, bs', by rw [<- HN2.out]; rfl, HM.out, HF9.out, fun r hr => ⟨(hap.out r hr).1, (hap.out r hr).2.far⟩, hbr⟩
end Go.Proofs.YtmfpbafpnoomeaaGreat
