/- Lemmas. -/
import Derived.Test.YtmfpbafpnoomeaaGreatMAO
import Derived.Test.YtmfpbafpnoomeaaGreatMAN
set_option linter.unusedVariables false
set_option linter.unusedSimpArgs false
namespace Go.Proofs.YtmfpbafpnoomeaaGreat
open Go.RowKit
structure SameDt (x x' : Dt) : Prop where
 m : x'.m = x.m
 bars : bars x'.bs = bars x.bs
 rs : x'.rs = x.rs
 js : x'.js = x.js
 jn : x'.jn = x.jn
 rule : x'.rule = x.rule
section
variable {x x' : Dt} (hs : SameDt x x')
include hs
theorem same_n : S.nOf x' = S.nOf x := by unfold S.nOf; rw [hs.bars, hs.rs]
theorem same_c : S.cOf x' = S.cOf x := by unfold S.cOf; rw [same_n hs, hs.js]
theorem same_look (t : Bool) : S.look x' t = S.look x t := by unfold S.look; rw [hs.m, hs.bars, hs.rs, hs.rule, hs.jn, hs.js]
theorem same_rod {i : Nat} {r : Rod} (h : RodOk x' i r) : ∃ r0, RodOk x i r0 /\ r0.bar.b = r.bar.b /\ r0.legs = r.legs /\ r0.main = r.main := by
 obtain ⟨k, j, k0, hL, he⟩ := h.ex
 have hg := congrArg (fun l => l[k0]?) hs.bars
 unfold Go.Proofs.YtmfpbafpnoomeaaGreat.bars at hg
 simp only [List.getElem?_map, hL.get, Option.map_some] at hg
 cases hb : x.bs[k0]? with
 | none => rw [hb] at hg; cases hg
 | some b0 =>
  rw [hb] at hg
  injection hg with hg
  have hbb : b0.b = r.bar.b := hg.symm
  have hst := hL.st
  rw [hs.bars] at hst
  have hL2 : Lies x.bs x.rs i k j k0 b0 := ⟨by rw [hbb, <- hs.rs]; exact hst, hb, by rw [<- hs.rs]; exact hL.cnt, hL.lim⟩
  refine ⟨⟨b0, r.legs, none, 0, r.main⟩, ⟨⟨k, j, k0, hL2, ?_⟩, h.main⟩, hbb, rfl, rfl⟩
  show r.legs = _
  rw [he]
  congr 1
  congr 1
  simp only [hs.rs]
theorem same_rods {n : Nat} {rs rs' : List Rod} (h : RodsOf x n rs) (h' : RodsOf x' n rs') (k : Nat) : (rs[k]? = none /\ rs'[k]? = none) ∨ ∃ r r', rs[k]? = some r /\ rs'[k]? = some r' /\ r.bar.b = r'.bar.b /\ r.legs = r'.legs /\ r.main = r'.main := by
 by_cases hk : k < n
 ·have h1 : k < rs.length := by rw [h.len]; exact hk
  have h2 : k < rs'.length := by rw [h'.len]; exact hk
  obtain ⟨r0, g0, g1, g2, g3⟩ := same_rod hs (h'.ok k h2)
  obtain ⟨e1, e2, e3⟩ := rod_same (h.ok k h1) g0
  exact .inr ⟨rs[k], rs'[k], List.getElem?_eq_getElem h1, List.getElem?_eq_getElem h2, by rw [e1]; exact g1, e2.trans g2, e3.trans g3⟩
 ·exact .inl ⟨List.getElem?_eq_none (by rw [h.len]; omega), List.getElem?_eq_none (by rw [h'.len]; omega)⟩
theorem same_size {n : Nat} {rs rs' : List Rod} (h : RodsOf x n rs) (h' : RodsOf x' n rs') : S.sizeI rs' = S.sizeI rs := by
 funext i
 unfold S.sizeI
 rcases same_rods hs h h' i.toNat with ⟨e1, e2⟩ | ⟨r, r', e1, e2, e3, _⟩
 ·rw [e1, e2]
 ·rw [e1, e2]
  show r'.bar.b.size = r.bar.b.size
  rw [e3]
theorem same_out {n : Nat} {rs rs' : List Rod} (h : RodsOf x n rs) (h' : RodsOf x' n rs') (z : Bx) : S.outI rs' z = S.outI rs z := by
 funext i
 unfold S.outI
 rcases same_rods hs h h' i.toNat with ⟨e1, e2⟩ | ⟨r, r', e1, e2, e3, e4, e5⟩
 ·rw [e1, e2]
 ·rw [e1, e2]
  show S.outside r' z = S.outside r z
  unfold S.outside
  rw [e4, e5]
theorem same_span {n : Nat} {rs rs' : List Rod} (h : RodsOf x n rs) (h' : RodsOf x' n rs') (l : List Int) : S.spanL x' rs' l = S.spanL x rs l := by
 unfold S.spanL
 rcases same_rods hs h h' (l.headD 0).toNat with ⟨e1, e2⟩ | ⟨r, r', e1, e2, e3, e4, e5⟩
 ·rw [e1, e2]
 ·rcases same_rods hs h h' (l.getLastD 0).toNat with ⟨f1, f2⟩ | ⟨q, q', f1, f2, f3, f4, f5⟩
  ·rw [e1, e2, f1, f2]
  ·rw [e1, e2, f1, f2]
   show S.spanOf x' r' q' = S.spanOf x r q
   unfold S.spanOf S.lowOf S.upOf S.legOf
   rw [hs.rule, hs.m, e3, e4, e5, f3, f4, f5]
theorem same_sch {n : Nat} {rs rs' : List Rod} (h : RodsOf x n rs) (h' : RodsOf x' n rs') : S.schOf x' rs' = S.schOf x rs := by
 funext l
 unfold S.schOf
 rw [same_span hs h h', same_size hs h h']
theorem same_supply {n : Nat} {rs rs' : List Rod} (h : RodsOf x n rs) (h' : RodsOf x' n rs') (z : Bx) : S.supplyOf x' rs' (S.cOf x') z = S.supplyOf x rs (S.cOf x) z := by
 have hsu : S.sup rs' z = S.sup rs z := by
  funext c
  unfold S.sup
  rw [same_out hs h h' z]
 unfold S.supplyOf
 rw [same_c hs, same_sch hs h h', hsu]
theorem same_parts {rs rs' : List Rod} (h : RodsOf x (S.nOf x) rs) (h' : RodsOf x' (S.nOf x') rs') {dm dm' : Dm} (hz : dm'.zone = dm.zone) (hst : dm'.st = dm.st) : S.partsD x' rs' dm' = S.partsD x rs dm := by
 rw [same_n hs] at h'
 unfold S.partsD
 rw [hz, hst, same_supply hs h h']
end
theorem scale_ge {a b v : Int} (hb : 1 <= b) (hab : b <= a) (hv : 0 <= v) : v <= S.scaleV a b v := by
 unfold S.scaleV
 refine (Int.le_ediv_iff_mul_le (by omega)).2 ?_
 have := Int.mul_le_mul_of_nonneg_left hab hv
 omega
theorem scale_value {a b : Int} (hb : 1 <= b) (hab : b <= a) {l : List Stp} (hl : S.steps l = true) (p : Int) : S.valueOf p l <= S.valueOf p (S.scaleSt a b l) := by
 have hup : S.upTo p (S.scaleSt a b l) = S.upTo p l := by
  unfold S.upTo S.scaleSt
  rw [List.countP_map]
  rfl
 unfold S.valueOf
 rw [hup]
 cases hk : S.upTo p l with
 | zero => exact Int.le_refl _
 | succ k =>
  show (match l[k]? with | some s => s.val | none => 0) <= (match (S.scaleSt a b l)[k]? with | some s => s.val | none => 0)
  unfold S.scaleSt
  rw [List.getElem?_map]
  cases hg : l[k]? with
  | none => exact Int.le_refl _
  | some s => exact scale_ge hb hab (steps_val hl (List.mem_of_getElem? hg)).1
theorem scale_steps {a b : Int} (ha : 1 <= a /\ a <= 1000) (hb : 1 <= b /\ b <= 1000) {l : List Stp} (hl : S.steps l = true) (hmx : ∀ s, s ∈ l -> S.scaleV a b s.val <= 1099511627776) : S.steps (S.scaleSt a b l) = true := by
 have hl2 := hl
 unfold S.steps at hl ⊢
 rw [Bool.and_eq_true, List.all_eq_true] at hl ⊢
 have hlen : (S.scaleSt a b l).length = l.length := by unfold S.scaleSt; simp
 rw [hlen]
 refine ⟨hl.1, fun k hk => ?_⟩
 have hkx := List.mem_range.1 hk
 have h1 := hl.2 k hk
 unfold S.stepAt at h1 ⊢
 have hg : (S.scaleSt a b l)[k]? = some ⟨l[k].fro, S.scaleV a b l[k].val⟩ := by unfold S.scaleSt; rw [List.getElem?_map, List.getElem?_eq_getElem hkx]; rfl
 rw [hg]
 rw [List.getElem?_eq_getElem hkx] at h1
 simp only [Bool.and_eq_true, decide_eq_true_eq] at h1 ⊢
 have hm := List.getElem_mem hkx
 have hv := steps_val hl2 hm
 refine ⟨⟨⟨h1.1.1.1, (scaleV_bd ha hb hv).2.2⟩, hmx _ hm⟩, ?_⟩
 have h4 := h1.2
 cases k with
 | zero => exact h4
 | succ j =>
  simp only [] at h4 ⊢
  have hj : j < l.length := by omega
  have hgj : (S.scaleSt a b l)[j]? = some ⟨l[j].fro, S.scaleV a b l[j].val⟩ := by unfold S.scaleSt; rw [List.getElem?_map, List.getElem?_eq_getElem hj]; rfl
  rw [hgj]
  rw [List.getElem?_eq_getElem hj] at h4
  exact h4
theorem spans_more {s w w' : List Stp} (hs : S.steps s = true) (hw : S.steps w = true) (hw' : S.steps w' = true) (hle : ∀ p, S.valueOf p w <= S.valueOf p w') {t : Sp} (ht : t ∈ S.spansL (S.partsOf s w)) : ∃ t', t' ∈ S.spansL (S.partsOf s w') /\ t'.lo <= t.lo /\ t.hi <= t'.hi := by
 obtain ⟨g1, g2, g3⟩ := spans_law (spots_place hs hw)
 obtain ⟨k1, k2, k3⟩ := spans_law (spots_place hs hw')
 have h1 := g1 t ht
 have hf : ∀ p, t.lo <= p -> p <= t.hi -> ∃ t', t' ∈ S.spansL (S.partsOf s w') /\ t'.lo <= p /\ p <= t'.hi := fun p hp hp' =>
  (k3 p (by omega)).2 (by have := (g3 p (by omega)).1 ⟨t, ht, hp, hp'⟩; have := hle p; omega)
 obtain ⟨t', ht', h2, h3⟩ := hf t.lo (Int.le_refl _) h1.1
 refine ⟨t', ht', h2, ?_⟩
 refine Classical.byContradiction fun hc => ?_
 obtain ⟨t2, ht2, h4, h5⟩ := hf (t'.hi + 1) (by omega) (by omega)
 have hne : t' ≠ t2 := fun e => by subst e; omega
 obtain ⟨i, hi, rfl⟩ := List.getElem_of_mem ht'
 obtain ⟨j, hj, rfl⟩ := List.getElem_of_mem ht2
 have hk2 := List.pairwise_iff_getElem.1 k2
 by_cases hij : i < j
 ·have := hk2 i j hi hj hij
  omega
 ·by_cases hji : j < i
  ·have := hk2 j i hj hi hji
   have := k1 _ (List.getElem_mem hi)
   have := k1 _ (List.getElem_mem hj)
   omega
  ·have : i = j := by omega
   subst this
   exact hne rfl
theorem wp_region_mixC {P : Program} (C : World -> Prop) {id : Nat} {Q : Exit -> Act -> World -> Prop} {a : Act} {w : World} {l : List Oper} (r : Nat) (ms : List Nat) (hm : P.follows .mixedOrders = true) (hB : mixB .any l.toArray (endAt r 0 ms) (chainAt 0 ms) = true)
 (hend : endAt r 0 ms <= l.length) (hC : C w.drew) (h : wpSegs P l.toArray C Q r ms l a w.drew) : (Code.region id l.toArray true).wp P Q a w := by
 refine wp_region_any hm ?_
 have hin : ∀ i, (Array.replicate l.toArray.size false).getD i false = false := fun i => getD_replicate_false _ _
 refine mix_any (C := C) hB _ _ a w.drew (by simp [List.count_replicate]) ⟨by simp, fun j oj _ hl => (by rw [hin] at hl; cases hl), fun t _ ht => getD_in (by simpa using ht) (hin t)⟩ hC ?_
 have := segs_mix (P := P) (ops := l.toArray) (C := C) (Q := Q) (ks := fun i => (chainAt 0 ms).contains i || decide (endAt r 0 ms <= i)) (listed := Array.replicate l.toArray.size false) (t := endAt r 0 ms) r (by simpa using hend) hin ms 0 a w.drew rfl
  (fun i _ h2 => by simp [Nat.not_le.2 h2]) (by simpa using h)
 rwa [Nat.sub_zero, <- List.range_eq_range'] at this
theorem quietC {P : Program} {ops : Array Oper} {C : World -> Prop} {Q : Act -> Prop} {rest : List Oper} {op : Oper} {a : Act} (hw : Region.wanted op (yielded ops a.tmps) = true) (v : Value) (hS : ∀ w, C w -> (execOp a.eval op).run P w = .ok (.value v) w)
 (h : ∀ a', a.put op.dst v = a' -> wpQuiet P ops C Q rest a') : wpQuiet P ops C Q (op :: rest) a := by
 unfold wpQuiet
 rw [if_pos hw]
 refine ⟨v, fun w hw' => ?_, h _ rfl⟩
 unfold Oper.quietAt
 rw [hS w hw']
 exact ⟨rfl, rfl⟩
theorem elemRn7 : Elem Tryz.prog 28 142 (.agg #[.string ⟨#[]⟩, .int .i64 0, .int .i64 0, .int .i64 0, .int .i64 0, .int .i64 0, .int .i64 0, .int .i64 0, .int .i64 0, .int .i64 0]) 10 88 := ⟨Tryz.underlying28, by kernel_rfl, rfl, by decide⟩
theorem elemJn7 : Elem Tryz.prog 29 168 (.agg #[.int .i64 0, .int .i64 0]) 2 16 := ⟨Tryz.underlying29, by kernel_rfl, rfl, by decide⟩
theorem elemDm7 : Elem Tryz.prog 30 81 (.agg #[.string ⟨#[]⟩, .int .i64 0, .int .i64 0, .int .i64 0, .int .i64 0, .int .i64 0, .int .i64 0, .slice none 0 0]) 8 88 := ⟨Tryz.underlying30, by kernel_rfl, rfl, by decide⟩
theorem rnC_one7 (l : List Rn) : ∀ u ∈ l.flatMap rnC, u.oneCell' = true := by
 intro u hu
 obtain ⟨s, _, hs⟩ := List.mem_flatMap.1 hu
 simp at hs
 rcases hs with rfl | rfl | rfl | rfl | rfl | rfl | rfl | rfl | rfl | rfl <;> rfl
theorem jnC_one7 (l : List Jn) : ∀ u ∈ l.flatMap jnC, u.oneCell' = true := by
 intro u hu
 obtain ⟨s, _, hs⟩ := List.mem_flatMap.1 hu
 simp at hs
 rcases hs with rfl | rfl <;> rfl
def Ly (p : Nat -> Prop) (w : World) (A : Option Addr) (cs : List Value) : Prop :=
 cs = [] ∨ ∃ g, A = some ⟨g, 0, none⟩ /\ p g /\ g < w.heap.size /\ ∀ j v, cs[j]? = some v -> w.cell? ⟨g, j, none⟩ = some v
theorem Ly.keep {p : Nat -> Prop} {w w' : World} {A : Option Addr} {cs : List Value} (h : Ly p w A cs) (hs : w.heap.size <= w'.heap.size) (hk : ∀ k, p k -> k < w.heap.size -> w'.heap[k]? = w.heap[k]?) : Ly p w' A cs := by
 rcases h with h | ⟨g, h1, h2, h3, h4⟩
 ·exact .inl h
 ·exact .inr ⟨g, h1, h2, Nat.lt_of_lt_of_le h3 hs, fun j v hv => (World.cell?_of_block (hk g h2 h3)).trans (h4 j v hv)⟩
theorem Ly.mono {p q : Nat -> Prop} {w : World} {A : Option Addr} {cs : List Value} (h : Ly p w A cs) (hq : ∀ g, p g -> q g) : Ly q w A cs := by
 rcases h with h | ⟨g, h1, h2, h3, h4⟩
 ·exact .inl h
 ·exact .inr ⟨g, h1, hq g h2, h3, h4⟩
theorem Ly.cells {p : Nat -> Prop} {w : World} {A : Option Addr} {cs : List Value} (h : Ly p w A cs) : Cells w w.heap.size A cs := by
 rcases h with h | ⟨g, h1, h2, h3, h4⟩
 ·exact .inl h
 ·exact .inr ⟨g, 0, h1, h3, fun j v hv => by rw [Nat.zero_add]; exact h4 j v hv⟩
theorem Far.ly {base : Nat} {w : World} {A : Option Addr} {cs : List Value} (h : Far base w A cs) (p : Nat -> Prop) (hp : ∀ g, base <= g -> g < w.heap.size -> p g) : Ly p w A cs := by
 rcases h with h | ⟨g, h1, h2, h3, h4⟩
 ·exact .inl h
 ·exact .inr ⟨g, h1, hp g h2 h3, h3, h4⟩
structure LyDt (p : Nat -> Prop) (w : World) (x : Dt) : Prop where
 box : Ly p w x.mA (x.m.boxes.flatMap boxC)
 hole : Ly p w x.hA (x.m.holes.flatMap boxC)
 bar : Ly p w x.bA (x.bs.flatMap barC)
 dims : ∀ r, r ∈ x.bs -> r.n = r.b.dims.length /\ Ly p w r.A (i64s r.b.dims)
 run : Ly p w x.rA (x.rs.flatMap rnC)
 joint : Ly p w x.jA (x.js.flatMap jnC)
theorem LyDt.keep {p : Nat -> Prop} {w w' : World} {x : Dt} (h : LyDt p w x) (hs : w.heap.size <= w'.heap.size) (hk : ∀ k, p k -> k < w.heap.size -> w'.heap[k]? = w.heap[k]?) : LyDt p w' x :=
 ⟨h.box.keep hs hk, h.hole.keep hs hk, h.bar.keep hs hk, fun r hr => ⟨(h.dims r hr).1, (h.dims r hr).2.keep hs hk⟩, h.run.keep hs hk, h.joint.keep hs hk⟩
theorem LyDt.mono {p q : Nat -> Prop} {w : World} {x : Dt} (h : LyDt p w x) (hq : ∀ g, p g -> q g) : LyDt q w x :=
 ⟨h.box.mono hq, h.hole.mono hq, h.bar.mono hq, fun r hr => ⟨(h.dims r hr).1, (h.dims r hr).2.mono hq⟩, h.run.mono hq, h.joint.mono hq⟩
structure CopyOf (x x' : Dt) : Prop where
 same : SameDt x x'
 mn : x'.mn = x.mn
 hn : x'.hn = x.hn
 bn : x'.bn = x.bn
 rn : x'.rn = x.rn
 dn : x'.dn = x.dn
theorem at_copy {p : Nat -> Prop} {B : Nat} {w0 w : World} {x x' : Dt} (h : DtAt w0 B x) (hc : CopyOf x x') (hl : LyDt p w x') : DtAt w w.heap.size x' := by
 refine ⟨⟨?_, ?_, ?_, ?_, hl.box.cells, hl.hole.cells⟩, ?_, ⟨?_, ?_, hl.bar.cells, fun r hr => ?_⟩, ⟨?_, ?_, hl.run.cells⟩, ?_, ?_, hl.joint.cells⟩
 ·rw [hc.same.m, hc.mn]; exact h.sol.len
 ·rw [hc.mn]; exact h.sol.max
 ·rw [hc.same.m, hc.hn]; exact h.sol.len'
 ·rw [hc.hn]; exact h.sol.max'
 ·rw [hc.same.m]; exact h.name
 ·have := congrArg List.length hc.same.bars
  unfold Go.Proofs.YtmfpbafpnoomeaaGreat.bars at this
  rw [List.length_map, List.length_map] at this
  rw [hc.bn, this]; exact h.bars.len
 ·rw [hc.bn]; exact h.bars.max
 ·have hm : r.b ∈ Go.Proofs.YtmfpbafpnoomeaaGreat.bars x.bs := by rw [<- hc.same.bars]; exact List.mem_map_of_mem hr
  obtain ⟨r0, hr0, he⟩ := List.mem_map.1 hm
  have h0 := h.bars.each r0 hr0
  have hd := hl.dims r hr
  exact ⟨hd.1.symm, by rw [hd.1, <- he, h0.len]; exact h0.max, by rw [<- he]; exact h0.mark, hd.2.cells⟩
 ·rw [hc.same.rs, hc.rn]; exact h.runs.len
 ·rw [hc.rn]; exact h.runs.max
 ·rw [hc.same.js, hc.same.jn]; exact h.jlen
 ·rw [hc.same.jn]; exact h.jmax
abbrev dmK (d : Dm) : ByteArray × Bx × List Stp × Nat := (d.name, d.zone, d.st, d.n)
def GivesCopy (x : Dt) (ds : List Dm) (w : World) (e : Ending) (w' : World) : Prop :=
 ∃ (x' : Dt) (ds' : List Dm) (B : Nat), e = .returned (dtV x') /\ CopyOf x x' /\ w.heap.size <= B /\ LyDt (fun g => w.heap.size <= g /\ g < B) w' x' /\ w'.ownsRow B 81 8 (.slice x'.dA x.dn x'.dc) x.dn (ds'.flatMap dmC) /\ x.dn <= x'.dc /\ ds'.map dmK = ds.map dmK /\
  (∀ d, d ∈ ds' -> d.n = d.st.length /\ Ly (fun g => w.heap.size <= g /\ (Value.slice x'.dA x.dn x'.dc).ownBlock ≠ some g) w' d.A (d.st.flatMap stC)) /\ Below w.heap.size w w'
theorem exc_belowB {M : List Nat} {B : Nat} {W w w' : World} (hX : Exc M W w) (hb : Below B w w') (hB : W.heap.size <= B) : Exc M W w' :=
 ⟨hb.os.trans hX.os, hb.tape.trans hX.tape, hb.output.trans hX.output, Nat.le_trans hX.size hb.size, fun k hk hm => (hb.block k (Nat.lt_of_lt_of_le hk hB)).trans (hX.block k hk hm)⟩
theorem Apart.exc {base b : Nat} {w w' : World} {v : Value} {A : Option Addr} {cs : List Value} (h : Apart base w v A cs) (hX : Exc [b] w w') (hb : b < base) : Apart base w' v A cs := by
 rcases h with h | ⟨g, h1, h2, h3, h4⟩
 ·exact .inl h
 ·exact .inr ⟨g, h1, h2, Nat.lt_of_lt_of_le h3 hX.size, fun j v hv => (hX.cell (p := ⟨g, j, none⟩) h3 (by have := h2.1; simp; omega)).trans (h4 j v hv)⟩
theorem Far.apart {base lo : Nat} {w : World} {v : Value} {A : Option Addr} {cs : List Value} (h : Far base w A cs) (hlo : lo <= base) (hv : ∀ k, v.ownBlock = some k -> k < base) : Apart lo w v A cs := by
 rcases h with h | ⟨g, h1, h2, h3, h4⟩
 ·exact .inl h
 ·exact .inr ⟨g, h1, ⟨Nat.le_trans hlo h2, fun e => by have := hv g e; omega⟩, h3, h4⟩
theorem Blk.thereO {w : World} {g : Nat} {t : TypeId} {cs : Array Value} (h : Blk w g t cs) (o : Nat) {n : Nat} (hn : o + n <= cs.size) : w.there g o n := fun j hj => ⟨by rw [h.cell]; simp; omega, h.frozen _⟩
set_option maxRecDepth 20000 in
set_option maxHeartbeats 4000000 in
theorem rcopy25_any (x : Dt) (ds : List Dm) (w : World) (hA : DtAt w w.heap.size x) (hds : DemsAt w w.heap.size x.dA x.dn ds) (m1 : x.mn <= 1000000) (m2 : x.hn <= 1000000) (m3 : x.bn <= 1000) (m4 : ∀ r, r ∈ x.bs -> r.n <= 1000) (m5 : x.rn <= 1000) (m6 : x.jn <= 1000) (m7 : x.dn <= 1000) (m8 : ∀ d, d ∈ ds -> d.n <= 1000) :
 Calls Tryz.prog 35 #[dtV x] w (GivesCopy x ds w) := by
 have HA := lh hA
 have HS := lh hds
 have M4 := lh m4
 have M8 := lh m8
 clear hA hds m4 m8
 unfold dtV
 have hDB := (Blk.new w 34 (dtc x)).alloc (.cells #[.string ⟨#[]⟩, .slice none 0 0, .slice none 0 0, .int .i64 0, .int .i64 0, .int .i64 0, .slice none 0 0, .slice none 0 0, .slice none 0 0, .slice none 0 0, .int .i64 0, .int .i64 0, .int .i64 0, .int .i64 0, .int .i64 0, .int .i64 0, .int .i64 0, .int .i64 0, .int .i64 0] 34)
 have hRB := Blk.newN (W := w.alloc (.cells (dtc x) 34)) (n := w.heap.size + 1) (by simp) 34 #[.string ⟨#[]⟩, .slice none 0 0, .slice none 0 0, .int .i64 0, .int .i64 0, .int .i64 0, .slice none 0 0, .slice none 0 0, .slice none 0 0, .slice none 0 0, .int .i64 0, .int .i64 0, .int .i64 0, .int .i64 0, .int .i64 0, .int .i64 0, .int .i64 0, .int .i64 0, .int .i64 0]
 have hW1 : Below w.heap.size w ((w.alloc (.cells (dtc x) 34)).alloc (.cells #[.string ⟨#[]⟩, .slice none 0 0, .slice none 0 0, .int .i64 0, .int .i64 0, .int .i64 0, .slice none 0 0, .slice none 0 0, .slice none 0 0, .slice none 0 0, .int .i64 0, .int .i64 0, .int .i64 0, .int .i64 0, .int .i64 0, .int .i64 0, .int .i64 0, .int .i64 0, .int .i64 0] 34)) := ba_alloc (ba_alloc (Below.refl _ _) _) _
 go_enter Tryz.func35, Tryz.ntmps35
 go_upto_region 1 with fail
 generalize ((w.alloc (.cells (dtc x) 34)).alloc (.cells #[.string ⟨#[]⟩, .slice none 0 0, .slice none 0 0, .int .i64 0, .int .i64 0, .int .i64 0, .slice none 0 0, .slice none 0 0, .slice none 0 0, .slice none 0 0, .int .i64 0, .int .i64 0, .int .i64 0, .int .i64 0, .int .i64 0, .int .i64 0, .int .i64 0, .int .i64 0, .int .i64 0] 34)) = W1 at *
 have HD := lh hDB
 have HR := lh hRB
 have hOz := Blk.new W1 34 #[.string ⟨#[]⟩, .slice none 0 0, .slice none 0 0, .int .i64 0, .int .i64 0, .int .i64 0, .slice none 0 0, .slice none 0 0, .slice none 0 0, .slice none 0 0, .int .i64 0, .int .i64 0, .int .i64 0, .int .i64 0, .int .i64 0, .int .i64 0, .int .i64 0, .int .i64 0, .int .i64 0]
 have HTh := lh (show (W1.alloc (.cells #[.string ⟨#[]⟩, .slice none 0 0, .slice none 0 0, .int .i64 0, .int .i64 0, .int .i64 0, .slice none 0 0, .slice none 0 0, .slice none 0 0, .slice none 0 0, .int .i64 0, .int .i64 0, .int .i64 0, .int .i64 0, .int .i64 0, .int .i64 0, .int .i64 0, .int .i64 0, .int .i64 0] 34)).there W1.heap.size 0 ((dtc x) : Array Value).size from hOz.there (by simp))
 have hO2 := Blk.put0 hOz (dtc x) rfl
 have hX2 : Exc [W1.heap.size] (W1.alloc (.cells #[.string ⟨#[]⟩, .slice none 0 0, .slice none 0 0, .int .i64 0, .int .i64 0, .int .i64 0, .slice none 0 0, .slice none 0 0, .slice none 0 0, .slice none 0 0, .int .i64 0, .int .i64 0, .int .i64 0, .int .i64 0, .int .i64 0, .int .i64 0, .int .i64 0, .int .i64 0, .int .i64 0] 34)) ((W1.alloc (.cells #[.string ⟨#[]⟩, .slice none 0 0, .slice none 0 0, .int .i64 0, .int .i64 0, .int .i64 0, .slice none 0 0, .slice none 0 0, .slice none 0 0, .slice none 0 0, .int .i64 0, .int .i64 0, .int .i64 0, .int .i64 0, .int .i64 0, .int .i64 0, .int .i64 0, .int .i64 0, .int .i64 0] 34)).setCells W1.heap.size 0 ((dtc x) : Array Value).toList) := exc_setCells _ _ _ _
 have hn1 := hRB.lt
 have hw2 : Below w.heap.size w ((W1.alloc (.cells #[.string ⟨#[]⟩, .slice none 0 0, .slice none 0 0, .int .i64 0, .int .i64 0, .int .i64 0, .slice none 0 0, .slice none 0 0, .slice none 0 0, .slice none 0 0, .int .i64 0, .int .i64 0, .int .i64 0, .int .i64 0, .int .i64 0, .int .i64 0, .int .i64 0, .int .i64 0, .int .i64 0] 34)).setCells W1.heap.size 0 ((dtc x) : Array Value).toList) := bel_exc (ba_alloc hW1 _) hX2 (by omega)
 have hD2 := (hDB.alloc (.cells #[.string ⟨#[]⟩, .slice none 0 0, .slice none 0 0, .int .i64 0, .int .i64 0, .int .i64 0, .slice none 0 0, .slice none 0 0, .slice none 0 0, .slice none 0 0, .int .i64 0, .int .i64 0, .int .i64 0, .int .i64 0, .int .i64 0, .int .i64 0, .int .i64 0, .int .i64 0, .int .i64 0] 34)).exc hX2 (by simp; omega)
 have hR2 := (hRB.alloc (.cells #[.string ⟨#[]⟩, .slice none 0 0, .slice none 0 0, .int .i64 0, .int .i64 0, .int .i64 0, .slice none 0 0, .slice none 0 0, .slice none 0 0, .slice none 0 0, .int .i64 0, .int .i64 0, .int .i64 0, .int .i64 0, .int .i64 0, .int .i64 0, .int .i64 0, .int .i64 0, .int .i64 0] 34)).exc hX2 (by simp; omega)
 have hl2 := hO2.lt
 clear hDB hRB hOz hX2
 go_upto_region 2 with (first
  | ((with_reducible refine at_load 34 1 ?_); refine wpList_load_mid rfl 34 (.tmp 1) rfl _ _ rfl _ _ (HD.out.via belr).range Tryz.underlying34 rfl (by kernel_rfl) ?_)
  | ((with_reducible refine at_store 34 3 5 ?_); refine wpList_store_mid rfl 34 (.tmp 3) (.tmp 5) rfl W1.heap.size 0 (dtc x) rfl rfl HTh.out (by kernel_rfl) (all_oneCell_toArray (by simp [Value.oneCell'])) ?_))
 clear HTh HD HR
 generalize ((W1.alloc (.cells #[.string ⟨#[]⟩, .slice none 0 0, .slice none 0 0, .int .i64 0, .int .i64 0, .int .i64 0, .slice none 0 0, .slice none 0 0, .slice none 0 0, .slice none 0 0, .int .i64 0, .int .i64 0, .int .i64 0, .int .i64 0, .int .i64 0, .int .i64 0, .int .i64 0, .int .i64 0, .int .i64 0] 34)).setCells W1.heap.size 0 ((dtc x) : Array Value).toList) = W2 at *
 generalize W1.heap.size = O at *
 have HD2 := lh hD2
 have HR2 := lh hR2
 have HO2 := lh hO2
 have hs2 := hw2.size
 have H7 := lh (rcopy17_any x.m.boxes x.m.holes x.mA x.mn x.mc x.hA x.hn x.hc W2 HA.out.sol.len HA.out.sol.len' m1 m2 ((HA.out.sol.cells.below hw2).mono hs2) ((HA.out.sol.cells'.below hw2).mono hs2))
 have c1 := hD2.cell 1
 have c2 := hD2.cell 2
 have dl := hD2.lt
 simp only [ga1, ga2, ga3] at c1 c2
 clear hD2 hR2 hO2
 go_upto_region 3 with (first
  | (go_at_call 63; (with_reducible refine H7.out.mono ?_); rintro e w3 ⟨A7, k7, A8, k8, rfl, hf7, hf8, hb3⟩)
  | ((with_reducible refine at_store 24 11 9 ?_); refine wpList_store_mid rfl 24 (.tmp 11) (.tmp 9) rfl O 1 #[.slice A7 x.mn k7, .slice A8 x.hn k8] rfl rfl ((HO2.out.via hb3).thereO 1 (by simp)) (by kernel_rfl) (by simp [Value.oneCell']) ?_))
 have hX4 : Exc [O] w3 (w3.setCells O 1 (#[.slice A7 x.mn k7, .slice A8 x.hn k8] : Array Value).toList) := exc_setCells _ _ _ _
 have hO4 : Blk (w3.setCells O 1 (#[.slice A7 x.mn k7, .slice A8 x.hn k8] : Array Value).toList) O 34 #[.string x.m.name, .slice A7 x.mn k7, .slice A8 x.hn k8, .int .i64 x.m.cover, .int .i64 x.m.aggr, .int .i64 x.m.poker, .slice x.bA x.bn x.bc, .slice x.rA x.rn x.rc, .slice x.jA x.jn x.jc, .slice x.dA x.dn x.dc, .int .i64 x.rule.num, .int .i64 x.rule.den, .int .i64 x.rule.pnum, .int .i64 x.rule.pden, .int .i64 x.rule.bnum, .int .i64 x.rule.bden, .int .i64 x.rule.lnum, .int .i64 x.rule.lden, .int .i64 x.rule.least] := by
  change Blk ((w3.setCell ⟨O, 1, none⟩ _).setCell ⟨O, 2, none⟩ _) O _ _
  have := ((HO2.out.via hb3).set 1 (.slice A7 x.mn k7)).set 2 (.slice A8 x.hn k8)
  simpa only [List.setIfInBounds_toArray, List.set_cons_zero, List.set_cons_succ] using this
 have hw4 := bel_exc (ba_via hb3 hw2) hX4 (by omega)
 have hD4 := (HD2.out.via hb3).exc hX4 (by simp; omega)
 have hR4 := (HR2.out.via hb3).exc hX4 (by simp; omega)
 have F7 := lh ((hf7.exc hX4 hl2).mono (Nat.succ_le_of_lt hl2))
 have F8 := lh ((hf8.exc hX4 hl2).mono (Nat.succ_le_of_lt hl2))
 clear H7 HO2 HD2 HR2 hf7 hf8 hb3 c1 c2 dl hX4 hs2 hl2 hw2
 generalize (w3.setCells O 1 (#[.slice A7 x.mn k7, .slice A8 x.hn k8] : Array Value).toList) = W4 at *
 have HD4 := lh hD4
 have HR4 := lh hR4
 have HO4 := lh hO4
 have hs4 := hw4.size
 have hl4 := hO4.lt
 have H9 := lh (rcopy14_any x.bs x.bA x.bn x.bc W4 (HA.out.bars.below hw4 |> fun h => ⟨h.len, h.max, h.cells.mono hs4, fun r hr => (h.each r hr).mono hs4⟩) m3 M4.out)
 have c6 := hD4.cell 6
 have dl := hD4.lt
 simp only [ga1, ga2, ga3] at c6
 clear hD4 hR4 hO4
 go_upto_region 4 with (go_at_call 64; (with_reducible refine H9.out.mono ?_); rintro e w5 ⟨A9, k9, bs', rfl, hbs, hf9, hfd, hb5⟩; have hO5 := HO4.out.via hb5; have e6 := hO5.cell 6; have z6 := hO5.frozen 6; have ol5 := hO5.lt; simp only [ga1, ga2, ga3] at e6)
 have hX6 : Exc [O] w5 (w5.setCell ⟨O, 6, none⟩ (.slice A9 x.bs.length k9)) := exc_setCells O [.slice A9 x.bs.length k9] 6 w5
 have hO6 : Blk (w5.setCell ⟨O, 6, none⟩ (.slice A9 x.bs.length k9)) O 34 #[.string x.m.name, .slice A7 x.mn k7, .slice A8 x.hn k8, .int .i64 x.m.cover, .int .i64 x.m.aggr, .int .i64 x.m.poker, .slice A9 x.bs.length k9, .slice x.rA x.rn x.rc, .slice x.jA x.jn x.jc, .slice x.dA x.dn x.dc, .int .i64 x.rule.num, .int .i64 x.rule.den, .int .i64 x.rule.pnum, .int .i64 x.rule.pden, .int .i64 x.rule.bnum, .int .i64 x.rule.bden, .int .i64 x.rule.lnum, .int .i64 x.rule.lden, .int .i64 x.rule.least] := by
  have := hO5.set 6 (.slice A9 x.bs.length k9)
  simpa only [List.setIfInBounds_toArray, List.set_cons_zero, List.set_cons_succ] using this
 have hw6 := bel_exc (ba_via hb5 hw4) hX6 (by omega)
 have hD6 := (HD4.out.via hb5).exc hX6 (by simp; omega)
 have hR6 := (HR4.out.via hb5).exc hX6 (by simp; omega)
 have F7' := lh ((F7.out.via hb5).exc hX6 (Nat.lt_succ_self _))
 have F8' := lh ((F8.out.via hb5).exc hX6 (Nat.lt_succ_self _))
 have F9 := lh ((hf9.exc hX6 hl4).mono (Nat.succ_le_of_lt hl4))
 have FD := lh (fun r'' hr'' => (⟨(hfd r'' hr'').1, ((hfd r'' hr'').2.exc hX6 hl4).mono (Nat.succ_le_of_lt hl4)⟩ : r''.n = r''.b.dims.length /\ Far (O + 1) (w5.setCell ⟨O, 6, none⟩ (.slice A9 x.bs.length k9)) r''.A (i64s r''.b.dims)))
 have HBS := lh hbs
 clear H9 HO4 HD4 HR4 hf9 hfd hb5 c6 dl hX6 hs4 hl4 hw4 F7 F8 hO5 e6 z6 ol5 hbs
 generalize (w5.setCell ⟨O, 6, none⟩ (.slice A9 x.bs.length k9)) = W6 at *
 have HD6 := lh hD6
 have HR6 := lh hR6
 have HO6 := lh hO6
 have hs6 := hw6.size
 have hl6 := hO6.lt
 have c7 := hD6.cell 7
 have dl := hD6.lt
 have HC6 := lh (HA.out.runs.cells.below hw6)
 simp only [ga1, ga2, ga3] at c7
 clear hD6 hR6 hO6
 go_upto_region 5 with (at_builtin; refine wpList_append_cells rfl (.tmp 16) (.tmp 18) _ rfl elemRn7 W6.heap.size (.slice (some ⟨W6.heap.size, 0, none⟩) 0 0) 0 [] rfl (own_zero W6 W6.heap.size _ _ (Nat.le_refl _)) x.rA x.rn x.rc (x.rs.flatMap rnC) w.heap.size rfl (by rw [flat_len rnC _ rnC_len, HA.out.runs.len]) (HC6.out.alloc hs6 _) (rnC_one7 x.rs) (by unfold maxLen; omega) (by omega) (by simp) ?_; intro v2 wE hOE hbE; rw [Nat.zero_add, List.nil_append] at hOE; have hbk : Below W6.heap.size W6 wE := (ba_alloc (Below.refl _ _) _).trans hbE; have hO9 := HO6.out.via hbk; have z9 := hO9.frozen 7; have e9 := hO9.cell 7; have ol9 := hO9.lt; simp only [ga1, ga2, ga3] at e9; obtain ⟨AR, cR, hv9, _, _, hxx⟩ := own_form hOE (by unfold maxLen; omega); clear hxx; subst hv9)
 have hfar := own_far hOE
 have hX8 : Exc [O] wE (wE.setCell ⟨O, 7, none⟩ (.slice AR x.rn cR)) := exc_setCells O [.slice AR x.rn cR] 7 wE
 have hO8 : Blk (wE.setCell ⟨O, 7, none⟩ (.slice AR x.rn cR)) O 34 #[.string x.m.name, .slice A7 x.mn k7, .slice A8 x.hn k8, .int .i64 x.m.cover, .int .i64 x.m.aggr, .int .i64 x.m.poker, .slice A9 x.bs.length k9, .slice AR x.rn cR, .slice x.jA x.jn x.jc, .slice x.dA x.dn x.dc, .int .i64 x.rule.num, .int .i64 x.rule.den, .int .i64 x.rule.pnum, .int .i64 x.rule.pden, .int .i64 x.rule.bnum, .int .i64 x.rule.bden, .int .i64 x.rule.lnum, .int .i64 x.rule.lden, .int .i64 x.rule.least] := by
  have := hO9.set 7 (.slice AR x.rn cR)
  simpa only [List.setIfInBounds_toArray, List.set_cons_zero, List.set_cons_succ, Nat.zero_add] using this
 have hw8 := bel_exc (ba_via hbk hw6) hX8 (by omega)
 have hD8 := (HD6.out.via hbk).exc hX8 (by simp; omega)
 have hR8 := (HR6.out.via hbk).exc hX8 (by simp; omega)
 have F7'' := lh ((F7'.out.via hbk).exc hX8 (Nat.lt_succ_self _))
 have F8'' := lh ((F8'.out.via hbk).exc hX8 (Nat.lt_succ_self _))
 have F9' := lh ((F9.out.via hbk).exc hX8 (Nat.lt_succ_self _))
 have FD8 := lh (fun r'' hr'' => (⟨(FD.out r'' hr'').1, ((FD.out r'' hr'').2.via hbk).exc hX8 (Nat.lt_succ_self _)⟩ : r''.n = r''.b.dims.length /\ Far (O + 1) (wE.setCell ⟨O, 7, none⟩ (.slice AR x.rn cR)) r''.A (i64s r''.b.dims)))
 have FR := lh ((hfar.exc hX8 hl6).mono (Nat.succ_le_of_lt hl6))
 clear HO6 HD6 HR6 HC6 hfar hbk hbE hOE c7 dl hX8 hs6 hl6 hw6 hO9 z9 e9 ol9 FD F7' F8' F9
 generalize (wE.setCell ⟨O, 7, none⟩ (.slice AR x.rn cR)) = W8 at *
 have HD8 := lh hD8
 have HR8 := lh hR8
 have HO8 := lh hO8
 have hs8 := hw8.size
 have hl8 := hO8.lt
 have c8 := hD8.cell 8
 have dl := hD8.lt
 have HC8 := lh (HA.out.joints.below hw8)
 simp only [ga1, ga2, ga3] at c8
 clear hD8 hR8 hO8
 go_upto_region 6 with (at_builtin; refine wpList_append_cells rfl (.tmp 21) (.tmp 23) _ rfl elemJn7 W8.heap.size (.slice (some ⟨W8.heap.size, 0, none⟩) 0 0) 0 [] rfl (own_zero W8 W8.heap.size _ _ (Nat.le_refl _)) x.jA x.jn x.jc (x.js.flatMap jnC) w.heap.size rfl (by rw [flat_len jnC _ jnC_len, HA.out.jlen]) (HC8.out.alloc hs8 _) (jnC_one7 x.js) (by unfold maxLen; omega) (by omega) (by simp) ?_; intro v2 wE hOE hbE; rw [Nat.zero_add, List.nil_append] at hOE; have hbk : Below W8.heap.size W8 wE := (ba_alloc (Below.refl _ _) _).trans hbE; have hO9 := HO8.out.via hbk; have z9 := hO9.frozen 8; have e9 := hO9.cell 8; have ol9 := hO9.lt; simp only [ga1, ga2, ga3] at e9; obtain ⟨AJ, cJ, hv9, _, _, hxx⟩ := own_form hOE (by unfold maxLen; omega); clear hxx; subst hv9)
 have hfar := own_far hOE
 have hX10 : Exc [O] wE (wE.setCell ⟨O, 8, none⟩ (.slice AJ x.jn cJ)) := exc_setCells O [.slice AJ x.jn cJ] 8 wE
 have hO10 : Blk (wE.setCell ⟨O, 8, none⟩ (.slice AJ x.jn cJ)) O 34 #[.string x.m.name, .slice A7 x.mn k7, .slice A8 x.hn k8, .int .i64 x.m.cover, .int .i64 x.m.aggr, .int .i64 x.m.poker, .slice A9 x.bs.length k9, .slice AR x.rn cR, .slice AJ x.jn cJ, .slice x.dA x.dn x.dc, .int .i64 x.rule.num, .int .i64 x.rule.den, .int .i64 x.rule.pnum, .int .i64 x.rule.pden, .int .i64 x.rule.bnum, .int .i64 x.rule.bden, .int .i64 x.rule.lnum, .int .i64 x.rule.lden, .int .i64 x.rule.least] := by
  have := hO9.set 8 (.slice AJ x.jn cJ)
  simpa only [List.setIfInBounds_toArray, List.set_cons_zero, List.set_cons_succ, Nat.zero_add] using this
 have hw10 := bel_exc (ba_via hbk hw8) hX10 (by omega)
 have hD10 := (HD8.out.via hbk).exc hX10 (by simp; omega)
 have hR10 := (HR8.out.via hbk).exc hX10 (by simp; omega)
 have F7''' := lh ((F7''.out.via hbk).exc hX10 (Nat.lt_succ_self _))
 have F8''' := lh ((F8''.out.via hbk).exc hX10 (Nat.lt_succ_self _))
 have F9'' := lh ((F9'.out.via hbk).exc hX10 (Nat.lt_succ_self _))
 have FR' := lh ((FR.out.via hbk).exc hX10 (Nat.lt_succ_self _))
 have FD10 := lh (fun r'' hr'' => (⟨(FD8.out r'' hr'').1, ((FD8.out r'' hr'').2.via hbk).exc hX10 (Nat.lt_succ_self _)⟩ : r''.n = r''.b.dims.length /\ Far (O + 1) (wE.setCell ⟨O, 8, none⟩ (.slice AJ x.jn cJ)) r''.A (i64s r''.b.dims)))
 have FJ := lh ((hfar.exc hX10 hl8).mono (Nat.succ_le_of_lt hl8))
 clear HO8 HD8 HR8 HC8 hfar hbk hbE hOE c8 dl hX10 hs8 hl8 hw8 hO9 z9 e9 ol9 FD8 F7'' F8'' F9' FR
 generalize (wE.setCell ⟨O, 8, none⟩ (.slice AJ x.jn cJ)) = W10 at *
 have HD10 := lh hD10
 have HR10 := lh hR10
 have HO10 := lh hO10
 have hl10 := hO10.lt
 have e9 := hO10.cell 9
 have z9 := hO10.frozen 9
 simp only [ga1, ga2, ga3] at e9
 clear hD10 hR10 hO10
 go_upto_region 7 with fail
 have hX11 : Exc [O] W10 (W10.setCell ⟨O, 9, none⟩ (.slice none 0 0)) := exc_setCells O [.slice none 0 0] 9 W10
 have hO11 : Blk (W10.setCell ⟨O, 9, none⟩ (.slice none 0 0)) O 34 #[.string x.m.name, .slice A7 x.mn k7, .slice A8 x.hn k8, .int .i64 x.m.cover, .int .i64 x.m.aggr, .int .i64 x.m.poker, .slice A9 x.bs.length k9, .slice AR x.rn cR, .slice AJ x.jn cJ, .slice none 0 0, .int .i64 x.rule.num, .int .i64 x.rule.den, .int .i64 x.rule.pnum, .int .i64 x.rule.pden, .int .i64 x.rule.bnum, .int .i64 x.rule.bden, .int .i64 x.rule.lnum, .int .i64 x.rule.lden, .int .i64 x.rule.least] := by
  have := HO10.out.set 9 (.slice none 0 0)
  simpa only [List.setIfInBounds_toArray, List.set_cons_zero, List.set_cons_succ] using this
 have hw11 := bel_exc hw10 hX11 (by omega)
 have hD11 := HD10.out.exc hX11 (by simp; omega)
 have hR11 := HR10.out.exc hX11 (by simp; omega)
 have hs11 := hX11.size
 have LY := lh (show LyDt (fun g => O < g /\ g < (W10.setCell ⟨O, 9, none⟩ (.slice none 0 0)).heap.size) (W10.setCell ⟨O, 9, none⟩ (.slice none 0 0)) ⟨x.m, A7, x.mn, k7, A8, x.hn, k8, bs', A9, x.bs.length, k9, x.rs, AR, x.rn, cR, x.js, AJ, x.jn, cJ, none, 0, 0, x.rule⟩ from by
  refine LyDt.keep (w := W10) ⟨F7'''.out.ly _ (fun g h1 h2 => ⟨h1, Nat.lt_of_lt_of_le h2 hs11⟩), F8'''.out.ly _ (fun g h1 h2 => ⟨h1, Nat.lt_of_lt_of_le h2 hs11⟩), F9''.out.ly _ (fun g h1 h2 => ⟨h1, Nat.lt_of_lt_of_le h2 hs11⟩), fun r hr => ⟨(FD10.out r hr).1, (FD10.out r hr).2.ly _ (fun g h1 h2 => ⟨h1, Nat.lt_of_lt_of_le h2 hs11⟩)⟩, FR'.out.ly _ (fun g h1 h2 => ⟨h1, Nat.lt_of_lt_of_le h2 hs11⟩), FJ.out.ly _ (fun g h1 h2 => ⟨h1, Nat.lt_of_lt_of_le h2 hs11⟩)⟩ hs11 (fun k hk hk2 => hX11.block k hk2 (by have := hk.1; simp; omega)))
 clear HD10 HR10 HO10 e9 z9 F7''' F8''' F9'' FR' FJ FD10 hX11 hw10
 have hs10 : O < (W10.setCell ⟨O, 9, none⟩ (.slice none 0 0)).heap.size := Nat.lt_of_lt_of_le hl10 hs11
 generalize (W10.setCell ⟨O, 9, none⟩ (.slice none 0 0)) = W11 at *
 have HD11 := lh hD11
 have HR11 := lh hR11
 have HO11 := lh hO11
 clear hD11 hR11 hO11 hl10 hs11
 have hs11 := hw11.size
 obtain ⟨B, hBW⟩ : ∃ B, B = W11.heap.size := ⟨_, rfl⟩
 rw [<- hBW] at LY hs10 hs11
 go_wp2
 go_loopw [4] (fun i wr => ∃ q : Nat, q <= x.dn /\ i = .int .i64 q /\ ∃ (A : Option Addr) (c : Nat) (ds' : List Dm), Hid (Blk wr O 34 #[.string x.m.name, .slice A7 x.mn k7, .slice A8 x.hn k8, .int .i64 x.m.cover, .int .i64 x.m.aggr, .int .i64 x.m.poker, .slice A9 x.bs.length k9, .slice AR x.rn cR, .slice AJ x.jn cJ, .slice A q c, .int .i64 x.rule.num, .int .i64 x.rule.den, .int .i64 x.rule.pnum, .int .i64 x.rule.pden, .int .i64 x.rule.bnum, .int .i64 x.rule.bden, .int .i64 x.rule.lnum, .int .i64 x.rule.lden, .int .i64 x.rule.least]) /\ Hid (ds'.map dmK = (ds.take q).map dmK) /\ Hid (∀ d, d ∈ ds' -> d.n = d.st.length /\ Apart (O + 1) wr (.slice A q c) d.A (d.st.flatMap stC)) /\ Hid (wr.ownsRow B 81 8 (.slice A q c) q (ds'.flatMap dmC)) /\ q <= c /\ Exc [O] W11 wr) (fun i _ => x.dn - (intOf i).toNat)
 case atStart => exact ⟨0, Nat.zero_le _, rfl, none, 0, [], lh HO11.out, lh rfl, lh (fun d hd => by cases hd), lh (World.ownsRow_nil _ _ _ _), Nat.le_refl _, Exc.refl _ _⟩
 case round =>
  obtain ⟨q, hq, rfl, A0, c0, ds', hOr, hmap, hap, hown, hqc, hX⟩ := hrel
  have hsr := hX.size
  have hwr := bel_exc hw11 hX (by omega)
  have hszw := hwr.size
  have HDr := lh (HD11.out.exc hX (by simp; omega))
  have d9 := HDr.out.cell 9
  have dl := HDr.out.lt
  simp only [ga1, ga2, ga3] at d9
  by_cases hlt : q < x.dn
  ·have hqx : q < ds.length := by rw [HS.out.len]; exact hlt
   have hqi : (q : Int) < x.dn := by omega
   have HTK := lh (take_snoc hqx)
   have hdn := M8.out ds[q] (List.getElem_mem hqx)
   have HST := lh ((HS.out.each ds[q] (List.getElem_mem hqx)).cells.below hwr)
   have HSN := lh (HS.out.each ds[q] (List.getElem_mem hqx)).len
   have hcs := HS.out.cells.below hwr
   obtain ⟨b, o, hdA, hbb, hxx⟩ := hcs.at_ (by rw [flat_len dmC 8 dmC_len]; omega)
   clear hxx
   rw [hdA] at hcs d9
   have HRG := lh (show wr.rangeAt b (o + q * 8) (dmC ds[q]) from fun j v hv => hcs.rowj dmC_len hqx j hv)
   have hRC := rcopy23_any ds[q]
   clear hcs
   generalize ds[q] = d at *
   have hdr : Below wr.heap.size wr wr.drew := Below.drew (Below.refl _ _)
   have hCd : Blk wr.drew O 34 #[.string x.m.name, .slice A7 x.mn k7, .slice A8 x.hn k8, .int .i64 x.m.cover, .int .i64 x.m.aggr, .int .i64 x.m.poker, .slice A9 x.bs.length k9, .slice AR x.rn cR, .slice AJ x.jn cJ, .slice A0 q c0, .int .i64 x.rule.num, .int .i64 x.rule.den, .int .i64 x.rule.pnum, .int .i64 x.rule.pden, .int .i64 x.rule.bnum, .int .i64 x.rule.bden, .int .i64 x.rule.lnum, .int .i64 x.rule.lden, .int .i64 x.rule.least] /\ Blk wr.drew w.heap.size 34 #[.string x.m.name, .slice x.mA x.mn x.mc, .slice x.hA x.hn x.hc, .int .i64 x.m.cover, .int .i64 x.m.aggr, .int .i64 x.m.poker, .slice x.bA x.bn x.bc, .slice x.rA x.rn x.rc, .slice x.jA x.jn x.jc, .slice (some ⟨b, o, none⟩) x.dn x.dc, .int .i64 x.rule.num, .int .i64 x.rule.den, .int .i64 x.rule.pnum, .int .i64 x.rule.pden, .int .i64 x.rule.bnum, .int .i64 x.rule.bden, .int .i64 x.rule.lnum, .int .i64 x.rule.lden, .int .i64 x.rule.least] /\ wr.drew.rangeAt b (o + q * 8) (dmC d) := ⟨hOr.out.via hdr, by rw [<- hdA]; exact HDr.out.via hdr, HRG.out⟩
   have hSTd := (HST.out.below (hdr.mono hszw)).mono (Nat.le_trans hszw hdr.size)
   have hOwd := own_kept hown.out (fun k hk => hdr.block k (hown.out.lt k hk).2)
   have hApd : ∀ d, d ∈ ds' -> d.n = d.st.length /\ Apart (O + 1) wr.drew (.slice A0 q c0) d.A (d.st.flatMap stC) := fun d hd => ⟨(hap.out d hd).1, (hap.out d hd).2.via hdr⟩
   have hXd : Exc [O] W11 wr.drew := hX.join (Exc.of_below hdr) (by simp)
   have HDA := lh hdA
   clear hdA
   go_upto_region 10 with fail
   obtain ⟨C, hCC⟩ : ∃ C : World -> Prop, ∀ W, C W ↔ (Blk W O 34 #[.string x.m.name, .slice A7 x.mn k7, .slice A8 x.hn k8, .int .i64 x.m.cover, .int .i64 x.m.aggr, .int .i64 x.m.poker, .slice A9 x.bs.length k9, .slice AR x.rn cR, .slice AJ x.jn cJ, .slice A0 q c0, .int .i64 x.rule.num, .int .i64 x.rule.den, .int .i64 x.rule.pnum, .int .i64 x.rule.pden, .int .i64 x.rule.bnum, .int .i64 x.rule.bden, .int .i64 x.rule.lnum, .int .i64 x.rule.lden, .int .i64 x.rule.least] /\ Blk W w.heap.size 34 #[.string x.m.name, .slice x.mA x.mn x.mc, .slice x.hA x.hn x.hc, .int .i64 x.m.cover, .int .i64 x.m.aggr, .int .i64 x.m.poker, .slice x.bA x.bn x.bc, .slice x.rA x.rn x.rc, .slice x.jA x.jn x.jc, .slice (some ⟨b, o, none⟩) x.dn x.dc, .int .i64 x.rule.num, .int .i64 x.rule.den, .int .i64 x.rule.pnum, .int .i64 x.rule.pden, .int .i64 x.rule.bnum, .int .i64 x.rule.bden, .int .i64 x.rule.lnum, .int .i64 x.rule.lden, .int .i64 x.rule.least] /\ W.rangeAt b (o + q * 8) (dmC d)) := ⟨_, fun W => Iff.rfl⟩
   have hC1 : ∀ W, C W -> W.cell? ⟨O, 9, none⟩ = some (.slice A0 q c0) := fun W hW => ((hCC W).1 hW).1.cell 9
   have hC2 : ∀ W, C W -> W.cell? ⟨w.heap.size, 9, none⟩ = some (.slice (some ⟨b, o, none⟩) x.dn x.dc) := fun W hW => ((hCC W).1 hW).2.1.cell 9
   have hC3 : ∀ W, C W -> W.rangeAt b (o + q * 8) (dmC d) := fun W hW => ((hCC W).1 hW).2.2
   have HCC := lh hCC
   clear hCC
   refine wp_region_mixC C 1 [7, 0, 0] (by kernel_rfl) (by kernel_rfl) (of_decide_eq_true (by kernel_rfl)) ((HCC.out _).2 hCd) ?_
   have HCD := lh hCd
   clear hCd hX hszw HST hown hap HRG hOr HDr
   have hdz := hdr.size
   have hBd : B <= wr.drew.heap.size := by have := hXd.size; omega
   clear hdr
   generalize wr.drew = wd at *
   have HOW := lh hOwd
   have HAP := lh hApd
   have HRC := lh (hRC wd hSTd HSN.out hdn)
   clear hOwd hApd hRC hSTd
   try simp only [wpSegs, gt1, gt2, gt3, gt4, List.take_nil, List.drop_nil]
   refine quietC (by rfl) (.pointer (some ⟨O, 9, none⟩)) (fun W hW => by simp [execOp, go_sem]) ?_
   intro aQ hQ; simp only [go_sem, List.setIfInBounds_toArray, List.set_cons_succ, List.set_cons_zero] at hQ; subst hQ
   refine quietC (by rfl) (.slice A0 q c0) (fun W hW => by have e := hC1 W hW; simp [execOp, go_sem, e]) ?_
   intro aQ hQ; simp only [go_sem, List.setIfInBounds_toArray, List.set_cons_succ, List.set_cons_zero] at hQ; subst hQ
   refine quietC (by rfl) (.pointer (some ⟨w.heap.size, 9, none⟩)) (fun W hW => by simp [execOp, go_sem]) ?_
   intro aQ hQ; simp only [go_sem, List.setIfInBounds_toArray, List.set_cons_succ, List.set_cons_zero] at hQ; subst hQ
   refine quietC (by rfl) (.slice (some ⟨b, o, none⟩) x.dn x.dc) (fun W hW => by have e := hC2 W hW; simp [execOp, go_sem, e]) ?_
   intro aQ hQ; simp only [go_sem, List.setIfInBounds_toArray, List.set_cons_succ, List.set_cons_zero] at hQ; subst hQ
   refine quietC (by rfl) (.int .i64 q) (fun W hW => by simp [execOp, go_sem]) ?_
   intro aQ hQ; simp only [go_sem, List.setIfInBounds_toArray, List.set_cons_succ, List.set_cons_zero] at hQ; subst hQ
   refine quietC (by rfl) (.pointer (some ⟨b, o + q * 8, none⟩)) (fun W hW => by simp [execOp, go_sem, hqi, hlt]) ?_
   intro aQ hQ; simp only [go_sem, List.setIfInBounds_toArray, List.set_cons_succ, List.set_cons_zero] at hQ; subst hQ
   refine quietLoad (by rfl) 81 (.tmp 39) rfl _ _ rfl _ _ (fun W hW => hC3 W hW) Tryz.underlying81 rfl (by kernel_rfl) ?_
   intro aQ hQ; simp only [go_sem, List.setIfInBounds_toArray, List.set_cons_succ, List.set_cons_zero] at hQ; subst hQ
   refine wpQuiet_nil ?_
   show wpList _ _ _ _ _ _
   go_wp2_with (go_at_call 65; (with_reducible refine HRC.out.mono ?_); rintro e w2 ⟨AS, cS, rfl, hfs, hb2⟩)
   have hCw : Blk w2 O 34 #[.string x.m.name, .slice A7 x.mn k7, .slice A8 x.hn k8, .int .i64 x.m.cover, .int .i64 x.m.aggr, .int .i64 x.m.poker, .slice A9 x.bs.length k9, .slice AR x.rn cR, .slice AJ x.jn cJ, .slice A0 q c0, .int .i64 x.rule.num, .int .i64 x.rule.den, .int .i64 x.rule.pnum, .int .i64 x.rule.pden, .int .i64 x.rule.bnum, .int .i64 x.rule.bden, .int .i64 x.rule.lnum, .int .i64 x.rule.lden, .int .i64 x.rule.least] /\ Blk w2 w.heap.size 34 #[.string x.m.name, .slice x.mA x.mn x.mc, .slice x.hA x.hn x.hc, .int .i64 x.m.cover, .int .i64 x.m.aggr, .int .i64 x.m.poker, .slice x.bA x.bn x.bc, .slice x.rA x.rn x.rc, .slice x.jA x.jn x.jc, .slice (some ⟨b, o, none⟩) x.dn x.dc, .int .i64 x.rule.num, .int .i64 x.rule.den, .int .i64 x.rule.pnum, .int .i64 x.rule.pden, .int .i64 x.rule.bnum, .int .i64 x.rule.bden, .int .i64 x.rule.lnum, .int .i64 x.rule.lden, .int .i64 x.rule.least] /\ w2.rangeAt b (o + q * 8) (dmC d) := ⟨HCD.out.1.via hb2, HCD.out.2.1.via hb2, fun j v hv => (hb2.cell (p := ⟨b, o + q * 8 + j, none⟩) (show b < wd.heap.size by omega)).trans (HCD.out.2.2 j v hv)⟩
   refine seg_next ((HCC.out _).2 hCw) ?_
   have HC2 := lh hCw
   have hz2 := hb2.size
   clear hCw
   have HC3 := lh (show Blk (w2.alloc (.cells (dmC ⟨d.name, d.zone, d.st, AS, d.n, cS⟩).toArray 81)) O 34 #[.string x.m.name, .slice A7 x.mn k7, .slice A8 x.hn k8, .int .i64 x.m.cover, .int .i64 x.m.aggr, .int .i64 x.m.poker, .slice A9 x.bs.length k9, .slice AR x.rn cR, .slice AJ x.jn cJ, .slice A0 q c0, .int .i64 x.rule.num, .int .i64 x.rule.den, .int .i64 x.rule.pnum, .int .i64 x.rule.pden, .int .i64 x.rule.bnum, .int .i64 x.rule.bden, .int .i64 x.rule.lnum, .int .i64 x.rule.lden, .int .i64 x.rule.least] /\ Blk (w2.alloc (.cells (dmC ⟨d.name, d.zone, d.st, AS, d.n, cS⟩).toArray 81)) w.heap.size 34 #[.string x.m.name, .slice x.mA x.mn x.mc, .slice x.hA x.hn x.hc, .int .i64 x.m.cover, .int .i64 x.m.aggr, .int .i64 x.m.poker, .slice x.bA x.bn x.bc, .slice x.rA x.rn x.rc, .slice x.jA x.jn x.jc, .slice (some ⟨b, o, none⟩) x.dn x.dc, .int .i64 x.rule.num, .int .i64 x.rule.den, .int .i64 x.rule.pnum, .int .i64 x.rule.pden, .int .i64 x.rule.bnum, .int .i64 x.rule.bden, .int .i64 x.rule.lnum, .int .i64 x.rule.lden, .int .i64 x.rule.least] /\ (w2.alloc (.cells (dmC ⟨d.name, d.zone, d.st, AS, d.n, cS⟩).toArray 81)).rangeAt b (o + q * 8) (dmC d) from ⟨HC2.out.1.alloc _, HC2.out.2.1.alloc _, fun j v hv => ((ba_alloc (Below.refl _ _) _ : Below w2.heap.size w2 (w2.alloc (.cells (dmC ⟨d.name, d.zone, d.st, AS, d.n, cS⟩).toArray 81))).cell (p := ⟨b, o + q * 8 + j, none⟩) (show b < w2.heap.size by omega)).trans (HC2.out.2.2 j v hv)⟩)
   try simp only [wpSegs, gt1, gt2, gt3, gt4, List.take_nil, List.drop_nil]
   refine wpQuiet_nil ?_
   show wpList _ _ _ _ _ _
   go_wp2
   refine seg_next ((HCC.out _).2 HC3.out) ?_
   try simp only [wpSegs, gt1, gt2, gt3, gt4, List.take_nil, List.drop_nil]
   refine wpQuiet_nil ?_
   show wpList _ _ _ _ _ _
   have HN3 := lh (Blk.new w2 81 (dmC ⟨d.name, d.zone, d.st, AS, d.n, cS⟩).toArray)
   have hb3 : Below wd.heap.size wd (w2.alloc (.cells (dmC ⟨d.name, d.zone, d.st, AS, d.n, cS⟩).toArray 81)) := hb2.trans ((ba_alloc (Below.refl _ _) _).mono hz2)
   go_wp2_with (at_builtin; refine wpList_append_cells2 rfl (.tmp 35) (.tmp 42) _ rfl elemDm7 B (.slice A0 q c0) q (ds'.flatMap dmC) rfl (own_kept HOW.out (fun k hk => hb3.block k (HOW.out.lt k hk).2)) w2.heap.size 1 1 (dmC ⟨d.name, d.zone, d.st, AS, d.n, cS⟩) rfl rfl (fun j u hu => (HN3.out.cell j).trans (by simpa using hu)) (by simp [Value.oneCell']) (by unfold maxLen; omega) (by omega) (by simp; omega) ?_; intro v2 wF hOF hbF hszF hkF hvF; obtain ⟨A2, c2, hv2, hqc2, _, hxx⟩ := own_form hOF (by unfold maxLen; omega); clear hxx; subst hv2)
   have hCF : Blk wF O 34 #[.string x.m.name, .slice A7 x.mn k7, .slice A8 x.hn k8, .int .i64 x.m.cover, .int .i64 x.m.aggr, .int .i64 x.m.poker, .slice A9 x.bs.length k9, .slice AR x.rn cR, .slice AJ x.jn cJ, .slice A0 q c0, .int .i64 x.rule.num, .int .i64 x.rule.den, .int .i64 x.rule.pnum, .int .i64 x.rule.pden, .int .i64 x.rule.bnum, .int .i64 x.rule.bden, .int .i64 x.rule.lnum, .int .i64 x.rule.lden, .int .i64 x.rule.least] /\ Blk wF w.heap.size 34 #[.string x.m.name, .slice x.mA x.mn x.mc, .slice x.hA x.hn x.hc, .int .i64 x.m.cover, .int .i64 x.m.aggr, .int .i64 x.m.poker, .slice x.bA x.bn x.bc, .slice x.rA x.rn x.rc, .slice x.jA x.jn x.jc, .slice (some ⟨b, o, none⟩) x.dn x.dc, .int .i64 x.rule.num, .int .i64 x.rule.den, .int .i64 x.rule.pnum, .int .i64 x.rule.pden, .int .i64 x.rule.bnum, .int .i64 x.rule.bden, .int .i64 x.rule.lnum, .int .i64 x.rule.lden, .int .i64 x.rule.least] /\ wF.rangeAt b (o + q * 8) (dmC d) := ⟨HC3.out.1.below' hbF hs10, HC3.out.2.1.below' hbF (by omega), fun j v hv => (hbF.cell (p := ⟨b, o + q * 8 + j, none⟩) (show b < B by omega)).trans (HC3.out.2.2 j v hv)⟩
   refine seg_next ((HCC.out _).2 hCF) ?_
   try simp only [wpSegs, gt1, gt2, gt3, gt4, List.take_nil, List.drop_nil]
   refine quietC (by rfl) (.pointer (some ⟨O, 9, none⟩)) (fun W hW => by simp [execOp, go_sem]) ?_
   intro aQ hQ; simp only [go_sem, List.setIfInBounds_toArray, List.set_cons_succ, List.set_cons_zero] at hQ; subst hQ
   refine wpQuiet_nil ?_
   show wpList _ _ _ _ _ _
   have HOF := lh hCF.1
   have e9 := hCF.1.cell 9
   have z9 := hCF.1.frozen 9
   have ol9 := hCF.1.lt
   simp only [ga1, ga2, ga3] at e9
   clear hCF d9 dl
   go_wp2
   have hX12 : Exc [O] wF (wF.setCell ⟨O, 9, none⟩ (.slice A2 (q + 1) c2)) := exc_setCells O [.slice A2 (q + 1) c2] 9 wF
   have hO12 : Blk (wF.setCell ⟨O, 9, none⟩ (.slice A2 (q + 1) c2)) O 34 #[.string x.m.name, .slice A7 x.mn k7, .slice A8 x.hn k8, .int .i64 x.m.cover, .int .i64 x.m.aggr, .int .i64 x.m.poker, .slice A9 x.bs.length k9, .slice AR x.rn cR, .slice AJ x.jn cJ, .slice A2 (q + 1) c2, .int .i64 x.rule.num, .int .i64 x.rule.den, .int .i64 x.rule.pnum, .int .i64 x.rule.pden, .int .i64 x.rule.bnum, .int .i64 x.rule.bden, .int .i64 x.rule.lnum, .int .i64 x.rule.lden, .int .i64 x.rule.least] := by
    have := HOF.out.set 9 (.slice A2 (q + 1) c2)
    simpa only [List.setIfInBounds_toArray, List.set_cons_zero, List.set_cons_succ] using this
   have hBB : Below B wd wF := (hb3.mono hBd).trans hbF
   have hX13 := (exc_belowB hXd hBB (Nat.le_of_eq hBW.symm)).join hX12 (by simp)
   go_roundw
   case rel =>
    refine ⟨q + 1, by omega, by go_num, A2, c2, ds' ++ [⟨d.name, d.zone, d.st, AS, d.n, cS⟩], lh hO12, lh ?_, lh (fun d' hd' => ?_), lh (own_kept (by simpa using hOF) (fun k hk => hX12.block k (hOF.lt k hk).2 (by have := (hOF.lt k hk).1; simp; omega))), hqc2, hX13⟩
    ·rw [HTK.out, List.map_append, List.map_append, hmap.out]
     rfl
    ·rcases List.mem_append.1 hd' with h | h
     ·exact ⟨(HAP.out d' h).1, (((HAP.out d' h).2.via hb3).push hszF hkF hvF).exc hX12 (Nat.lt_succ_self _)⟩
     ·rw [List.mem_singleton] at h
      subst h
      refine ⟨HSN.out.symm, Apart.exc (Apart.push (v := .slice A0 q c0) (w := w2.alloc (.cells (dmC ⟨d.name, d.zone, d.st, AS, d.n, cS⟩).toArray 81)) ?_ hszF hkF hvF) hX12 (Nat.lt_succ_self _)⟩
      refine Far.apart (hfs.via (ba_alloc (Below.refl _ _) _)) (by omega) (fun k hk => ?_)
      exact (HOW.out.lt k hk).2
   case measure => simp [intOf]; omega
  ·have hqn : q = x.dn := by omega
   have hqi : ¬ ((q : Int) < x.dn) := by omega
   subst hqn
   have hRr := HR11.out.exc hX (by simp; omega)
   have HRr := lh hRr
   have HPut := lh (Blk.put0 hRr #[.string x.m.name, .slice A7 x.mn k7, .slice A8 x.hn k8, .int .i64 x.m.cover, .int .i64 x.m.aggr, .int .i64 x.m.poker, .slice A9 x.bs.length k9, .slice AR x.rn cR, .slice AJ x.jn cJ, .slice A0 x.dn c0, .int .i64 x.rule.num, .int .i64 x.rule.den, .int .i64 x.rule.pnum, .int .i64 x.rule.pden, .int .i64 x.rule.bnum, .int .i64 x.rule.bden, .int .i64 x.rule.lnum, .int .i64 x.rule.lden, .int .i64 x.rule.least] rfl)
   have HXe : Hid (Exc [w.heap.size + 1] wr (wr.setCells (w.heap.size + 1) 0 (#[.string x.m.name, .slice A7 x.mn k7, .slice A8 x.hn k8, .int .i64 x.m.cover, .int .i64 x.m.aggr, .int .i64 x.m.poker, .slice A9 x.bs.length k9, .slice AR x.rn cR, .slice AJ x.jn cJ, .slice A0 x.dn c0, .int .i64 x.rule.num, .int .i64 x.rule.den, .int .i64 x.rule.pnum, .int .i64 x.rule.pden, .int .i64 x.rule.bnum, .int .i64 x.rule.bden, .int .i64 x.rule.lnum, .int .i64 x.rule.lden, .int .i64 x.rule.least] : Array Value).toList)) := lh (exc_setCells _ _ _ _)
   clear hRr HDr
   go_upto_region 11 with fail
   clear d9 dl
   go_wp2_with (first
    | ((with_reducible refine at_load 34 3 ?_); refine wpList_load_mid rfl 34 (.tmp 3) rfl _ _ rfl _ _ (hOr.out.via belr).range Tryz.underlying34 rfl (by kernel_rfl) ?_)
    | ((with_reducible refine at_store 34 2 45 ?_); refine wpList_store_mid rfl 34 (.tmp 2) (.tmp 45) rfl (w.heap.size + 1) 0 #[.string x.m.name, .slice A7 x.mn k7, .slice A8 x.hn k8, .int .i64 x.m.cover, .int .i64 x.m.aggr, .int .i64 x.m.poker, .slice A9 x.bs.length k9, .slice AR x.rn cR, .slice AJ x.jn cJ, .slice A0 x.dn c0, .int .i64 x.rule.num, .int .i64 x.rule.den, .int .i64 x.rule.pnum, .int .i64 x.rule.pden, .int .i64 x.rule.bnum, .int .i64 x.rule.bden, .int .i64 x.rule.lnum, .int .i64 x.rule.lden, .int .i64 x.rule.least] rfl rfl (HRr.out.there (by simp)) (by kernel_rfl) (all_oneCell_toArray (by simp [Value.oneCell'])) ?_; generalize (wr.setCells (w.heap.size + 1) 0 (#[.string x.m.name, .slice A7 x.mn k7, .slice A8 x.hn k8, .int .i64 x.m.cover, .int .i64 x.m.aggr, .int .i64 x.m.poker, .slice A9 x.bs.length k9, .slice AR x.rn cR, .slice AJ x.jn cJ, .slice A0 x.dn c0, .int .i64 x.rule.num, .int .i64 x.rule.den, .int .i64 x.rule.pnum, .int .i64 x.rule.pden, .int .i64 x.rule.bnum, .int .i64 x.rule.bden, .int .i64 x.rule.lnum, .int .i64 x.rule.lden, .int .i64 x.rule.least] : Array Value).toList) = WF at *))
   have hXe := HXe.out
   have hPut := HPut.out
   have hwF := bel_exc hwr hXe (by omega)
   refine bodyPost_ret (v := .agg #[.string x.m.name, .slice A7 x.mn k7, .slice A8 x.hn k8, .int .i64 x.m.cover, .int .i64 x.m.aggr, .int .i64 x.m.poker, .slice A9 x.bs.length k9, .slice AR x.rn cR, .slice AJ x.jn cJ, .slice A0 x.dn c0, .int .i64 x.rule.num, .int .i64 x.rule.den, .int .i64 x.rule.pnum, .int .i64 x.rule.pden, .int .i64 x.rule.bnum, .int .i64 x.rule.bden, .int .i64 x.rule.lnum, .int .i64 x.rule.lden, .int .i64 x.rule.least]) ?_ rfl ⟨⟨x.m, A7, x.mn, k7, A8, x.hn, k8, bs', A9, x.bs.length, k9, x.rs, AR, x.rn, cR, x.js, AJ, x.jn, cJ, A0, x.dn, c0, x.rule⟩, ds', B, rfl, ⟨⟨rfl, HBS.out, rfl, rfl, rfl, rfl⟩, rfl, rfl, HA.out.bars.len, rfl, rfl⟩, by omega, ?_, ?_, hqc, ?_, fun d hd => ⟨(hap.out d hd).1, ?_⟩, hwF⟩
   ·have hres : (loadVar 34 ⟨w.heap.size + 1, 0, none⟩).run Tryz.prog WF = .ok (.agg #[.string x.m.name, .slice A7 x.mn k7, .slice A8 x.hn k8, .int .i64 x.m.cover, .int .i64 x.m.aggr, .int .i64 x.m.poker, .slice A9 x.bs.length k9, .slice AR x.rn cR, .slice AJ x.jn cJ, .slice A0 x.dn c0, .int .i64 x.rule.num, .int .i64 x.rule.den, .int .i64 x.rule.pnum, .int .i64 x.rule.pden, .int .i64 x.rule.bnum, .int .i64 x.rule.bden, .int .i64 x.rule.lnum, .int .i64 x.rule.lden, .int .i64 x.rule.least]) WF := run_loadVar_mid WF (w.heap.size + 1) 0 _ _ _ hPut.range Tryz.underlying34 rfl (by kernel_rfl)
    have ha : (asAddr (.pointer (some ⟨w.heap.size + 1, 0, none⟩))).run Tryz.prog WF = .ok ⟨w.heap.size + 1, 0, none⟩ WF := by kernel_rfl
    simp [results, Tryz.results35, Act.put, ha, hres, Result.andThen]
   ·have h1 := LyDt.mono (q := fun g => w.heap.size <= g /\ g < B) (LY.out.keep (w' := WF) (Nat.le_trans hX.size hXe.size) (fun k hk hk2 => (hXe.block k (Nat.lt_of_lt_of_le hk2 hX.size) (by have := hk.1; simp; omega)).trans (hX.block k hk2 (by have := hk.1; simp; omega)))) (fun g hg => ⟨by have := hg.1; omega, hg.2⟩)
    exact ⟨h1.box, h1.hole, h1.bar, h1.dims, h1.run, h1.joint⟩
   ·exact own_kept hown.out (fun k hk => hXe.block k (hown.out.lt k hk).2 (by have := (hown.out.lt k hk).1; simp; omega))
   ·rw [hmap.out, List.take_of_length_le (Nat.le_of_eq HS.out.len)]
   ·exact (Ly.keep (p := fun g => O + 1 <= g /\ (Value.slice A0 x.dn c0).ownBlock ≠ some g) (hap.out d hd).2 hXe.size (fun k hk hk2 => hXe.block k hk2 (by have := hk.1; simp; omega))).mono (fun g hg => ⟨by have := hg.1; omega, hg.2⟩)
def putL : List Value -> Nat -> List Value -> List Value
 | xs, _, [] => xs
 | xs, o, v :: t => putL (xs.set o v) (o + 1) t
theorem putL_mid : ∀ (vs old L R : List Value), old.length = vs.length -> putL (L ++ (old ++ R)) L.length vs = L ++ (vs ++ R) := by
 intro vs
 induction vs with
 | nil => intro old L R h; obtain rfl := List.eq_nil_of_length_eq_zero h; rfl
 | cons v t ih =>
  intro old L R h
  cases old with
  | nil => cases h
  | cons u old =>
   show putL ((L ++ (u :: old ++ R)).set L.length v) (L.length + 1) t = _
   rw [List.set_append_right _ _ (Nat.le_refl _), Nat.sub_self]
   show putL (L ++ (v :: (old ++ R))) (L.length + 1) t = _
   have h1 := ih old (L ++ [v]) R (by simpa using h)
   rw [List.length_append] at h1
   simp only [List.length_cons, List.length_nil, Nat.zero_add, List.append_assoc, List.cons_append, List.nil_append] at h1 ⊢
   exact h1
theorem own_putL {base E size n cap g : Nat} : ∀ (vs : List Value) (o : Nat) (w : World) (xs : List Value), w.ownsRow base E size (.slice (some ⟨g, 0, none⟩) n cap) n xs -> (w.setCells g o vs).ownsRow base E size (.slice (some ⟨g, 0, none⟩) n cap) n (putL xs o vs) := by
 intro vs
 induction vs with
 | nil => intro o w xs h; exact h
 | cons v t ih => intro o w xs h; exact ih (o + 1) _ _ (h.stored o v).1
theorem putL_dm (ds : List Dm) (k : Nat) (hk : k < ds.length) (y : Dm) : putL (ds.flatMap dmC) (k * 8) (dmC y) = (ds.set k y).flatMap dmC := by
 have e1 : ds.flatMap dmC = (ds.take k).flatMap dmC ++ (dmC ds[k] ++ (ds.drop (k + 1)).flatMap dmC) := by
  conv => lhs; rw [<- List.take_append_drop k ds, List.drop_eq_getElem_cons hk, List.flatMap_append, List.flatMap_cons]
 have e2 : (ds.set k y).flatMap dmC = (ds.take k).flatMap dmC ++ (dmC y ++ (ds.drop (k + 1)).flatMap dmC) := by
  rw [List.set_eq_take_append_cons_drop, if_pos hk, List.flatMap_append, List.flatMap_cons]
 have e3 : k * 8 = ((ds.take k).flatMap dmC).length := by
  rw [flat_len dmC 8 dmC_len, List.length_take, Nat.min_eq_left (Nat.le_of_lt hk)]
 rw [e1, e2, e3]
 exact putL_mid _ _ _ _ rfl
theorem dtok_of {W : World} {x' : Dt} {D : List Dm} (hA : DtAt W W.heap.size x') (A : Option Addr) (n c : Nat) (hlen : D.length = n) (hcap : n <= c) (hmax : n <= 9223372036854775807) (hcs : Cells W W.heap.size A (D.flatMap dmC))
 (hd : ∀ d, d ∈ D -> d.n = d.st.length /\ d.n <= 9223372036854775807 /\ Cells W W.heap.size d.A (d.st.flatMap stC) /\ d.name.size <= 9223372036854775807) : DtOk W { x' with dA := A, dn := n, dc := c } D :=
 ⟨⟨hA.sol, hA.name, hA.bars, hA.runs, hA.jlen, hA.jmax, hA.joints⟩, ⟨hlen, hmax, hcs, fun d h => ⟨(hd d h).1.symm, (hd d h).2.1, (hd d h).2.2.1⟩, fun d h => (hd d h).2.2.2⟩, hcap⟩
theorem dt_lift {W : World} {B C : Nat} {x : Dt} (h : DtAt W B x) (hB : B <= C) : DtAt W C x :=
 ⟨⟨h.sol.len, h.sol.max, h.sol.len', h.sol.max', h.sol.cells.mono hB, h.sol.cells'.mono hB⟩, h.name, ⟨h.bars.len, h.bars.max, h.bars.cells.mono hB, fun r hr => ⟨(h.bars.each r hr).len, (h.bars.each r hr).max, (h.bars.each r hr).mark, (h.bars.each r hr).cells.mono hB⟩⟩, ⟨h.runs.len, h.runs.max, h.runs.cells.mono hB⟩, h.jlen, h.jmax, h.joints.mono hB⟩
theorem dems_lift {W : World} {B C n : Nat} {A : Option Addr} {l : List Dm} (h : DemsAt W B A n l) (hB : B <= C) : DemsAt W C A n l :=
 ⟨h.len, h.max, h.cells.mono hB, fun d hd => ⟨(h.each d hd).len, (h.each d hd).max, (h.each d hd).cells.mono hB⟩, h.name⟩
theorem dtok_via {w W : World} {x : Dt} {ds : List Dm} (h : DtOk w x ds) (hb : Below w.heap.size w W) : DtOk W x ds :=
 ⟨dt_lift (h.at_.at_ (Nat.le_refl _) hb) hb.size, dems_lift (h.dems.at_ (Nat.le_refl _) hb) hb.size, h.cap⟩
theorem steps_lift {w W : World} {B : Nat} {A : Option Addr} {n : Nat} {l : List Stp} (h : StepsAt w B A n l) (hb : Below B w W) (hB : B <= W.heap.size) : StepsAt W W.heap.size A n l := ⟨h.len, h.max, (h.cells.below hb).mono hB⟩
abbrev dmN (d : Dm) : ByteArray × Bx := (d.name, d.zone)
theorem any_name (m : ByteArray) (l l' : List Dm) (h : l'.map dmN = l.map dmN) (i : Nat) : anyb (l'.take i) (S.isDem m) = anyb (l.take i) (S.isDem m) := by
 have key : ∀ l : List Dm, anyb (l.take i) (S.isDem m) = ((l.map dmN).take i).any (fun p => p.1.toList == m.toList) := by
  intro l
  unfold anyb
  rw [<- List.map_take, List.any_map]
  rfl
 rw [key, key, h]
theorem dems_like {ds D : List Dm} (h : S.dems ds = true) (hn : D.map dmN = ds.map dmN) (hst : ∀ d, d ∈ D -> S.steps d.st = true) : S.dems D = true := by
 have hl : D.length = ds.length := by simpa using congrArg List.length hn
 unfold S.dems at h ⊢
 rw [Bool.and_eq_true, List.all_eq_true] at h ⊢
 rw [hl]
 refine ⟨h.1, fun i hi => ?_⟩
 have hix := List.mem_range.1 hi
 have h1 := h.2 i hi
 unfold S.demAt at h1 ⊢
 have hg : (D.map dmN)[i]? = (ds.map dmN)[i]? := by rw [hn]
 rw [List.getElem?_map, List.getElem?_map, List.getElem?_eq_getElem hix, List.getElem?_eq_getElem (show i < D.length by omega)] at hg
 rw [List.getElem?_eq_getElem hix] at h1
 rw [List.getElem?_eq_getElem (show i < D.length by omega)]
 have hm := hst _ (List.getElem_mem (show i < D.length by omega))
 generalize ds[i] = d at *
 generalize D[i]'(show i < D.length by omega) = d' at *
 injection hg with hg
 injection hg with g1 g2
 simp only [S.demRight, Bool.and_eq_true] at h1 ⊢
 rw [g1, g2, any_name _ _ _ hn]
 exact ⟨⟨h1.1.1, hm⟩, h1.2⟩
theorem dems_steps {ds : List Dm} (h : S.dems ds = true) {d : Dm} (hd : d ∈ ds) : S.steps d.st = true := by
 obtain ⟨k, hk, rfl⟩ := List.getElem_of_mem hd
 have := dems_at h (List.getElem?_eq_getElem hk)
 unfold S.demRight at this
 simp only [Bool.and_eq_true] at this
 exact this.2
theorem dems_one {ds : List Dm} (h : S.dems ds = true) {d d' : Dm} (hd : d ∈ ds) (hk : dmK d' = dmK d) : S.dems [d'] = true := by
 obtain ⟨k, hkx, rfl⟩ := List.getElem_of_mem hd
 have := dems_at h (List.getElem?_eq_getElem hkx)
 injection hk with h1 hk
 injection hk with h2 hk
 injection hk with h3 hk
 have hr : S.demRight d' = true := by
  unfold S.demRight at this ⊢
  rw [h1, h2, h3]
  exact this
 unfold S.dems
 rw [Bool.and_eq_true, List.all_eq_true]
 refine ⟨by simp, fun i hi => ?_⟩
 have hix := List.mem_range.1 hi
 obtain rfl : i = 0 := by simp at hix; exact hix
 show (S.demRight d' && !anyb ([d'].take 0) _) = true
 rw [hr]
 rfl
theorem failN_zero (ds : List Dm) (Ls : Nat -> List Sp) : ∀ q, q <= ds.length -> ((S.failN ds Ls q).length = 0 ↔ ∀ i, i < q -> Ls i = []) := by
 intro q
 induction q with
 | zero => intro _; exact ⟨fun _ i hi => absurd hi (Nat.not_lt_zero _), fun _ => rfl⟩
 | succ q ih =>
  intro hq
  have h1 := ih (by omega)
  show (S.failN ds Ls q ++ _).length = 0 ↔ _
  rw [List.length_append, List.getElem?_eq_getElem (show q < ds.length by omega)]
  cases hL : Ls q with
  | nil =>
   simp only [List.length_nil, Nat.add_zero]
   rw [h1]
   constructor
   ·intro h i hi
    by_cases hiq : i < q
    ·exact h i hiq
    ·obtain rfl : i = q := by omega
     exact hL
   ·intro h i hi
    exact h i (by omega)
  | cons a t =>
   constructor
   ·intro h
    simp at h
   ·intro h
    have := h q (by omega)
    rw [hL] at this
    cases this
theorem small_sizes {w : World} {x : Dt} {ds : List Dm} (h : DtOk w x ds) (hs : S.small25 x ds = true) (hlk : S.look x (S.dems ds) = true) :
 x.mn <= 1000000 /\ x.hn <= 1000000 /\ x.bn <= 1000 /\ (∀ r, r ∈ x.bs -> r.n <= 1000) /\ x.rn <= 1000 /\ x.jn <= 1000 /\ x.dn <= 1000 /\ ∀ d, d ∈ ds -> d.n <= 1000 := by
 have g := look_ok hlk
 unfold S.small25 S.small17 S.small16 S.lensBad at hs
 simp only [Bool.and_eq_true, Bool.or_eq_true, Bool.not_eq_true', Bool.or_eq_false_iff, Bool.and_eq_false_iff, decide_eq_true_eq, decide_eq_false_iff_not, List.all_eq_true] at hs
 obtain ⟨⟨⟨⟨_, ⟨⟨_, m1⟩, _⟩, m2⟩, ⟨⟨⟨⟨_, m3⟩, ⟨_, m5⟩⟩, m4⟩, _⟩, _⟩, _⟩, _⟩ := hs
 have hb := h.at_.bars.len
 have hr := h.at_.runs.len
 have hd := h.dems.len
 have h20 : ds.length <= 20 := by
  have := g.dems
  unfold S.dems at this
  simp only [Bool.and_eq_true, decide_eq_true_eq] at this
  exact this.1
 have hbl : (bars x.bs).length = x.bs.length := by unfold bars; simp
 refine ⟨by omega, by omega, by omega, fun r hr => ?_, by omega, g.j1000, by omega, fun d hd => ?_⟩
 ·have h1 := m4 r.b (by unfold bars; exact List.mem_map_of_mem hr)
  unfold S.short at h1
  simp only [Bool.and_eq_true, decide_eq_true_eq] at h1
  have := (h.at_.bars.each r hr).len
  omega
 ·have h1 := dems_steps g.dems hd
  unfold S.steps at h1
  simp only [Bool.and_eq_true, decide_eq_true_eq] at h1
  have := (h.dems.each d hd).len
  omega
theorem one_passes {x x' : Dt} {ds : List Dm} {rs : List Rod} {W : World} {d : Dm} {i : Nat} (hlk : S.look x (S.dems ds) = true) (hC : (S.cOf x).length <= 100) (hrs : RodsOf x (S.nOf x) rs) (hi : i < ds.length) (hx : DtOk W x' [d]) (hs : SameDt x x') (hd : dmK d = dmK ds[i]) :
 ∀ V, Below W.heap.size W V -> Calls Tryz.prog 22 #[dtV x'] V fun e w' => e = .returned (.tuple #[.bool (S.spansD x rs ds i).isEmpty, .int .i64 0]) /\ Below V.heap.size V w' := fun V hV => by
 have g := look_ok hlk
 have hlk' : S.look x' (S.dems [d]) = true := by
  have hlk2 := hlk
  rw [g.dems] at hlk2
  rw [same_look hs, dems_one g.dems (List.getElem_mem hi) hd]
  exact hlk2
 obtain ⟨rs', hrs'⟩ := rods_ex (look_ok hlk').laid
 have hP := good_Passes hx hlk' (by rw [same_c hs]; exact hC) hrs' V hV
 have h1 : x'.dn = 1 := hx.dems.len.symm
 have hz : S.spansD x' rs' [d] 0 = S.spansD x rs ds i := by
  injection hd with h1 hd
  injection hd with h2 hd
  injection hd with h3 hd
  unfold S.spansD
  rw [List.getElem?_eq_getElem hi]
  show S.spansL (S.partsD x' rs' d) = S.spansL (S.partsD x rs ds[i])
  rw [same_parts hs hrs hrs' h2 h3]
 have hb : decide ((S.failN [d] (S.spansD x' rs' [d]) x'.dn).length = 0) = (S.spansD x rs ds i).isEmpty := by
  rw [h1, Bool.eq_iff_iff, decide_eq_true_eq, failN_zero [d] _ 1 (Nat.le_refl _), <- hz, List.isEmpty_iff]
  constructor
  ·intro h
   exact h 0 (by omega)
  ·intro h j hj
   have hj0 : j = 0 := by omega
   subst hj0
   exact h
 rw [hb] at hP
 exact hP
theorem more_spans {x x' : Dt} {ds D : List Dm} {dm : Dm} {rs : List Rod} {W : World} {k : Nat} {a b : Int} (hlk : S.look x (S.dems ds) = true) (hC : (S.cOf x).length <= 100) (hrs : RodsOf x (S.nOf x) rs) (hk : ds[k]? = some dm) (hx : DtOk W x' D) (hs : SameDt x x')
 (hn : D.map dmN = ds.map dmN) (hst : D.map (·.st) = (ds.map (·.st)).set k (S.scaleSt a b dm.st)) (ha : 1 <= a /\ a <= 1000) (hb : 1 <= b /\ b <= 1000) (hok : ∀ s, s ∈ dm.st -> S.scaleV a b s.val <= 1099511627776) :
 ∀ V, Below W.heap.size W V -> Calls Tryz.prog 13 #[dtV x', .int .i64 k] V (GivesSpn (S.spansL (S.partsOf (S.supplyOf x rs (S.cOf x) dm.zone) (S.scaleSt a b dm.st))) V) := fun V hV => by
 have g := look_ok hlk
 have hsc := scale_steps ha hb (dem_steps hlk hk).1 hok
 have hds : S.dems D = true := dems_like g.dems hn (fun d hd => by
  have hm : d.st ∈ D.map (·.st) := List.mem_map_of_mem hd
  rw [hst] at hm
  rcases List.mem_or_eq_of_mem_set hm with h | h
  ·obtain ⟨d0, h0, he⟩ := List.mem_map.1 h
   rw [<- he]
   exact dems_steps g.dems h0
  ·rw [h]
   exact hsc)
 have hlk' : S.look x' (S.dems D) = true := by
  have hlk2 := hlk
  rw [g.dems] at hlk2
  rw [same_look hs, hds]
  exact hlk2
 obtain ⟨rs', hrs'⟩ := rods_ex (look_ok hlk').laid
 have hkx := (List.getElem?_eq_some_iff.1 hk).1
 have hl : D.length = ds.length := by simpa using congrArg List.length hn
 have hkD : D[k]? = some (D[k]'(by omega)) := List.getElem?_eq_getElem (by omega)
 have e1 : (D.map dmN)[k]? = (ds.map dmN)[k]? := by rw [hn]
 rw [List.getElem?_map, List.getElem?_map, hk, hkD] at e1
 have e2 : (D.map (·.st))[k]? = ((ds.map (·.st)).set k (S.scaleSt a b dm.st))[k]? := by rw [hst]
 rw [List.getElem?_map, hkD, List.getElem?_set_self (by simpa using hkx)] at e2
 have hP := good_Spans hx hlk' (by rw [same_c hs]; exact hC) hkD hrs' V hV
 generalize D[k]'(by omega) = y at *
 injection e1 with e1
 injection e1 with _ e1
 injection e2 with e2
 have hpp : S.partsD x' rs' y = S.partsOf (S.supplyOf x rs (S.cOf x) dm.zone) (S.scaleSt a b dm.st) := by
  have hrs2 : RodsOf x' (S.nOf x') rs' := hrs'
  rw [same_n hs] at hrs2
  unfold S.partsD
  rw [e1, show y.st = _ from e2, same_supply hs hrs hrs2]
 rw [hpp] at hP
 exact hP
structure Copied (x : Dt) (ds : List Dm) (w w' : World) (x' : Dt) (ds' : List Dm) (go c : Nat) : Prop where
 co : CopyOf x x'
 lo : w.heap.size <= go
 lt : go < w'.heap.size
 ly : LyDt (fun g => g ≠ go) w' x'
 own : ∃ B, w'.ownsRow B 81 8 (.slice (some ⟨go, 0, none⟩) x.dn c) x.dn (ds'.flatMap dmC)
 cap : x.dn <= c
 map : ds'.map dmK = ds.map dmK
 each : ∀ d, d ∈ ds' -> d.n = d.st.length /\ Ly (fun g => g ≠ go) w' d.A (d.st.flatMap stC)
theorem copy_form {x : Dt} {ds : List Dm} {w : World} {e : Ending} {w' : World} (h : GivesCopy x ds w e w') (hn : 0 < x.dn) :
 ∃ (x' : Dt) (ds' : List Dm) (go c : Nat), e = .returned (.agg #[.string x'.m.name, .slice x'.mA x'.mn x'.mc, .slice x'.hA x'.hn x'.hc, .int .i64 x'.m.cover, .int .i64 x'.m.aggr, .int .i64 x'.m.poker, .slice x'.bA x'.bn x'.bc, .slice x'.rA x'.rn x'.rc, .slice x'.jA x'.jn x'.jc, .slice (some ⟨go, 0, none⟩) x.dn c, .int .i64 x'.rule.num, .int .i64 x'.rule.den, .int .i64 x'.rule.pnum, .int .i64 x'.rule.pden, .int .i64 x'.rule.bnum, .int .i64 x'.rule.bden, .int .i64 x'.rule.lnum, .int .i64 x'.rule.lden, .int .i64 x'.rule.least]) /\ Copied x ds w w' x' ds' go c /\ Below w.heap.size w w' := by
 obtain ⟨x', ds', B, he, hco, hB, hly, hown, hcap, hmap, hev, hb⟩ := h
 rcases hown.2 with ⟨_, h0⟩ | ⟨g, cap, cur, hv, hbg, hg, hxx⟩
 ·omega
 clear hxx
 injection hv with hA _ hc
 have hgl : g < w'.heap.size := (Array.getElem?_eq_some_iff.1 hg).1
 refine ⟨x', ds', g, x'.dc, ?_, ⟨hco, Nat.le_trans hB hbg, hgl, hly.mono (fun k hk => by have := hk.2; omega), ⟨B, hA ▸ hown⟩, hcap, hmap, fun d hd => ⟨(hev d hd).1, (hev d hd).2.mono (fun k hk e => by subst e; exact hk.2 (by rw [hA]; rfl))⟩⟩, hb⟩
 rw [he]
 unfold dtV
 rw [hA, hco.dn]
theorem flat_one (d : Dm) : [d].flatMap dmC = dmC d := by simp
section
variable {x x' : Dt} {ds ds' : List Dm} {w0 w w' W : World} {go c : Nat}
theorem copied_len (hk : Copied x ds w w' x' ds' go c) (h : DtOk w0 x ds) : ds'.length = x.dn := by
 have h1 := congrArg List.length hk.map
 have h2 := h.dems.len
 simp only [List.length_map] at h1
 omega
theorem copied_same (hk : Copied x ds w w' x' ds' go c) (A : Option Addr) (n k : Nat) : SameDt x { x' with dA := A, dn := n, dc := k } :=
 ⟨hk.co.same.m, hk.co.same.bars, hk.co.same.rs, hk.co.same.js, hk.co.same.jn, hk.co.same.rule⟩
theorem copied_key (hk : Copied x ds w w' x' ds' go c) {i : Nat} (hi : i < ds'.length) (hi2 : i < ds.length) : dmK ds'[i] = dmK ds[i] := by
 have h1 : (ds'.map dmK)[i]? = (ds.map dmK)[i]? := by rw [hk.map]
 rw [List.getElem?_map, List.getElem?_map, List.getElem?_eq_getElem hi, List.getElem?_eq_getElem hi2] at h1
 injection h1
theorem copied_name (hk : Copied x ds w w' x' ds' go c) (h : DtOk w0 x ds) : ∀ d, d ∈ ds' -> d.n <= 9223372036854775807 /\ d.name.size <= 9223372036854775807 := fun d hd => by
 have hm : dmK d ∈ ds'.map dmK := List.mem_map_of_mem hd
 rw [hk.map] at hm
 obtain ⟨d0, h0, he⟩ := List.mem_map.1 hm
 have h1 := (h.dems.each d0 h0).max
 have h2 := h.dems.name d0 h0
 injection he with e1 he
 injection he with e2 he
 injection he with e3 e4
 rw [<- e4, <- e1]
 exact ⟨h1, h2⟩
theorem copied_there (hk : Copied x ds w w' x' ds' go c) (hb : Below w'.heap.size w' W) {k : Nat} (hkx : k < x.dn) : W.there go (k * 8) 8 := fun j hj => by
 obtain ⟨B, hown⟩ := hk.own
 have h2 := own_kept hown (fun g hg => hb.block g (hown.lt g hg).2)
 have hl := h2.1
 exact ⟨by rw [h2.cellAt (k * 8 + j) (by omega), List.getElem?_eq_getElem (by omega)]; rfl, h2.frozenAt _⟩
theorem one_ok (hk : Copied x ds w w' x' ds' go c) (h : DtOk w0 x ds) (hb : Below w'.heap.size w' W) {i : Nat} (hi : i < x.dn) (hi' : i < ds'.length) : DtOk W { x' with dA := some ⟨go, i * 8, none⟩, dn := 1, dc := c - i } [ds'[i]] := by
 have hly := hk.ly.keep hb.size (fun k _ hk => hb.block k hk)
 obtain ⟨B, hown⟩ := hk.own
 have hcap := hk.cap
 refine dtok_of (at_copy h.at_ hk.co hly) _ 1 _ rfl (by omega) (by omega) ?_ (fun d hd => ?_)
 ·rw [flat_one]
  refine .inr ⟨go, i * 8, rfl, Nat.lt_of_lt_of_le hk.lt hb.size, fun j v hv => ?_⟩
  rw [hb.cell (p := ⟨go, i * 8 + j, none⟩) hk.lt]
  have hj : j < 8 := (List.getElem?_eq_some_iff.1 hv).1
  rw [hown.cellAt (i * 8 + j) (by omega), flat_get dmC 8 dmC_len ds' i hi' j hj]
  exact hv
 ·rw [List.mem_singleton] at hd
  subst hd
  have h1 := hk.each _ (List.getElem_mem hi')
  have h2 := copied_name hk h _ (List.getElem_mem hi')
  exact ⟨h1.1, h2.1, (h1.2.keep hb.size (fun k _ hk => hb.block k hk)).cells, h2.2⟩
theorem more_ok (hk : Copied x ds w w' x' ds' go c) (h : DtOk w0 x ds) (hb : Below w'.heap.size w' W) {k : Nat} (hkx : k < x.dn) {y dm : Dm} (hdm : ds[k]? = some dm) (hy : y.name = dm.name /\ y.zone = dm.zone /\ y.n = dm.n /\ y.st.length = dm.st.length) (hf : Far w'.heap.size W y.A (y.st.flatMap stC)) :
 DtOk (W.setCells go (k * 8) (dmC y)) { x' with dA := some ⟨go, 0, none⟩, dn := x.dn, dc := c } (ds'.set k y) /\ (ds'.set k y).map dmN = ds.map dmN /\ (ds'.set k y).map (·.st) = (ds.map (·.st)).set k y.st := by
 have hlen := copied_len hk h
 have hX := exc_setCells go (dmC y) (k * 8) W
 have hbl : ∀ g, g ≠ go -> g < w'.heap.size -> (W.setCells go (k * 8) (dmC y)).heap[g]? = w'.heap[g]? := fun g hg hg2 => (hX.block g (Nat.lt_of_lt_of_le hg2 hb.size) (by simpa using hg)).trans (hb.block g hg2)
 have hsz : w'.heap.size <= (W.setCells go (k * 8) (dmC y)).heap.size := Nat.le_trans hb.size hX.size
 have hly := hk.ly.keep hsz hbl
 obtain ⟨B, hown⟩ := hk.own
 have hown2 := own_putL (dmC y) (k * 8) W _ (own_kept hown (fun g hg => hb.block g (hown.lt g hg).2))
 rw [putL_dm ds' k (by omega) y] at hown2
 have hst := h.dems.each dm (List.mem_of_getElem? hdm)
 have hnm := h.dems.name dm (List.mem_of_getElem? hdm)
 have e1 : ds'.map dmN = ds.map dmN := by
  have h1 : ∀ l : List Dm, l.map dmN = (l.map dmK).map (fun p => (p.1, p.2.1)) := fun l => by rw [List.map_map]; rfl
  rw [h1, h1, hk.map]
 have e2 : ds'.map (·.st) = ds.map (·.st) := by
  have h1 : ∀ l : List Dm, l.map (·.st) = (l.map dmK).map (fun p => p.2.2.1) := fun l => by rw [List.map_map]; rfl
  rw [h1, h1, hk.map]
 refine ⟨dtok_of (at_copy h.at_ hk.co hly) _ _ _ (by rw [List.length_set]; exact hlen) hk.cap h.dems.max (own_far hown2).cells (fun d hd => ?_), ?_, ?_⟩
 ·rcases List.mem_or_eq_of_mem_set hd with h1 | h1
  ·have h2 := hk.each d h1
   have h3 := copied_name hk h d h1
   exact ⟨h2.1, h3.1, (h2.2.keep hsz hbl).cells, h3.2⟩
  ·subst h1
   have h4 := hst.len
   have h5 := hst.max
   refine ⟨by omega, by omega, ?_, by rw [hy.1]; exact hnm⟩
   exact (hf.exc hX hk.lt).cells
 ·rw [List.map_set, e1]
  refine List.ext_getElem? (fun j => ?_)
  by_cases hj : k = j
  ·subst hj
   rw [List.getElem?_set_self (by simp; rw [<- h.dems.len] at hkx; exact hkx), List.getElem?_map, hdm]
   show some (y.name, y.zone) = some (dm.name, dm.zone)
   rw [hy.1, hy.2.1]
  ·rw [List.getElem?_set_ne hj]
 ·rw [List.map_set, e2]
end
theorem scaled_form {d : Dm} {a b : Int} {w : World} {e : Ending} {w' : World} (h : ScaledTo d a b w e w') :
 ∃ (y : Dm) (er : Int), e = .returned (.tuple #[.agg #[.string y.name, .int .i64 y.zone.lo.x, .int .i64 y.zone.lo.y, .int .i64 y.zone.lo.z, .int .i64 y.zone.hi.x, .int .i64 y.zone.hi.y, .int .i64 y.zone.hi.z, .slice y.A y.n y.c], .int .i64 er]) /\
  (er = 5 ∨ er = 0 /\ (∀ s, s ∈ d.st -> S.scaleV a b s.val <= 1099511627776) /\ (y.name = d.name /\ y.zone = d.zone /\ y.n = d.n /\ y.st.length = d.st.length) /\ y.st = S.scaleSt a b d.st /\ Far w.heap.size w' y.A (y.st.flatMap stC)) /\ Below w.heap.size w w' := by
 obtain ⟨h1 | ⟨h1, A, c, h2, h3⟩, hb⟩ := h
 ·exact ⟨⟨⟨#[]⟩, ⟨⟨0, 0, 0⟩, ⟨0, 0, 0⟩⟩, [], none, 0, 0⟩, 5, h1, .inl rfl, hb⟩
 ·exact ⟨⟨d.name, d.zone, S.scaleSt a b d.st, A, d.n, c⟩, 0, h2, .inr ⟨rfl, h1, ⟨rfl, rfl, rfl, by unfold S.scaleSt; simp⟩, rfl, h3⟩, hb⟩
theorem more_call {x x' : Dt} {ds ds' : List Dm} {y dm : Dm} {w w' W : World} {go c k : Nat} {a b : Int} {M : List Sp}
 (hSM : (∀ s, s ∈ dm.st -> S.scaleV a b s.val <= 1099511627776) -> ∀ (W : World) (x' : Dt) (D : List Dm), DtOk W x' D -> SameDt x x' -> D.map dmN = ds.map dmN -> D.map (·.st) = (ds.map (·.st)).set k (S.scaleSt a b dm.st) -> ∀ V, Below W.heap.size W V -> Calls Tryz.prog 13 #[dtV x', .int .i64 k] V (GivesSpn M V))
 (hsc : ∀ s, s ∈ dm.st -> S.scaleV a b s.val <= 1099511627776) (hk : Copied x ds w w' x' ds' go c) (hst : y.st = S.scaleSt a b dm.st)
 (hmo : DtOk W { x' with dA := some ⟨go, 0, none⟩, dn := x.dn, dc := c } (ds'.set k y) /\ (ds'.set k y).map dmN = ds.map dmN /\ (ds'.set k y).map (·.st) = (ds.map (·.st)).set k y.st) :
 ∀ V, Below W.heap.size W V -> Calls Tryz.prog 13 #[.agg #[.string x'.m.name, .slice x'.mA x'.mn x'.mc, .slice x'.hA x'.hn x'.hc, .int .i64 x'.m.cover, .int .i64 x'.m.aggr, .int .i64 x'.m.poker, .slice x'.bA x'.bn x'.bc, .slice x'.rA x'.rn x'.rc, .slice x'.jA x'.jn x'.jc, .slice (some ⟨go, 0, none⟩) x.dn c, .int .i64 x'.rule.num, .int .i64 x'.rule.den, .int .i64 x'.rule.pnum, .int .i64 x'.rule.pden, .int .i64 x'.rule.bnum, .int .i64 x'.rule.bden, .int .i64 x'.rule.lnum, .int .i64 x'.rule.lden, .int .i64 x'.rule.least], .int .i64 k] V (GivesSpn M V) := fun V hV => by
 have h3 := hmo.2.2
 rw [hst] at h3
 exact hSM hsc W _ _ hmo.1 (copied_same hk _ _ _) hmo.2.1 h3 V hV
theorem one_call {x x' : Dt} {ds ds' : List Dm} {w0 w w' W : World} {go c i : Nat} {oq : Bool} (hi : i < ds.length)
 (hPO : ∀ (W : World) (x' : Dt) (d : Dm), DtOk W x' [d] -> SameDt x x' -> dmK d = dmK ds[i] -> ∀ V, Below W.heap.size W V -> Calls Tryz.prog 22 #[dtV x'] V fun e w' => e = .returned (.tuple #[.bool oq, .int .i64 0]) /\ Below V.heap.size V w')
 (hk : Copied x ds w w' x' ds' go c) (h : DtOk w0 x ds) (hb : Below w'.heap.size w' W) (hix : i < x.dn) (hi' : i < ds'.length) :
 ∀ V, Below W.heap.size W V -> Calls Tryz.prog 22 #[.agg #[.string x'.m.name, .slice x'.mA x'.mn x'.mc, .slice x'.hA x'.hn x'.hc, .int .i64 x'.m.cover, .int .i64 x'.m.aggr, .int .i64 x'.m.poker, .slice x'.bA x'.bn x'.bc, .slice x'.rA x'.rn x'.rc, .slice x'.jA x'.jn x'.jc, .slice (some ⟨go, i * 8, none⟩) 1 (c - i), .int .i64 x'.rule.num, .int .i64 x'.rule.den, .int .i64 x'.rule.pnum, .int .i64 x'.rule.pden, .int .i64 x'.rule.bnum, .int .i64 x'.rule.bden, .int .i64 x'.rule.lnum, .int .i64 x'.rule.lden, .int .i64 x'.rule.least]] V fun e w' => e = .returned (.tuple #[.bool oq, .int .i64 0]) /\ Below V.heap.size V w' := fun V hV =>
 hPO W _ _ (one_ok hk h hb hix hi') (copied_same hk _ _ _) (copied_key hk hi' hi) V hV
end Go.Proofs.YtmfpbafpnoomeaaGreat
