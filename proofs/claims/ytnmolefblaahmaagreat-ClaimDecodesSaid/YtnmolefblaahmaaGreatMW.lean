/- The ends of a laid bar that has a main leg: anchor.Ends and the reference's Ends. Chains of the program as data; what supply.chains gives. Contract: slices.IndexFunc over chains; plain facts for Delet -/
import Derived.Test.YtnmolefblaahmaaGreatMU
import Derived.Test.YtnmolefblaahmaaGreatMV
set_option linter.unusedVariables false
set_option linter.unusedSimpArgs false
namespace Go.Proofs.YtnmolefblaahmaaGreat
open Go.RowKit
structure RodFit (x : Dt) (r : Rod) : Prop where
 legs : ∀ b, b ∈ r.legs → S.boxOk b = true
 len : r.legs.length = (S.legsOf r.bar.b.code).length
 bar : S.bar r.bar.b = true
 mem : r.bar ∈ x.bs
 main : r.main = idxf r.legs S.isMainB
def S.legOf (r : Rod) : Bx := r.legs.getD r.main.toNat S.zbox
def S.lowOf (x : Dt) (r : Rod) : Int := S.endLen x.rule x.m r.bar.b r.legs r.main.toNat (S.legOf r).lo
def S.upOf (x : Dt) (r : Rod) : Int := S.endLen x.rule x.m r.bar.b r.legs r.main.toNat (S.legOf r).hi
theorem LegsAt.cells {w : World} {base : Nat} {v : Value} {r : Rod} (h : LegsAt w base v r) : Cells w w.heap.size r.A (r.legs.flatMap boxC) := by
 obtain ⟨g, cur, t, fr, h1, _, _, h4, h5⟩ := h
 exact .inr ⟨g, 0, h1, (Array.getElem?_eq_some_iff.1 h4).1, fun j v hv => by rw [Nat.zero_add, cell_of_row w g j cur t fr h4]; exact h5 j v hv⟩
theorem DtAt.wide {w : World} {B B' : Nat} {x : Dt} (h : DtAt w B x) (hB : B ≤ B') : DtAt w B' x :=
 ⟨⟨h.sol.len, h.sol.max, h.sol.len', h.sol.max', h.sol.cells.mono hB, h.sol.cells'.mono hB⟩, h.name, ⟨h.bars.len, h.bars.max, h.bars.cells.mono hB, fun r hr => (h.bars.each r hr).mono hB⟩, ⟨h.runs.len, h.runs.max, h.runs.cells.mono hB⟩, h.jlen, h.jmax, h.joints.mono hB⟩
def S.sizeI (rs : List Rod) (i : Int) : Int := match rs[i.toNat]? with | some r => r.bar.b.size | none => 0
def S.spanOf (x : Dt) (a b : Rod) : Int × Int × Bool :=
 if a.main < 0 then (0, 0, false) else if b.main < 0 then (0, 0, false) else
 if (S.legOf a).lo.x + S.lowOf x a < (S.legOf b).hi.x - S.upOf x b then ((S.legOf a).lo.x + S.lowOf x a, (S.legOf b).hi.x - S.upOf x b, true) else (0, 0, false)
structure SchOk (x : Dt) (rs : List Rod) (l : List Int) (c : SCh) : Prop where
 bars : c.l = l
 area : c.area = S.steelArea (S.sizeI rs (minBy (S.sizeI rs) l))
 span : ∃ a b, rs[(l.headD 0).toNat]? = some a ∧ rs[(l.getLastD 0).toNat]? = some b ∧ (c.lo, c.hi, c.is) = S.spanOf x a b
theorem at_store {P : Program} {ops : Array Oper} {Q : Exit → Act → World → Prop} {rest : List Oper} {a : Act} {w : World} (ty : TypeId) (s r : Nat) {dst : Option Nat} {t : TypeId} {pos : String} {after : Array Edge}
 (h : wpList P ops Q ({ dst := dst, op := .store ty (.tmp s) (.tmp r), type := t, pos := pos, after := after, guard := none } :: rest) a w) : wpList P ops Q ({ dst := dst, op := .store ty (.tmp s) (.tmp r), type := t, pos := pos, after := after, guard := none } :: rest) a w := h
theorem filter_next {α : Type} (p : α → Bool) {l : List α} {k : Nat} (h : k < l.length) : (l.take (k + 1)).filter p = (l.take k).filter p ++ (if p l[k] then [l[k]] else []) := by
 have e : l.take (k + 1) = l.take k ++ [l[k]] := by rw [List.take_add_one, List.getElem?_eq_getElem h]; rfl
 rw [e, List.filter_append]
 congr 1
 cases hp : p l[k] <;> simp [hp]
theorem flat5_len (l : List SCh) : (l.flatMap schC).length = l.length * 5 := by rw [flat_len schC 5 schC_len]
structure Kept (cs : List SCh) (p : Int) (cur cur' : Array Value) (i j : Nat) : Prop where
 size : cur'.size = cur.size
 len : ((cs.take j).filter (S.atPl p)).length = i
 lt : i < j
 le : j ≤ cs.length
 done : ∀ q, q < i * 5 → cur'[q]? = (((cs.take j).filter (S.atPl p)).flatMap schC)[q]?
 rest : ∀ q, j * 5 ≤ q → cur'[q]? = cur[q]?
theorem Kept.first {cs : List SCh} {p : Int} {cur : Array Value} {i : Nat} (hi : i < cs.length) (hcur : ∀ q, q < cs.length * 5 → cur[q]? = (cs.flatMap schC)[q]?) (hp : S.atPl p cs[i] = false) (hno : ∀ j (h : j < cs.length), j < i → S.atPl p cs[j] = true) : Kept cs p cur cur i (i + 1) := by
 have e0 : (cs.take i).filter (S.atPl p) = cs.take i := List.filter_eq_self.2 fun r hr => by
  obtain ⟨j, hj, rfl⟩ := List.getElem_of_mem hr
  rw [List.length_take] at hj
  rw [List.getElem_take]
  exact hno j (by omega) (by omega)
 have e : (cs.take (i + 1)).filter (S.atPl p) = cs.take i := by rw [filter_next (S.atPl p) hi, hp, e0]; simp
 refine ⟨rfl, by rw [e, List.length_take]; omega, by omega, hi, fun q hq => ?_, fun q _ => rfl⟩
 rw [e, hcur q (by omega)]
 have e2 : cs.flatMap schC = (cs.take i).flatMap schC ++ (cs.drop i).flatMap schC := by rw [← List.flatMap_append, List.take_append_drop]
 rw [e2, List.getElem?_append_left (by rw [flat5_len, List.length_take, Nat.min_eq_left (by omega)]; exact hq)]
def S.outI (rs : List Rod) (z : Bx) (i : Int) : Bool := match rs[i.toNat]? with | some r => S.outside r z | none => false
def S.sup (rs : List Rod) (z : Bx) (c : SCh) : Bool := c.is && !(anyb c.l (S.outI rs z))
theorem DemsAt.wide {w : World} {B B' : Nat} {A : Option Addr} {n : Nat} {ds : List Dm} (h : DemsAt w B A n ds) (hB : B ≤ B') : DemsAt w B' A n ds :=
 ⟨h.len, h.max, h.cells.mono hB, fun d hd => ⟨(h.each d hd).len, (h.each d hd).max, (h.each d hd).cells.mono hB⟩, h.name⟩
end Go.Proofs.YtnmolefblaahmaaGreat
