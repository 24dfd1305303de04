/- Lemmas. -/
import Derived.Test.YtmfpbafpnoomeaaGreatMAD
import Derived.Test.YtmfpbafpnoomeaaGreatMAH
import Derived.Test.YtmfpbafpnoomeaaGreatMAI
set_option linter.unusedVariables false
set_option linter.unusedSimpArgs false
namespace Go.Proofs.YtmfpbafpnoomeaaGreat
open Go.RowKit
theorem okAx_join {a b c d : Int} (h1 : -1048576 <= a /\ a <= 1048576) (h2 : -1048576 <= b /\ b <= 1048576) : S.okAx (if b < a then b else a) (if a < b then b else a) = true := by
 simp only [S.okAx, Bool.and_eq_true, decide_eq_true_eq]
 split <;> split <;> omega
theorem legB_in {p q : Pt} (hp : S.near1 p 1048576 = true) (hq : S.near1 q 1048576 = true) : S.boxOk (S.legB p q) = true := by
 obtain ⟨px, py, pz⟩ := near1_out hp
 obtain ⟨qx, qy, qz⟩ := near1_out hq
 show (S.okAx (if q.x < p.x then q.x else p.x) (if p.x < q.x then q.x else p.x) && S.okAx (if q.y < p.y then q.y else p.y) (if p.y < q.y then q.y else p.y) && S.okAx (if q.z < p.z then q.z else p.z) (if p.z < q.z then q.z else p.z)) = true
 rw [okAx_join (c := 0) (d := 0) px qx, okAx_join (c := 0) (d := 0) py qy, okAx_join (c := 0) (d := 0) pz qz]
 rfl
structure RodFit (x : Dt) (r : Rod) : Prop where
 legs : ∀ b, b ∈ r.legs -> S.boxOk b = true
 len : r.legs.length = (S.legsOf r.bar.b.code).length
 bar : S.bar r.bar.b = true
 mem : r.bar ∈ x.bs
 main : r.main = idxf r.legs S.isMainB
theorem rod_fit {x : Dt} {i : Nat} {r : Rod} (h : RodOk x i r) (hl : S.laid (bars x.bs) x.rs = true) : RodFit x r := by
 obtain ⟨k, j, k0, hL, he⟩ := h.ex
 have hnear : S.near (S.laidPath r.bar.b (x.rs[k]'hL.st.lt) j) 1048576 = true := by
  have hr := hl
  simp only [S.laid, Bool.and_eq_true] at hr
  exact laid_near hL.st.ok (runs_in hr.2 (List.getElem_mem hL.st.lt)) hL.st.inr
 have hll := laidPath_len r.bar.b (x.rs[k]'hL.st.lt) j
 refine ⟨fun b hb => ?_, ?_, hL.st.ok.bar, List.mem_of_getElem? hL.get, h.main⟩
 ·rw [he] at hb
  unfold S.legsL S.legsTo at hb
  obtain ⟨q, hq, rfl⟩ := List.mem_map.1 hb
  rw [List.mem_range] at hq
  refine legB_in ?_ ?_
  ·have := near_in hnear (show q < _ by omega)
   simpa [S.ptD, List.getElem?_eq_getElem (show q < (S.laidPath r.bar.b (x.rs[k]'hL.st.lt) j).length by omega)] using this
  ·have := near_in hnear (show q + 1 < _ by omega)
   simpa [S.ptD, List.getElem?_eq_getElem (show q + 1 < (S.laidPath r.bar.b (x.rs[k]'hL.st.lt) j).length by omega)] using this
 ·rw [he, S.legsL, legsTo_len, hll]
  rfl
theorem rod_given {x : Dt} {r : Rod} (h : RodFit x r) (hr : S.rule x.rule = true) (hm : S.member x.m = true) (h0 : 0 <= r.main) : S.given x.rule x.m r.bar.b r.legs = 0 := by
 have h1 : S.heads x.rule x.m r.bar.b = true := by unfold S.heads; rw [hr, hm, h.bar]; rfl
 have h2 : anyb r.legs S.boxNot = false := anyb_not (p := S.boxNot) fun q hq => by
  show (!S.boxOk r.legs[q]) = false
  rw [h.legs _ (List.getElem_mem hq)]
  rfl
 unfold S.given
 rw [if_neg (by rw [h1]; simp), if_neg (by rw [h2]; simp), if_pos h.len, if_neg (by rw [<- h.main]; omega)]
def S.legOf (r : Rod) : Bx := r.legs.getD r.main.toNat S.zbox
def S.lowOf (x : Dt) (r : Rod) : Int := S.endLen x.rule x.m r.bar.b r.legs r.main.toNat (S.legOf r).lo
def S.upOf (x : Dt) (r : Rod) : Int := S.endLen x.rule x.m r.bar.b r.legs r.main.toNat (S.legOf r).hi
theorem ends_rod (x : Dt) (r : Rod) (B : Nat) (w : World) (hB : B <= w.heap.size) (hA : DtAt w B x) (hleg : Cells w B r.A (r.legs.flatMap boxC)) (h : RodFit x r) (hr : S.rule x.rule = true) (hm : S.member x.m = true) (h0 : 0 <= r.main) :
 Calls Tryz.prog 182 #[ruleV x.rule, memV x.m x.mA x.mn x.mc x.hA x.hn x.hc, barV r.bar.b r.bar.A r.bar.n r.bar.c, .slice r.A r.legs.length r.c] w fun e w' => e = .returned (.tuple #[.int .i64 (S.lowOf x r), .int .i64 (S.upOf x r), .int .i64 0]) /\ Below w.heap.size w w' := by
 obtain ⟨q, hq, hqe, _⟩ := idxf_some (xs := r.legs) (p := S.isMainB) (by rw [<- h.main]; exact h0)
 have hl6 := legs_len r.bar.b.code
 have hE : EndsAt w B x.mA x.mn x.hA x.hn x.m r.bar.A r.bar.n r.bar.b r.A r.legs.length r.legs := ⟨hA.sol, hA.bars.each _ h.mem, hleg, rfl, by have := h.len; omega, hA.name⟩
 have := aends_yes x.rule x.m x.mA x.mn x.mc x.hA x.hn x.hc r.bar.b r.bar.A r.bar.n r.bar.c r.A r.legs.length r.c r.legs B w hB hE (rod_given h hr hm h0) q hq hqe
 have e : r.main.toNat = q := by rw [h.main, hqe]; rfl
 unfold S.lowOf S.upOf S.legOf
 rw [e]
 exact this
theorem LegsAt.cells {w : World} {base : Nat} {v : Value} {r : Rod} (h : LegsAt w base v r) : Cells w w.heap.size r.A (r.legs.flatMap boxC) := by
 obtain ⟨g, cur, t, fr, h1, _, _, h4, h5⟩ := h
 exact .inr ⟨g, 0, h1, (Array.getElem?_eq_some_iff.1 h4).1, fun j v hv => by rw [Nat.zero_add, cell_of_row w g j cur t fr h4]; exact h5 j v hv⟩
theorem DtAt.wide {w : World} {B B' : Nat} {x : Dt} (h : DtAt w B x) (hB : B <= B') : DtAt w B' x :=
 ⟨⟨h.sol.len, h.sol.max, h.sol.len', h.sol.max', h.sol.cells.mono hB, h.sol.cells'.mono hB⟩, h.name, ⟨h.bars.len, h.bars.max, h.bars.cells.mono hB, fun r hr => (h.bars.each r hr).mono hB⟩, ⟨h.runs.len, h.runs.max, h.runs.cells.mono hB⟩, h.jlen, h.jmax, h.joints.mono hB⟩
theorem Blk.mid {w : World} {g : Nat} {t : TypeId} {cs : List Value} (h : Blk w g t cs.toArray) (o : Nat) (zs : List Value) (hz : (cs.drop o).take zs.length = zs) : w.rangeAt g o zs := fun j v hv => by
 rw [h.cell]
 rw [<- hz, List.getElem?_take] at hv
 split at hv
 ·simpa [List.getElem?_drop] using hv
 ·cases hv
theorem endLen_bd (x : Dt) (r : Rod) (hr : S.rule x.rule = true) (h : RodFit x r) (p : Pt) : 0 <= S.endLen x.rule x.m r.bar.b r.legs r.main.toNat p /\ S.endLen x.rule x.m r.bar.b r.legs r.main.toNat p <= 40000000000 := by
 have hs : 0 <= r.bar.b.size /\ r.bar.b.size <= 40 := by
  rcases size_cases (bar_size h.bar) with h | h | h | h | h | h | h | h | h <;> omega
 exact length_bd (rule_ok hr) hs.1 hs.2 _ _
def S.sizeI (rs : List Rod) (i : Int) : Int := match rs[i.toNat]? with | some r => r.bar.b.size | none => 0
def S.spanOf (x : Dt) (a b : Rod) : Int × Int × Bool :=
 if a.main < 0 then (0, 0, false) else if b.main < 0 then (0, 0, false) else
 if (S.legOf a).lo.x + S.lowOf x a < (S.legOf b).hi.x - S.upOf x b then ((S.legOf a).lo.x + S.lowOf x a, (S.legOf b).hi.x - S.upOf x b, true) else (0, 0, false)
structure SchOk (x : Dt) (rs : List Rod) (l : List Int) (c : SCh) : Prop where
 bars : c.l = l
 area : c.area = S.steelArea (S.sizeI rs (minBy (S.sizeI rs) l))
 span : ∃ a b, rs[(l.headD 0).toNat]? = some a /\ rs[(l.getLastD 0).toNat]? = some b /\ (c.lo, c.hi, c.is) = S.spanOf x a b
def GivesSup (x : Dt) (C : List (List Int)) (n : Nat) (w : World) (e : Ending) (w' : World) : Prop :=
 ∃ (A1 : Option Addr) (c1 : Nat) (rs : List Rod) (A2 : Option Addr) (c2 : Nat) (cs : List SCh), e = .returned (.tuple #[.slice A1 rs.length c1, .slice A2 cs.length c2, .int .i64 0]) /\ rs.length = n /\ (∀ (i : Nat) (hi : i < rs.length), RodOk x i rs[i]) /\ RodsAt w' w.heap.size (.slice A1 rs.length c1) rs /\
  w'.ownsRow w.heap.size 172 5 (.slice A2 cs.length c2) cs.length (cs.flatMap schC) /\ cs.length = C.length /\ (∀ (i : Nat) (hi : i < cs.length) (hj : i < C.length), SchOk x rs C[i] cs[i]) /\ (∀ c, c ∈ cs -> Cells w' w'.heap.size c.A (i64s c.l)) /\ Below w.heap.size w w'
theorem elemSch : Elem Tryz.prog 118 172 (.agg #[.slice none 0 0, .int .i64 0, .int .i64 0, .bool false, .int .i64 0]) 5 56 := ⟨Tryz.underlying118, by kernel_rfl, rfl, by decide⟩
end Go.Proofs.YtmfpbafpnoomeaaGreat
