/- Lemmas. -/
import Derived.Maps.OwnOps
import Derived.Maps.OwnSet
import Derived.BigRegion
import Derived.Test.YtmfpbafpnoomeaaGreatMF
import Derived.Test.YtmfpbafpnoomeaaGreatMD
set_option linter.unusedVariables false
set_option linter.unusedSimpArgs false
namespace Go.Proofs.YtmfpbafpnoomeaaGreat
namespace S
def axis (way : Nat) : Int := if way = 120 then 1 else if way = 88 then 1 else if way = 121 then 2 else if way = 89 then 2 else if way = 122 then 3 else 0
end S
theorem dimsOf_codes {c : Int} (h : S.dimsOf c ≠ 0) : c = 0 ∨ c = 11 ∨ c = 21 ∨ c = 26 ∨ c = 31 ∨ c = 41 ∨ c = 51 ∨ c = 98 := by
 unfold S.dimsOf at h
 repeat' (split at h <;> try omega)
theorem lst1 {α : Type} {l : List α} (h : l.length = 1) : ∃ a, l = [a] := by match l, h with | [a], _ => exact ⟨a, rfl⟩
theorem lst2 {α : Type} {l : List α} (h : l.length = 2) : ∃ a b, l = [a, b] := by match l, h with | [a, b], _ => exact ⟨a, b, rfl⟩
theorem lst3 {α : Type} {l : List α} (h : l.length = 3) : ∃ a b c, l = [a, b, c] := by match l, h with | [a, b, c], _ => exact ⟨a, b, c, rfl⟩
theorem lst5 {α : Type} {l : List α} (h : l.length = 5) : ∃ a b c d e, l = [a, b, c, d, e] := by match l, h with | [a, b, c, d, e], _ => exact ⟨a, b, c, d, e, rfl⟩
theorem bar_codes {b : Bar} (h : S.bar b = true) :
 (b.code = 0 /\ ∃ a, b.dims = [a] /\ 1 <= a /\ a <= 262144) ∨ (b.code = 11 /\ ∃ a c, b.dims = [a, c] /\ 1 <= a /\ 1 <= c /\ a + c <= 262144) ∨
 ((b.code = 21 ∨ b.code = 26 ∨ b.code = 31 ∨ b.code = 51 ∨ b.code = 98) /\ ∃ a c d, b.dims = [a, c, d] /\ 1 <= a /\ 1 <= c /\ 1 <= d /\ a + c + d <= 262144) ∨
 (b.code = 41 /\ ∃ a c d e f, b.dims = [a, c, d, e, f] /\ 1 <= a /\ 1 <= c /\ 1 <= d /\ 1 <= e /\ 1 <= f /\ a + c + d + e + f <= 262144) := by
 have hl := bar_head h
 have h0 : S.dimsOf b.code ≠ 0 := by
  intro h1
  simp [S.bar, S.barHead, h1] at h
 have hd : S.dimsOk b.dims = true := by simp only [S.bar, Bool.and_eq_true] at h; exact h.2
 obtain ⟨h1, h2⟩ := dimsOk_iff.1 hd
 rcases dimsOf_codes h0 with c | c | c | c | c | c | c | c
 ·rw [c, show S.dimsOf 0 = 1 from rfl] at hl
  obtain ⟨a, e⟩ := lst1 (show b.dims.length = 1 by omega)
  rw [e] at h1 h2
  have := h1 a (by simp)
  simp [S.sum] at h2
  exact .inl ⟨c, a, e, by omega, by omega⟩
 ·rw [c, show S.dimsOf 11 = 2 from rfl] at hl
  obtain ⟨a, a2, e⟩ := lst2 (show b.dims.length = 2 by omega)
  rw [e] at h1 h2
  have g1 := h1 a (by simp)
  have g2 := h1 a2 (by simp)
  simp [S.sum] at h2
  exact .inr (.inl ⟨c, a, a2, e, by omega, by omega, by omega⟩)
 case' inr.inr.inr.inr.inr.inl =>
  rw [c, show S.dimsOf 41 = 5 from rfl] at hl
  obtain ⟨a, a2, a3, a4, a5, e⟩ := lst5 (show b.dims.length = 5 by omega)
  rw [e] at h1 h2
  have g1 := h1 a (by simp)
  have g2 := h1 a2 (by simp)
  have g3 := h1 a3 (by simp)
  have g4 := h1 a4 (by simp)
  have g5 := h1 a5 (by simp)
  simp [S.sum] at h2
  exact .inr (.inr (.inr ⟨c, a, a2, a3, a4, a5, e, by omega, by omega, by omega, by omega, by omega, by omega⟩))
 all_goals
  have hl3 : S.dimsOf b.code = 3 := by rw [c]; rfl
  obtain ⟨a, a2, a3, e⟩ := lst3 (show b.dims.length = 3 by omega)
  rw [e] at h1 h2
  have g1 := h1 a (by simp)
  have g2 := h1 a2 (by simp)
  have g3 := h1 a3 (by simp)
  simp [S.sum] at h2
  exact .inr (.inr (.inl ⟨by omega, a, a2, a3, e, by omega, by omega, by omega, by omega⟩))
theorem legs_sum {b : Bar} (h : S.bar b = true) : S.sum (S.legLens b) <= 524288 /\ 1 <= (S.legsOf b.code).length := by
 rcases bar_codes h with ⟨c, a, e, h1, h2⟩ | ⟨c, a, a2, e, h1, h2, h3⟩ | ⟨c, a, a2, a3, e, h1, h2, h3, h4⟩ | ⟨c, a, a2, a3, a4, a5, e, h1, h2, h3, h4, h5, h6⟩
 ·simp [S.legLens, c, e, S.legsOf, S.sum]; omega
 ·simp [S.legLens, c, e, S.legsOf, S.sum]; omega
 ·rcases c with c | c | c | c | c <;> (simp [S.legLens, c, e, S.legsOf, S.sum]; omega)
 ·simp [S.legLens, c, e, S.legsOf, S.sum]; omega
theorem lens_pos {b : Bar} (h : S.bar b = true) : ∀ x, x ∈ S.legLens b -> 1 <= x := by
 intro x hx
 have hd : S.dimsOk b.dims = true := by simp only [S.bar, Bool.and_eq_true] at h; exact h.2
 have hl := bar_head h
 simp only [S.legLens, List.mem_map] at hx
 obtain ⟨l, hm, rfl⟩ := hx
 obtain ⟨j, hj, rfl⟩ := List.mem_iff_getElem.1 hm
 have h1 := legs_dim b.code hj
 have h2 : (S.legsOf b.code)[j].1 < b.dims.length := by omega
 rw [List.getD_eq_getElem?_getD, List.getElem?_eq_getElem h2]
 exact (dim_bd hd h2).1
end Go.Proofs.YtmfpbafpnoomeaaGreat
namespace Go.Proofs.YtmfpbafpnoomeaaGreat
open Go.RowKit
theorem BarAt.at_ {w w' : World} {B : Nat} {A : Option Addr} {n : Nat} {b : Bar} (h : BarAt w B A n b) (hB : B <= w.heap.size) (hb : Below w.heap.size w w') : BarAt w' B A n b := h.below (hb.mono hB)
theorem lens_get (b : Bar) (h : S.bar b = true) {k : Nat} (hk : k < (S.legsOf b.code).length) : ∃ n, (i64s (S.legLens b))[k]? = some (.int .i64 n) /\ (S.legLens b)[k]? = some n /\ 1 <= n /\ n <= 262144 /\ S.ptAt b (k + 1) = S.step (S.ptAt b k) (S.legsOf b.code)[k].2 n := by
 have hd : S.dimsOk b.dims = true := by simp only [S.bar, Bool.and_eq_true] at h; exact h.2
 have hl := bar_head h
 have h1 := legs_dim b.code hk
 have h2 : (S.legsOf b.code)[k].1 < b.dims.length := by omega
 have h3 := dim_bd hd h2
 have e : (S.legLens b)[k]? = some b.dims[(S.legsOf b.code)[k].1] := by
  simp [S.legLens, List.getElem?_eq_getElem hk, List.getD_eq_getElem?_getD, List.getElem?_eq_getElem h2]
 exact ⟨_, by simp [e], e, h3.1, h3.2, ptAt_succ b hk h2⟩
theorem Cells.pts {w : World} {B bb o : Nat} {l : List Pt} (h : Cells w B (some ⟨bb, o, none⟩) (l.flatMap ptC)) {k : Nat} {p : Pt} (hk : l[k]? = some p) :
 w.cell? ⟨bb, o + k * 3, none⟩ = some (.int .i64 p.x) /\ w.cell? ⟨bb, o + k * 3 + 1, none⟩ = some (.int .i64 p.y) /\ w.cell? ⟨bb, o + k * 3 + 2, none⟩ = some (.int .i64 p.z) := by
 obtain ⟨hk', rfl⟩ := List.getElem?_eq_some_iff.1 hk
 exact ⟨h.row0 ptC_len hk' rfl, h.rowj ptC_len hk' 1 rfl, h.rowj ptC_len hk' 2 rfl⟩
open Go.Maps (Keyed int_keyed keyOf_int_mk)
def Wf64 (k : Int) : Prop := -9223372036854775808 <= k /\ k <= 9223372036854775807
theorem Wf64.lit {k : Int} (h : Wf64 k) : (Lit.int .i64 k).wf = true := by
 have h1 := h.1
 have h2 := h.2
 simp [Lit.wf, IntKind.min, IntKind.max, IntKind.bits, IntKind.signed]
 omega
theorem keyInt : Keyed Tryz.prog 3 := int_keyed Tryz.underlying3
theorem keyLit {k : Int} (h : Wf64 k) : keyOf Tryz.prog 3 (.int .i64 k) = some (.int .i64 k) := keyOf_int_mk Tryz.underlying3 h.lit
theorem zeroBool (w : World) : (zeroValue 4).run Tryz.prog w = .ok (.bool false) w := by kernel_rfl
theorem zeroInt (w : World) : (zeroValue 3).run Tryz.prog w = .ok (.int .i64 0) w := by kernel_rfl
theorem plainElem_bool_inv {H : Type} {P : Program} {e : TypeId} (he : P.underlying e = some .bool) {v : Value} {z : DataW H × List MemPlace} (h : plainElem P e v = some z) : ∃ x, v = .bool x /\ z = (.lit (.bool x), []) := by
 unfold plainElem at h
 rw [he] at h
 cases v <;> simp at h
 exact ⟨_, rfl, h.symm⟩
def SetAt (w : World) (b n : Nat) (p : Int -> Bool) : Prop := ∃ D : DataW Unit, w.ownsMap Tryz.prog 3 (plainElem Tryz.prog 4) b n D /\ ∀ k, D.atKey (.int .i64 k) (.lit (.bool false)) = .lit (.bool (p k))
theorem SetAt.new (w : World) : SetAt (w.alloc (.map #[] 0)) w.heap.size 0 (fun _ => false) := ⟨.map [], World.ownsMap_made w _ _ _, fun k => rfl⟩
theorem SetAt.lt {w : World} {b n : Nat} {p : Int -> Bool} (h : SetAt w b n p) : b < w.heap.size := by obtain ⟨D, h1, _⟩ := h; exact h1.lt
theorem SetAt.kept {w w' : World} {b n : Nat} {p : Int -> Bool} (h : SetAt w b n p) (hb : w'.heap[b]? = w.heap[b]?) : SetAt w' b n p := by
 obtain ⟨D, ⟨es, clock, h1, h2⟩, h3⟩ := h
 exact ⟨D, ⟨es, clock, hb.trans h1, h2⟩, h3⟩
theorem SetAt.alloc {w : World} {b n : Nat} {p : Int -> Bool} (h : SetAt w b n p) (o : Obj) : SetAt (w.alloc o) b n p := h.kept (Below.heap_alloc w o b h.lt)
theorem SetAt.via {w w' : World} {b n : Nat} {p : Int -> Bool} (h : SetAt w b n p) (hb : Below w.heap.size w w') : SetAt w' b n p := h.kept (hb.block b h.lt)
theorem SetAt.look {w : World} {b n : Nat} {p : Int -> Bool} (h : SetAt w b n p) {k : Int} (hk : Wf64 k) : (Instr.lookup 192 (.map (some b)) (.int .i64 k) false).run Tryz.prog w = .ok (.bool (p k)) w := by
 obtain ⟨D, h1, h2⟩ := h
 obtain ⟨v, ps, hrun, hv⟩ := h1.lookup keyInt Tryz.underlying192 (zeroBool w) (plainElem_bool Tryz.underlying4 false) (keyLit hk)
 obtain ⟨x, rfl, hx⟩ := plainElem_bool_inv Tryz.underlying4 hv
 rw [h2 k] at hx
 simp only [Prod.mk.injEq, DataW.lit.injEq, Lit.bool.injEq] at hx
 rw [hrun, hx.1]
theorem SetAt.put {w : World} {b n : Nat} {p : Int -> Bool} (h : SetAt w b n p) (hn : n < maxLen) {k : Int} (hk : Wf64 k) :
 ∃ w', (Instr.mapUpdate 192 (.map (some b)) (.int .i64 k) (.bool true)).run Tryz.prog w = .ok () w' /\ SetAt w' b (n + 1) (fun j => j == k || p j) /\ w.grownBy w' (some b) := by
 obtain ⟨D, h1, h2⟩ := h
 obtain ⟨w', hrun, hown, hg⟩ := h1.update keyInt Tryz.underlying192 hn (keyLit hk) (plainElem_bool Tryz.underlying4 true)
 refine ⟨w', hrun, ⟨_, hown, fun j => ?_⟩, hg⟩
 by_cases hj : j = k
 ·subst hj
  rw [Maps.atKey_put_same h1.isMap (by simp [WideAt.IsKeyLit])]
  simp
 ·rw [Maps.atKey_put_other (by simpa using hj), h2 j]
  simp [hj]
def NextAt (w : World) (b n : Nat) (f : Int -> Option Int) : Prop := ∃ D : DataW Unit, w.ownsMap Tryz.prog 3 (plainElem Tryz.prog 3) b n D /\ ∀ k, Maps.has D (.int .i64 k) = (f k).isSome /\ D.atKey (.int .i64 k) (.lit (.int .i64 0)) = .lit (.int .i64 ((f k).getD 0))
theorem NextAt.new (w : World) : NextAt (w.alloc (.map #[] 0)) w.heap.size 0 (fun _ => none) := ⟨.map [], World.ownsMap_made w _ _ _, fun k => ⟨rfl, rfl⟩⟩
theorem NextAt.lt {w : World} {b n : Nat} {p : Int -> Option Int} (h : NextAt w b n p) : b < w.heap.size := by obtain ⟨D, h1, _⟩ := h; exact h1.lt
theorem NextAt.kept {w w' : World} {b n : Nat} {p : Int -> Option Int} (h : NextAt w b n p) (hb : w'.heap[b]? = w.heap[b]?) : NextAt w' b n p := by
 obtain ⟨D, ⟨es, clock, h1, h2⟩, h3⟩ := h
 exact ⟨D, ⟨es, clock, hb.trans h1, h2⟩, h3⟩
theorem NextAt.alloc {w : World} {b n : Nat} {p : Int -> Option Int} (h : NextAt w b n p) (o : Obj) : NextAt (w.alloc o) b n p := h.kept (Below.heap_alloc w o b h.lt)
theorem NextAt.via {w w' : World} {b n : Nat} {p : Int -> Option Int} (h : NextAt w b n p) (hb : Below w.heap.size w w') : NextAt w' b n p := h.kept (hb.block b h.lt)
theorem NextAt.look {w : World} {b n : Nat} {f : Int -> Option Int} (h : NextAt w b n f) {k : Int} (hk : Wf64 k) : (Instr.lookup 307 (.map (some b)) (.int .i64 k) true).run Tryz.prog w = .ok (.tuple #[.int .i64 ((f k).getD 0), .bool (f k).isSome]) w := by
 obtain ⟨D, h1, h2⟩ := h
 obtain ⟨v, ps, hrun, hv⟩ := h1.look_ok keyInt Tryz.underlying307 (zeroInt w) (plainElem_int Tryz.underlying3 (by decide)) (keyLit hk)
 obtain ⟨x, rfl, hx, _⟩ := plainElem_int_inv Tryz.underlying3 hv
 rw [(h2 k).2] at hx
 simp only [Prod.mk.injEq, DataW.lit.injEq, Lit.int.injEq, true_and] at hx
 rw [hrun, hx.1, (h2 k).1]
theorem NextAt.put {w : World} {b n : Nat} {f : Int -> Option Int} (h : NextAt w b n f) (hn : n < maxLen) {k v : Int} (hk : Wf64 k) (hv : Wf64 v) :
 ∃ w', (Instr.mapUpdate 307 (.map (some b)) (.int .i64 k) (.int .i64 v)).run Tryz.prog w = .ok () w' /\ NextAt w' b (n + 1) (fun j => if j = k then some v else f j) /\ w.grownBy w' (some b) := by
 obtain ⟨D, h1, h2⟩ := h
 obtain ⟨w', hrun, hown, hg⟩ := h1.update keyInt Tryz.underlying307 hn (keyLit hk) (plainElem_int Tryz.underlying3 hv.lit)
 refine ⟨w', hrun, ⟨_, hown, fun j => ?_⟩, hg⟩
 by_cases hj : j = k
 ·subst hj
  rw [Maps.atKey_put_same h1.isMap (by simp [WideAt.IsKeyLit]), Maps.has_put_same h1.isMap (by simp [WideAt.IsKeyLit])]
  simp
 ·rw [Maps.atKey_put_other (by simpa using hj), Maps.has_put_other (by simpa using hj), (h2 j).1, (h2 j).2]
  simp [hj]
def S.moves (b : Bar) : List Pt := (S.legsOf b.code).map fun l => S.step ⟨0, 0, 0⟩ l.2 (b.dims.getD l.1 0)
theorem moves_len (b : Bar) : (S.moves b).length = (S.legsOf b.code).length := by simp [S.moves]
def GivesPts (l : List Pt) (w : World) (e : Ending) (w' : World) : Prop :=
 ∃ A, e = .returned (.slice A l.length l.length) /\ Cells w' w'.heap.size A (l.flatMap ptC) /\ Below w.heap.size w w' /\ w.heap.size < w'.heap.size
set_option maxRecDepth 100000 in
set_option maxHeartbeats 2000000 in
theorem rmoves_0 (mk : ByteArray) (sz ct : Int) (d0 : Int) (A : Option Addr) (c : Nat) (B : Nat) (w : World) (hB : B <= w.heap.size) (hA : BarAt w B A 1 ⟨mk, sz, ct, 0, [d0]⟩) (hd : 1 <= d0 /\ d0 <= 262144) :
 Calls Tryz.prog 253 #[barV ⟨mk, sz, ct, 0, [d0]⟩ A 1 c] w (GivesPts (S.moves ⟨mk, sz, ct, 0, [d0]⟩) w) := by
 have hmv : S.moves ⟨mk, sz, ct, 0, [d0]⟩ = [⟨d0, 0, 0⟩] := by simp [S.moves, S.legsOf, S.step]
 obtain ⟨bd, od, rfl, hbd, hcd⟩ := hA.cells.at_ (by simp)
 have g0 := hcd 0 (.int .i64 d0) rfl
 simp only [Nat.add_zero] at g0
 rw [hmv]
 clear hcd hA hmv
 have hn0 : bd < w.heap.size := by omega
 unfold barV
 go_enter Tryz.func253, Tryz.ntmps253
 go_wp2
 go_ret
 refine ⟨some ⟨w.heap.size + 1, 0, none⟩, rfl, ?_, bel, by simp; omega⟩
 simpa using Cells.newRow (w.alloc (.cells #[.string mk, .int .i64 sz, .int .i64 ct, .int .i64 0, .slice (some ⟨bd, od, none⟩) 1 c] 138)) #[.int .i64 (d0), .int .i64 (0), .int .i64 (0)] 76 (0, 0)
set_option maxRecDepth 100000 in
set_option maxHeartbeats 2000000 in
theorem rmoves_11 (mk : ByteArray) (sz ct : Int) (d0 d1 : Int) (A : Option Addr) (c : Nat) (B : Nat) (w : World) (hB : B <= w.heap.size) (hA : BarAt w B A 2 ⟨mk, sz, ct, 11, [d0, d1]⟩) (hd : 1 <= d0 /\ d0 <= 262144 /\ 1 <= d1 /\ d1 <= 262144) :
 Calls Tryz.prog 253 #[barV ⟨mk, sz, ct, 11, [d0, d1]⟩ A 2 c] w (GivesPts (S.moves ⟨mk, sz, ct, 11, [d0, d1]⟩) w) := by
 have hmv : S.moves ⟨mk, sz, ct, 11, [d0, d1]⟩ = [⟨d0, 0, 0⟩, ⟨0, d1, 0⟩] := by simp [S.moves, S.legsOf, S.step]
 obtain ⟨bd, od, rfl, hbd, hcd⟩ := hA.cells.at_ (by simp)
 have g0 := hcd 0 (.int .i64 d0) rfl
 have g1 := hcd 1 (.int .i64 d1) rfl
 simp only [Nat.add_zero] at g0
 rw [hmv]
 clear hcd hA hmv
 have hn0 : bd < w.heap.size := by omega
 unfold barV
 go_enter Tryz.func253, Tryz.ntmps253
 go_wp2
 refine wp_region_grow_tail 8 (by kernel_rfl) (by kernel_rfl) ?_
 simp only [gt1, gt2, gt3, gt4]
 repeat (go_big_quiet_step (fail))
 all_goals (refine wpQuiet_nil ?_; intro wg hbwg; obtain ⟨hcwg, hfwg⟩ := bcell hbwg; have hzwg_0 : w.heap.size < wg.heap.size := lt_via hbwg (by first | omega | (simp; done) | (simp; omega)))
 go_wp2
 go_ret
 refine ⟨some ⟨wg.heap.size, 0, none⟩, rfl, ?_, bel, by simp; omega⟩
 simpa using Cells.newRow wg #[.int .i64 (d0), .int .i64 (0), .int .i64 (0), .int .i64 (0), .int .i64 (d1), .int .i64 (0)] 76 (0, 0)
set_option maxRecDepth 100000 in
set_option maxHeartbeats 2000000 in
theorem rmoves_21 (mk : ByteArray) (sz ct : Int) (d0 d1 d2 : Int) (A : Option Addr) (c : Nat) (B : Nat) (w : World) (hB : B <= w.heap.size) (hA : BarAt w B A 3 ⟨mk, sz, ct, 21, [d0, d1, d2]⟩) (hd : 1 <= d0 /\ d0 <= 262144 /\ 1 <= d1 /\ d1 <= 262144 /\ 1 <= d2 /\ d2 <= 262144) :
 Calls Tryz.prog 253 #[barV ⟨mk, sz, ct, 21, [d0, d1, d2]⟩ A 3 c] w (GivesPts (S.moves ⟨mk, sz, ct, 21, [d0, d1, d2]⟩) w) := by
 have hmv : S.moves ⟨mk, sz, ct, 21, [d0, d1, d2]⟩ = [⟨0, -d0, 0⟩, ⟨d1, 0, 0⟩, ⟨0, d2, 0⟩] := by simp [S.moves, S.legsOf, S.step]
 obtain ⟨bd, od, rfl, hbd, hcd⟩ := hA.cells.at_ (by simp)
 have g0 := hcd 0 (.int .i64 d0) rfl
 have g1 := hcd 1 (.int .i64 d1) rfl
 have g2 := hcd 2 (.int .i64 d2) rfl
 simp only [Nat.add_zero] at g0
 rw [hmv]
 clear hcd hA hmv
 have hn0 : bd < w.heap.size := by omega
 have hw0 : IntKind.i64.wrap (-d0) = -d0 := IntWalk.i64_in _ (by omega)
 unfold barV
 go_enter Tryz.func253, Tryz.ntmps253
 go_wp2
 refine wp_region_grow_tail 13 (by kernel_rfl) (by kernel_rfl) ?_
 simp only [gt1, gt2, gt3, gt4]
 repeat (go_big_quiet_step (fail))
 all_goals (refine wpQuiet_nil ?_; intro wg hbwg; obtain ⟨hcwg, hfwg⟩ := bcell hbwg; have hzwg_0 : w.heap.size < wg.heap.size := lt_via hbwg (by first | omega | (simp; done) | (simp; omega)))
 go_wp2
 go_ret
 refine ⟨some ⟨wg.heap.size, 0, none⟩, rfl, ?_, bel, by simp; omega⟩
 simpa using Cells.newRow wg #[.int .i64 (0), .int .i64 (-d0), .int .i64 (0), .int .i64 (d1), .int .i64 (0), .int .i64 (0), .int .i64 (0), .int .i64 (d2), .int .i64 (0)] 76 (0, 0)
set_option maxRecDepth 100000 in
set_option maxHeartbeats 2000000 in
theorem rmoves_26 (mk : ByteArray) (sz ct : Int) (d0 d1 d2 : Int) (A : Option Addr) (c : Nat) (B : Nat) (w : World) (hB : B <= w.heap.size) (hA : BarAt w B A 3 ⟨mk, sz, ct, 26, [d0, d1, d2]⟩) (hd : 1 <= d0 /\ d0 <= 262144 /\ 1 <= d1 /\ d1 <= 262144 /\ 1 <= d2 /\ d2 <= 262144) :
 Calls Tryz.prog 253 #[barV ⟨mk, sz, ct, 26, [d0, d1, d2]⟩ A 3 c] w (GivesPts (S.moves ⟨mk, sz, ct, 26, [d0, d1, d2]⟩) w) := by
 have hmv : S.moves ⟨mk, sz, ct, 26, [d0, d1, d2]⟩ = [⟨d0, 0, 0⟩, ⟨0, d1, 0⟩, ⟨d2, 0, 0⟩] := by simp [S.moves, S.legsOf, S.step]
 obtain ⟨bd, od, rfl, hbd, hcd⟩ := hA.cells.at_ (by simp)
 have g0 := hcd 0 (.int .i64 d0) rfl
 have g1 := hcd 1 (.int .i64 d1) rfl
 have g2 := hcd 2 (.int .i64 d2) rfl
 simp only [Nat.add_zero] at g0
 rw [hmv]
 clear hcd hA hmv
 have hn0 : bd < w.heap.size := by omega
 unfold barV
 go_enter Tryz.func253, Tryz.ntmps253
 go_wp2
 refine wp_region_grow_tail 12 (by kernel_rfl) (by kernel_rfl) ?_
 simp only [gt1, gt2, gt3, gt4]
 repeat (go_big_quiet_step (fail))
 all_goals (refine wpQuiet_nil ?_; intro wg hbwg; obtain ⟨hcwg, hfwg⟩ := bcell hbwg; have hzwg_0 : w.heap.size < wg.heap.size := lt_via hbwg (by first | omega | (simp; done) | (simp; omega)))
 go_wp2
 go_ret
 refine ⟨some ⟨wg.heap.size, 0, none⟩, rfl, ?_, bel, by simp; omega⟩
 simpa using Cells.newRow wg #[.int .i64 (d0), .int .i64 (0), .int .i64 (0), .int .i64 (0), .int .i64 (d1), .int .i64 (0), .int .i64 (d2), .int .i64 (0), .int .i64 (0)] 76 (0, 0)
set_option maxRecDepth 100000 in
set_option maxHeartbeats 2000000 in
theorem rmoves_31 (mk : ByteArray) (sz ct : Int) (d0 d1 d2 : Int) (A : Option Addr) (c : Nat) (B : Nat) (w : World) (hB : B <= w.heap.size) (hA : BarAt w B A 3 ⟨mk, sz, ct, 31, [d0, d1, d2]⟩) (hd : 1 <= d0 /\ d0 <= 262144 /\ 1 <= d1 /\ d1 <= 262144 /\ 1 <= d2 /\ d2 <= 262144) :
 Calls Tryz.prog 253 #[barV ⟨mk, sz, ct, 31, [d0, d1, d2]⟩ A 3 c] w (GivesPts (S.moves ⟨mk, sz, ct, 31, [d0, d1, d2]⟩) w) := by
 have hmv : S.moves ⟨mk, sz, ct, 31, [d0, d1, d2]⟩ = [⟨d0, 0, 0⟩, ⟨0, d1, 0⟩, ⟨0, 0, d2⟩] := by simp [S.moves, S.legsOf, S.step]
 obtain ⟨bd, od, rfl, hbd, hcd⟩ := hA.cells.at_ (by simp)
 have g0 := hcd 0 (.int .i64 d0) rfl
 have g1 := hcd 1 (.int .i64 d1) rfl
 have g2 := hcd 2 (.int .i64 d2) rfl
 simp only [Nat.add_zero] at g0
 rw [hmv]
 clear hcd hA hmv
 have hn0 : bd < w.heap.size := by omega
 unfold barV
 go_enter Tryz.func253, Tryz.ntmps253
 go_wp2
 refine wp_region_grow_tail 12 (by kernel_rfl) (by kernel_rfl) ?_
 simp only [gt1, gt2, gt3, gt4]
 repeat (go_big_quiet_step (fail))
 all_goals (refine wpQuiet_nil ?_; intro wg hbwg; obtain ⟨hcwg, hfwg⟩ := bcell hbwg; have hzwg_0 : w.heap.size < wg.heap.size := lt_via hbwg (by first | omega | (simp; done) | (simp; omega)))
 go_wp2
 go_ret
 refine ⟨some ⟨wg.heap.size, 0, none⟩, rfl, ?_, bel, by simp; omega⟩
 simpa using Cells.newRow wg #[.int .i64 (d0), .int .i64 (0), .int .i64 (0), .int .i64 (0), .int .i64 (d1), .int .i64 (0), .int .i64 (0), .int .i64 (0), .int .i64 (d2)] 76 (0, 0)
set_option maxRecDepth 100000 in
set_option maxHeartbeats 2000000 in
theorem rmoves_41 (mk : ByteArray) (sz ct : Int) (d0 d1 d2 d3 d4 : Int) (A : Option Addr) (c : Nat) (B : Nat) (w : World) (hB : B <= w.heap.size) (hA : BarAt w B A 5 ⟨mk, sz, ct, 41, [d0, d1, d2, d3, d4]⟩) (hd : 1 <= d0 /\ d0 <= 262144 /\ 1 <= d1 /\ d1 <= 262144 /\ 1 <= d2 /\ d2 <= 262144 /\ 1 <= d3 /\ d3 <= 262144 /\ 1 <= d4 /\ d4 <= 262144) :
 Calls Tryz.prog 253 #[barV ⟨mk, sz, ct, 41, [d0, d1, d2, d3, d4]⟩ A 5 c] w (GivesPts (S.moves ⟨mk, sz, ct, 41, [d0, d1, d2, d3, d4]⟩) w) := by
 have hmv : S.moves ⟨mk, sz, ct, 41, [d0, d1, d2, d3, d4]⟩ = [⟨d0, 0, 0⟩, ⟨0, d1, 0⟩, ⟨d2, 0, 0⟩, ⟨0, -d3, 0⟩, ⟨d4, 0, 0⟩] := by simp [S.moves, S.legsOf, S.step]
 obtain ⟨bd, od, rfl, hbd, hcd⟩ := hA.cells.at_ (by simp)
 have g0 := hcd 0 (.int .i64 d0) rfl
 have g1 := hcd 1 (.int .i64 d1) rfl
 have g2 := hcd 2 (.int .i64 d2) rfl
 have g3 := hcd 3 (.int .i64 d3) rfl
 have g4 := hcd 4 (.int .i64 d4) rfl
 simp only [Nat.add_zero] at g0
 rw [hmv]
 clear hcd hA hmv
 have hn0 : bd < w.heap.size := by omega
 have hw0 : IntKind.i64.wrap (-d3) = -d3 := IntWalk.i64_in _ (by omega)
 unfold barV
 go_enter Tryz.func253, Tryz.ntmps253
 go_wp2
 refine wp_region_grow_tail 21 (by kernel_rfl) (by kernel_rfl) ?_
 simp only [gt1, gt2, gt3, gt4]
 repeat (go_big_quiet_step (fail))
 all_goals (refine wpQuiet_nil ?_; intro wg hbwg; obtain ⟨hcwg, hfwg⟩ := bcell hbwg; have hzwg_0 : w.heap.size < wg.heap.size := lt_via hbwg (by first | omega | (simp; done) | (simp; omega)))
 go_wp2
 go_ret
 refine ⟨some ⟨wg.heap.size, 0, none⟩, rfl, ?_, bel, by simp; omega⟩
 simpa using Cells.newRow wg #[.int .i64 (d0), .int .i64 (0), .int .i64 (0), .int .i64 (0), .int .i64 (d1), .int .i64 (0), .int .i64 (d2), .int .i64 (0), .int .i64 (0), .int .i64 (0), .int .i64 (-d3), .int .i64 (0), .int .i64 (d4), .int .i64 (0), .int .i64 (0)] 76 (0, 0)
set_option maxRecDepth 100000 in
set_option maxHeartbeats 2000000 in
theorem rmoves_51 (mk : ByteArray) (sz ct : Int) (d0 d1 d2 : Int) (A : Option Addr) (c : Nat) (B : Nat) (w : World) (hB : B <= w.heap.size) (hA : BarAt w B A 3 ⟨mk, sz, ct, 51, [d0, d1, d2]⟩) (hd : 1 <= d0 /\ d0 <= 262144 /\ 1 <= d1 /\ d1 <= 262144 /\ 1 <= d2 /\ d2 <= 262144) :
 Calls Tryz.prog 253 #[barV ⟨mk, sz, ct, 51, [d0, d1, d2]⟩ A 3 c] w (GivesPts (S.moves ⟨mk, sz, ct, 51, [d0, d1, d2]⟩) w) := by
 have hmv : S.moves ⟨mk, sz, ct, 51, [d0, d1, d2]⟩ = [⟨0, -d2, 0⟩, ⟨d0, 0, 0⟩, ⟨0, d1, 0⟩, ⟨-d0, 0, 0⟩, ⟨0, -d1, 0⟩, ⟨d2, 0, 0⟩] := by simp [S.moves, S.legsOf, S.step]
 obtain ⟨bd, od, rfl, hbd, hcd⟩ := hA.cells.at_ (by simp)
 have g0 := hcd 0 (.int .i64 d0) rfl
 have g1 := hcd 1 (.int .i64 d1) rfl
 have g2 := hcd 2 (.int .i64 d2) rfl
 simp only [Nat.add_zero] at g0
 rw [hmv]
 clear hcd hA hmv
 have hn0 : bd < w.heap.size := by omega
 have hw0 : IntKind.i64.wrap (-d2) = -d2 := IntWalk.i64_in _ (by omega)
 have hw1 : IntKind.i64.wrap (-d0) = -d0 := IntWalk.i64_in _ (by omega)
 have hw2 : IntKind.i64.wrap (-d1) = -d1 := IntWalk.i64_in _ (by omega)
 unfold barV
 go_enter Tryz.func253, Tryz.ntmps253
 go_wp2
 refine wp_region_grow_tail 27 (by kernel_rfl) (by kernel_rfl) ?_
 simp only [gt1, gt2, gt3, gt4]
 repeat (go_big_quiet_step (fail))
 all_goals (refine wpQuiet_nil ?_; intro wg hbwg; obtain ⟨hcwg, hfwg⟩ := bcell hbwg; have hzwg_0 : w.heap.size < wg.heap.size := lt_via hbwg (by first | omega | (simp; done) | (simp; omega)))
 go_wp2
 go_ret
 refine ⟨some ⟨wg.heap.size, 0, none⟩, rfl, ?_, bel, by simp; omega⟩
 simpa using Cells.newRow wg #[.int .i64 (0), .int .i64 (-d2), .int .i64 (0), .int .i64 (d0), .int .i64 (0), .int .i64 (0), .int .i64 (0), .int .i64 (d1), .int .i64 (0), .int .i64 (-d0), .int .i64 (0), .int .i64 (0), .int .i64 (0), .int .i64 (-d1), .int .i64 (0), .int .i64 (d2), .int .i64 (0), .int .i64 (0)] 76 (0, 0)
set_option maxRecDepth 100000 in
set_option maxHeartbeats 2000000 in
theorem rmoves_98 (mk : ByteArray) (sz ct : Int) (d0 d1 d2 : Int) (A : Option Addr) (c : Nat) (B : Nat) (w : World) (hB : B <= w.heap.size) (hA : BarAt w B A 3 ⟨mk, sz, ct, 98, [d0, d1, d2]⟩) (hd : 1 <= d0 /\ d0 <= 262144 /\ 1 <= d1 /\ d1 <= 262144 /\ 1 <= d2 /\ d2 <= 262144) :
 Calls Tryz.prog 253 #[barV ⟨mk, sz, ct, 98, [d0, d1, d2]⟩ A 3 c] w (GivesPts (S.moves ⟨mk, sz, ct, 98, [d0, d1, d2]⟩) w) := by
 have hmv : S.moves ⟨mk, sz, ct, 98, [d0, d1, d2]⟩ = [⟨0, 0, d0⟩, ⟨0, -d1, 0⟩, ⟨d2, 0, 0⟩, ⟨0, d1, 0⟩, ⟨0, 0, d0⟩] := by simp [S.moves, S.legsOf, S.step]
 obtain ⟨bd, od, rfl, hbd, hcd⟩ := hA.cells.at_ (by simp)
 have g0 := hcd 0 (.int .i64 d0) rfl
 have g1 := hcd 1 (.int .i64 d1) rfl
 have g2 := hcd 2 (.int .i64 d2) rfl
 simp only [Nat.add_zero] at g0
 rw [hmv]
 clear hcd hA hmv
 have hn0 : bd < w.heap.size := by omega
 have hw0 : IntKind.i64.wrap (-d1) = -d1 := IntWalk.i64_in _ (by omega)
 unfold barV
 go_enter Tryz.func253, Tryz.ntmps253
 go_wp2
 refine wp_region_grow_tail 21 (by kernel_rfl) (by kernel_rfl) ?_
 simp only [gt1, gt2, gt3, gt4]
 repeat (go_big_quiet_step (fail))
 all_goals (refine wpQuiet_nil ?_; intro wg hbwg; obtain ⟨hcwg, hfwg⟩ := bcell hbwg; have hzwg_0 : w.heap.size < wg.heap.size := lt_via hbwg (by first | omega | (simp; done) | (simp; omega)))
 go_wp2
 go_ret
 refine ⟨some ⟨wg.heap.size, 0, none⟩, rfl, ?_, bel, by simp; omega⟩
 simpa using Cells.newRow wg #[.int .i64 (0), .int .i64 (0), .int .i64 (d0), .int .i64 (0), .int .i64 (-d1), .int .i64 (0), .int .i64 (d2), .int .i64 (0), .int .i64 (0), .int .i64 (0), .int .i64 (d1), .int .i64 (0), .int .i64 (0), .int .i64 (0), .int .i64 (d0)] 76 (0, 0)
theorem rmoves_any (b : Bar) (A : Option Addr) (n c : Nat) (B : Nat) (w : World) (hB : B <= w.heap.size) (hA : BarAt w B A n b) (h : S.bar b = true) :
 Calls Tryz.prog 253 #[barV b A n c] w (GivesPts (S.moves b) w) := by
 obtain rfl := hA.len
 obtain ⟨mk, sz, ct, cd, ds⟩ := b
 rcases bar_codes h with ⟨hc, a, e, h1, h2⟩ | ⟨hc, a, a2, e, h1, h2, h3⟩ | ⟨hc, a, a2, a3, e, h1, h2, h3, h4⟩ | ⟨hc, a, a2, a3, a4, a5, e, h1, h2, h3, h4, h5, h6⟩
 ·simp only [] at hc e
  subst hc e
  exact rmoves_0 mk sz ct a A c B w hB hA (by omega)
 ·simp only [] at hc e
  subst hc e
  exact rmoves_11 mk sz ct a a2 A c B w hB hA (by omega)
 ·simp only [] at hc e
  rcases hc with hc | hc | hc | hc | hc <;> subst hc e
  ·exact rmoves_21 mk sz ct a a2 a3 A c B w hB hA (by omega)
  ·exact rmoves_26 mk sz ct a a2 a3 A c B w hB hA (by omega)
  ·exact rmoves_31 mk sz ct a a2 a3 A c B w hB hA (by omega)
  ·exact rmoves_51 mk sz ct a a2 a3 A c B w hB hA (by omega)
  ·exact rmoves_98 mk sz ct a a2 a3 A c B w hB hA (by omega)
 ·simp only [] at hc e
  subst hc e
  exact rmoves_41 mk sz ct a a2 a3 a4 a5 A c B w hB hA (by omega)
def S.abs (n : Int) : Int := if n < 0 then 0 - n else n
def S.ptBox (p : Pt) : Bx := ⟨p, p⟩
theorem join_self (p : Pt) : S.join (S.ptBox p) (S.ptBox p) = S.ptBox p := by simp [S.join, S.ptBox]
theorem hull_one (p : Pt) : S.hull (S.ptBox p) [S.ptBox p] = S.ptBox p := join_self p
set_option maxRecDepth 100000 in
set_option maxHeartbeats 2000000 in
theorem rhull_any (A : Option Addr) (n c : Nat) (ps : List Pt) (p0 : Pt) (B : Nat) (w : World) (hn : ps.length = n) (hm : n <= 1000000) (hB : B <= w.heap.size) (hs : Cells w B A (ps.flatMap ptC)) (h0 : ps[0]? = some p0) :
 Calls Tryz.prog 194 #[.slice A n c] w fun e w' => e = .returned (boxV (S.hull (S.ptBox p0) (ps.map S.ptBox))) /\ Below w.heap.size w w' := by
 have hn0 : 0 < n := by have := (List.getElem?_eq_some_iff.1 h0).1; omega
 have hni : (0 : Int) < (n : Int) := by omega
 have HN := lh hn
 have HS := lh hs
 have hh1 : (ps.map S.ptBox).take 1 = [S.ptBox p0] := by
  obtain ⟨x, l, rfl⟩ : ∃ x l, ps = x :: l := by cases ps with
   | nil => simp at h0
   | cons x l => exact ⟨x, l, rfl⟩
  simp at h0
  subst h0
  simp
 have HH1 := lh hh1
 obtain ⟨b, o, rfl, hb, _⟩ := hs.at_ (by rw [flat_len ptC 3 ptC_len]; omega)
 obtain ⟨c0, c1, c2⟩ := hs.pts h0
 simp only [Nat.zero_mul, Nat.add_zero] at c0 c1 c2
 have hbw : b < w.heap.size := by omega
 clear hn hs h0 hh1
 go_enter Tryz.func194, Tryz.ntmps194
 go_wp2
 go_region
 go_wp2
 have hW : Below w.heap.size w ((w.alloc (.cells #[.int .i64 0, .int .i64 0, .int .i64 0, .int .i64 0, .int .i64 0, .int .i64 0] 78)).alloc (.cells #[.int .i64 p0.x, .int .i64 p0.y, .int .i64 p0.z, .int .i64 p0.x, .int .i64 p0.y, .int .i64 p0.z] 78)).drew := bel
 have hK0 : Blk ((w.alloc (.cells #[.int .i64 0, .int .i64 0, .int .i64 0, .int .i64 0, .int .i64 0, .int .i64 0] 78)).alloc (.cells #[.int .i64 p0.x, .int .i64 p0.y, .int .i64 p0.z, .int .i64 p0.x, .int .i64 p0.y, .int .i64 p0.z] 78)).drew (w.heap.size + 1) 78 #[.int .i64 p0.x, .int .i64 p0.y, .int .i64 p0.z, .int .i64 p0.x, .int .i64 p0.y, .int .i64 p0.z] := by
  have h6 : Blk ((w.alloc (.cells #[.int .i64 0, .int .i64 0, .int .i64 0, .int .i64 0, .int .i64 0, .int .i64 0] 78)).alloc (.cells #[.int .i64 p0.x, .int .i64 p0.y, .int .i64 p0.z, .int .i64 p0.x, .int .i64 p0.y, .int .i64 p0.z] 78)) (w.heap.size + 1) 78 #[.int .i64 p0.x, .int .i64 p0.y, .int .i64 p0.z, .int .i64 p0.x, .int .i64 p0.y, .int .i64 p0.z] := by simpa using Blk.new (w.alloc (.cells #[.int .i64 0, .int .i64 0, .int .i64 0, .int .i64 0, .int .i64 0, .int .i64 0] 78)) 78 #[.int .i64 p0.x, .int .i64 p0.y, .int .i64 p0.z, .int .i64 p0.x, .int .i64 p0.y, .int .i64 p0.z]
  exact h6
 have hR0 : Blk ((w.alloc (.cells #[.int .i64 0, .int .i64 0, .int .i64 0, .int .i64 0, .int .i64 0, .int .i64 0] 78)).alloc (.cells #[.int .i64 p0.x, .int .i64 p0.y, .int .i64 p0.z, .int .i64 p0.x, .int .i64 p0.y, .int .i64 p0.z] 78)).drew w.heap.size 78 #[.int .i64 0, .int .i64 0, .int .i64 0, .int .i64 0, .int .i64 0, .int .i64 0] := (Blk.new w _ _).alloc _
 have hC1 := HS.out.below (hW.mono hB)
 have hzW : ((w.alloc (.cells #[.int .i64 0, .int .i64 0, .int .i64 0, .int .i64 0, .int .i64 0, .int .i64 0] 78)).alloc (.cells #[.int .i64 p0.x, .int .i64 p0.y, .int .i64 p0.z, .int .i64 p0.x, .int .i64 p0.y, .int .i64 p0.z] 78)).drew.heap.size = w.heap.size + 2 := by simp
 have HR0 := lh hR0
 clear c0 c1 c2 hR0
 generalize ((w.alloc (.cells #[.int .i64 0, .int .i64 0, .int .i64 0, .int .i64 0, .int .i64 0, .int .i64 0] 78)).alloc (.cells #[.int .i64 p0.x, .int .i64 p0.y, .int .i64 p0.z, .int .i64 p0.x, .int .i64 p0.y, .int .i64 p0.z] 78)).drew = W1 at *
 go_loopw [4] (fun i wr => ∃ k : Nat, 1 <= k /\ k <= n /\ i = .int .i64 k /\ Blk wr (w.heap.size + 1) 78 #[.int .i64 (S.hull (S.ptBox p0) ((ps.map S.ptBox).take k)).lo.x, .int .i64 (S.hull (S.ptBox p0) ((ps.map S.ptBox).take k)).lo.y, .int .i64 (S.hull (S.ptBox p0) ((ps.map S.ptBox).take k)).lo.z, .int .i64 (S.hull (S.ptBox p0) ((ps.map S.ptBox).take k)).hi.x, .int .i64 (S.hull (S.ptBox p0) ((ps.map S.ptBox).take k)).hi.y, .int .i64 (S.hull (S.ptBox p0) ((ps.map S.ptBox).take k)).hi.z] /\ Exc [w.heap.size + 1] W1 wr) (fun i _ => n - (intOf i).toNat)
 case atStart => exact ⟨1, Nat.le_refl _, by omega, rfl, by rw [HH1.out, hull_one]; exact hK0, Exc.refl _ _⟩
 case round =>
  obtain ⟨k, hk1, hk, rfl, hK, hX⟩ := hrel
  have hsz := hX.size
  have hgr := hK.lt
  have k0 := hK.cell 0
  have k1 := hK.cell 1
  have k2 := hK.cell 2
  have k3 := hK.cell 3
  have k4 := hK.cell 4
  have k5 := hK.cell 5
  have f0 := hK.frozen 0
  have f1 := hK.frozen 1
  have f2 := hK.frozen 2
  have f3 := hK.frozen 3
  have f4 := hK.frozen 4
  have f5 := hK.frozen 5
  simp only [ga1, ga2, ga3] at k0 k1 k2 k3 k4 k5
  by_cases hlt : k < n
  ·have hkx : k < ps.length := by have := HN.out; omega
   obtain ⟨c0, c1, c2⟩ := (hC1.below (hX.below (by have := hW.size; omega) (by intro x hx; simp at hx; omega))).pts (List.getElem?_eq_getElem hkx)
   have HT := lh (show S.hull (S.ptBox p0) ((ps.map S.ptBox).take (k + 1)) = S.join (S.hull (S.ptBox p0) ((ps.map S.ptBox).take k)) (S.ptBox ps[k]) by rw [List.take_succ_eq_append_getElem (by simpa using hkx), hull_snoc, List.getElem_map])
   have hbr : b < wr.heap.size := by omega
   generalize (S.hull (S.ptBox p0) ((ps.map S.ptBox).take k)) = Hk at *
   generalize ps[k] = Y at *
   have hki : (k : Int) < (n : Int) := by omega
   go_wp2
   go_roundw
   case rel =>
    refine ⟨k + 1, by omega, by omega, by go_num, ?_, ?_⟩
    ·rw [HT.out]
     have h6 := ((((((hK.set 0 (.int .i64 (S.join Hk (S.ptBox Y)).lo.x)).set 1 (.int .i64 (S.join Hk (S.ptBox Y)).lo.y)).set 2 (.int .i64 (S.join Hk (S.ptBox Y)).lo.z)).set 3 (.int .i64 (S.join Hk (S.ptBox Y)).hi.x)).set 4 (.int .i64 (S.join Hk (S.ptBox Y)).hi.y)).set 5 (.int .i64 (S.join Hk (S.ptBox Y)).hi.z)).alloc (.cells #[.int .i64 Y.x, .int .i64 Y.y, .int .i64 Y.z] 76)
     simp only [List.setIfInBounds_toArray, List.set_cons_zero, List.set_cons_succ] at h6
     exact h6
    ·exact ((((((hX.set (.inl (by simp)) _).set (.inl (by simp)) _).set (.inl (by simp)) _).set (.inl (by simp)) _).set (.inl (by simp)) _).set (.inl (by simp)) _).alloc _
   case measure => simp [intOf]; omega
  ·have he : k = n := by omega
   subst he
   have ht : (ps.map S.ptBox).take k = ps.map S.ptBox := List.take_of_length_le (by have := HN.out; simp; omega)
   rw [ht] at k0 k1 k2 k3 k4 k5
   have hRr : Blk wr w.heap.size 78 #[.int .i64 0, .int .i64 0, .int .i64 0, .int .i64 0, .int .i64 0, .int .i64 0] := (hX.block w.heap.size (by omega) (by simp)).trans HR0.out
   have z0 := hRr.cell 0
   have z1 := hRr.cell 1
   have z2 := hRr.cell 2
   have z3 := hRr.cell 3
   have z4 := hRr.cell 4
   have z5 := hRr.cell 5
   have y0 := hRr.frozen 0
   have y1 := hRr.frozen 1
   have y2 := hRr.frozen 2
   have y3 := hRr.frozen 3
   have y4 := hRr.frozen 4
   have y5 := hRr.frozen 5
   simp only [ga1, ga2, ga3] at z0 z1 z2 z3 z4 z5
   have hrl := hRr.lt
   have hbel : Below w.heap.size w wr := hW.trans (hX.below (by omega) (by intro x hx; simp at hx; omega))
   clear hRr
   generalize hH : S.hull (S.ptBox p0) (ps.map S.ptBox) = Hk at *
   have HH := lh hH
   clear hH
   go_wp2
   exact bodyPost_ret (v := boxV Hk) (by simp [results, Tryz.results194, go_sem, *]) rfl ⟨by rw [HH.out], ((((((hbel.setCell (Nat.le_refl _) _).setCell (Nat.le_refl _) _).setCell (Nat.le_refl _) _).setCell (Nat.le_refl _) _).setCell (Nat.le_refl _) _).setCell (Nat.le_refl _) _)⟩
end Go.Proofs.YtmfpbafpnoomeaaGreat
