/- Maps of the call's own: sets of ints (map[int]bool), and map[int]int: look-ups and stores as equations. -/
import Derived.Maps.OwnOps
import Derived.Maps.OwnSet
import Derived.Test.YtnjflafaflalfaaRP
import Derived.Test.YtnjflafaflalfaaRF
set_option linter.unusedVariables false
set_option linter.unusedSimpArgs false
namespace Go.Proofs.Ytnjflafaflalfaa
open Go.RowKit
open Go.Maps (Keyed int_keyed keyOf_int_mk)
def Wf64 (k : Int) : Prop := -9223372036854775808 ≤ k ∧ k ≤ 9223372036854775807
theorem Wf64.lit {k : Int} (h : Wf64 k) : (Lit.int .i64 k).wf = true := by
  have h1 := h.1
  have h2 := h.2
  simp [Lit.wf, IntKind.min, IntKind.max, IntKind.bits, IntKind.signed]
  omega
theorem keyInt : Keyed Try.prog 3 := int_keyed Try.underlying3
theorem keyLit {k : Int} (h : Wf64 k) : keyOf Try.prog 3 (.int .i64 k) = some (.int .i64 k) := keyOf_int_mk Try.underlying3 h.lit
theorem zeroBool (w : World) : (zeroValue 4).run Try.prog w = .ok (.bool false) w := by kernel_rfl
theorem zeroInt (w : World) : (zeroValue 3).run Try.prog w = .ok (.int .i64 0) w := by kernel_rfl
theorem plainElem_bool_inv {H : Type} {P : Program} {e : TypeId} (he : P.underlying e = some .bool) {v : Value} {z : DataW H × List MemPlace} (h : plainElem P e v = some z) : ∃ x, v = .bool x ∧ z = (.lit (.bool x), []) := by
  unfold plainElem at h
  rw [he] at h
  cases v <;> simp at h
  exact ⟨_, rfl, h.symm⟩
def SetAt (w : World) (b n : Nat) (p : Int → Bool) : Prop := ∃ D : DataW Unit, w.ownsMap Try.prog 3 (plainElem Try.prog 4) b n D ∧ ∀ k, D.atKey (.int .i64 k) (.lit (.bool false)) = .lit (.bool (p k))
theorem SetAt.new (w : World) : SetAt (w.alloc (.map #[] 0)) w.heap.size 0 (fun _ => false) := ⟨.map [], World.ownsMap_made w _ _ _, fun k => rfl⟩
theorem SetAt.lt {w : World} {b n : Nat} {p : Int → Bool} (h : SetAt w b n p) : b < w.heap.size := by obtain ⟨D, h1, _⟩ := h; exact h1.lt
theorem SetAt.kept {w w' : World} {b n : Nat} {p : Int → Bool} (h : SetAt w b n p) (hb : w'.heap[b]? = w.heap[b]?) : SetAt w' b n p := by
  obtain ⟨D, ⟨es, clock, h1, h2⟩, h3⟩ := h
  exact ⟨D, ⟨es, clock, hb.trans h1, h2⟩, h3⟩
theorem SetAt.alloc {w : World} {b n : Nat} {p : Int → Bool} (h : SetAt w b n p) (o : Obj) : SetAt (w.alloc o) b n p := h.kept (Below.heap_alloc w o b h.lt)
theorem SetAt.via {w w' : World} {b n : Nat} {p : Int → Bool} (h : SetAt w b n p) (hb : Below w.heap.size w w') : SetAt w' b n p := h.kept (hb.block b h.lt)
theorem SetAt.look {w : World} {b n : Nat} {p : Int → Bool} (h : SetAt w b n p) {k : Int} (hk : Wf64 k) : (Instr.lookup 87 (.map (some b)) (.int .i64 k) false).run Try.prog w = .ok (.bool (p k)) w := by
  obtain ⟨D, h1, h2⟩ := h
  obtain ⟨v, ps, hrun, hv⟩ := h1.lookup keyInt Try.underlying87 (zeroBool w) (plainElem_bool Try.underlying4 false) (keyLit hk)
  obtain ⟨x, rfl, hx⟩ := plainElem_bool_inv Try.underlying4 hv
  rw [h2 k] at hx
  simp only [Prod.mk.injEq, DataW.lit.injEq, Lit.bool.injEq] at hx
  rw [hrun, hx.1]
theorem SetAt.put {w : World} {b n : Nat} {p : Int → Bool} (h : SetAt w b n p) (hn : n < maxLen) {k : Int} (hk : Wf64 k) :
    ∃ w', (Instr.mapUpdate 87 (.map (some b)) (.int .i64 k) (.bool true)).run Try.prog w = .ok () w' ∧ SetAt w' b (n + 1) (fun j => j == k || p j) ∧ w.grownBy w' (some b) := by
  obtain ⟨D, h1, h2⟩ := h
  obtain ⟨w', hrun, hown, hg⟩ := h1.update keyInt Try.underlying87 hn (keyLit hk) (plainElem_bool Try.underlying4 true)
  refine ⟨w', hrun, ⟨_, hown, fun j => ?_⟩, hg⟩
  by_cases hj : j = k
  · subst hj
    rw [Maps.atKey_put_same h1.isMap (by simp [WideAt.IsKeyLit])]
    simp
  · rw [Maps.atKey_put_other (by simpa using hj), h2 j]
    simp [hj]
def NextAt (w : World) (b n : Nat) (f : Int → Option Int) : Prop := ∃ D : DataW Unit, w.ownsMap Try.prog 3 (plainElem Try.prog 3) b n D ∧ ∀ k, Maps.has D (.int .i64 k) = (f k).isSome ∧ D.atKey (.int .i64 k) (.lit (.int .i64 0)) = .lit (.int .i64 ((f k).getD 0))
theorem NextAt.new (w : World) : NextAt (w.alloc (.map #[] 0)) w.heap.size 0 (fun _ => none) := ⟨.map [], World.ownsMap_made w _ _ _, fun k => ⟨rfl, rfl⟩⟩
theorem NextAt.lt {w : World} {b n : Nat} {p : Int → Option Int} (h : NextAt w b n p) : b < w.heap.size := by obtain ⟨D, h1, _⟩ := h; exact h1.lt
theorem NextAt.kept {w w' : World} {b n : Nat} {p : Int → Option Int} (h : NextAt w b n p) (hb : w'.heap[b]? = w.heap[b]?) : NextAt w' b n p := by
  obtain ⟨D, ⟨es, clock, h1, h2⟩, h3⟩ := h
  exact ⟨D, ⟨es, clock, hb.trans h1, h2⟩, h3⟩
theorem NextAt.alloc {w : World} {b n : Nat} {p : Int → Option Int} (h : NextAt w b n p) (o : Obj) : NextAt (w.alloc o) b n p := h.kept (Below.heap_alloc w o b h.lt)
theorem NextAt.via {w w' : World} {b n : Nat} {p : Int → Option Int} (h : NextAt w b n p) (hb : Below w.heap.size w w') : NextAt w' b n p := h.kept (hb.block b h.lt)
theorem NextAt.look {w : World} {b n : Nat} {f : Int → Option Int} (h : NextAt w b n f) {k : Int} (hk : Wf64 k) : (Instr.lookup 91 (.map (some b)) (.int .i64 k) true).run Try.prog w = .ok (.tuple #[.int .i64 ((f k).getD 0), .bool (f k).isSome]) w := by
  obtain ⟨D, h1, h2⟩ := h
  obtain ⟨v, ps, hrun, hv⟩ := h1.look_ok keyInt Try.underlying91 (zeroInt w) (plainElem_int Try.underlying3 (by decide)) (keyLit hk)
  obtain ⟨x, rfl, hx, _⟩ := plainElem_int_inv Try.underlying3 hv
  rw [(h2 k).2] at hx
  simp only [Prod.mk.injEq, DataW.lit.injEq, Lit.int.injEq, true_and] at hx
  rw [hrun, hx.1, (h2 k).1]
theorem NextAt.put {w : World} {b n : Nat} {f : Int → Option Int} (h : NextAt w b n f) (hn : n < maxLen) {k v : Int} (hk : Wf64 k) (hv : Wf64 v) :
    ∃ w', (Instr.mapUpdate 91 (.map (some b)) (.int .i64 k) (.int .i64 v)).run Try.prog w = .ok () w' ∧ NextAt w' b (n + 1) (fun j => if j = k then some v else f j) ∧ w.grownBy w' (some b) := by
  obtain ⟨D, h1, h2⟩ := h
  obtain ⟨w', hrun, hown, hg⟩ := h1.update keyInt Try.underlying91 hn (keyLit hk) (plainElem_int Try.underlying3 hv.lit)
  refine ⟨w', hrun, ⟨_, hown, fun j => ?_⟩, hg⟩
  by_cases hj : j = k
  · subst hj
    rw [Maps.atKey_put_same h1.isMap (by simp [WideAt.IsKeyLit]), Maps.has_put_same h1.isMap (by simp [WideAt.IsKeyLit])]
    simp
  · rw [Maps.atKey_put_other (by simpa using hj), Maps.has_put_other (by simpa using hj), (h2 j).1, (h2 j).2]
    simp [hj]
end Go.Proofs.Ytnjflafaflalfaa
