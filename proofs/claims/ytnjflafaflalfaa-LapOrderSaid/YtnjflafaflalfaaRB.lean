/- Plain words used by all walks of this seat: a slice's cells in memory, and what keeps them. No condition. -/
import Derived.WalkKit
import Derived.ProofKit
import Derived.Lib.Hide
import Derived.BigQuiet
import Derived.Handy
set_option linter.unusedVariables false
set_option linter.unusedSimpArgs false
namespace Go.Proofs.Ytnjflafaflalfaa
open Go.RowKit

theorem ret_i {k : IntKind} {a b : Int} (h : a = b) : Ending.returned (.int k a) = .returned (.int k b) := by rw [h]
theorem ret_b {a b : Bool} (h : a = b) : Ending.returned (.bool a) = .returned (.bool b) := by rw [h]

def Cells (w : World) (B : Nat) (A : Option Addr) (cs : List Value) : Prop :=
  cs = [] ∨ ∃ b o, A = some ⟨b, o, none⟩ ∧ b < B ∧ ∀ j v, cs[j]? = some v → w.cell? ⟨b, o + j, none⟩ = some v

theorem Cells.nil {w : World} {B : Nat} {A : Option Addr} : Cells w B A [] := .inl rfl
theorem Cells.at_ {w : World} {B : Nat} {A : Option Addr} {cs : List Value} (h : Cells w B A cs) (hn : 0 < cs.length) :
    ∃ b o, A = some ⟨b, o, none⟩ ∧ b < B ∧ ∀ j v, cs[j]? = some v → w.cell? ⟨b, o + j, none⟩ = some v := by
  rcases h with rfl | h
  · simp at hn
  · exact h
theorem Cells.get {w : World} {B b o : Nat} {cs : List Value} (h : Cells w B (some ⟨b, o, none⟩) cs) {k : Nat} {v : Value} (hv : cs[k]? = some v) : w.cell? ⟨b, o + k, none⟩ = some v := by
  rcases h with rfl | ⟨b', o', hA, _, hc⟩
  · simp at hv
  · injection hA with hA
    injection hA with h1 h2
    subst h1 h2
    exact hc k v hv
theorem Cells.below {w w' : World} {B : Nat} {A : Option Addr} {cs : List Value} (h : Cells w B A cs) (hb : Below B w w') : Cells w' B A cs := by
  rcases h with h | ⟨b, o, hA, hlt, hc⟩
  · exact .inl h
  · exact .inr ⟨b, o, hA, hlt, fun j v hv => (hb.cell (p := ⟨b, o + j, none⟩) hlt).trans (hc j v hv)⟩
theorem Cells.mono {w : World} {B B' : Nat} {A : Option Addr} {cs : List Value} (h : Cells w B A cs) (hB : B ≤ B') : Cells w B' A cs := by
  rcases h with h | ⟨b, o, hA, hlt, hc⟩
  · exact .inl h
  · exact .inr ⟨b, o, hA, Nat.lt_of_lt_of_le hlt hB, hc⟩
theorem Cells.alloc {w : World} {B : Nat} {A : Option Addr} {cs : List Value} (h : Cells w B A cs) (hB : B ≤ w.heap.size) (o : Obj) : Cells (w.alloc o) B A cs :=
  h.below ((Below.refl _ _).alloc hB o)
theorem Cells.drew {w : World} {B : Nat} {A : Option Addr} {cs : List Value} (h : Cells w B A cs) : Cells w.drew B A cs := h
theorem Cells.new (w : World) (cs : Array Value) (t : TypeId) (fr : Nat × Nat) : Cells (w.alloc (.cells cs t fr)) (w.heap.size + 1) (some ⟨w.heap.size, 0, none⟩) cs.toList := by
  refine .inr ⟨_, _, rfl, Nat.lt_succ_self _, fun j v hv => ?_⟩
  rw [Nat.zero_add]
  have : (w.alloc (.cells cs t fr)).heap[w.heap.size]? = some (.cells cs t fr) := heap_alloc_new w _
  unfold World.cell?
  rw [this]
  simpa using hv

theorem bcell {W w1 : World} (hb : Below W.heap.size W w1) : (∀ b o, b < W.heap.size → w1.cell? ⟨b, o, none⟩ = W.cell? ⟨b, o, none⟩) ∧ (∀ b o, b < W.heap.size → w1.frozen? ⟨b, o, none⟩ = W.frozen? ⟨b, o, none⟩) :=
  ⟨fun b o h => hb.cell (p := ⟨b, o, none⟩) h, fun b o h => hb.frozen (p := ⟨b, o, none⟩) h⟩

theorem via {B : Nat} {w W w1 : World} (h : Below W.heap.size W w1) (h0 : Below B w W) (hB : B ≤ w.heap.size) : Below B w w1 := h0.trans (h.mono (Nat.le_trans hB h0.size))

theorem lt_via {n : Nat} {W w1 : World} (h : Below W.heap.size W w1) (h0 : n < W.heap.size) : n < w1.heap.size := Nat.lt_of_lt_of_le h0 h.size
theorem ba_alloc {w w1 : World} (h : Below w.heap.size w w1) (o : Obj) : Below w.heap.size w (w1.alloc o) := h.alloc h.size o
theorem ba_drew {w w1 : World} (h : Below w.heap.size w w1) : Below w.heap.size w w1.drew := h.drew
theorem ba_drewN {w w1 : World} (h : Below w.heap.size w w1) (n : Nat) : Below w.heap.size w (w1.drewN n) := ⟨h.os, h.tape, h.output, h.size, h.block⟩
theorem ba_via {w W w1 : World} (h : Below W.heap.size W w1) (h0 : Below w.heap.size w W) : Below w.heap.size w w1 := h0.trans (h.mono h0.size)
theorem ba_set {w w1 : World} (h : Below w.heap.size w w1) {p : Addr} (hp : w.heap.size ≤ p.block) (u : Value) : Below w.heap.size w (w1.setCell p u) := h.setCell hp u

abbrev i64s (xs : List Int) : List Value := xs.map (Value.int .i64)
theorem i64s_get {xs : List Int} {k : Nat} (h : k < xs.length) : (i64s xs)[k]? = some (.int .i64 xs[k]) := by simp [h]

open Classical in
noncomputable def grow (w g : World) : World := if Below w.heap.size w g then g else w
theorem grow_below (w g : World) : Below w.heap.size w (grow w g) := by
  unfold grow
  split
  · assumption
  · exact Below.refl _ _
theorem grow_eq {w g : World} (h : Below w.heap.size w g) : grow w g = g := by unfold grow; rw [if_pos h]
@[go_sem] theorem grow_cell (w g : World) (p : Addr) (h : p.block < w.heap.size) : (grow w g).cell? p = w.cell? p := (grow_below w g).cell h
@[go_sem] theorem grow_frozen (w g : World) (p : Addr) (h : p.block < w.heap.size) : (grow w g).frozen? p = w.frozen? p := (grow_below w g).frozen h
theorem wp_region_grow {P : Program} {id : Nat} {Q : Exit → Act → World → Prop} {a : Act} {w : World} {l : List Oper} (hm : P.follows .mixedOrders = true) (hB : Region.lexB .any l.toArray = true)
    (h : wpQuiet P l.toArray (fun w' => ∃ g, w' = grow w g) (fun a' => ∀ w', Below w.heap.size w w' → Q .normal a' w') l a) : (Code.region id l.toArray true).wp P Q a w := by
  refine wp_region_quiet (C := fun w' => ∃ g, w' = grow w g) hm hB ⟨w.drew, (grow_eq (Below.drew (Below.refl _ _))).symm⟩ ?_
  have hl : ∀ (l0 : List Oper) (a0 : Act), wpQuiet P l.toArray (fun w' => ∃ g, w' = grow w g) (fun a' => ∀ w', Below w.heap.size w w' → Q .normal a' w') l0 a0 →
      wpQuiet P l.toArray (fun w' => ∃ g, w' = grow w g) (fun a' => ∀ w', (∃ g, w' = grow w g) → Q .normal a' w') l0 a0 := by
    intro l0
    induction l0 with
    | nil => intro a0 h0 w' ⟨g, hg⟩; exact h0 w' (hg ▸ grow_below w g)
    | cons o rest ih =>
      intro a0 h0
      unfold wpQuiet at h0 ⊢
      split
      · rename_i hw
        rw [if_pos hw] at h0
        exact Oper.quiet_mono (fun a' => ih a') h0
      · rename_i hw
        rw [if_neg hw] at h0
        exact ih _ h0
  simpa using hl _ _ h
theorem grow_of {P : Program} {f : FuncId} {args : Array Value} {w g : World} {v : Value}
    (h : Calls P f args (grow w g) fun e w' => e = .returned v ∧ Below (grow w g).heap.size (grow w g) w') : Calls P f args (grow w g) fun e w' => e = .returned v ∧ ∃ g', w' = grow w g' :=
  h.mono fun _ w' ⟨he, hb⟩ => ⟨he, w', (grow_eq (via hb (grow_below w g) (Nat.le_refl _))).symm⟩
theorem grow_of_eq {P : Program} {f : FuncId} {args : Array Value} {w g : World} {v : Value}
    (h : Calls P f args (grow w g) fun e w' => e = .returned v ∧ grow w g = w') : Calls P f args (grow w g) fun e w' => e = .returned v ∧ ∃ g', w' = grow w g' :=
  h.mono fun _ w' ⟨he, hb⟩ => ⟨he, g, hb.symm⟩
theorem bel {B : Nat} {w W : World} (h : Below B w W := by repeat (first | exact Below.refl _ _ | assumption | refine ba_alloc ?_ _ | refine ba_drew ?_ | refine ba_drewN ?_ _ | refine ba_via (by assumption) ?_ | (refine ba_set ?_ ?_ _; rotate_left; (first | omega | (simp; omega) | simp)))) : Below B w W := h
theorem belr {B : Nat} {w W : World} (h : Below B w W := by repeat (with_reducible first | exact Below.refl _ _ | assumption | refine ba_alloc ?_ _ | refine ba_drew ?_ | refine ba_drewN ?_ _ | refine ba_via (by assumption) ?_ | (refine ba_set ?_ ?_ _; rotate_left; (first | omega | (simp; omega) | simp)))) : Below B w W := h
end Go.Proofs.Ytnjflafaflalfaa
