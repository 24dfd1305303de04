/- Plain words used by all walks of this seat: a slice's cells in memory, and what keeps them. No condition. Points as plain data, and their cells. The first place at which a test answers yes, and whether it does somewhere (no program in sight). Lists of equally wide rows of cells (no program in sight). Slices that a call makes by append: what they hold, and what stays as it was. Contracts: box.coords, ends, Valid, all; slices.IndexFunc and ContainsFunc over boxes. -/
import Derived.WalkKit
import Derived.ProofKit
import Derived.Lib.Hide
import Derived.BigQuiet
import Derived.Handy
import Derived.Maps.AppendAt
import Derived.Test.YtffkmgjmlahfpaaGreatRows
set_option linter.unusedVariables false
set_option linter.unusedSimpArgs false
namespace Go.Proofs.YtffkmgjmlahfpaaGreat
open Go.RowKit

theorem ret_i {k : IntKind} {a b : Int} (h : a = b) : Ending.returned (.int k a) = .returned (.int k b) := by rw [h]
theorem ret_b {a b : Bool} (h : a = b) : Ending.returned (.bool a) = .returned (.bool b) := by rw [h]

/-- The cells of a slice at the address A are cs; they lie below block B. -/
def Cells (w : World) (B : Nat) (A : Option Addr) (cs : List Value) : Prop :=
  cs = [] ∨ ∃ b o, A = some ⟨b, o, none⟩ ∧ b < B ∧ ∀ j v, cs[j]? = some v → w.cell? ⟨b, o + j, none⟩ = some v

theorem Cells.nil {w : World} {B : Nat} {A : Option Addr} : Cells w B A [] := .inl rfl
theorem Cells.at_ {w : World} {B : Nat} {A : Option Addr} {cs : List Value} (h : Cells w B A cs) (hn : 0 < cs.length) :
    ∃ b o, A = some ⟨b, o, none⟩ ∧ b < B ∧ ∀ j v, cs[j]? = some v → w.cell? ⟨b, o + j, none⟩ = some v := by
  rcases h with rfl | h
  · simp at hn
  · exact h
theorem Cells.get {w : World} {B b o : Nat} {cs : List Value} (h : Cells w B (some ⟨b, o, none⟩) cs) {k : Nat} {v : Value} (hv : cs[k]? = some v) : w.cell? ⟨b, o + k, none⟩ = some v := by
  rcases h with rfl | ⟨b', o', hA, _, hc⟩
  · simp at hv
  · injection hA with hA
    injection hA with h1 h2
    subst h1 h2
    exact hc k v hv
theorem Cells.below {w w' : World} {B : Nat} {A : Option Addr} {cs : List Value} (h : Cells w B A cs) (hb : Below B w w') : Cells w' B A cs := by
  rcases h with h | ⟨b, o, hA, hlt, hc⟩
  · exact .inl h
  · exact .inr ⟨b, o, hA, hlt, fun j v hv => (hb.cell (p := ⟨b, o + j, none⟩) hlt).trans (hc j v hv)⟩
theorem Cells.mono {w : World} {B B' : Nat} {A : Option Addr} {cs : List Value} (h : Cells w B A cs) (hB : B ≤ B') : Cells w B' A cs := by
  rcases h with h | ⟨b, o, hA, hlt, hc⟩
  · exact .inl h
  · exact .inr ⟨b, o, hA, Nat.lt_of_lt_of_le hlt hB, hc⟩
theorem Cells.alloc {w : World} {B : Nat} {A : Option Addr} {cs : List Value} (h : Cells w B A cs) (hB : B ≤ w.heap.size) (o : Obj) : Cells (w.alloc o) B A cs :=
  h.below ((Below.refl _ _).alloc hB o)
theorem Cells.drew {w : World} {B : Nat} {A : Option Addr} {cs : List Value} (h : Cells w B A cs) : Cells w.drew B A cs := h
/-- A new block just laid. -/
theorem Cells.new (w : World) (cs : Array Value) (t : TypeId) (fr : Nat × Nat) : Cells (w.alloc (.cells cs t fr)) (w.heap.size + 1) (some ⟨w.heap.size, 0, none⟩) cs.toList := by
  refine .inr ⟨_, _, rfl, Nat.lt_succ_self _, fun j v hv => ?_⟩
  rw [Nat.zero_add]
  have : (w.alloc (.cells cs t fr)).heap[w.heap.size]? = some (.cells cs t fr) := heap_alloc_new w _
  unfold World.cell?
  rw [this]
  simpa using hv

/-- Behind a call that makes memory of its own: every elder cell and mark reads as before (two rules that the walk uses by itself). -/
theorem bcell {W w1 : World} (hb : Below W.heap.size W w1) : (∀ b o, b < W.heap.size → w1.cell? ⟨b, o, none⟩ = W.cell? ⟨b, o, none⟩) ∧ (∀ b o, b < W.heap.size → w1.frozen? ⟨b, o, none⟩ = W.frozen? ⟨b, o, none⟩) :=
  ⟨fun b o h => hb.cell (p := ⟨b, o, none⟩) h, fun b o h => hb.frozen (p := ⟨b, o, none⟩) h⟩

/-- Behind a callee: what was there when our own call began is as it was. -/
theorem via {B : Nat} {w W w1 : World} (h : Below W.heap.size W w1) (h0 : Below B w W) (hB : B ≤ w.heap.size) : Below B w w1 := h0.trans (h.mono (Nat.le_trans hB h0.size))

theorem lt_via {n : Nat} {W w1 : World} (h : Below W.heap.size W w1) (h0 : n < W.heap.size) : n < w1.heap.size := Nat.lt_of_lt_of_le h0 h.size
theorem ba_alloc {w w1 : World} (h : Below w.heap.size w w1) (o : Obj) : Below w.heap.size w (w1.alloc o) := h.alloc h.size o
theorem ba_drew {w w1 : World} (h : Below w.heap.size w w1) : Below w.heap.size w w1.drew := h.drew
theorem ba_drewN {w w1 : World} (h : Below w.heap.size w w1) (n : Nat) : Below w.heap.size w (w1.drewN n) := ⟨h.os, h.tape, h.output, h.size, h.block⟩
theorem ba_via {w W w1 : World} (h : Below W.heap.size W w1) (h0 : Below w.heap.size w W) : Below w.heap.size w w1 := h0.trans (h.mono h0.size)
theorem ba_set {w w1 : World} (h : Below w.heap.size w w1) {p : Addr} (hp : w.heap.size ≤ p.block) (u : Value) : Below w.heap.size w (w1.setCell p u) := h.setCell hp u

/-- The integers of a slice. -/
abbrev i64s (xs : List Int) : List Value := xs.map (Value.int .i64)
theorem i64s_get {xs : List Int} {k : Nat} (h : k < xs.length) : (i64s xs)[k]? = some (.int .i64 xs[k]) := by simp [h]

open Classical in
/-- w after calls that make memory of their own (whatever they made). -/
noncomputable def grow (w g : World) : World := if Below w.heap.size w g then g else w
theorem grow_below (w g : World) : Below w.heap.size w (grow w g) := by
  unfold grow
  split
  · assumption
  · exact Below.refl _ _
theorem grow_eq {w g : World} (h : Below w.heap.size w g) : grow w g = g := by unfold grow; rw [if_pos h]
@[go_sem] theorem grow_cell (w g : World) (p : Addr) (h : p.block < w.heap.size) : (grow w g).cell? p = w.cell? p := (grow_below w g).cell h
@[go_sem] theorem grow_frozen (w g : World) (p : Addr) (h : p.block < w.heap.size) : (grow w g).frozen? p = w.frozen? p := (grow_below w g).frozen h
/-- A region that draws its order, whose operations read what was there and whose callees may make memory of their own but hand back plain values: walked once, in the order of the text. -/
theorem wp_region_grow {P : Program} {id : Nat} {Q : Exit → Act → World → Prop} {a : Act} {w : World} {l : List Oper} (hm : P.follows .mixedOrders = true) (hB : Region.lexB .any l.toArray = true)
    (h : wpQuiet P l.toArray (fun w' => ∃ g, w' = grow w g) (fun a' => ∀ w', Below w.heap.size w w' → Q .normal a' w') l a) : (Code.region id l.toArray true).wp P Q a w := by
  refine wp_region_quiet (C := fun w' => ∃ g, w' = grow w g) hm hB ⟨w.drew, (grow_eq (Below.drew (Below.refl _ _))).symm⟩ ?_
  have hl : ∀ (l0 : List Oper) (a0 : Act), wpQuiet P l.toArray (fun w' => ∃ g, w' = grow w g) (fun a' => ∀ w', Below w.heap.size w w' → Q .normal a' w') l0 a0 →
      wpQuiet P l.toArray (fun w' => ∃ g, w' = grow w g) (fun a' => ∀ w', (∃ g, w' = grow w g) → Q .normal a' w') l0 a0 := by
    intro l0
    induction l0 with
    | nil => intro a0 h0 w' ⟨g, hg⟩; exact h0 w' (hg ▸ grow_below w g)
    | cons o rest ih =>
      intro a0 h0
      unfold wpQuiet at h0 ⊢
      split
      · rename_i hw
        rw [if_pos hw] at h0
        exact Oper.quiet_mono (fun a' => ih a') h0
      · rename_i hw
        rw [if_neg hw] at h0
        exact ih _ h0
  simpa using hl _ _ h
/-- A callee's contract inside such a region. -/
theorem grow_of {P : Program} {f : FuncId} {args : Array Value} {w g : World} {v : Value}
    (h : Calls P f args (grow w g) fun e w' => e = .returned v ∧ Below (grow w g).heap.size (grow w g) w') : Calls P f args (grow w g) fun e w' => e = .returned v ∧ ∃ g', w' = grow w g' :=
  h.mono fun _ w' ⟨he, hb⟩ => ⟨he, w', (grow_eq (via hb (grow_below w g) (Nat.le_refl _))).symm⟩
theorem grow_of_eq {P : Program} {f : FuncId} {args : Array Value} {w g : World} {v : Value}
    (h : Calls P f args (grow w g) fun e w' => e = .returned v ∧ grow w g = w') : Calls P f args (grow w g) fun e w' => e = .returned v ∧ ∃ g', w' = grow w g' :=
  h.mono fun _ w' ⟨he, hb⟩ => ⟨he, g, hb.symm⟩
end Go.Proofs.YtffkmgjmlahfpaaGreat
set_option linter.unusedVariables false
set_option linter.unusedSimpArgs false
namespace Go.Proofs.YtffkmgjmlahfpaaGreat
open Go.RowKit
structure Pt where
  x : Int
  y : Int
  z : Int
abbrev ptC (p : Pt) : List Value := [.int .i64 p.x, .int .i64 p.y, .int .i64 p.z]
theorem ptC_len (p : Pt) : (ptC p).length = 3 := rfl
end Go.Proofs.YtffkmgjmlahfpaaGreat
set_option linter.unusedVariables false
set_option linter.unusedSimpArgs false
namespace Go.Proofs.YtffkmgjmlahfpaaGreat
/-- The first place at which p answers yes, or -1. -/
def idxf {α : Type} (xs : List α) (p : α → Bool) : Int := match xs.findIdx? p with | some k => k | none => -1
theorem idxf_hit {α : Type} {xs : List α} {p : α → Bool} {k : Nat} (hk : k < xs.length) (hx : p xs[k] = true) (hno : ∀ j (h : j < xs.length), j < k → p xs[j] = false) : idxf xs p = k := by
  have : xs.findIdx? p = some k := by
    rw [List.findIdx?_eq_some_iff_getElem]
    exact ⟨hk, hx, fun j hj => by simpa using hno j (by omega) hj⟩
  simp [idxf, this]
theorem idxf_miss {α : Type} {xs : List α} {p : α → Bool} (hno : ∀ j (h : j < xs.length), p xs[j] = false) : idxf xs p = -1 := by
  have : xs.findIdx? p = none := by
    rw [List.findIdx?_eq_none_iff]
    intro y hy
    obtain ⟨j, hj, rfl⟩ := List.mem_iff_getElem.1 hy
    simpa using hno j hj
  simp [idxf, this]
theorem idxf_ge {α : Type} (xs : List α) (p : α → Bool) : decide (0 ≤ idxf xs p) = xs.any p := by
  unfold idxf
  split
  · rename_i k hk
    obtain ⟨h1, h2, _⟩ := List.findIdx?_eq_some_iff_getElem.1 hk
    have : xs.any p = true := List.any_eq_true.2 ⟨_, List.getElem_mem h1, h2⟩
    simp [this]
  · rename_i hk
    rw [List.findIdx?_eq_none_iff] at hk
    have : xs.any p = false := by
      rw [List.any_eq_false]
      exact fun x hx => by simp [hk x hx]
    simp [this]
/-- Whether p answers yes somewhere (a word of its own). -/
def anyb {α : Type} (xs : List α) (p : α → Bool) : Bool := xs.any p
end Go.Proofs.YtffkmgjmlahfpaaGreat
set_option linter.unusedVariables false
set_option linter.unusedSimpArgs false
namespace Go.Proofs.YtffkmgjmlahfpaaGreat
open Go.RowKit
theorem vint {k : IntKind} {a b : Int} (h : a = b) : Value.int k a = Value.int k b := by rw [h]
theorem ret_2 {k j : IntKind} {a b c d : Int} (h : a = b) (h' : c = d) : Ending.returned (.tuple #[.int k a, .int j c]) = .returned (.tuple #[.int k b, .int j d]) := by rw [h, h']
theorem flat_len {α β : Type} (enc : α → List β) (m : Nat) (h : ∀ a, (enc a).length = m) (l : List α) : (l.flatMap enc).length = l.length * m := by
  induction l with
  | nil => simp
  | cons a l ih => simp [List.flatMap_cons, h, ih, Nat.add_mul, Nat.add_comm]
theorem flat_get {α β : Type} (enc : α → List β) (m : Nat) (h : ∀ a, (enc a).length = m) (l : List α) (k : Nat) (hk : k < l.length) (j : Nat) (hj : j < m) :
    (l.flatMap enc)[k * m + j]? = (enc l[k])[j]? := by
  induction l generalizing k with
  | nil => simp at hk
  | cons a l ih =>
    rw [List.flatMap_cons]
    cases k with
    | zero =>
      rw [Nat.zero_mul, Nat.zero_add, List.getElem?_append_left (by rw [h]; exact hj)]
      rfl
    | succ k =>
      have e : (k + 1) * m + j = m + (k * m + j) := by rw [Nat.add_mul, Nat.one_mul]; omega
      rw [e, List.getElem?_append_right (by rw [h]; omega), h, Nat.add_sub_cancel_left]
      have := ih k (by simpa using hk)
      simpa using this
/-- A row just laid. -/
theorem Cells.newRow (w : World) (cs : Array Value) (t : TypeId) (fr : Nat × Nat) : Cells (w.alloc (.cells cs t fr)) (w.alloc (.cells cs t fr)).heap.size (some ⟨w.heap.size, 0, none⟩) cs.toList := by
  have := Cells.new w cs t fr
  rwa [show w.heap.size + 1 = (w.alloc (.cells cs t fr)).heap.size by simp] at this
/-- The cells of row k. -/
theorem Cells.row {α : Type} {w : World} {B b o : Nat} {enc : α → List Value} {m : Nat} {l : List α} (h : Cells w B (some ⟨b, o, none⟩) (l.flatMap enc)) (hm : ∀ a, (enc a).length = m) {k : Nat} (hk : k < l.length)
    {j : Nat} {v : Value} (hv : (enc l[k])[j]? = some v) : w.cell? ⟨b, o + (k * m + j), none⟩ = some v := by
  have hj : j < m := by
    rcases Nat.lt_or_ge j m with h1 | h1
    · exact h1
    · rw [List.getElem?_eq_none (by rw [hm]; exact h1)] at hv; cases hv
  exact h.get (by rw [flat_get enc m hm l k hk j hj]; exact hv)
theorem Cells.row0 {α : Type} {w : World} {B b o : Nat} {enc : α → List Value} {m : Nat} {l : List α} (h : Cells w B (some ⟨b, o, none⟩) (l.flatMap enc)) (hm : ∀ a, (enc a).length = m) {k : Nat} (hk : k < l.length)
    {v : Value} (hv : (enc l[k])[0]? = some v) : w.cell? ⟨b, o + k * m, none⟩ = some v := h.row hm hk hv
theorem Cells.rowj {α : Type} {w : World} {B b o : Nat} {enc : α → List Value} {m : Nat} {l : List α} (h : Cells w B (some ⟨b, o, none⟩) (l.flatMap enc)) (hm : ∀ a, (enc a).length = m) {k : Nat} (hk : k < l.length)
    (j : Nat) {v : Value} (hv : (enc l[k])[j]? = some v) : w.cell? ⟨b, o + k * m + j, none⟩ = some v := by
  have := h.row hm hk hv
  rwa [← Nat.add_assoc] at this
end Go.Proofs.YtffkmgjmlahfpaaGreat
set_option linter.unusedVariables false
set_option linter.unusedSimpArgs false
namespace Go.Proofs.YtffkmgjmlahfpaaGreat
open Go.RowKit
/-- From W to w only blocks of the list M, and new ones, have turned. -/
structure Exc (M : List Nat) (W w : World) : Prop where
  os : w.os = W.os
  tape : w.tape = W.tape
  output : w.output = W.output
  size : W.heap.size ≤ w.heap.size
  block : ∀ k, k < W.heap.size → k ∉ M → w.heap[k]? = W.heap[k]?
theorem Exc.refl (M : List Nat) (W : World) : Exc M W W := ⟨rfl, rfl, rfl, Nat.le_refl _, fun _ _ _ => rfl⟩
theorem Exc.alloc {M : List Nat} {W w : World} (h : Exc M W w) (o : Obj) : Exc M W (w.alloc o) :=
  ⟨h.os, h.tape, h.output, Nat.le_trans h.size (by simp), fun k hk hm => (Below.heap_alloc w o k (Nat.lt_of_lt_of_le hk h.size)).trans (h.block k hk hm)⟩
theorem Exc.drew {M : List Nat} {W w : World} (h : Exc M W w) : Exc M W w.drew := ⟨h.os, h.tape, h.output, h.size, h.block⟩
theorem Exc.drewN {M : List Nat} {W w : World} (h : Exc M W w) (n : Nat) : Exc M W (w.drewN n) := ⟨h.os, h.tape, h.output, h.size, h.block⟩
theorem Exc.set {M : List Nat} {W w : World} (h : Exc M W w) {p : Addr} (hp : p.block ∈ M ∨ W.heap.size ≤ p.block) (u : Value) : Exc M W (w.setCell p u) :=
  ⟨h.os, h.tape, h.output, by simpa [World.setCell] using h.size, fun k hk hm => (Below.heap_setCell w p u k (by
    rintro rfl
    rcases hp with hp | hp
    · exact hm hp
    · omega)).trans (h.block k hk hm)⟩
theorem Exc.via {M : List Nat} {W w w' : World} (h : Below w.heap.size w w') (h0 : Exc M W w) : Exc M W w' :=
  ⟨h.os.trans h0.os, h.tape.trans h0.tape, h.output.trans h0.output, Nat.le_trans h0.size h.size, fun k hk hm => (h.block k (Nat.lt_of_lt_of_le hk h0.size)).trans (h0.block k hk hm)⟩
theorem Exc.grown {M : List Nat} {W w w' : World} {row : Option Nat} (h : Exc M W w) (hg : w.grownBy w' row) (hr : ∀ k, row = some k → k ∈ M ∨ W.heap.size ≤ k) : Exc M W w' :=
  ⟨hg.os.trans h.os, hg.tape.trans h.tape, hg.output.trans h.output, Nat.le_trans h.size hg.size, fun k hk hm => (hg.block k (Nat.lt_of_lt_of_le hk h.size) (fun e => by
    rcases hr k e.symm with h1 | h1
    · exact hm h1
    · omega)).trans (h.block k hk hm)⟩
theorem Exc.cell {M : List Nat} {W w : World} (h : Exc M W w) {p : Addr} (hp : p.block < W.heap.size) (hm : p.block ∉ M) : w.cell? p = W.cell? p := World.cell?_of_block (w := W) (h.block _ hp hm)
theorem Exc.frozen {M : List Nat} {W w : World} (h : Exc M W w) {p : Addr} (hp : p.block < W.heap.size) (hm : p.block ∉ M) : w.frozen? p = W.frozen? p := World.frozen?_of_block (w := W) (h.block _ hp hm)
/-- Below every block of M the world is as it was. -/
theorem Exc.below {M : List Nat} {B : Nat} {W w : World} (h : Exc M W w) (hB : B ≤ W.heap.size) (hm : ∀ k, k ∈ M → B ≤ k) : Below B W w :=
  ⟨h.os, h.tape, h.output, h.size, fun k hk => h.block k (by omega) (fun hk' => by have := hm k hk'; omega)⟩
theorem Exc.of_below {W w : World} (h : Below W.heap.size W w) : Exc [] W w := ⟨h.os, h.tape, h.output, h.size, fun k hk _ => h.block k hk⟩

/-- v is a slice of the call's own: n elements, the cells xs; it lies in block g0 or in one made since W. -/
structure Row (W w : World) (g0 : Option Nat) (base E size : Nat) (v : Value) (n : Nat) (xs : List Value) : Prop where
  own : w.ownsRow base E size v n xs
  place : ∀ k, v.ownBlock = some k → some k = g0 ∨ W.heap.size ≤ k
theorem Row.none_ (W : World) (base E size : Nat) : Row W W none base E size (.slice none 0 0) 0 [] := ⟨World.ownsRow_nil _ _ _ _, fun k h => by simp [Value.ownBlock] at h⟩
theorem Row.alloc {W w : World} {g0 : Option Nat} {base E size : Nat} {v : Value} {n : Nat} {xs : List Value} (h : Row W w g0 base E size v n xs) (o : Obj) : Row W (w.alloc o) g0 base E size v n xs := ⟨h.own.alloc o, h.place⟩
theorem Row.kept {W w w' : World} {g0 : Option Nat} {base E size : Nat} {v : Value} {n : Nat} {xs : List Value} (h : Row W w g0 base E size v n xs) (hb : ∀ k, v.ownBlock = some k → w'.heap[k]? = w.heap[k]?) : Row W w' g0 base E size v n xs := by
  refine ⟨⟨h.own.1, ?_⟩, h.place⟩
  rcases h.own.2 with hn | ⟨g, cap, cur, rfl, hg, hh, rest⟩
  · exact .inl hn
  · exact .inr ⟨g, cap, cur, rfl, hg, by rw [hb g rfl]; exact hh, rest⟩
theorem Row.via {W w w' : World} {g0 : Option Nat} {base E size : Nat} {v : Value} {n : Nat} {xs : List Value} (h : Row W w g0 base E size v n xs) (hb : Below w.heap.size w w') : Row W w' g0 base E size v n xs :=
  h.kept fun k hk => hb.block k (h.own.lt k hk).2
theorem Row.set {W w : World} {g0 : Option Nat} {base E size : Nat} {v : Value} {n : Nat} {xs : List Value} (h : Row W w g0 base E size v n xs) {p : Addr} (hp : ∀ k, v.ownBlock = some k → k ≠ p.block) (u : Value) : Row W (w.setCell p u) g0 base E size v n xs :=
  h.kept fun k hk => Below.heap_setCell w p u k (hp k hk)
/-- Its form, and its cells. -/
theorem own_form {w : World} {base E size : Nat} {v : Value} {n : Nat} {xs : List Value} (h : w.ownsRow base E size v n xs) (hn : n ≤ maxLen := by first | omega | (unfold maxLen; omega)) :
    ∃ A c, v = .slice A n c ∧ n ≤ c ∧ c ≤ maxLen ∧ Cells w w.heap.size A xs := by
  rcases h.2 with ⟨rfl, rfl⟩ | ⟨g, cap, cur, rfl, hg, hh, hnc, hcm, hcs, ht⟩
  · have : xs = [] := List.eq_nil_of_length_eq_zero (by simpa using h.1)
    subst this
    exact ⟨none, 0, rfl, Nat.le_refl _, by unfold maxLen; omega, Cells.nil⟩
  · refine ⟨_, cap, rfl, hnc, hcm, .inr ⟨g, 0, rfl, (Array.getElem?_eq_some_iff.1 hh).1, fun j u hu => ?_⟩⟩
    have := h.cells (g := g) rfl j u hu
    rw [Nat.zero_add]
    rwa [show (⟨g, 0, none⟩ : Addr).add j = ⟨g, j, none⟩ by unfold Addr.add; split <;> simp_all] at this
theorem own_cells {w : World} {base E size : Nat} {A : Option Addr} {n c : Nat} {xs : List Value} (h : w.ownsRow base E size (.slice A n c) n xs) (hn : n ≤ maxLen := by first | omega | (unfold maxLen; omega)) :
    Cells w w.heap.size A xs ∧ n ≤ c ∧ c ≤ maxLen := by
  obtain ⟨A', c', hv, h1, h2, h3⟩ := own_form h hn
  injection hv with hA _ hc
  subst hA hc
  exact ⟨h3, h1, h2⟩
/-- An element's type: a slice's type t over E, whose elements are size cells, bytes wide. -/
structure Elem (P : Program) (t E : TypeId) (z : Value) (size bytes : Nat) : Prop where
  slice : P.underlying t = some (.slice E)
  info : (P.info? E).map (fun i => (i.zero, i.size, i.bytes)) = some (some z, size, bytes)
  cells : z.cells.size = size
  pos : 0 < size
/-- append of elements onto a slice of the call's own. -/
theorem wpList_push {P : Program} {w : World} {ops : Array Oper} {rest : List Oper} {o : Oper} {a : Act} {Q : Exit → Act → World → Prop} (hgd : o.guard = none) (s x : Operand) (t : TypeId)
    (ho : o.op = .call { callee := .builtin .append, args := #[s, x], argTypes := #[t, t] })
    {E : TypeId} {z : Value} {size bytes : Nat} (hE : Elem P t E z size bytes)
    {W : World} {g0 : Option Nat} {base : Nat} {M : List Nat} {v : Value} {n : Nat} {xs : List Value} (hR : Row W w g0 base E size v n xs) (hX : Exc M W w) (hM : ∀ k, g0 = some k → k ∈ M) (hb : base ≤ W.heap.size) (hs : a.eval s = v)
    (g : Nat) (m c : Nat) (news : List Value) (hx : a.eval x = .slice (some ⟨g, 0, none⟩) m c) (hl : news.length = m * size) (hc : ∀ j u, news[j]? = some u → w.cell? ⟨g, j, none⟩ = some u) (h1 : ∀ u ∈ news, u.oneCell' = true)
    (h63 : n + m ≤ maxLen) (hbytes : (n + m) * bytes ≤ 140737488355328)
    (h : ∀ v' w', Row W w' g0 base E size v' (n + m) (xs ++ news) → Exc M W w' → (∀ k, k < w.heap.size → v.ownBlock ≠ some k → w'.heap[k]? = w.heap[k]?) → wpList P ops Q rest (a.put o.dst v') w') : wpList P ops Q (o :: rest) a w := by
  obtain ⟨i, hi, hz, hsz, hby⟩ := info_parts hE.info
  refine wpList_append_own_at w hgd s x t ho base E i z size bytes hE.slice hi hz hsz hby hE.cells hE.pos v n xs hs hR.own ⟨g, 0, none⟩ m c news hx hl (fun j u hu => ?_) h1 h63 hbytes (Nat.le_trans hb hX.size) (fun v' w' h2 h3 _ h4 => ?_)
  · rw [show (⟨g, 0, none⟩ : Addr).add j = ⟨g, j, none⟩ by unfold Addr.add; split <;> simp_all]
    exact hc j u hu
  · have hrow : ∀ k, v.ownBlock = some k → k ∈ M ∨ W.heap.size ≤ k := fun k hk => by
      rcases hR.place k hk with h5 | h5
      · exact .inl (hM k h5.symm)
      · exact .inr h5
    refine h v' w' ⟨h2, fun k hk => ?_⟩ (hX.grown h3 hrow) (fun k hk hne => h3.block k hk (fun e => hne e.symm))
    rcases h4 with h4 | h4
    · exact hR.place k (h4 ▸ hk)
    · rw [h4] at hk
      injection hk with hk
      exact .inr (hk ▸ hX.size)
/-- A block known whole. -/
def Blk (w : World) (g : Nat) (t : TypeId) (cs : Array Value) : Prop := w.heap[g]? = some (.cells cs t (0, 0))
theorem Blk.lt {w : World} {g : Nat} {t : TypeId} {cs : Array Value} (h : Blk w g t cs) : g < w.heap.size := (Array.getElem?_eq_some_iff.1 h).1
theorem Blk.cell {w : World} {g : Nat} {t : TypeId} {cs : Array Value} (h : Blk w g t cs) (j : Nat) : w.cell? ⟨g, j, none⟩ = cs[j]? := cell_of_row w g j cs t (0, 0) h
theorem Blk.frozen {w : World} {g : Nat} {t : TypeId} {cs : Array Value} (h : Blk w g t cs) (j : Nat) : w.frozen? ⟨g, j, none⟩ = false := by
  unfold Blk at h
  simp [World.frozen?, h]
theorem Blk.new (w : World) (t : TypeId) (cs : Array Value) : Blk (w.alloc (.cells cs t)) w.heap.size t cs := heap_alloc_new w _
theorem Blk.alloc {w : World} {g : Nat} {t : TypeId} {cs : Array Value} (h : Blk w g t cs) (o : Obj) : Blk (w.alloc o) g t cs := (Below.heap_alloc w o g h.lt).trans h
theorem Blk.set {w : World} {g : Nat} {t : TypeId} {cs : Array Value} (h : Blk w g t cs) (j : Nat) (u : Value) : Blk (w.setCell ⟨g, j, none⟩ u) g t (cs.setIfInBounds j u) := heap_setCell_same w g j cs t u h
theorem Blk.far {w : World} {g : Nat} {t : TypeId} {cs : Array Value} (h : Blk w g t cs) {p : Addr} (hp : g ≠ p.block) (u : Value) : Blk (w.setCell p u) g t cs := (Below.heap_setCell w p u g hp).trans h
theorem Blk.via {w w' : World} {g : Nat} {t : TypeId} {cs : Array Value} (h : Blk w g t cs) (hb : Below w.heap.size w w') : Blk w' g t cs := (hb.block g h.lt).trans h
theorem one_new (w : World) (x : Value) (t : TypeId) (fr : Nat × Nat) : ∀ j u, [x][j]? = some u → (w.alloc (.cells #[x] t fr)).cell? ⟨w.heap.size, j, none⟩ = some u := fun j u hu => by
  have := (Cells.newRow w #[x] t fr).get (k := j) (v := u) hu
  rwa [Nat.zero_add] at this
end Go.Proofs.YtffkmgjmlahfpaaGreat
set_option linter.unusedVariables false
set_option linter.unusedSimpArgs false
namespace Go.Proofs.YtffkmgjmlahfpaaGreat
open Go.RowKit
structure Bx where
  lo : Pt
  hi : Pt
abbrev boxC (b : Bx) : List Value := [.int .i64 b.lo.x, .int .i64 b.lo.y, .int .i64 b.lo.z, .int .i64 b.hi.x, .int .i64 b.hi.y, .int .i64 b.hi.z]
theorem boxC_len (b : Bx) : (boxC b).length = 6 := rfl
abbrev boxV (b : Bx) : Value := .agg #[.int .i64 b.lo.x, .int .i64 b.lo.y, .int .i64 b.lo.z, .int .i64 b.hi.x, .int .i64 b.hi.y, .int .i64 b.hi.z]
theorem elemBx : Elem Tryz.prog 22 89 (.agg #[.int .i64 0, .int .i64 0, .int .i64 0, .int .i64 0, .int .i64 0, .int .i64 0]) 6 48 := ⟨Tryz.underlying22, by kernel_rfl, rfl, by decide⟩
namespace S
def okAx (l h : Int) : Bool := decide (l ≤ h) && decide (-1048576 ≤ l) && decide (h ≤ 1048576)
def boxOk (b : Bx) : Bool := okAx b.lo.x b.hi.x && okAx b.lo.y b.hi.y && okAx b.lo.z b.hi.z
end S
theorem coords_any (x y z : Int) (w : World) :
    Calls Tryz.prog 226 #[.agg #[.int .i64 x, .int .i64 y, .int .i64 z]] w fun e w' => e = .returned (.agg #[.int .i64 x, .int .i64 y, .int .i64 z]) ∧ Below w.heap.size w w' := by
  go_enter Tryz.func226, Tryz.ntmps226
  go_wp2
  exact bodyPost_ret (v := .agg #[.int .i64 x, .int .i64 y, .int .i64 z]) (by simp [results, Tryz.results226, go_sem, *]) rfl ⟨rfl, (by repeat (first | exact Below.refl _ _ | assumption | refine ba_alloc ?_ _ | refine ba_drew ?_ | refine ba_drewN ?_ _ | refine ba_via (by assumption) ?_ | (refine ba_set ?_ ?_ _; rotate_left; (first | omega | (simp; omega) | simp))))⟩
theorem ends_x (b : Bx) (w : World) :
    Calls Tryz.prog 167 #[boxV b, .int .i64 0] w fun e w' => e = .returned (.tuple #[.int .i64 b.lo.x, .int .i64 b.hi.x]) ∧ Below w.heap.size w w' := by
  have i0 : ∀ W, (Instr.index 274 (.agg #[.int .i64 b.lo.x, .int .i64 b.lo.y, .int .i64 b.lo.z]) (.int .i64 0)).run Tryz.prog W = .ok (.int .i64 b.lo.x) W := fun _ => by kernel_rfl
  have i1 : ∀ W, (Instr.index 274 (.agg #[.int .i64 b.hi.x, .int .i64 b.hi.y, .int .i64 b.hi.z]) (.int .i64 0)).run Tryz.prog W = .ok (.int .i64 b.hi.x) W := fun _ => by kernel_rfl
  unfold boxV
  go_enter Tryz.func167, Tryz.ntmps167
  go_wp2
  refine wp_region_grow (by kernel_rfl) (by kernel_rfl) ?_
  repeat (go_big_quiet_step ((go_at_call 226; exact grow_of (coords_any _ _ _ _))))
  all_goals (refine wpQuiet_nil ?_; intro wg hbwg; obtain ⟨hcwg, hfwg⟩ := bcell hbwg; have hzwg_0 : w.heap.size < wg.heap.size := lt_via hbwg (by first | omega | (simp; done) | (simp; omega)))
  go_wp2
  go_ret2
  exact ⟨rfl, (by repeat (first | exact Below.refl _ _ | assumption | refine ba_alloc ?_ _ | refine ba_drew ?_ | refine ba_drewN ?_ _ | refine ba_via (by assumption) ?_ | (refine ba_set ?_ ?_ _; rotate_left; (first | omega | (simp; omega) | simp))))⟩
theorem ends_y (b : Bx) (w : World) :
    Calls Tryz.prog 167 #[boxV b, .int .i64 1] w fun e w' => e = .returned (.tuple #[.int .i64 b.lo.y, .int .i64 b.hi.y]) ∧ Below w.heap.size w w' := by
  have i0 : ∀ W, (Instr.index 274 (.agg #[.int .i64 b.lo.x, .int .i64 b.lo.y, .int .i64 b.lo.z]) (.int .i64 1)).run Tryz.prog W = .ok (.int .i64 b.lo.y) W := fun _ => by kernel_rfl
  have i1 : ∀ W, (Instr.index 274 (.agg #[.int .i64 b.hi.x, .int .i64 b.hi.y, .int .i64 b.hi.z]) (.int .i64 1)).run Tryz.prog W = .ok (.int .i64 b.hi.y) W := fun _ => by kernel_rfl
  unfold boxV
  go_enter Tryz.func167, Tryz.ntmps167
  go_wp2
  refine wp_region_grow (by kernel_rfl) (by kernel_rfl) ?_
  repeat (go_big_quiet_step ((go_at_call 226; exact grow_of (coords_any _ _ _ _))))
  all_goals (refine wpQuiet_nil ?_; intro wg hbwg; obtain ⟨hcwg, hfwg⟩ := bcell hbwg; have hzwg_0 : w.heap.size < wg.heap.size := lt_via hbwg (by first | omega | (simp; done) | (simp; omega)))
  go_wp2
  go_ret2
  exact ⟨rfl, (by repeat (first | exact Below.refl _ _ | assumption | refine ba_alloc ?_ _ | refine ba_drew ?_ | refine ba_drewN ?_ _ | refine ba_via (by assumption) ?_ | (refine ba_set ?_ ?_ _; rotate_left; (first | omega | (simp; omega) | simp))))⟩
theorem ends_z (b : Bx) (w : World) :
    Calls Tryz.prog 167 #[boxV b, .int .i64 2] w fun e w' => e = .returned (.tuple #[.int .i64 b.lo.z, .int .i64 b.hi.z]) ∧ Below w.heap.size w w' := by
  have i0 : ∀ W, (Instr.index 274 (.agg #[.int .i64 b.lo.x, .int .i64 b.lo.y, .int .i64 b.lo.z]) (.int .i64 2)).run Tryz.prog W = .ok (.int .i64 b.lo.z) W := fun _ => by kernel_rfl
  have i1 : ∀ W, (Instr.index 274 (.agg #[.int .i64 b.hi.x, .int .i64 b.hi.y, .int .i64 b.hi.z]) (.int .i64 2)).run Tryz.prog W = .ok (.int .i64 b.hi.z) W := fun _ => by kernel_rfl
  unfold boxV
  go_enter Tryz.func167, Tryz.ntmps167
  go_wp2
  refine wp_region_grow (by kernel_rfl) (by kernel_rfl) ?_
  repeat (go_big_quiet_step ((go_at_call 226; exact grow_of (coords_any _ _ _ _))))
  all_goals (refine wpQuiet_nil ?_; intro wg hbwg; obtain ⟨hcwg, hfwg⟩ := bcell hbwg; have hzwg_0 : w.heap.size < wg.heap.size := lt_via hbwg (by first | omega | (simp; done) | (simp; omega)))
  go_wp2
  go_ret2
  exact ⟨rfl, (by repeat (first | exact Below.refl _ _ | assumption | refine ba_alloc ?_ _ | refine ba_drew ?_ | refine ba_drewN ?_ _ | refine ba_via (by assumption) ?_ | (refine ba_set ?_ ?_ _; rotate_left; (first | omega | (simp; omega) | simp))))⟩
set_option maxHeartbeats 2000000 in
theorem bvalid_any (b : Bx) (w : World) :
    Calls Tryz.prog 107 #[boxV b] w fun e w' => e = .returned (.bool (S.boxOk b)) ∧ Below w.heap.size w w' := by
  have H := Lib.hid (show ∀ t : Bool, (t = true ↔ (b.lo.x ≤ b.hi.x ∧ -1048576 ≤ b.lo.x ∧ b.hi.x ≤ 1048576) ∧ (b.lo.y ≤ b.hi.y ∧ -1048576 ≤ b.lo.y ∧ b.hi.y ≤ 1048576) ∧ (b.lo.z ≤ b.hi.z ∧ -1048576 ≤ b.lo.z ∧ b.hi.z ≤ 1048576)) → t = S.boxOk b from fun t ht => by
    rw [Bool.eq_iff_iff, ht]
    simp only [S.boxOk, S.okAx, Bool.and_eq_true, decide_eq_true_eq]
    constructor <;> (intro h; omega))
  have HX := Lib.hid (fun w => ends_x b w)
  have HY := Lib.hid (fun w => ends_y b w)
  have HZ := Lib.hid (fun w => ends_z b w)
  unfold boxV
  go_enter Tryz.func107, Tryz.ntmps107
  go_wp2
  refine wp_loop_rounds 4 ?_
  rw [rounds_succ]
  go_wp2_with (go_at_call 167; (with_reducible refine (HX.out _).mono ?_); rintro e w1 ⟨rfl, hbw1⟩; obtain ⟨hcw1, hfw1⟩ := bcell hbw1; have hzw1_0 : w.heap.size < w1.heap.size := lt_via hbw1 (by first | omega | (simp; done) | (simp; omega)))
  all_goals (try (go_ret; exact ⟨ret_b (H.out _ (by simp only [decide_eq_true_eq, decide_eq_false_iff_not, Bool.false_eq_true, true_iff, false_iff] at *; omega)), (by repeat (first | exact Below.refl _ _ | assumption | refine ba_alloc ?_ _ | refine ba_drew ?_ | refine ba_drewN ?_ _ | refine ba_via (by assumption) ?_ | (refine ba_set ?_ ?_ _; rotate_left; (first | omega | (simp; omega) | simp))))⟩))
  rw [rounds_succ]
  go_wp2_with (go_at_call 167; (with_reducible refine (HY.out _).mono ?_); rintro e w2 ⟨rfl, hbw2⟩; obtain ⟨hcw2, hfw2⟩ := bcell hbw2; have hzw2_0 : w.heap.size < w2.heap.size := lt_via hbw2 (by first | omega | (simp; done) | (simp; omega)))
  all_goals (try (go_ret; exact ⟨ret_b (H.out _ (by simp only [decide_eq_true_eq, decide_eq_false_iff_not, Bool.false_eq_true, true_iff, false_iff] at *; omega)), (by repeat (first | exact Below.refl _ _ | assumption | refine ba_alloc ?_ _ | refine ba_drew ?_ | refine ba_drewN ?_ _ | refine ba_via (by assumption) ?_ | (refine ba_set ?_ ?_ _; rotate_left; (first | omega | (simp; omega) | simp))))⟩))
  rw [rounds_succ]
  go_wp2_with (go_at_call 167; (with_reducible refine (HZ.out _).mono ?_); rintro e w3 ⟨rfl, hbw3⟩; obtain ⟨hcw3, hfw3⟩ := bcell hbw3; have hzw3_0 : w.heap.size < w3.heap.size := lt_via hbw3 (by first | omega | (simp; done) | (simp; omega)))
  all_goals (try (go_ret; exact ⟨ret_b (H.out _ (by simp only [decide_eq_true_eq, decide_eq_false_iff_not, Bool.false_eq_true, true_iff, false_iff] at *; omega)), (by repeat (first | exact Below.refl _ _ | assumption | refine ba_alloc ?_ _ | refine ba_drew ?_ | refine ba_drewN ?_ _ | refine ba_via (by assumption) ?_ | (refine ba_set ?_ ?_ _; rotate_left; (first | omega | (simp; omega) | simp))))⟩))
  rw [rounds_succ]
  go_wp2
  (go_ret; exact ⟨ret_b (H.out _ (by simp only [decide_eq_true_eq, decide_eq_false_iff_not, Bool.false_eq_true, true_iff, false_iff] at *; omega)), (by repeat (first | exact Below.refl _ _ | assumption | refine ba_alloc ?_ _ | refine ba_drew ?_ | refine ba_drewN ?_ _ | refine ba_via (by assumption) ?_ | (refine ba_set ?_ ?_ _; rotate_left; (first | omega | (simp; omega) | simp))))⟩)
end Go.Proofs.YtffkmgjmlahfpaaGreat
