/- Slices that a call makes by append: what they hold, and what stays as it was. -/
import Derived.Maps.AppendAt
import Derived.Test.YtnjflafaflalfaaRE
set_option linter.unusedVariables false
set_option linter.unusedSimpArgs false
namespace Go.Proofs.Ytnjflafaflalfaa
open Go.RowKit
structure Exc (M : List Nat) (W w : World) : Prop where
  os : w.os = W.os
  tape : w.tape = W.tape
  output : w.output = W.output
  size : W.heap.size ≤ w.heap.size
  block : ∀ k, k < W.heap.size → k ∉ M → w.heap[k]? = W.heap[k]?
theorem Exc.refl (M : List Nat) (W : World) : Exc M W W := ⟨rfl, rfl, rfl, Nat.le_refl _, fun _ _ _ => rfl⟩
theorem Exc.alloc {M : List Nat} {W w : World} (h : Exc M W w) (o : Obj) : Exc M W (w.alloc o) :=
  ⟨h.os, h.tape, h.output, Nat.le_trans h.size (by simp), fun k hk hm => (Below.heap_alloc w o k (Nat.lt_of_lt_of_le hk h.size)).trans (h.block k hk hm)⟩
theorem Exc.drew {M : List Nat} {W w : World} (h : Exc M W w) : Exc M W w.drew := ⟨h.os, h.tape, h.output, h.size, h.block⟩
theorem Exc.drewN {M : List Nat} {W w : World} (h : Exc M W w) (n : Nat) : Exc M W (w.drewN n) := ⟨h.os, h.tape, h.output, h.size, h.block⟩
theorem Exc.set {M : List Nat} {W w : World} (h : Exc M W w) {p : Addr} (hp : p.block ∈ M ∨ W.heap.size ≤ p.block) (u : Value) : Exc M W (w.setCell p u) :=
  ⟨h.os, h.tape, h.output, by simpa [World.setCell] using h.size, fun k hk hm => (Below.heap_setCell w p u k (by
    rintro rfl
    rcases hp with hp | hp
    · exact hm hp
    · omega)).trans (h.block k hk hm)⟩
theorem Exc.via {M : List Nat} {W w w' : World} (h : Below w.heap.size w w') (h0 : Exc M W w) : Exc M W w' :=
  ⟨h.os.trans h0.os, h.tape.trans h0.tape, h.output.trans h0.output, Nat.le_trans h0.size h.size, fun k hk hm => (h.block k (Nat.lt_of_lt_of_le hk h0.size)).trans (h0.block k hk hm)⟩
theorem Exc.grown {M : List Nat} {W w w' : World} {row : Option Nat} (h : Exc M W w) (hg : w.grownBy w' row) (hr : ∀ k, row = some k → k ∈ M ∨ W.heap.size ≤ k) : Exc M W w' :=
  ⟨hg.os.trans h.os, hg.tape.trans h.tape, hg.output.trans h.output, Nat.le_trans h.size hg.size, fun k hk hm => (hg.block k (Nat.lt_of_lt_of_le hk h.size) (fun e => by
    rcases hr k e.symm with h1 | h1
    · exact hm h1
    · omega)).trans (h.block k hk hm)⟩
theorem Exc.cell {M : List Nat} {W w : World} (h : Exc M W w) {p : Addr} (hp : p.block < W.heap.size) (hm : p.block ∉ M) : w.cell? p = W.cell? p := World.cell?_of_block (w := W) (h.block _ hp hm)
theorem Exc.frozen {M : List Nat} {W w : World} (h : Exc M W w) {p : Addr} (hp : p.block < W.heap.size) (hm : p.block ∉ M) : w.frozen? p = W.frozen? p := World.frozen?_of_block (w := W) (h.block _ hp hm)
theorem Exc.below {M : List Nat} {B : Nat} {W w : World} (h : Exc M W w) (hB : B ≤ W.heap.size) (hm : ∀ k, k ∈ M → B ≤ k) : Below B W w :=
  ⟨h.os, h.tape, h.output, h.size, fun k hk => h.block k (by omega) (fun hk' => by have := hm k hk'; omega)⟩
theorem Exc.of_below {W w : World} (h : Below W.heap.size W w) : Exc [] W w := ⟨h.os, h.tape, h.output, h.size, fun k hk _ => h.block k hk⟩

structure Row (W w : World) (g0 : Option Nat) (base E size : Nat) (v : Value) (n : Nat) (xs : List Value) : Prop where
  own : w.ownsRow base E size v n xs
  place : ∀ k, v.ownBlock = some k → some k = g0 ∨ W.heap.size ≤ k
theorem Row.none_ (W : World) (base E size : Nat) : Row W W none base E size (.slice none 0 0) 0 [] := ⟨World.ownsRow_nil _ _ _ _, fun k h => by simp [Value.ownBlock] at h⟩
theorem Row.alloc {W w : World} {g0 : Option Nat} {base E size : Nat} {v : Value} {n : Nat} {xs : List Value} (h : Row W w g0 base E size v n xs) (o : Obj) : Row W (w.alloc o) g0 base E size v n xs := ⟨h.own.alloc o, h.place⟩
theorem Row.kept {W w w' : World} {g0 : Option Nat} {base E size : Nat} {v : Value} {n : Nat} {xs : List Value} (h : Row W w g0 base E size v n xs) (hb : ∀ k, v.ownBlock = some k → w'.heap[k]? = w.heap[k]?) : Row W w' g0 base E size v n xs := by
  refine ⟨⟨h.own.1, ?_⟩, h.place⟩
  rcases h.own.2 with hn | ⟨g, cap, cur, rfl, hg, hh, rest⟩
  · exact .inl hn
  · exact .inr ⟨g, cap, cur, rfl, hg, by rw [hb g rfl]; exact hh, rest⟩
theorem Row.via {W w w' : World} {g0 : Option Nat} {base E size : Nat} {v : Value} {n : Nat} {xs : List Value} (h : Row W w g0 base E size v n xs) (hb : Below w.heap.size w w') : Row W w' g0 base E size v n xs :=
  h.kept fun k hk => hb.block k (h.own.lt k hk).2
theorem Row.set {W w : World} {g0 : Option Nat} {base E size : Nat} {v : Value} {n : Nat} {xs : List Value} (h : Row W w g0 base E size v n xs) {p : Addr} (hp : ∀ k, v.ownBlock = some k → k ≠ p.block) (u : Value) : Row W (w.setCell p u) g0 base E size v n xs :=
  h.kept fun k hk => Below.heap_setCell w p u k (hp k hk)
theorem own_form {w : World} {base E size : Nat} {v : Value} {n : Nat} {xs : List Value} (h : w.ownsRow base E size v n xs) (hn : n ≤ maxLen := by first | omega | (unfold maxLen; omega)) :
    ∃ A c, v = .slice A n c ∧ n ≤ c ∧ c ≤ maxLen ∧ Cells w w.heap.size A xs := by
  rcases h.2 with ⟨rfl, rfl⟩ | ⟨g, cap, cur, rfl, hg, hh, hnc, hcm, hcs, ht⟩
  · have : xs = [] := List.eq_nil_of_length_eq_zero (by simpa using h.1)
    subst this
    exact ⟨none, 0, rfl, Nat.le_refl _, by unfold maxLen; omega, Cells.nil⟩
  · refine ⟨_, cap, rfl, hnc, hcm, .inr ⟨g, 0, rfl, (Array.getElem?_eq_some_iff.1 hh).1, fun j u hu => ?_⟩⟩
    have := h.cells (g := g) rfl j u hu
    rw [Nat.zero_add]
    rwa [show (⟨g, 0, none⟩ : Addr).add j = ⟨g, j, none⟩ by unfold Addr.add; split <;> simp_all] at this
theorem own_cells {w : World} {base E size : Nat} {A : Option Addr} {n c : Nat} {xs : List Value} (h : w.ownsRow base E size (.slice A n c) n xs) (hn : n ≤ maxLen := by first | omega | (unfold maxLen; omega)) :
    Cells w w.heap.size A xs ∧ n ≤ c ∧ c ≤ maxLen := by
  obtain ⟨A', c', hv, h1, h2, h3⟩ := own_form h hn
  injection hv with hA _ hc
  subst hA hc
  exact ⟨h3, h1, h2⟩
structure Elem (P : Program) (t E : TypeId) (z : Value) (size bytes : Nat) : Prop where
  slice : P.underlying t = some (.slice E)
  info : (P.info? E).map (fun i => (i.zero, i.size, i.bytes)) = some (some z, size, bytes)
  cells : z.cells.size = size
  pos : 0 < size
theorem wpList_push {P : Program} {w : World} {ops : Array Oper} {rest : List Oper} {o : Oper} {a : Act} {Q : Exit → Act → World → Prop} (hgd : o.guard = none) (s x : Operand) (t : TypeId)
    (ho : o.op = .call { callee := .builtin .append, args := #[s, x], argTypes := #[t, t] })
    {E : TypeId} {z : Value} {size bytes : Nat} (hE : Elem P t E z size bytes)
    {W : World} {g0 : Option Nat} {base : Nat} {M : List Nat} {v : Value} {n : Nat} {xs : List Value} (hR : Row W w g0 base E size v n xs) (hX : Exc M W w) (hM : ∀ k, g0 = some k → k ∈ M) (hb : base ≤ W.heap.size) (hs : a.eval s = v)
    (g : Nat) (m c : Nat) (news : List Value) (hx : a.eval x = .slice (some ⟨g, 0, none⟩) m c) (hl : news.length = m * size) (hc : ∀ j u, news[j]? = some u → w.cell? ⟨g, j, none⟩ = some u) (h1 : ∀ u ∈ news, u.oneCell' = true)
    (h63 : n + m ≤ maxLen) (hbytes : (n + m) * bytes ≤ 140737488355328)
    (h : ∀ v' w', Row W w' g0 base E size v' (n + m) (xs ++ news) → Exc M W w' → (∀ k, k < w.heap.size → v.ownBlock ≠ some k → w'.heap[k]? = w.heap[k]?) → wpList P ops Q rest (a.put o.dst v') w') : wpList P ops Q (o :: rest) a w := by
  obtain ⟨i, hi, hz, hsz, hby⟩ := info_parts hE.info
  refine wpList_append_own_at w hgd s x t ho base E i z size bytes hE.slice hi hz hsz hby hE.cells hE.pos v n xs hs hR.own ⟨g, 0, none⟩ m c news hx hl (fun j u hu => ?_) h1 h63 hbytes (Nat.le_trans hb hX.size) (fun v' w' h2 h3 _ h4 => ?_)
  · rw [show (⟨g, 0, none⟩ : Addr).add j = ⟨g, j, none⟩ by unfold Addr.add; split <;> simp_all]
    exact hc j u hu
  · have hrow : ∀ k, v.ownBlock = some k → k ∈ M ∨ W.heap.size ≤ k := fun k hk => by
      rcases hR.place k hk with h5 | h5
      · exact .inl (hM k h5.symm)
      · exact .inr h5
    refine h v' w' ⟨h2, fun k hk => ?_⟩ (hX.grown h3 hrow) (fun k hk hne => h3.block k hk (fun e => hne e.symm))
    rcases h4 with h4 | h4
    · exact hR.place k (h4 ▸ hk)
    · rw [h4] at hk
      injection hk with hk
      exact .inr (hk ▸ hX.size)
def Blk (w : World) (g : Nat) (t : TypeId) (cs : Array Value) : Prop := w.heap[g]? = some (.cells cs t (0, 0))
theorem Blk.lt {w : World} {g : Nat} {t : TypeId} {cs : Array Value} (h : Blk w g t cs) : g < w.heap.size := (Array.getElem?_eq_some_iff.1 h).1
theorem Blk.cell {w : World} {g : Nat} {t : TypeId} {cs : Array Value} (h : Blk w g t cs) (j : Nat) : w.cell? ⟨g, j, none⟩ = cs[j]? := cell_of_row w g j cs t (0, 0) h
theorem Blk.frozen {w : World} {g : Nat} {t : TypeId} {cs : Array Value} (h : Blk w g t cs) (j : Nat) : w.frozen? ⟨g, j, none⟩ = false := by
  unfold Blk at h
  simp [World.frozen?, h]
theorem Blk.new (w : World) (t : TypeId) (cs : Array Value) : Blk (w.alloc (.cells cs t)) w.heap.size t cs := heap_alloc_new w _
theorem Blk.alloc {w : World} {g : Nat} {t : TypeId} {cs : Array Value} (h : Blk w g t cs) (o : Obj) : Blk (w.alloc o) g t cs := (Below.heap_alloc w o g h.lt).trans h
theorem Blk.set {w : World} {g : Nat} {t : TypeId} {cs : Array Value} (h : Blk w g t cs) (j : Nat) (u : Value) : Blk (w.setCell ⟨g, j, none⟩ u) g t (cs.setIfInBounds j u) := heap_setCell_same w g j cs t u h
theorem Blk.far {w : World} {g : Nat} {t : TypeId} {cs : Array Value} (h : Blk w g t cs) {p : Addr} (hp : g ≠ p.block) (u : Value) : Blk (w.setCell p u) g t cs := (Below.heap_setCell w p u g hp).trans h
theorem Blk.via {w w' : World} {g : Nat} {t : TypeId} {cs : Array Value} (h : Blk w g t cs) (hb : Below w.heap.size w w') : Blk w' g t cs := (hb.block g h.lt).trans h
theorem one_new (w : World) (x : Value) (t : TypeId) (fr : Nat × Nat) : ∀ j u, [x][j]? = some u → (w.alloc (.cells #[x] t fr)).cell? ⟨w.heap.size, j, none⟩ = some u := fun j u hu => by
  have := (Cells.newRow w #[x] t fr).get (k := j) (v := u) hu
  rwa [Nat.zero_add] at this
end Go.Proofs.Ytnjflafaflalfaa
