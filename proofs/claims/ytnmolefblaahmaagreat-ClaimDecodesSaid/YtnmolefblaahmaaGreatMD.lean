/- Points as plain data, and their cells. The first place at which a test answers yes, and whether it does somewhere (no program in sight). Slices that a call makes by append: what they hold, and what st -/
import Derived.Maps.AppendAt
import Derived.StillTail
import Derived.Test.YtnmolefblaahmaaGreatMB
import Derived.Test.YtnmolefblaahmaaGreatMC
set_option linter.unusedVariables false
set_option linter.unusedSimpArgs false
namespace Go.Proofs.YtnmolefblaahmaaGreat
open Go.RowKit
structure Pt where
 x : Int
 y : Int
 z : Int
abbrev ptC (p : Pt) : List Value := [.int .i64 p.x, .int .i64 p.y, .int .i64 p.z]
theorem ptC_len (p : Pt) : (ptC p).length = 3 := rfl
end Go.Proofs.YtnmolefblaahmaaGreat
namespace Go.Proofs.YtnmolefblaahmaaGreat
def idxf {α : Type} (xs : List α) (p : α → Bool) : Int := match xs.findIdx? p with | some k => k | none => -1
theorem idxf_hit {α : Type} {xs : List α} {p : α → Bool} {k : Nat} (hk : k < xs.length) (hx : p xs[k] = true) (hno : ∀ j (h : j < xs.length), j < k → p xs[j] = false) : idxf xs p = k := by
 have : xs.findIdx? p = some k := by
  rw [List.findIdx?_eq_some_iff_getElem]
  exact ⟨hk, hx, fun j hj => by simpa using hno j (by omega) hj⟩
 simp [idxf, this]
theorem idxf_miss {α : Type} {xs : List α} {p : α → Bool} (hno : ∀ j (h : j < xs.length), p xs[j] = false) : idxf xs p = -1 := by
 have : xs.findIdx? p = none := by
  rw [List.findIdx?_eq_none_iff]
  intro y hy
  obtain ⟨j, hj, rfl⟩ := List.mem_iff_getElem.1 hy
  simpa using hno j hj
 simp [idxf, this]
theorem idxf_ge {α : Type} (xs : List α) (p : α → Bool) : decide (0 ≤ idxf xs p) = xs.any p := by
 unfold idxf
 split
 ·rename_i k hk
  obtain ⟨h1, h2, _⟩ := List.findIdx?_eq_some_iff_getElem.1 hk
  have : xs.any p = true := List.any_eq_true.2 ⟨_, List.getElem_mem h1, h2⟩
  simp [this]
 ·rename_i hk
  rw [List.findIdx?_eq_none_iff] at hk
  have : xs.any p = false := by
   rw [List.any_eq_false]
   exact fun x hx => by simp [hk x hx]
  simp [this]
def anyb {α : Type} (xs : List α) (p : α → Bool) : Bool := xs.any p
end Go.Proofs.YtnmolefblaahmaaGreat
namespace Go.Proofs.YtnmolefblaahmaaGreat
open Go.RowKit
structure Exc (M : List Nat) (W w : World) : Prop where
 os : w.os = W.os
 tape : w.tape = W.tape
 output : w.output = W.output
 size : W.heap.size ≤ w.heap.size
 block : ∀ k, k < W.heap.size → k ∉ M → w.heap[k]? = W.heap[k]?
theorem Exc.refl (M : List Nat) (W : World) : Exc M W W := ⟨rfl, rfl, rfl, Nat.le_refl _, fun _ _ _ => rfl⟩
theorem Exc.alloc {M : List Nat} {W w : World} (h : Exc M W w) (o : Obj) : Exc M W (w.alloc o) :=
 ⟨h.os, h.tape, h.output, Nat.le_trans h.size (by simp), fun k hk hm => (Below.heap_alloc w o k (Nat.lt_of_lt_of_le hk h.size)).trans (h.block k hk hm)⟩
theorem Exc.drew {M : List Nat} {W w : World} (h : Exc M W w) : Exc M W w.drew := ⟨h.os, h.tape, h.output, h.size, h.block⟩
theorem Exc.set {M : List Nat} {W w : World} (h : Exc M W w) {p : Addr} (hp : p.block ∈ M ∨ W.heap.size ≤ p.block) (u : Value) : Exc M W (w.setCell p u) :=
 ⟨h.os, h.tape, h.output, by simpa [World.setCell] using h.size, fun k hk hm => (Below.heap_setCell w p u k (by
   rintro rfl
   rcases hp with hp | hp
   ·exact hm hp
   ·omega)).trans (h.block k hk hm)⟩
theorem Exc.via {M : List Nat} {W w w' : World} (h : Below w.heap.size w w') (h0 : Exc M W w) : Exc M W w' :=
 ⟨h.os.trans h0.os, h.tape.trans h0.tape, h.output.trans h0.output, Nat.le_trans h0.size h.size, fun k hk hm => (h.block k (Nat.lt_of_lt_of_le hk h0.size)).trans (h0.block k hk hm)⟩
theorem Exc.grown {M : List Nat} {W w w' : World} {row : Option Nat} (h : Exc M W w) (hg : w.grownBy w' row) (hr : ∀ k, row = some k → k ∈ M ∨ W.heap.size ≤ k) : Exc M W w' :=
 ⟨hg.os.trans h.os, hg.tape.trans h.tape, hg.output.trans h.output, Nat.le_trans h.size hg.size, fun k hk hm => (hg.block k (Nat.lt_of_lt_of_le hk h.size) (fun e => by
   rcases hr k e.symm with h1 | h1
   ·exact hm h1
   ·omega)).trans (h.block k hk hm)⟩
theorem Exc.cell {M : List Nat} {W w : World} (h : Exc M W w) {p : Addr} (hp : p.block < W.heap.size) (hm : p.block ∉ M) : w.cell? p = W.cell? p := World.cell?_of_block (w := W) (h.block _ hp hm)
theorem Exc.frozen {M : List Nat} {W w : World} (h : Exc M W w) {p : Addr} (hp : p.block < W.heap.size) (hm : p.block ∉ M) : w.frozen? p = W.frozen? p := World.frozen?_of_block (w := W) (h.block _ hp hm)
theorem Exc.below {M : List Nat} {B : Nat} {W w : World} (h : Exc M W w) (hB : B ≤ W.heap.size) (hm : ∀ k, k ∈ M → B ≤ k) : Below B W w :=
 ⟨h.os, h.tape, h.output, h.size, fun k hk => h.block k (by omega) (fun hk' => by have := hm k hk'; omega)⟩
structure Row (W w : World) (g0 : Option Nat) (base E size : Nat) (v : Value) (n : Nat) (xs : List Value) : Prop where
 own : w.ownsRow base E size v n xs
 place : ∀ k, v.ownBlock = some k → some k = g0 ∨ W.heap.size ≤ k
theorem Row.none_ (W : World) (base E size : Nat) : Row W W none base E size (.slice none 0 0) 0 [] := ⟨World.ownsRow_nil _ _ _ _, fun k h => by simp [Value.ownBlock] at h⟩
theorem Row.alloc {W w : World} {g0 : Option Nat} {base E size : Nat} {v : Value} {n : Nat} {xs : List Value} (h : Row W w g0 base E size v n xs) (o : Obj) : Row W (w.alloc o) g0 base E size v n xs := ⟨h.own.alloc o, h.place⟩
theorem Row.kept {W w w' : World} {g0 : Option Nat} {base E size : Nat} {v : Value} {n : Nat} {xs : List Value} (h : Row W w g0 base E size v n xs) (hb : ∀ k, v.ownBlock = some k → w'.heap[k]? = w.heap[k]?) : Row W w' g0 base E size v n xs := by
 refine ⟨⟨h.own.1, ?_⟩, h.place⟩
 rcases h.own.2 with hn | ⟨g, cap, cur, rfl, hg, hh, rest⟩
 ·exact .inl hn
 ·exact .inr ⟨g, cap, cur, rfl, hg, by rw [hb g rfl]; exact hh, rest⟩
theorem Row.via {W w w' : World} {g0 : Option Nat} {base E size : Nat} {v : Value} {n : Nat} {xs : List Value} (h : Row W w g0 base E size v n xs) (hb : Below w.heap.size w w') : Row W w' g0 base E size v n xs :=
 h.kept fun k hk => hb.block k (h.own.lt k hk).2
theorem Row.set {W w : World} {g0 : Option Nat} {base E size : Nat} {v : Value} {n : Nat} {xs : List Value} (h : Row W w g0 base E size v n xs) {p : Addr} (hp : ∀ k, v.ownBlock = some k → k ≠ p.block) (u : Value) : Row W (w.setCell p u) g0 base E size v n xs :=
 h.kept fun k hk => Below.heap_setCell w p u k (hp k hk)
theorem own_form {w : World} {base E size : Nat} {v : Value} {n : Nat} {xs : List Value} (h : w.ownsRow base E size v n xs) (hn : n ≤ maxLen := by first | omega | (unfold maxLen; omega)) :
 ∃ A c, v = .slice A n c ∧ n ≤ c ∧ c ≤ maxLen ∧ Cells w w.heap.size A xs := by
 rcases h.2 with ⟨rfl, rfl⟩ | ⟨g, cap, cur, rfl, hg, hh, hnc, hcm, hcs, ht⟩
 ·have : xs = [] := List.eq_nil_of_length_eq_zero (by simpa using h.1)
  subst this
  exact ⟨none, 0, rfl, Nat.le_refl _, by unfold maxLen; omega, Cells.nil⟩
 ·refine ⟨_, cap, rfl, hnc, hcm, .inr ⟨g, 0, rfl, (Array.getElem?_eq_some_iff.1 hh).1, fun j u hu => ?_⟩⟩
  have := h.cells (g := g) rfl j u hu
  rw [Nat.zero_add]
  rwa [show (⟨g, 0, none⟩ : Addr).add j = ⟨g, j, none⟩ by unfold Addr.add; split <;> simp_all] at this
theorem own_cells {w : World} {base E size : Nat} {A : Option Addr} {n c : Nat} {xs : List Value} (h : w.ownsRow base E size (.slice A n c) n xs) (hn : n ≤ maxLen := by first | omega | (unfold maxLen; omega)) :
 Cells w w.heap.size A xs ∧ n ≤ c ∧ c ≤ maxLen := by
 obtain ⟨A', c', hv, h1, h2, h3⟩ := own_form h hn
 injection hv with hA _ hc
 subst hA hc
 exact ⟨h3, h1, h2⟩
structure Elem (P : Program) (t E : TypeId) (z : Value) (size bytes : Nat) : Prop where
 slice : P.underlying t = some (.slice E)
 info : (P.info? E).map (fun i => (i.zero, i.size, i.bytes)) = some (some z, size, bytes)
 cells : z.cells.size = size
 pos : 0 < size
theorem wpList_push {P : Program} {w : World} {ops : Array Oper} {rest : List Oper} {o : Oper} {a : Act} {Q : Exit → Act → World → Prop} (hgd : o.guard = none) (s x : Operand) (t : TypeId)
 (ho : o.op = .call { callee := .builtin .append, args := #[s, x], argTypes := #[t, t] })
 {E : TypeId} {z : Value} {size bytes : Nat} (hE : Elem P t E z size bytes)
 {W : World} {g0 : Option Nat} {base : Nat} {M : List Nat} {v : Value} {n : Nat} {xs : List Value} (hR : Row W w g0 base E size v n xs) (hX : Exc M W w) (hM : ∀ k, g0 = some k → k ∈ M) (hb : base ≤ W.heap.size) (hs : a.eval s = v)
 (g : Nat) (m c : Nat) (news : List Value) (hx : a.eval x = .slice (some ⟨g, 0, none⟩) m c) (hl : news.length = m * size) (hc : ∀ j u, news[j]? = some u → w.cell? ⟨g, j, none⟩ = some u) (h1 : ∀ u ∈ news, u.oneCell' = true)
 (h63 : n + m ≤ maxLen) (hbytes : (n + m) * bytes ≤ 140737488355328)
 (h : ∀ v' w', Row W w' g0 base E size v' (n + m) (xs ++ news) → Exc M W w' → (∀ k, k < w.heap.size → v.ownBlock ≠ some k → w'.heap[k]? = w.heap[k]?) → wpList P ops Q rest (a.put o.dst v') w') : wpList P ops Q (o :: rest) a w := by
 obtain ⟨i, hi, hz, hsz, hby⟩ := info_parts hE.info
 refine wpList_append_own_at w hgd s x t ho base E i z size bytes hE.slice hi hz hsz hby hE.cells hE.pos v n xs hs hR.own ⟨g, 0, none⟩ m c news hx hl (fun j u hu => ?_) h1 h63 hbytes (Nat.le_trans hb hX.size) (fun v' w' h2 h3 _ h4 => ?_)
 ·rw [show (⟨g, 0, none⟩ : Addr).add j = ⟨g, j, none⟩ by unfold Addr.add; split <;> simp_all]
  exact hc j u hu
 ·have hrow : ∀ k, v.ownBlock = some k → k ∈ M ∨ W.heap.size ≤ k := fun k hk => by
   rcases hR.place k hk with h5 | h5
   ·exact .inl (hM k h5.symm)
   ·exact .inr h5
  refine h v' w' ⟨h2, fun k hk => ?_⟩ (hX.grown h3 hrow) (fun k hk hne => h3.block k hk (fun e => hne e.symm))
  rcases h4 with h4 | h4
  ·exact hR.place k (h4 ▸ hk)
  ·rw [h4] at hk
   injection hk with hk
   exact .inr (hk ▸ hX.size)
def Blk (w : World) (g : Nat) (t : TypeId) (cs : Array Value) : Prop := w.heap[g]? = some (.cells cs t (0, 0))
theorem Blk.lt {w : World} {g : Nat} {t : TypeId} {cs : Array Value} (h : Blk w g t cs) : g < w.heap.size := (Array.getElem?_eq_some_iff.1 h).1
theorem Blk.cell {w : World} {g : Nat} {t : TypeId} {cs : Array Value} (h : Blk w g t cs) (j : Nat) : w.cell? ⟨g, j, none⟩ = cs[j]? := cell_of_row w g j cs t (0, 0) h
theorem Blk.frozen {w : World} {g : Nat} {t : TypeId} {cs : Array Value} (h : Blk w g t cs) (j : Nat) : w.frozen? ⟨g, j, none⟩ = false := by
 unfold Blk at h
 simp [World.frozen?, h]
theorem Blk.new (w : World) (t : TypeId) (cs : Array Value) : Blk (w.alloc (.cells cs t)) w.heap.size t cs := heap_alloc_new w _
theorem Blk.alloc {w : World} {g : Nat} {t : TypeId} {cs : Array Value} (h : Blk w g t cs) (o : Obj) : Blk (w.alloc o) g t cs := (Below.heap_alloc w o g h.lt).trans h
theorem Blk.set {w : World} {g : Nat} {t : TypeId} {cs : Array Value} (h : Blk w g t cs) (j : Nat) (u : Value) : Blk (w.setCell ⟨g, j, none⟩ u) g t (cs.setIfInBounds j u) := heap_setCell_same w g j cs t u h
theorem Blk.far {w : World} {g : Nat} {t : TypeId} {cs : Array Value} (h : Blk w g t cs) {p : Addr} (hp : g ≠ p.block) (u : Value) : Blk (w.setCell p u) g t cs := (Below.heap_setCell w p u g hp).trans h
theorem Blk.via {w w' : World} {g : Nat} {t : TypeId} {cs : Array Value} (h : Blk w g t cs) (hb : Below w.heap.size w w') : Blk w' g t cs := (hb.block g h.lt).trans h
section
variable {P : Program} {ops : Array Oper} {md : Region.Mode} {C : World → Prop} {n : Nat}

def headQ (P : Program) (md : Region.Mode) (ops : Array Oper) (C : World → Prop) (n : Nat) (L : Array Bool → Act → Prop) : Nat → Array Bool → Act → Prop
 | 0, listed, a => L listed a
 | f + 1, listed, a =>
  Region.ready md ops listed ≠ [] ∧ ∀ i, i ∈ Region.ready md ops listed → i < n ∧ qOp P ops C i (headQ P md ops C n L f (listed.setIfInBounds i true)) a

theorem headQ_any {g : Nat} {L : Array Bool → Act → Prop} {Q' : Exit → Act → World → Prop} (hL : ∀ listed a w, C w → L listed a → wpAny P md ops Q' g listed a w) :
 ∀ (f : Nat) (listed : Array Bool) (a : Act) (w : World), C w → headQ P md ops C n L f listed a → wpAny P md ops Q' (f + g) listed a w := by
 intro f
 induction f with
 | zero => intro listed a w hw h; rw [Nat.zero_add]; exact hL _ _ _ hw h
 | succ f ih =>
  intro listed a w hw h
  have e : f + 1 + g = (f + g) + 1 := by omega
  rw [e]
  refine ⟨fun h0 => absurd h0 h.1, fun i hi => ?_⟩
  exact wpOp_of_qOp hw (fun a' w' hw' h' => ih _ a' w' hw' h') (h.2 i hi).2

theorem headQ_first {i : Nat} {oi : Oper} {v : Value} {L : Array Bool → Act → Prop} (hi : ops[i]? = some oi) (hsel : ∀ (j : Nat) (o : Oper) cs b, ops[j]? = some o → o.op ≠ .select cs b)
 (hs : Region.sinkB md ops n = true) (hc : Region.chainB md ops n = true) (hn : n < ops.size) (hin : i < n) (hdone : ∀ listed a, L listed a → ∀ j, j ∈ Region.ready md ops listed → n ≤ j) :
 ∀ (f : Nat) (listed : Array Bool) (a : Act), HeadInv md ops n listed →
  (∀ j oj, ops[j]? = some oj → j ≠ i → listed.getD j true = false → (∀ e ∈ oj.after, Region.binds md e = true → e.on ≠ i) → oi.apart ops oj = true) →
  i ∈ Region.ready md ops listed → YieldsIn P ops C oi v a → headQ P md ops C n L f (listed.setIfInBounds i true) (a.put oi.dst v) → headQ P md ops C n L (f + 1) listed a := by
 intro f
 induction f with
 | zero =>
  intro listed a inv _ hr hy H
  refine ⟨fun h => by rw [h] at hr; exact absurd hr (by simp), fun j hj => ?_⟩
  have hjn : j < n := Nat.lt_of_not_le fun h => tail_waits hs hc hn inv _ i rfl hin (mem_ready.1 hr).1 j h hj
  refine ⟨hjn, ?_⟩
  by_cases hji : j = i
  ·subst hji
   exact hy.qOp hi H
  ·exact absurd (hdone _ _ H j (ready_mono hj hji)) (by omega)
 | succ f ih =>
  intro listed a inv hfree hr hy H
  refine ⟨fun h => by rw [h] at hr; exact absurd hr (by simp), fun j hj => ?_⟩
  have hjn : j < n := Nat.lt_of_not_le fun h => tail_waits hs hc hn inv _ i rfl hin (mem_ready.1 hr).1 j h hj
  refine ⟨hjn, ?_⟩
  by_cases hji : j = i
  ·subst hji
   exact hy.qOp hi H
  ·obtain ⟨hjun, oj, hoj, hall⟩ := mem_ready.1 hj
   have hnot : ∀ e ∈ oj.after, Region.binds md e = true → e.on ≠ i := fun e he hb heq => by
    have h1 := hall e he hb
    rw [heq, getD_both (mem_ready.1 hr).1] at h1
    exact absurd h1 (by simp)
   have h2 := qOp_put hoj (hfree j oj hoj hji hjun hnot) (fun cs b => hsel i oi cs b hi) (fun cs b => hsel j oj cs b hoj) hy (H.2 j (ready_mono hj hji)).2
   refine qOp_mono (fun a' h3 => ih (listed.setIfInBounds j true) a' (inv.set hj hjn) (fun k ok hk hki hun hno => ?_) (ready_mono hr (Ne.symm hji)) h3.1 ?_) h2
   ·refine hfree k ok hk hki ?_ hno
    by_cases hjk : j = k
    ·subst hjk
     exact hjun
    ·rwa [getD_set_ne true hjk] at hun
   ·rw [Array.setIfInBounds_comm _ _ hji]
    exact h3.2

theorem headQ_lex {g : Nat} {Lq : Act → Prop} (hsel : Region.noSelect ops = true) (hs : Region.sinkB md ops n = true) (hc : Region.chainB md ops n = true) (hn : n < ops.size) :
 ∀ (l : List Oper) (k : Nat) (listed : Array Bool) (a : Act), (∀ j, j < l.length → l[j]? = ops[k + j]?) → k + l.length = n → HeadInv md ops n listed →
 Region.lexHead md ops g l.length k listed = true → wpQuiet P ops C Lq l a →
 headQ P md ops C n (fun listed' a' => Region.seqB md ops g n listed' = true ∧ Lq a') l.length listed a := by
 intro l
 induction l with
 | nil =>
  intro k listed a _ hk _ hB h
  obtain rfl : k = n := by simpa using hk
  exact ⟨by simpa [Region.lexHead] using hB, h⟩
 | cons o l ih =>
  intro k listed a hl hk inv hB h
  have h0 : ops[k]? = some o := by simpa using (hl 0 (by simp)).symm
  simp only [List.length_cons, Region.lexHead, Bool.and_eq_true] at hB
  simp only [List.length_cons] at hk
  have hr' : k ∈ Region.ready md ops listed := by simpa using hB.1.1
  have hst : qOp P ops C k (wpQuiet P ops C Lq l) a := by
   unfold qOp
   simp only [h0]
   exact h
  obtain ⟨v, hy, hK⟩ := yieldsIn_of_qOp h0 hst
  refine headQ_first h0 (Region.noSelect_spec hsel) hs hc hn (by omega) (fun listed' a' hL => seqB_ready hL.1) l.length listed a inv (Region.free_spec h0 hB.1.2) hr' hy ?_
  refine ih (k + 1) _ _ (fun j hj => ?_) (by omega) (inv.set hr' (by omega)) hB.2 hK
  have := hl (j + 1) (by simp; omega)
  simpa [Nat.add_assoc, Nat.add_comm 1 j] using this
end

theorem wp_region_grow_tail {P : Program} {id : Nat} {Q : Exit → Act → World → Prop} {a : Act} {w : World} {l : List Oper} (m : Nat) (hm : P.follows .mixedOrders = true) (hB : Region.lexTailB .any l.toArray m = true)
 (h : wpQuiet P l.toArray (fun w' => ∃ g, w' = grow w g) (fun a' => ∀ w', Below w.heap.size w w' → wpList P l.toArray Q (l.drop m) a' w') (l.take m) a) : (Code.region id l.toArray true).wp P Q a w := by
 simp only [Region.lexTailB, Bool.and_eq_true, decide_eq_true_eq] at hB
 obtain ⟨⟨⟨⟨hsel, hn⟩, hs⟩, hc⟩, hlex⟩ := hB
 have hn' : m < l.length := by simpa using hn
 have htl : (l.take m).length = m := by simp; omega
 have hdl : (l.drop m).length = l.toArray.size - m := by simp
 have inv0 : HeadInv .any l.toArray m (Array.replicate l.toArray.size false) :=
  ⟨by simp, fun j oj _ hl => by rw [getD_replicate_false] at hl; exact absurd hl (by simp), fun t _ ht => getD_in (by simpa using ht) (getD_replicate_false _ _)⟩
 have H := headQ_lex (C := fun w' => ∃ g, w' = grow w g) (md := .any) (g := l.toArray.size - m) hsel hs hc hn (l.take m) 0 _ a (fun j hj => by
  have hj' : j < m := by rw [htl] at hj; exact hj
  simp [hj']) (by simpa using htl) inv0 (by rw [htl]; exact hlex) h
 refine wp_region_any hm ?_
 have h3 := headQ_any (Q' := Q) (g := l.toArray.size - m) (fun listed a' w' hw' hL => by
  obtain ⟨g, rfl⟩ := hw'
  have := wpAny_of_seq (md := .any) (Q' := Q) (l.drop m) m listed a' (grow w g) (fun j => by simp [List.getElem?_drop]) (by rw [hdl]; exact hL.1) (hL.2 _ (grow_below w g))
  rwa [hdl] at this) _ _ _ w.drew ⟨w.drew, (grow_eq (Below.drew (Below.refl _ _))).symm⟩ H
 rw [htl, show m + (l.toArray.size - m) = l.toArray.size by omega] at h3
 exact h3
end Go.Proofs.YtnmolefblaahmaaGreat
namespace Go.Proofs.YtnmolefblaahmaaGreat
structure Rule where
 num : Int
 den : Int
 pnum : Int
 pden : Int
 bnum : Int
 bden : Int
 lnum : Int
 lden : Int
 least : Int
namespace S
def num (n : Int) : Bool := decide (1 ≤ n) && decide (n ≤ 1000)
def up (n p q : Int) : Int := (n * p + q - 1) / q
def rule (r : Rule) : Bool := num r.num && num r.den && num r.pnum && num r.pden && num r.bnum && num r.bden && num r.lnum && num r.lden &&
 decide (r.pden ≤ r.pnum) && decide (r.lden ≤ r.lnum) && decide (r.bnum ≤ r.bden) && decide (0 ≤ r.least) && decide (r.least ≤ 1000)
def basic (r : Rule) (d : Int) : Int := if up d r.num r.den < r.least then r.least else up d r.num r.den
def poorUp (r : Rule) (poor : Bool) (n : Int) : Int := if poor then up n r.pnum r.pden else n
def bentUp (r : Rule) (bent : Bool) (n : Int) : Int := if bent then up n r.bnum r.bden else n
def atLeast (r : Rule) (n : Int) : Int := if n < r.least then r.least else n
def length (r : Rule) (d : Int) (poor bent : Bool) : Int := atLeast r (bentUp r bent (poorUp r poor (basic r d)))
end S
structure RuleOk (r : Rule) : Prop where
 num : 1 ≤ r.num ∧ r.num ≤ 1000
 den : 1 ≤ r.den ∧ r.den ≤ 1000
 pnum : 1 ≤ r.pnum ∧ r.pnum ≤ 1000
 pden : 1 ≤ r.pden ∧ r.pden ≤ 1000
 bnum : 1 ≤ r.bnum ∧ r.bnum ≤ 1000
 bden : 1 ≤ r.bden ∧ r.bden ≤ 1000
 lnum : 1 ≤ r.lnum ∧ r.lnum ≤ 1000
 lden : 1 ≤ r.lden ∧ r.lden ≤ 1000
 poor : r.pden ≤ r.pnum
 lap : r.lden ≤ r.lnum
 bend : r.bnum ≤ r.bden
 least : 0 ≤ r.least ∧ r.least ≤ 1000
end Go.Proofs.YtnmolefblaahmaaGreat
namespace Go.Proofs.YtnmolefblaahmaaGreat
open Go.RowKit
abbrev barV (b : Bar) (A : Option Addr) (n c : Nat) : Value := .agg #[.string b.mark, .int .i64 b.size, .int .i64 b.count, .int .i64 b.code, .slice A n c]
structure BarAt (w : World) (B : Nat) (A : Option Addr) (n : Nat) (b : Bar) : Prop where
 len : b.dims.length = n
 max : n ≤ 9223372036854775807
 mark : b.mark.size ≤ 9223372036854775807
 cells : Cells w B A (i64s b.dims)
theorem BarAt.below {w w' : World} {B : Nat} {A : Option Addr} {n : Nat} {b : Bar} (h : BarAt w B A n b) (hb : Below B w w') : BarAt w' B A n b := ⟨h.len, h.max, h.mark, h.cells.below hb⟩
theorem BarAt.mono {w : World} {B B' : Nat} {A : Option Addr} {n : Nat} {b : Bar} (h : BarAt w B A n b) (hb : B ≤ B') : BarAt w B' A n b := ⟨h.len, h.max, h.mark, h.cells.mono hb⟩
def S.short (b : Bar) : Bool := decide (b.dims.length ≤ 8) && decide (b.mark.size ≤ 60)
theorem short_any (b : Bar) (A : Option Addr) (n c : Nat) (w : World) (hn : b.dims.length = n) (hm : n ≤ 9223372036854775807) (hk : b.mark.size ≤ 9223372036854775807) :
 Calls Tryz.prog 72 #[barV b A n c] w fun e w' => e = .returned (.bool (S.short b)) ∧ Below w.heap.size w w' := by
 have H := Lib.hid (show S.short b = (decide (n ≤ 8) && decide (b.mark.size ≤ 60)) by simp [S.short, hn])
 clear hn
 unfold barV
 go_enter Tryz.func72, Tryz.ntmps72
 go_wp2
 all_goals (go_ret; exact ⟨ret_b (by rw [H.out, Bool.eq_iff_iff]; simp; omega), bel⟩)
namespace S
def isAxis (n : Int) : Bool := (n != 0) && decide (-3 ≤ n) && decide (n ≤ 3)
def turn (x y : Int) : Bool := isAxis x && isAxis y && (x != y) && (x != -y)
def one (n k : Int) : Int := if n = k then 1 else if n = -k then -1 else 0
def unit (n : Int) : Pt := ⟨one n 1, one n 2, one n 3⟩
def cross (a b : Pt) : Pt := ⟨a.y * b.z - a.z * b.y, a.z * b.x - a.x * b.z, a.x * b.y - a.y * b.x⟩
def image (x y : Int) (p : Pt) : Pt :=
 let a := unit x; let b := unit y; let c := cross (unit x) (unit y)
 ⟨a.x * p.x + b.x * p.y + c.x * p.z, a.y * p.x + b.y * p.y + c.y * p.z, a.z * p.x + b.z * p.y + c.z * p.z⟩
def plus (p s : Pt) (k : Int) : Pt := ⟨p.x + k * s.x, p.y + k * s.y, p.z + k * s.z⟩
def placed (x y : Int) (at_ p : Pt) : Pt := let q := image x y p; ⟨at_.x + q.x, at_.y + q.y, at_.z + q.z⟩
def near1 (p : Pt) (m : Int) : Bool := decide (-m ≤ p.x) && decide (p.x ≤ m) && decide (-m ≤ p.y) && decide (p.y ≤ m) && decide (-m ≤ p.z) && decide (p.z ≤ m)
end S
abbrev ptV (p : Pt) : Value := .agg #[.int .i64 p.x, .int .i64 p.y, .int .i64 p.z]
abbrev turnV (x y : Int) : Value := .agg #[.int .i64 x, .int .i64 y]
theorem axis_any (n : Int) (w : World) : Calls Tryz.prog 205 #[.int .i64 n] w fun e w' => e = .returned (.bool (S.isAxis n)) ∧ w = w' := by
 have H := Lib.hid (show S.isAxis n = ((n != 0) && decide (-3 ≤ n) && decide (n ≤ 3)) from rfl)
 generalize hu : (n != 0) = u at H
 have hu' := Lib.hid hu
 go_enter Tryz.func205, Tryz.ntmps205
 go_wp2
 all_goals (go_ret; refine ⟨ret_b ?_, rfl⟩; rw [H.out]; have := hu'.out; simp_all; try omega)
theorem fvalid_any (x y : Int) (w : World) : Calls Tryz.prog 139 #[turnV x y] w fun e w' => e = .returned (.bool (S.turn x y)) ∧ Below w.heap.size w w' := by
 have H := Lib.hid (show S.turn x y = (S.isAxis x && S.isAxis y && (x != y) && (x != -y)) from rfl)
 have HX := Lib.hid (fun w => axis_any x w)
 have HY := Lib.hid (fun w => axis_any y w)
 unfold turnV
 by_cases hb : S.isAxis y = true
 ·have hy : -3 ≤ y ∧ y ≤ 3 := by
   simp only [S.isAxis, Bool.and_eq_true, decide_eq_true_eq] at hb
   omega
  rw [hb] at HY H
  clear hb
  generalize S.isAxis x = a at *
  cases a
  all_goals (
   go_enter Tryz.func139, Tryz.ntmps139
   go_wp2_with (first
    | (go_at_call 205; (with_reducible refine (HX.out _).mono ?_); rintro e w' ⟨rfl, rfl⟩)
    | (go_at_call 205; (with_reducible refine (HY.out _).mono ?_); rintro e w' ⟨rfl, rfl⟩))
   all_goals (go_ret; refine ⟨ret_b ?_, bel⟩; rw [H.out]; simp_all))
 ·have hb' : S.isAxis y = false := by simpa using hb
  rw [hb'] at HY H
  clear hb hb'
  generalize S.isAxis x = a at *
  cases a
  all_goals (
   go_enter Tryz.func139, Tryz.ntmps139
   go_wp2_with (first
    | (go_at_call 205; (with_reducible refine (HX.out _).mono ?_); rintro e w' ⟨rfl, rfl⟩)
    | (go_at_call 205; (with_reducible refine (HY.out _).mono ?_); rintro e w' ⟨rfl, rfl⟩))
   all_goals (go_ret; refine ⟨ret_b ?_, bel⟩; rw [H.out]; simp_all))
theorem unit_any (n : Int) (h : S.isAxis n = true) (w : World) : Calls Tryz.prog 270 #[.int .i64 n] w fun e w' => e = .returned (ptV (S.unit n)) ∧ Below w.heap.size w w' := by
 have h' : n = 1 ∨ n = 2 ∨ n = 3 ∨ n = -1 ∨ n = -2 ∨ n = -3 := by
  simp only [S.isAxis, Bool.and_eq_true, decide_eq_true_eq, bne_iff_ne] at h
  omega
 have u1 : S.unit 1 = ⟨1, 0, 0⟩ := rfl
 have u2 : S.unit 2 = ⟨0, 1, 0⟩ := rfl
 have u3 : S.unit 3 = ⟨0, 0, 1⟩ := rfl
 have u4 : S.unit (-1) = ⟨-1, 0, 0⟩ := rfl
 have u5 : S.unit (-2) = ⟨0, -1, 0⟩ := rfl
 have u6 : S.unit (-3) = ⟨0, 0, -1⟩ := rfl
 rcases h' with rfl | rfl | rfl | rfl | rfl | rfl
 all_goals (
  go_enter Tryz.func270, Tryz.ntmps270
  go_wp2
  (first | rw [u1] | rw [u2] | rw [u3] | rw [u4] | rw [u5] | rw [u6])
  (first
    | exact bodyPost_ret (v := ptV ⟨1, 0, 0⟩) (by simp [results, Tryz.results270, go_sem, *]) rfl ⟨rfl, bel⟩
    | exact bodyPost_ret (v := ptV ⟨0, 1, 0⟩) (by simp [results, Tryz.results270, go_sem, *]) rfl ⟨rfl, bel⟩
    | exact bodyPost_ret (v := ptV ⟨0, 0, 1⟩) (by simp [results, Tryz.results270, go_sem, *]) rfl ⟨rfl, bel⟩
    | exact bodyPost_ret (v := ptV ⟨-1, 0, 0⟩) (by simp [results, Tryz.results270, go_sem, *]) rfl ⟨rfl, bel⟩
    | exact bodyPost_ret (v := ptV ⟨0, -1, 0⟩) (by simp [results, Tryz.results270, go_sem, *]) rfl ⟨rfl, bel⟩
    | exact bodyPost_ret (v := ptV ⟨0, 0, -1⟩) (by simp [results, Tryz.results270, go_sem, *]) rfl ⟨rfl, bel⟩))
theorem cross_any (a b : Pt) (ha : S.near1 a 1 = true) (hb : S.near1 b 1 = true) (w : World) : Calls Tryz.prog 271 #[ptV a, ptV b] w fun e w' => e = .returned (ptV (S.cross a b)) ∧ Below w.heap.size w w' := by
 simp only [S.near1, Bool.and_eq_true, decide_eq_true_eq] at ha hb
 have hm : ∀ u v : Int, -1 ≤ u ∧ u ≤ 1 → -1 ≤ v ∧ v ≤ 1 → -1 ≤ u * v ∧ u * v ≤ 1 := fun u v hu hv => by
  have h1 : u = -1 ∨ u = 0 ∨ u = 1 := by omega
  rcases h1 with rfl | rfl | rfl <;> omega
 have p0 := hm a.y b.z (by omega) (by omega)
 have p1 := hm a.z b.y (by omega) (by omega)
 have p2 := hm a.z b.x (by omega) (by omega)
 have p3 := hm a.x b.z (by omega) (by omega)
 have p4 := hm a.x b.y (by omega) (by omega)
 have p5 := hm a.y b.x (by omega) (by omega)
 clear hm
 have x0 : (S.cross a b).x = a.y * b.z - a.z * b.y := rfl
 have x1 : (S.cross a b).y = a.z * b.x - a.x * b.z := rfl
 have x2 : (S.cross a b).z = a.x * b.y - a.y * b.x := rfl
 unfold ptV
 go_enter Tryz.func271, Tryz.ntmps271
 go_wp2
 exact bodyPost_ret (v := .agg #[.int .i64 (S.cross a b).x, .int .i64 (S.cross a b).y, .int .i64 (S.cross a b).z]) (by simp [results, Tryz.results271, go_sem, *]) rfl ⟨rfl, bel⟩
end Go.Proofs.YtnmolefblaahmaaGreat
