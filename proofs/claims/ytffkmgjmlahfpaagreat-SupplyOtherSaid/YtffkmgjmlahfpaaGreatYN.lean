/- Spans; contracts: lap.place, up, Stagger. The plain functions (no program in sight). Maps of the call's own: sets of ints (map[int]bool), and map[int]int: look-ups and stores as equations. A region th -/
import Derived.Maps.OwnOps
import Derived.Maps.OwnSet
import Derived.Deep.MidRow
import Derived.Test.YtffkmgjmlahfpaaGreatRows
import Derived.RangeFuncNested
import Derived.RangeFuncBound
import Derived.RangeFuncCalls
import Derived.RangeFuncLeaves
import Derived.RangeFuncFrom
import Derived.Test.YtffkmgjmlahfpaaGreatYD
import Derived.Test.YtffkmgjmlahfpaaGreatYC
import Derived.Test.YtffkmgjmlahfpaaGreatYB
set_option linter.unusedVariables false
set_option linter.unusedSimpArgs false
namespace Go.Proofs.YtffkmgjmlahfpaaGreat
open Go.RowKit
structure Sp where
  lo : Int
  hi : Int
namespace S
def place (n : Int) : Bool := decide (-1048576 ≤ n) && decide (n ≤ 1048576)
def wide (a b : Sp) : Int := if a.hi - a.lo < b.hi - b.lo then b.hi - b.lo else a.hi - a.lo
end S
end Go.Proofs.YtffkmgjmlahfpaaGreat
namespace Go.Proofs.YtffkmgjmlahfpaaGreat
structure Rule where
  num : Int
  den : Int
  pnum : Int
  pden : Int
  bnum : Int
  bden : Int
  lnum : Int
  lden : Int
  least : Int
namespace S
def num (n : Int) : Bool := decide (1 ≤ n) && decide (n ≤ 1000)
def up (n p q : Int) : Int := (n * p + q - 1) / q
def rule (r : Rule) : Bool := num r.num && num r.den && num r.pnum && num r.pden && num r.bnum && num r.bden && num r.lnum && num r.lden &&
  decide (r.pden ≤ r.pnum) && decide (r.lden ≤ r.lnum) && decide (r.bnum ≤ r.bden) && decide (0 ≤ r.least) && decide (r.least ≤ 1000)
def basic (r : Rule) (d : Int) : Int := if up d r.num r.den < r.least then r.least else up d r.num r.den
def poorUp (r : Rule) (poor : Bool) (n : Int) : Int := if poor then up n r.pnum r.pden else n
def bentUp (r : Rule) (bent : Bool) (n : Int) : Int := if bent then up n r.bnum r.bden else n
def atLeast (r : Rule) (n : Int) : Int := if n < r.least then r.least else n
def length (r : Rule) (d : Int) (poor bent : Bool) : Int := atLeast r (bentUp r bent (poorUp r poor (basic r d)))
end S
structure RuleOk (r : Rule) : Prop where
  num : 1 ≤ r.num ∧ r.num ≤ 1000
  den : 1 ≤ r.den ∧ r.den ≤ 1000
  pnum : 1 ≤ r.pnum ∧ r.pnum ≤ 1000
  pden : 1 ≤ r.pden ∧ r.pden ≤ 1000
  bnum : 1 ≤ r.bnum ∧ r.bnum ≤ 1000
  bden : 1 ≤ r.bden ∧ r.bden ≤ 1000
  lnum : 1 ≤ r.lnum ∧ r.lnum ≤ 1000
  lden : 1 ≤ r.lden ∧ r.lden ≤ 1000
  poor : r.pden ≤ r.pnum
  lap : r.lden ≤ r.lnum
  bend : r.bnum ≤ r.bden
  least : 0 ≤ r.least ∧ r.least ≤ 1000
theorem rule_ok {r : Rule} (h : S.rule r = true) : RuleOk r := by
  simp only [S.rule, S.num, Bool.and_eq_true, decide_eq_true_eq] at h
  obtain ⟨⟨⟨⟨⟨⟨⟨⟨⟨⟨⟨⟨h1, h2⟩, h3⟩, h4⟩, h5⟩, h6⟩, h7⟩, h8⟩, h9⟩, h10⟩, h11⟩, h12⟩, h13⟩ := h
  exact ⟨h1, h2, h3, h4, h5, h6, h7, h8, h9, h10, h11, ⟨h12, h13⟩⟩
theorem mul_bd {a b A B : Int} (ha : 0 ≤ a) (hA : a ≤ A) (hb : 0 ≤ b) (hB : b ≤ B) : 0 ≤ a * b ∧ a * b ≤ A * B :=
  ⟨Int.mul_nonneg ha hb, Int.mul_le_mul hA hB hb (by omega)⟩
theorem up_bd {n p q A : Int} (hn : 0 ≤ n) (hA : n ≤ A) (hp : 1 ≤ p) (hp' : p ≤ 1000) (hq : 1 ≤ q) : 0 ≤ S.up n p q ∧ S.up n p q ≤ 1000 * A := by
  unfold S.up
  have h1 := mul_bd hn hA (by omega : 0 ≤ p) hp'
  refine ⟨Int.ediv_nonneg (by omega) (by omega), ?_⟩
  have h2 : (n * p + q - 1) / q ≤ n * p := by
    rcases Int.lt_or_eq_of_le h1.1 with h | h
    · have : n * p + q - 1 < (n * p + 1) * q := by
        have := Int.mul_le_mul_of_nonneg_left hq (show 0 ≤ n * p by omega)
        rw [Int.add_mul]; omega
      have := Int.ediv_lt_of_lt_mul (by omega) this
      omega
    · rw [← h, Int.zero_add, Int.ediv_eq_zero_of_lt (by omega) (by omega)]
      exact Int.le_refl 0
  have := Int.mul_comm A 1000
  omega
theorem basic_bd {r : Rule} {d : Int} (hr : RuleOk r) (hd : 0 ≤ d) (hd' : d ≤ 40) : 0 ≤ S.basic r d ∧ S.basic r d ≤ 40000 := by
  have h := up_bd (p := r.num) (q := r.den) hd hd' hr.num.1 hr.num.2 hr.den.1
  have h2 := hr.least
  unfold S.basic
  split <;> omega
theorem poorUp_bd {r : Rule} {n : Int} (hr : RuleOk r) (b : Bool) (hn : 0 ≤ n) (hn' : n ≤ 40000) : 0 ≤ S.poorUp r b n ∧ S.poorUp r b n ≤ 40000000 := by
  have h := up_bd (p := r.pnum) (q := r.pden) hn hn' hr.pnum.1 hr.pnum.2 hr.pden.1
  unfold S.poorUp
  split <;> omega
theorem bentUp_bd {r : Rule} {n : Int} (hr : RuleOk r) (b : Bool) (hn : 0 ≤ n) (hn' : n ≤ 40000000) : 0 ≤ S.bentUp r b n ∧ S.bentUp r b n ≤ 40000000000 := by
  have h := up_bd (p := r.bnum) (q := r.bden) hn hn' hr.bnum.1 hr.bnum.2 hr.bden.1
  unfold S.bentUp
  split <;> omega
end Go.Proofs.YtffkmgjmlahfpaaGreat
namespace Go.Proofs.YtffkmgjmlahfpaaGreat
open Go.RowKit
open Go.Maps (Keyed int_keyed keyOf_int_mk)
def Wf64 (k : Int) : Prop := -9223372036854775808 ≤ k ∧ k ≤ 9223372036854775807
theorem Wf64.lit {k : Int} (h : Wf64 k) : (Lit.int .i64 k).wf = true := by
  have h1 := h.1
  have h2 := h.2
  simp [Lit.wf, IntKind.min, IntKind.max, IntKind.bits, IntKind.signed]
  omega
theorem keyInt : Keyed Tryz.prog 3 := int_keyed Tryz.underlying3
theorem keyLit {k : Int} (h : Wf64 k) : keyOf Tryz.prog 3 (.int .i64 k) = some (.int .i64 k) := keyOf_int_mk Tryz.underlying3 h.lit
theorem zeroBool (w : World) : (zeroValue 4).run Tryz.prog w = .ok (.bool false) w := by kernel_rfl
theorem zeroInt (w : World) : (zeroValue 3).run Tryz.prog w = .ok (.int .i64 0) w := by kernel_rfl
theorem plainElem_bool_inv {H : Type} {P : Program} {e : TypeId} (he : P.underlying e = some .bool) {v : Value} {z : DataW H × List MemPlace} (h : plainElem P e v = some z) : ∃ x, v = .bool x ∧ z = (.lit (.bool x), []) := by
  unfold plainElem at h
  rw [he] at h
  cases v <;> simp at h
  exact ⟨_, rfl, h.symm⟩
def SetAt (w : World) (b n : Nat) (p : Int → Bool) : Prop := ∃ D : DataW Unit, w.ownsMap Tryz.prog 3 (plainElem Tryz.prog 4) b n D ∧ ∀ k, D.atKey (.int .i64 k) (.lit (.bool false)) = .lit (.bool (p k))
theorem SetAt.new (w : World) : SetAt (w.alloc (.map #[] 0)) w.heap.size 0 (fun _ => false) := ⟨.map [], World.ownsMap_made w _ _ _, fun k => rfl⟩
theorem SetAt.lt {w : World} {b n : Nat} {p : Int → Bool} (h : SetAt w b n p) : b < w.heap.size := by obtain ⟨D, h1, _⟩ := h; exact h1.lt
theorem SetAt.kept {w w' : World} {b n : Nat} {p : Int → Bool} (h : SetAt w b n p) (hb : w'.heap[b]? = w.heap[b]?) : SetAt w' b n p := by
  obtain ⟨D, ⟨es, clock, h1, h2⟩, h3⟩ := h
  exact ⟨D, ⟨es, clock, hb.trans h1, h2⟩, h3⟩
theorem SetAt.alloc {w : World} {b n : Nat} {p : Int → Bool} (h : SetAt w b n p) (o : Obj) : SetAt (w.alloc o) b n p := h.kept (Below.heap_alloc w o b h.lt)
theorem SetAt.via {w w' : World} {b n : Nat} {p : Int → Bool} (h : SetAt w b n p) (hb : Below w.heap.size w w') : SetAt w' b n p := h.kept (hb.block b h.lt)
theorem SetAt.look {w : World} {b n : Nat} {p : Int → Bool} (h : SetAt w b n p) {k : Int} (hk : Wf64 k) : (Instr.lookup 191 (.map (some b)) (.int .i64 k) false).run Tryz.prog w = .ok (.bool (p k)) w := by
  obtain ⟨D, h1, h2⟩ := h
  obtain ⟨v, ps, hrun, hv⟩ := h1.lookup keyInt Tryz.underlying191 (zeroBool w) (plainElem_bool Tryz.underlying4 false) (keyLit hk)
  obtain ⟨x, rfl, hx⟩ := plainElem_bool_inv Tryz.underlying4 hv
  rw [h2 k] at hx
  simp only [Prod.mk.injEq, DataW.lit.injEq, Lit.bool.injEq] at hx
  rw [hrun, hx.1]
theorem SetAt.put {w : World} {b n : Nat} {p : Int → Bool} (h : SetAt w b n p) (hn : n < maxLen) {k : Int} (hk : Wf64 k) :
    ∃ w', (Instr.mapUpdate 191 (.map (some b)) (.int .i64 k) (.bool true)).run Tryz.prog w = .ok () w' ∧ SetAt w' b (n + 1) (fun j => j == k || p j) ∧ w.grownBy w' (some b) := by
  obtain ⟨D, h1, h2⟩ := h
  obtain ⟨w', hrun, hown, hg⟩ := h1.update keyInt Tryz.underlying191 hn (keyLit hk) (plainElem_bool Tryz.underlying4 true)
  refine ⟨w', hrun, ⟨_, hown, fun j => ?_⟩, hg⟩
  by_cases hj : j = k
  · subst hj
    rw [Maps.atKey_put_same h1.isMap (by simp [WideAt.IsKeyLit])]
    simp
  · rw [Maps.atKey_put_other (by simpa using hj), h2 j]
    simp [hj]
def NextAt (w : World) (b n : Nat) (f : Int → Option Int) : Prop := ∃ D : DataW Unit, w.ownsMap Tryz.prog 3 (plainElem Tryz.prog 3) b n D ∧ ∀ k, Maps.has D (.int .i64 k) = (f k).isSome ∧ D.atKey (.int .i64 k) (.lit (.int .i64 0)) = .lit (.int .i64 ((f k).getD 0))
theorem NextAt.new (w : World) : NextAt (w.alloc (.map #[] 0)) w.heap.size 0 (fun _ => none) := ⟨.map [], World.ownsMap_made w _ _ _, fun k => ⟨rfl, rfl⟩⟩
theorem NextAt.lt {w : World} {b n : Nat} {p : Int → Option Int} (h : NextAt w b n p) : b < w.heap.size := by obtain ⟨D, h1, _⟩ := h; exact h1.lt
theorem NextAt.kept {w w' : World} {b n : Nat} {p : Int → Option Int} (h : NextAt w b n p) (hb : w'.heap[b]? = w.heap[b]?) : NextAt w' b n p := by
  obtain ⟨D, ⟨es, clock, h1, h2⟩, h3⟩ := h
  exact ⟨D, ⟨es, clock, hb.trans h1, h2⟩, h3⟩
theorem NextAt.alloc {w : World} {b n : Nat} {p : Int → Option Int} (h : NextAt w b n p) (o : Obj) : NextAt (w.alloc o) b n p := h.kept (Below.heap_alloc w o b h.lt)
theorem NextAt.via {w w' : World} {b n : Nat} {p : Int → Option Int} (h : NextAt w b n p) (hb : Below w.heap.size w w') : NextAt w' b n p := h.kept (hb.block b h.lt)
theorem NextAt.look {w : World} {b n : Nat} {f : Int → Option Int} (h : NextAt w b n f) {k : Int} (hk : Wf64 k) : (Instr.lookup 194 (.map (some b)) (.int .i64 k) true).run Tryz.prog w = .ok (.tuple #[.int .i64 ((f k).getD 0), .bool (f k).isSome]) w := by
  obtain ⟨D, h1, h2⟩ := h
  obtain ⟨v, ps, hrun, hv⟩ := h1.look_ok keyInt Tryz.underlying194 (zeroInt w) (plainElem_int Tryz.underlying3 (by decide)) (keyLit hk)
  obtain ⟨x, rfl, hx, _⟩ := plainElem_int_inv Tryz.underlying3 hv
  rw [(h2 k).2] at hx
  simp only [Prod.mk.injEq, DataW.lit.injEq, Lit.int.injEq, true_and] at hx
  rw [hrun, hx.1, (h2 k).1]
theorem NextAt.put {w : World} {b n : Nat} {f : Int → Option Int} (h : NextAt w b n f) (hn : n < maxLen) {k v : Int} (hk : Wf64 k) (hv : Wf64 v) :
    ∃ w', (Instr.mapUpdate 194 (.map (some b)) (.int .i64 k) (.int .i64 v)).run Tryz.prog w = .ok () w' ∧ NextAt w' b (n + 1) (fun j => if j = k then some v else f j) ∧ w.grownBy w' (some b) := by
  obtain ⟨D, h1, h2⟩ := h
  obtain ⟨w', hrun, hown, hg⟩ := h1.update keyInt Tryz.underlying194 hn (keyLit hk) (plainElem_int Tryz.underlying3 hv.lit)
  refine ⟨w', hrun, ⟨_, hown, fun j => ?_⟩, hg⟩
  by_cases hj : j = k
  · subst hj
    rw [Maps.atKey_put_same h1.isMap (by simp [WideAt.IsKeyLit]), Maps.has_put_same h1.isMap (by simp [WideAt.IsKeyLit])]
    simp
  · rw [Maps.atKey_put_other (by simpa using hj), Maps.has_put_other (by simpa using hj), (h2 j).1, (h2 j).2]
    simp [hj]
end Go.Proofs.YtffkmgjmlahfpaaGreat
namespace Go.Proofs.YtffkmgjmlahfpaaGreat
open Go.RowKit
theorem cnt_set : ∀ (l : List Bool) (i : Nat), l[i]? = some false → (l.set i true).count false + 1 = l.count false := by
  intro l
  induction l with
  | nil => intro i h; simp at h
  | cons b l ih =>
    intro i h
    cases i with
    | zero =>
      simp only [List.getElem?_cons_zero, Option.some.injEq] at h
      subst h
      simp
    | succ i =>
      simp only [List.getElem?_cons_succ] at h
      have := ih i h
      cases b <;> simp <;> omega
section
variable {P : Program} {l : List Oper} {V : Nat → Value → World → Prop} {S : Act → World → Prop} {G : World → World → Prop} {Q : Exit → Act → World → Prop}
end
def earlyB (md : Region.Mode) (l : List Oper) : Bool := (List.range l.length).all fun j => match l[j]? with | some o => o.after.all (fun e => !Region.binds md e || decide (e.on < j)) | none => true
theorem earlyB_out {md : Region.Mode} {l : List Oper} (h : earlyB md l = true) : ∀ (j : Nat) (oj : Oper), l[j]? = some oj → ∀ e ∈ oj.after, Region.binds md e = true → e.on < j := by
  intro j oj hj e he hb
  unfold earlyB at h
  rw [List.all_eq_true] at h
  have := h j (by simpa using (List.getElem?_eq_some_iff.1 hj).1)
  rw [hj] at this
  simp only [Array.all_eq_true_iff_forall_mem] at this
  have := this e he
  simp only [hb, Bool.not_true, Bool.false_or, decide_eq_true_eq] at this
  exact this
theorem exc_setCells (b : Nat) : ∀ (vs : List Value) (o : Nat) (w : World), Exc [b] w (w.setCells b o vs) := by
  intro vs
  induction vs with
  | nil => intro o w; exact Exc.refl _ _
  | cons v r ih =>
    intro o w
    have h1 : Exc [b] w (w.setCell ⟨b, o, none⟩ v) := (Exc.refl _ _).set (.inl (by simp)) v
    have h2 := ih (o + 1) (w.setCell ⟨b, o, none⟩ v)
    exact ⟨h2.os.trans h1.os, h2.tape.trans h1.tape, h2.output.trans h1.output, Nat.le_trans h1.size h2.size, fun k hk hm => (h2.block k (Nat.lt_of_lt_of_le hk h1.size) hm).trans (h1.block k hk hm)⟩
end Go.Proofs.YtffkmgjmlahfpaaGreat
namespace Go.Proofs.YtffkmgjmlahfpaaGreat
open Go.RowKit
namespace S
def eqpt (p q : Pt) : Bool := decide (p.x = q.x) && decide (p.y = q.y) && decide (p.z = q.z)
end S
end Go.Proofs.YtffkmgjmlahfpaaGreat
namespace Go.Proofs.YtffkmgjmlahfpaaGreat
open Go.RowKit
section
variable {F : Fence} {n : Nat} {P : Program}
def AbidesB {β : Type} (B : Nat) (J : β → World → Prop) : Prop := ∀ s A C, J s A → Below B A C → J s C
def SeqLaid {α : Type} (F : Fence) (n : Nat) (P : Program) (g : Nat) (lb : Array Value) (encs : α → Array Value) (Kp : World → World → Prop) (R : List α → α → World → Prop) (S : List α → Prop) (w : World) : Prop :=
  ∀ (l : Nat) (J Jx : List α → World → Prop) (W : World), Below w.heap.size w W → AbidesB W.heap.size J → AbidesB W.heap.size Jx →
    (∀ pre x V, J pre V → R pre x V → YieldAt F (n - 1) P l (encs x) V fun e V' => Kp V V' ∧ ((e = .returned (.bool true) ∧ J (pre ++ [x]) V') ∨ (e = .returned (.bool false) ∧ Jx (pre ++ [x]) V'))) →
    J [] W →
    CallsIn F n P g (#[.func (.yield l) #[] #[]] ++ lb) W fun e W' => (∃ v, e = .returned v) ∧ ((∃ xs, S xs ∧ J xs W') ∨ (∃ pre x, Jx (pre ++ [x]) W' ∧ R pre x W'))
def laidPost {α : Type} (Kp : World → World → Prop) (I : List α → World → Prop) (Ix : Code → List α → World → Prop) (xs : List α) (W : World) (e : Exit) (_ : Act) (W' : World) : Prop :=
  KeepsOthers W W' ∧ Kp W W' ∧ match e with
    | .normal => I xs W'
    | .ret => Ix .ret xs W'
    | .exit id => Ix (.exit id) xs W'
    | .goto t => Ix (.goto t) xs W'
    | _ => False
theorem wpIn_rangeFunc_laid {α : Type} {g : Operand} {ps : Array Tmp} {assign body : Code} {Q : Exit → Act → World → Prop} {a : Act} {w : World}
    (hro : F.round = none) (h1 : 1 ≤ n) {gf : Nat} {lb : Array Value} (hg : a.eval g = .func (.func gf) #[] lb) (hFg : F.fn gf) (eg : ∀ args w, (callFunc gf args).run P w = .ok (.enter gf args) w)
    {encs : α → Array Value} {Kp : World → World → Prop} {R : List α → α → World → Prop} {S : List α → Prop} {w0 : World} (hseq : SeqLaid F (n - 1) P gf lb encs Kp R S w0)
    (hKt : ∀ {A B C : World}, Kp A B → Kp B C → Kp A C) (hKb : ∀ (W : World) (l : Nat) (o o' : Obj), w.heap.size ≤ l → W.heap[l]? = some o → o.isCells = false → o.isWalk = false → Kp W (W.putObj l o'))
    (hRk : ∀ pre x V V', R pre x V → (∀ (l : Nat) (o o' : Obj), w.heap.size ≤ l → V.heap[l]? = some o → o.isCells = false → V' = V.putObj l o' → R pre x V'))
    (hb0 : Below w0.heap.size w0 w) (hps : ∀ x, (encs x).size = ps.size)
    (I : List α → World → Prop) (Ix : Code → List α → World → Prop) (hI : AbidesB w.heap.size I) (hIx : ∀ c, AbidesB w.heap.size (Ix c)) (h0 : I [] w) (a₁ : α → Act)
    (hassign : ∀ (l : Nat) (x : α) (W : World) (K : Act → World → Prop), K (a₁ x) W →
      assign.wpIn (F.inRound l) (n - 1 - 1) P (Exit.then K (fun _ _ _ => False)) { tmps := (ps.zip (encs x)).foldl (fun t (p, v) => t.setIfInBounds p v) a.tmps, defers := [] } W)
    (hbody : ∀ (l : Nat) (pre : List α) (x : α) (W : World), I pre W → R pre x W → body.wpIn (F.inRound l) (n - 1 - 1) P (laidPost Kp I Ix (pre ++ [x]) W) (a₁ x) W)
    (hdone : ∀ (D : Nat) (xs : List α) (W : World), w.heap.size ≤ D → S xs → I xs W → W.heap[D]? = some (.deferred (some [])) → Q .normal { a with defers := { target := .collected D, args := #[] } :: a.defers } W)
    (hstop : ∀ (D : Nat) (c : Code) (pre : List α) (x : α) (W : World), w.heap.size ≤ D → Ix c (pre ++ [x]) W → R pre x W → W.heap[D]? = some (.deferred (some [])) → c.wpIn F n P Q { a with defers := { target := .collected D, args := #[] } :: a.defers } W) :
    (Code.rangeFunc g ps assign body).wpIn F n P Q a w := by
  refine wpIn_rangeFunc fun fn hfn => ?_
  rw [hro]
  -- the loop's record, by its state and the jump that waits; its block, and the block of the deferred calls
  obtain ⟨rc, hrc⟩ : ∃ rc : LoopState → Option Code → Loop, rc = fun st pe => { state := st, pending := pe, fn, tmps := a.tmps, params := ps, assign, body, defers := w.heap.size } := ⟨_, rfl⟩
  obtain ⟨L, hL⟩ : ∃ L, L = w.heap.size + 1 := ⟨_, rfl⟩
  obtain ⟨V, hV⟩ : ∃ V, V = (w.alloc (.deferred (some []))).alloc (.loop (rc .ready none)) := ⟨_, rfl⟩
  have hbooks : V.heap[L]? = some (.loop (rc .ready none)) ∧ V.heap[w.heap.size]? = some (.deferred (some [])) := by
    rw [hV, hL]
    refine ⟨?_, (Below.heap_alloc _ _ _ (by simp)).trans (World.alloc_heap_new w _)⟩
    have := World.alloc_heap_new (w.alloc (.deferred (some []))) (.loop (rc .ready none))
    rwa [World.size_alloc] at this
  have hIV : I [] V := by rw [hV]; exact hI _ _ _ h0 (((Below.refl _ w).alloc (Nat.le_refl _) _).alloc (by simp) _)
  have hbV : Below w0.heap.size w0 V := by
    rw [hV]
    exact hb0.trans ((((Below.refl _ w).alloc (Nat.le_refl _) _).alloc (by simp) _).mono hb0.size)
  have hVs : V.heap.size = L + 1 := by rw [hV, hL]; simp
  refine ⟨L, [{ target := .collected w.heap.size, args := #[] }], V, { target := .fn (.func gf) lb, args := #[.func (.yield L) #[] #[]] }, V, gf, #[.func (.yield L) #[] #[]] ++ lb, V, ?_, ?_, ?_, ?_, fun _ => h1, ?_⟩
  · rw [hV, hrc, hL]
    exact run_enterLoop_outer _ _ _ _ _
  · simp only [resolve, hg]
    simp [go_sem]
  · intro f' hf'
    simp [Target.leads] at hf'
    subst hf'
    exact hFg
  · simp [invoke, go_sem, eg]
  have hpb : ∀ (U : World) (o : Obj), L < U.heap.size → Below w.heap.size U (U.putObj L o) := fun U o hlt => ⟨rfl, rfl, rfl, by simp, fun k hk => World.putObj_heap_other (by omega)⟩
  have hput : ∀ {U : World} {o : Obj} {r : Nat}, w.heap.size ≠ r → U.heap[w.heap.size]? = some (.deferred (some [])) → (U.putObj r o).heap[w.heap.size]? = some (.deferred (some [])) := fun hne h => (World.putObj_heap_other hne).trans h
  refine (hseq L (fun pre U => I pre U ∧ U.heap[L]? = some (.loop (rc .ready none)) ∧ U.heap[w.heap.size]? = some (.deferred (some [])))
    (fun pre U => ∃ c, Ix c pre U ∧ U.heap[L]? = some (.loop (rc .done (some c))) ∧ U.heap[w.heap.size]? = some (.deferred (some []))) V hbV ?_ ?_ ?_ ⟨hIV, hbooks.1, hbooks.2⟩).mono ?_
  · rintro s A C ⟨hi, hl, hd⟩ hb
    exact ⟨hI s A C hi (hb.mono (by omega)), (hb.block L (by omega)).trans hl, (hb.block w.heap.size (by omega)).trans hd⟩
  · rintro s A C ⟨c, hi, hl, hd⟩ hb
    exact ⟨c, hIx c s A C hi (hb.mono (by omega)), (hb.block L (by omega)).trans hl, (hb.block w.heap.size (by omega)).trans hd⟩
  · -- a round
    rintro pre x U ⟨hi, hl, hd⟩ hR
    have hy := run_yield (P := P) (args := encs x) hl (by rw [hrc]; exact hps x)
    rw [hrc] at hy
    refine ⟨fn, _, assign, body, hy, roundIn_of_wpIn hfn (hassign _ x U _ ⟨_, run_beginRound hl (by rw [hrc]), ?_⟩)⟩
    have hlt : L < U.heap.size := (Array.getElem?_eq_some_iff.1 hl).1
    obtain ⟨U1, hU1⟩ : ∃ U1, U1 = U.putObj L (.loop { rc .ready none with state := .busy }) := ⟨_, rfl⟩
    have hl1 : U1.heap[L]? = some (.loop { rc .ready none with state := .busy }) := by rw [hU1]; exact World.putObj_heap_same hlt
    have hd1 : U1.heap[w.heap.size]? = some (.deferred (some [])) := by rw [hU1]; exact hput (by omega) hd
    have hi1 : I pre U1 := by rw [hU1]; exact hI _ _ _ hi (hpb _ _ hlt)
    have hk1 : Kp U U1 := by rw [hU1]; exact hKb _ _ _ _ (by omega) hl rfl rfl
    have hR1 : R pre x U1 := hRk pre x U U1 hR L _ _ (by omega) hl rfl hU1
    rw [← hU1]
    refine wpIn_mono (hbody _ pre x _ hi1 hR1) ?_
    rintro e a3 U3 ⟨hk3, hkp3, hx⟩
    -- the round's end
    have hl3 := hk3.same _ _ hl1 rfl
    have hd3 := hk3.same _ _ hd1 rfl
    have hend := fun (j : Option Code) => run_endRound (P := P) j hl3
    have hlt3 : L < U3.heap.size := (Array.getElem?_eq_some_iff.1 hl3).1
    have hkk : ∀ o', Kp U (U3.putObj L o') := fun o' => hKt (hKt hk1 hkp3) (hKb _ _ _ _ (by omega) hl3 rfl rfl)
    rw [hrc] at hend
    cases e with
    | normal => exact ⟨_, _, hend none, hkk _, .inl ⟨rfl, hI _ _ _ hx (hpb _ _ hlt3), by rw [hrc]; exact World.putObj_heap_same hlt3, hput (by omega) hd3⟩⟩
    | ret => exact ⟨_, _, hend (some .ret), hkk _, .inr ⟨rfl, .ret, hIx _ _ _ _ hx (hpb _ _ hlt3), by rw [hrc]; exact World.putObj_heap_same hlt3, hput (by omega) hd3⟩⟩
    | exit id => exact ⟨_, _, hend (some (.exit id)), hkk _, .inr ⟨rfl, .exit id, hIx _ _ _ _ hx (hpb _ _ hlt3), by rw [hrc]; exact World.putObj_heap_same hlt3, hput (by omega) hd3⟩⟩
    | goto t => exact ⟨_, _, hend (some (.goto t)), hkk _, .inr ⟨rfl, .goto t, hIx _ _ _ _ hx (hpb _ _ hlt3), by rw [hrc]; exact World.putObj_heap_same hlt3, hput (by omega) hd3⟩⟩
    | panic ch => exact hx.elim
    | outgrown => exact hx.elim
  · -- behind the iterator
    rintro e U ⟨⟨v, rfl⟩, (⟨xs, hS, hi, hl, hd⟩ | ⟨pre, x, ⟨c, hi, hl, hd⟩, hR⟩)⟩
    · have he := run_endLoop (P := P) hl (by rw [hrc]; simp)
      rw [hrc] at he
      exact ⟨none, _, he, hdone _ xs _ (Nat.le_refl _) hS (hI _ _ _ hi (hpb _ _ (Array.getElem?_eq_some_iff.1 hl).1)) (hput (by omega) hd)⟩
    · have he := run_endLoop (P := P) hl (by rw [hrc]; simp)
      rw [hrc] at he
      exact ⟨some c, _, he, hstop _ c pre x _ (Nat.le_refl _) (hIx c _ _ _ hi (hpb _ _ (Array.getElem?_eq_some_iff.1 hl).1)) (hRk pre x U _ hR L _ _ (by omega) hl rfl rfl) (hput (by omega) hd)⟩
end
end Go.Proofs.YtffkmgjmlahfpaaGreat
namespace Go.Proofs.YtffkmgjmlahfpaaGreat
open Go.RowKit
theorem Cells.fore {w : World} {B : Nat} {A : Option Addr} {xs ys : List Value} (h : Cells w B A (xs ++ ys)) : Cells w B A xs := by
  rcases Nat.eq_zero_or_pos xs.length with h0 | h0
  · exact .inl (List.length_eq_zero_iff.1 h0)
  · obtain ⟨b, o, he, hb, hc⟩ := h.at_ (by simp; omega)
    exact .inr ⟨b, o, he, hb, fun j v hv => hc j v (by
      obtain ⟨hj, _⟩ := List.getElem?_eq_some_iff.1 hv
      rw [List.getElem?_append_left hj]; exact hv)⟩
theorem Cells.upto {α : Type} {w : World} {B : Nat} {A : Option Addr} {enc : α → List Value} {l : List α} (h : Cells w B A (l.flatMap enc)) (k : Nat) : Cells w B A ((l.take k).flatMap enc) := by
  rw [← List.take_append_drop k l, List.flatMap_append] at h
  exact h.fore
end Go.Proofs.YtffkmgjmlahfpaaGreat
