/- A region that draws its order, whose operations yield values that only have a property (addresses of memory just made): in whatever order they come. Spans; contracts: lap.place, up, Stagger. Contract: -/
import Derived.Deep.MidRow
import Derived.Test.YtnjflafaflalfaaRN
import Derived.Test.YtnjflafaflalfaaRP
import Derived.Test.YtnjflafaflalfaaRJ
import Derived.Test.YtnjflafaflalfaaRE
import Derived.Test.YtnjflafaflalfaaRF
set_option linter.unusedVariables false
set_option linter.unusedSimpArgs false
namespace Go.Proofs.Ytnjflafaflalfaa
open Go.RowKit
def slotV (a : Act) (o : Oper) : Value := match o.dst with | some s => a.tmps.getD s undef | none => undef
theorem cnt_set : ∀ (l : List Bool) (i : Nat), l[i]? = some false → (l.set i true).count false + 1 = l.count false := by
  intro l
  induction l with
  | nil => intro i h; simp at h
  | cons b l ih =>
    intro i h
    cases i with
    | zero =>
      simp only [List.getElem?_cons_zero, Option.some.injEq] at h
      subst h
      simp
    | succ i =>
      simp only [List.getElem?_cons_succ] at h
      have := ih i h
      cases b <;> simp <;> omega
section
variable {P : Program} {l : List Oper} {V : Nat → Value → World → Prop} {S : Act → World → Prop} {G : World → World → Prop} {Q : Exit → Act → World → Prop}
theorem slot_put {a : Act} {oi oj : Oper} {v : Value} (h : oi.dst.isSome = true → oi.dst ≠ oj.dst) : slotV (a.put oj.dst v) oi = slotV a oi := by
  unfold slotV Act.put
  cases hi : oi.dst with
  | none => rfl
  | some s =>
    cases hj : oj.dst with
    | none => rfl
    | some d =>
      have hne : s ≠ d := by
        have := h (by simp [hi])
        rw [hi, hj] at this
        simpa using this
      simp only [Array.getD_eq_getD_getElem?]
      rw [Array.getElem?_setIfInBounds_ne (fun e => hne e.symm)]
theorem slot_same {a : Act} {oj : Oper} {v : Value} (hb : ∀ s, oj.dst = some s → s < a.tmps.size) (hn : oj.dst = none → v = undef) : slotV (a.put oj.dst v) oj = v := by
  unfold slotV Act.put
  cases hj : oj.dst with
  | none => simpa using (hn hj).symm
  | some d =>
    have := hb d hj
    simp [Array.getD_eq_getD_getElem?, this]
theorem wpAny_rel {md : Region.Mode}
    (hV : ∀ i v w w', V i v w → G w w' → V i v w')
    (hearly : ∀ (j : Nat) (oj : Oper), l[j]? = some oj → ∀ e ∈ oj.after, Region.binds md e = true → e.on < j)
    (hdst : ∀ (i j : Nat) (oi oj : Oper), l[i]? = some oi → l[j]? = some oj → i ≠ j → oi.dst.isSome = true → oi.dst ≠ oj.dst)
    (hsz : ∀ (j : Nat) (oj : Oper) (s : Nat) (a : Act) (w : World), l[j]? = some oj → oj.dst = some s → S a w → s < a.tmps.size)
    (hstep : ∀ (j : Nat) (oj : Oper) (a : Act) (w : World), l[j]? = some oj → S a w → (∀ e ∈ oj.after, Region.binds md e = true → ∀ oe, l[e.on]? = some oe → V e.on (slotV a oe) w) →
      wpOp P l.toArray Q j (fun a' w' => ∃ v, a' = a.put oj.dst v ∧ (oj.dst = none → v = undef) ∧ V j v w' ∧ G w w' ∧ S a' w') a w)
    (hend : ∀ (a : Act) (w : World), S a w → (∀ j oj, l[j]? = some oj → V j (slotV a oj) w) → Q .normal a w) :
    ∀ (f : Nat) (listed : Array Bool) (a : Act) (w : World), listed.size = l.length → listed.toList.count false ≤ f → S a w → (∀ j oj, l[j]? = some oj → listed.getD j false = true → V j (slotV a oj) w) →
      wpAny P md l.toArray Q f listed a w := by
  have hlow : ∀ (listed : Array Bool), listed.size = l.length → Region.ready md l.toArray listed = [] → ∀ n, n ≤ l.length → ∀ j, j < n → listed.getD j false = true := by
    intro listed hls hr n
    induction n with
    | zero => intro _ j hj; omega
    | succ n ih =>
      intro hn j hj
      by_cases hjn : j < n
      · exact ih (by omega) j hjn
      · obtain rfl : j = n := by omega
        by_cases hlj : listed.getD j false = true
        · exact hlj
        · exfalso
          have hjl : j < l.length := by omega
          have hm : j ∈ Region.ready md l.toArray listed := by
            rw [mem_ready]
            refine ⟨?_, l[j], by simp [hjl], fun e he hb => ?_⟩
            · have h1 : j < listed.size := by omega
              simp [Array.getD_eq_getD_getElem?, h1] at hlj ⊢
              exact hlj
            · exact ih (by omega) e.on (hearly j l[j] (by simp [hjl]) e he hb)
          rw [hr] at hm
          cases hm
  have hfin : ∀ (listed : Array Bool) (a : Act) (w : World), listed.size = l.length → Region.ready md l.toArray listed = [] → S a w → (∀ j oj, l[j]? = some oj → listed.getD j false = true → V j (slotV a oj) w) → Q .normal a w := by
    intro listed a w hls hr hS hI
    refine hend a w hS (fun j oj hj => hI j oj hj ?_)
    exact hlow listed hls hr l.length (Nat.le_refl _) j (List.getElem?_eq_some_iff.1 hj).1
  intro f
  induction f with
  | zero =>
    intro listed a w hls hc hS hI
    have hr : Region.ready md l.toArray listed = [] := by
      rcases hrr : Region.ready md l.toArray listed with _ | ⟨j, t⟩
      · rfl
      · exfalso
        have hm : j ∈ Region.ready md l.toArray listed := by rw [hrr]; simp
        rw [mem_ready] at hm
        obtain ⟨h1, o, ho, _⟩ := hm
        have hjl : j < l.length := by
          have := (Array.getElem?_eq_some_iff.1 ho).1
          simpa using this
        have h2 : j < listed.size := by omega
        have h3 : listed[j] = false := by simpa [Array.getD_eq_getD_getElem?, h2] using h1
        have : false ∈ listed.toList := by
          rw [← h3]
          simp
        have := List.count_pos_iff.2 this
        omega
    exact ⟨hr, hfin listed a w hls hr hS hI⟩
  | succ f ih =>
    intro listed a w hls hc hS hI
    refine ⟨fun hr => hfin listed a w hls hr hS hI, fun j hj => ?_⟩
    rw [mem_ready] at hj
    obtain ⟨h1, oj, hoj, hdep⟩ := hj
    have hoj' : l[j]? = some oj := by simpa using hoj
    have hjl : j < l.length := (List.getElem?_eq_some_iff.1 hoj').1
    have h2 : j < listed.size := by omega
    have h3 : listed[j] = false := by simpa [Array.getD_eq_getD_getElem?, h2] using h1
    refine wpOp_mono ?_ (hstep j oj a w hoj' hS (fun e he hb oe hoe => hI e.on oe hoe (hdep e he hb)))
    rintro a' w' ⟨v, rfl, hvn, hvj, hg, hS'⟩
    refine ih _ _ _ (by simpa using hls) ?_ hS' (fun i oi hoi hli => ?_)
    · have hcs := cnt_set listed.toList j (by simp [h2, h3])
      rw [Array.toList_setIfInBounds]
      omega
    · by_cases hij : i = j
      · subst hij
        rw [hoj'] at hoi
        injection hoi with hoi
        subst hoi
        rw [slot_same (fun s hs => hsz i oj s a w hoj' hs hS) hvn]
        exact hvj
      · rw [slot_put (fun hs => hdst i j oi oj hoi hoj' hij hs)]
        refine hV _ _ _ _ (hI i oi hoi ?_) hg
        have hil : i < listed.size := by have := (List.getElem?_eq_some_iff.1 hoi).1; omega
        rw [Array.getD_eq_getD_getElem?, Array.getElem?_setIfInBounds_ne (fun e => hij e.symm)] at hli
        rw [Array.getD_eq_getD_getElem?]
        exact hli
theorem wp_region_rel {id : Nat} {a : Act} {w : World} (hm : P.follows .mixedOrders = true)
    (hV : ∀ i v w w', V i v w → G w w' → V i v w')
    (hearly : ∀ (j : Nat) (oj : Oper), l[j]? = some oj → ∀ e ∈ oj.after, Region.binds .any e = true → e.on < j)
    (hdst : ∀ (i j : Nat) (oi oj : Oper), l[i]? = some oi → l[j]? = some oj → i ≠ j → oi.dst.isSome = true → oi.dst ≠ oj.dst)
    (hsz : ∀ (j : Nat) (oj : Oper) (s : Nat) (a : Act) (w : World), l[j]? = some oj → oj.dst = some s → S a w → s < a.tmps.size)
    (h0 : S a w.drew)
    (hstep : ∀ (j : Nat) (oj : Oper) (a : Act) (w : World), l[j]? = some oj → S a w → (∀ e ∈ oj.after, Region.binds .any e = true → ∀ oe, l[e.on]? = some oe → V e.on (slotV a oe) w) →
      wpOp P l.toArray Q j (fun a' w' => ∃ v, a' = a.put oj.dst v ∧ (oj.dst = none → v = undef) ∧ V j v w' ∧ G w w' ∧ S a' w') a w)
    (hend : ∀ (a : Act) (w : World), S a w → (∀ j oj, l[j]? = some oj → V j (slotV a oj) w) → Q .normal a w) : (Code.region id l.toArray true).wp P Q a w := by
  refine wp_region_any hm ?_
  refine wpAny_rel hV hearly hdst hsz hstep hend _ _ a w.drew (by simp) ?_ h0 (fun j oj hj hl => ?_)
  · simp
  · rw [Array.getD_eq_getD_getElem?] at hl
    have hjl : j < l.length := (List.getElem?_eq_some_iff.1 hj).1
    simp [hjl] at hl
end
theorem op_val {P : Program} {ops : Array Oper} {Q : Exit → Act → World → Prop} {j : Nat} {K : Act → World → Prop} {a : Act} {w w' : World} {o : Oper} {v : Value} (ho : ops[j]? = some o) (hg : o.guard = none)
    (hr : (execOp a.eval o).run P w = .ok (.value v) w') (hK : K (a.put o.dst v) w') : wpOp P ops Q j K a w := by
  unfold wpOp
  rw [ho]
  simp only []
  rw [if_pos (by simp [Region.wanted, hg])]
  left
  unfold Oper.wp
  rw [hr]
  exact hK
theorem op_skip {P : Program} {ops : Array Oper} {Q : Exit → Act → World → Prop} {j : Nat} {K : Act → World → Prop} {a : Act} {w w' : World} {o : Oper} (ho : ops[j]? = some o) (hg : o.guard = none)
    (hr : (execOp a.eval o).run P w = .ok .skip w') (hK : K (a.put o.dst undef) w') : wpOp P ops Q j K a w := by
  unfold wpOp
  rw [ho]
  simp only []
  rw [if_pos (by simp [Region.wanted, hg])]
  left
  unfold Oper.wp
  rw [hr]
  exact hK
theorem op_call {P : Program} {ops : Array Oper} {Q : Exit → Act → World → Prop} {j : Nat} {K : Act → World → Prop} {a : Act} {w : World} {o : Oper} {f : FuncId} {args : Array Value} (ho : ops[j]? = some o) (hg : o.guard = none)
    (hr : (execOp a.eval o).run P w = .ok (.enter f args) w) {R : Ending → World → Prop} (hc : Calls P f args w R) (hK : ∀ e w', R e w' → ∃ v, e = .returned v ∧ K (a.put o.dst v) w') : wpOp P ops Q j K a w := by
  unfold wpOp
  rw [ho]
  simp only []
  rw [if_pos (by simp [Region.wanted, hg])]
  left
  unfold Oper.wp
  rw [hr]
  exact hc.mono (fun e w' h => by obtain ⟨v, rfl, hk⟩ := hK e w' h; exact hk)
def earlyB (md : Region.Mode) (l : List Oper) : Bool := (List.range l.length).all fun j => match l[j]? with | some o => o.after.all (fun e => !Region.binds md e || decide (e.on < j)) | none => true
def distB (l : List Oper) : Bool := (List.range l.length).all fun i => (List.range l.length).all fun j => i == j || (match l[i]?, l[j]? with | some oi, some oj => !oi.dst.isSome || (oi.dst != oj.dst) | _, _ => true)
def slotsB (N : Nat) (l : List Oper) : Bool := l.all fun o => match o.dst with | some s => decide (s < N) | none => true
theorem earlyB_out {md : Region.Mode} {l : List Oper} (h : earlyB md l = true) : ∀ (j : Nat) (oj : Oper), l[j]? = some oj → ∀ e ∈ oj.after, Region.binds md e = true → e.on < j := by
  intro j oj hj e he hb
  unfold earlyB at h
  rw [List.all_eq_true] at h
  have := h j (by simpa using (List.getElem?_eq_some_iff.1 hj).1)
  rw [hj] at this
  simp only [Array.all_eq_true_iff_forall_mem] at this
  have := this e he
  simp only [hb, Bool.not_true, Bool.false_or, decide_eq_true_eq] at this
  exact this
theorem distB_out {l : List Oper} (h : distB l = true) : ∀ (i j : Nat) (oi oj : Oper), l[i]? = some oi → l[j]? = some oj → i ≠ j → oi.dst.isSome = true → oi.dst ≠ oj.dst := by
  intro i j oi oj hi hj hij hs
  unfold distB at h
  rw [List.all_eq_true] at h
  have := h i (by simpa using (List.getElem?_eq_some_iff.1 hi).1)
  rw [List.all_eq_true] at this
  have := this j (by simpa using (List.getElem?_eq_some_iff.1 hj).1)
  rw [hi, hj] at this
  simpa [hij, hs] using this
theorem slotsB_out {N : Nat} {l : List Oper} (h : slotsB N l = true) {j : Nat} {oj : Oper} {s : Nat} (hj : l[j]? = some oj) (hs : oj.dst = some s) : s < N := by
  unfold slotsB at h
  rw [List.all_eq_true] at h
  have := h oj (List.mem_of_getElem? hj)
  rw [hs] at this
  simpa using this
theorem exc_setCells (b : Nat) : ∀ (vs : List Value) (o : Nat) (w : World), Exc [b] w (w.setCells b o vs) := by
  intro vs
  induction vs with
  | nil => intro o w; exact Exc.refl _ _
  | cons v r ih =>
    intro o w
    have h1 : Exc [b] w (w.setCell ⟨b, o, none⟩ v) := (Exc.refl _ _).set (.inl (by simp)) v
    have h2 := ih (o + 1) (w.setCell ⟨b, o, none⟩ v)
    exact ⟨h2.os.trans h1.os, h2.tape.trans h1.tape, h2.output.trans h1.output, Nat.le_trans h1.size h2.size, fun k hk hm => (h2.block k (Nat.lt_of_lt_of_le hk h1.size) hm).trans (h1.block k hk hm)⟩
structure Sp where
  lo : Int
  hi : Int
abbrev spC (s : Sp) : List Value := [.int .i64 s.lo, .int .i64 s.hi]
abbrev spV (s : Sp) : Value := .agg #[.int .i64 s.lo, .int .i64 s.hi]
theorem spC_len (s : Sp) : (spC s).length = 2 := rfl
namespace S
def place (n : Int) : Bool := decide (-1048576 ≤ n) && decide (n ≤ 1048576)
def spanOk (s : Sp) : Bool := decide (s.lo ≤ s.hi) && place s.lo && place s.hi
def spanNot (s : Sp) : Bool := !spanOk s
def dist (a b : Sp) : Int := if a.lo + a.hi - b.lo - b.hi < b.lo + b.hi - a.lo - a.hi then b.lo + b.hi - a.lo - a.hi else a.lo + a.hi - b.lo - b.hi
def wide (a b : Sp) : Int := if a.hi - a.lo < b.hi - b.lo then b.hi - b.lo else a.hi - a.lo
def nearS (num den : Int) (a b : Sp) : Bool := decide (dist a b * den < 2 * num * wide a b)
def stagP (l : List Sp) (num den : Int) (i : Nat) : Bool := match l[i]? with | some a => (l.take i).any (nearS num den a) | none => false
def stag (l : List Sp) (num den : Int) : Int := idxf (List.range l.length) (stagP l num den)
def stagNum (num den : Int) : Bool := decide (num < 1) || decide (1000 < num) || decide (den < 1) || decide (1000 < den)
def stagErr (l : List Sp) (num den : Int) : Int := if anyb l spanNot = true then 1 else if stagNum num den = true then 2 else if 1000 < l.length then 4 else 0
def stagIx (l : List Sp) (num den : Int) : Int := if stagErr l num den = 0 then stag l num den else 0
def stagIs (l : List Sp) (num den : Int) : Bool := decide (stagErr l num den = 0) && decide (stag l num den < 0)
end S
theorem lplace_any (n : Int) (w : World) : Calls Try.prog 19 #[.int .i64 n] w fun e w' => e = .returned (.bool (S.place n)) ∧ w = w' := by
  have H := Lib.hid (show S.place n = (decide (-1048576 ≤ n) && decide (n ≤ 1048576)) from rfl)
  go_enter Try.func19, Try.ntmps19
  go_wp2
  all_goals (go_ret; refine ⟨ret_b ?_, rfl⟩; rw [H.out, Bool.eq_iff_iff]; simp; omega)
theorem lup_any (n d : Int) (h0 : 0 ≤ n) (h1 : n ≤ 1000000000000000) (h2 : 1 ≤ d) (h3 : d ≤ 1000000) (w : World) : Calls Try.prog 21 #[.int .i64 n, .int .i64 d] w fun e w' => e = .returned (.int .i64 ((n + d - 1) / d)) ∧ w = w' := by
  have e1 : IntKind.i64.wrap (n + d) = n + d := IntWalk.i64_in _ (by omega)
  have e2 : IntKind.i64.wrap (n + d - 1) = n + d - 1 := IntWalk.i64_in _ (by omega)
  have hq : (n + d - 1).tdiv d = (n + d - 1) / d := Int.tdiv_eq_ediv_of_nonneg (by omega)
  have hb : 0 ≤ (n + d - 1) / d ∧ (n + d - 1) / d ≤ n + d - 1 := ⟨Int.ediv_nonneg (by omega) (by omega), Int.ediv_le_self _ (by omega)⟩
  have e3 : IntKind.i64.wrap ((n + d - 1).tdiv d) = (n + d - 1) / d := by rw [hq]; exact IntWalk.i64_in _ (by omega)
  have hd : d ≠ 0 := by omega
  go_enter Try.func21, Try.ntmps21
  go_wp2
  go_ret
  exact ⟨by simp [e3, hq], rfl⟩
theorem near_walk {a b : Sp} (ha : S.spanOk a = true) (hb : S.spanOk b = true) {num den : Int} (hn : 1 ≤ num ∧ num ≤ 1000) (hd : 1 ≤ den ∧ den ≤ 1000) :
    ∃ x1 x2 d1 y1 y2 d2 M p q v1 v2 W z : Int, IntKind.i64.wrap (a.lo + a.hi) = x1 ∧ IntKind.i64.wrap (x1 - b.lo) = x2 ∧ IntKind.i64.wrap (x2 - b.hi) = d1 ∧ IntKind.i64.wrap (b.lo + b.hi) = y1 ∧ IntKind.i64.wrap (y1 - a.lo) = y2 ∧ IntKind.i64.wrap (y2 - a.hi) = d2 ∧ (if d1 < d2 then d2 else d1) = M ∧ IntKind.i64.wrap (M * den) = p ∧ IntKind.i64.wrap (2 * num) = q ∧ IntKind.i64.wrap (a.hi - a.lo) = v1 ∧ IntKind.i64.wrap (b.hi - b.lo) = v2 ∧ (if v1 < v2 then v2 else v1) = W ∧ IntKind.i64.wrap (q * W) = z ∧ decide (p < z) = S.nearS num den a b := by
  simp only [S.spanOk, S.place, Bool.and_eq_true, decide_eq_true_eq] at ha hb
  have hM : 0 ≤ S.dist a b ∧ S.dist a b ≤ 8388608 := by unfold S.dist; split <;> omega
  have hW : 0 ≤ S.wide a b ∧ S.wide a b ≤ 8388608 := by unfold S.wide; split <;> omega
  have hp : 0 ≤ S.dist a b * den ∧ S.dist a b * den ≤ 8388608 * 1000 := ⟨Int.mul_nonneg hM.1 (by omega), Int.mul_le_mul hM.2 hd.2 (by omega) (by omega)⟩
  have hz : 0 ≤ 2 * num * S.wide a b ∧ 2 * num * S.wide a b ≤ 2000 * 8388608 := ⟨Int.mul_nonneg (by omega) hW.1, Int.mul_le_mul (by omega) hW.2 hW.1 (by omega)⟩
  exact ⟨a.lo + a.hi, a.lo + a.hi - b.lo, a.lo + a.hi - b.lo - b.hi, b.lo + b.hi, b.lo + b.hi - a.lo, b.lo + b.hi - a.lo - a.hi, S.dist a b, S.dist a b * den, 2 * num, a.hi - a.lo, b.hi - b.lo, S.wide a b, 2 * num * S.wide a b,
    IntWalk.i64_in _ (by omega), IntWalk.i64_in _ (by omega), IntWalk.i64_in _ (by omega), IntWalk.i64_in _ (by omega), IntWalk.i64_in _ (by omega), IntWalk.i64_in _ (by omega), rfl, IntWalk.i64_in _ (by omega), IntWalk.i64_in _ (by omega), IntWalk.i64_in _ (by omega), IntWalk.i64_in _ (by omega), rfl, IntWalk.i64_in _ (by omega), rfl⟩
theorem span_ok {l : List Sp} (h : anyb l S.spanNot = false) {k : Nat} (hk : k < l.length) : S.spanOk l[k] = true := by
  unfold anyb at h
  rw [List.any_eq_false] at h
  have := h _ (List.getElem_mem hk)
  simpa [S.spanNot] using this
theorem span_bad {l : List Sp} {k : Nat} (hk : k < l.length) (h : S.spanOk l[k] = false) : anyb l S.spanNot = true := by
  unfold anyb
  rw [List.any_eq_true]
  exact ⟨_, List.getElem_mem hk, by simp [S.spanNot, h]⟩
theorem span_all {l : List Sp} (h : ∀ k (hk : k < l.length), S.spanOk l[k] = true) : anyb l S.spanNot = false := by
  unfold anyb
  rw [List.any_eq_false]
  intro x hx
  obtain ⟨j, hj, rfl⟩ := List.mem_iff_getElem.1 hx
  simp [S.spanNot, h j hj]
theorem stagP_eq {l : List Sp} {num den : Int} {i : Nat} (hi : i < l.length) : S.stagP l num den i = (l.take i).any (S.nearS num den l[i]) := by
  unfold S.stagP
  rw [List.getElem?_eq_getElem hi]
theorem stagP_yes {l : List Sp} {num den : Int} {i j : Nat} (hi : i < l.length) (hj : j < i) (h : S.nearS num den l[i] (l[j]'(by omega)) = true) : S.stagP l num den i = true := by
  rw [stagP_eq hi, List.any_eq_true]
  refine ⟨l[j]'(by omega), ?_, h⟩
  rw [List.mem_take_iff_getElem]
  exact ⟨j, by omega, rfl⟩
theorem stagP_no {l : List Sp} {num den : Int} {i : Nat} (hi : i < l.length) (h : ∀ j (hj : j < i), S.nearS num den l[i] (l[j]'(by omega)) = false) : S.stagP l num den i = false := by
  rw [stagP_eq hi, List.any_eq_false]
  intro x hx
  rw [List.mem_take_iff_getElem] at hx
  obtain ⟨j, hj, rfl⟩ := hx
  simp [h j (by omega)]
theorem stag_hit {l : List Sp} {num den : Int} {i : Nat} (hi : i < l.length) (h : S.stagP l num den i = true) (hno : ∀ j, j < i → S.stagP l num den j = false) : S.stag l num den = i := by
  unfold S.stag
  exact idxf_hit (k := i) (by simpa using hi) (by simpa using h) (fun j hj hji => by simpa using hno j hji)
theorem stag_miss {l : List Sp} {num den : Int} (hno : ∀ j, j < l.length → S.stagP l num den j = false) : S.stag l num den = -1 := by
  unfold S.stag
  exact idxf_miss (fun j hj => by simpa using hno j (by simpa using hj))
def S.stagT (l : List Sp) (num den : Int) : Value := .tuple #[.bool (S.stagIs l num den), .int .i64 (S.stagIx l num den), .int .i64 (S.stagErr l num den)]
theorem stagT_err {l : List Sp} {num den e : Int} (h : S.stagErr l num den = e) (he : e ≠ 0) : S.stagT l num den = .tuple #[.bool false, .int .i64 0, .int .i64 e] := by
  unfold S.stagT S.stagIs S.stagIx
  rw [h, if_neg he]
  simp [he]
theorem stagT_hit {l : List Sp} {num den : Int} {k : Nat} (h : S.stagErr l num den = 0) (hk : S.stag l num den = (k : Int)) : S.stagT l num den = .tuple #[.bool false, .int .i64 k, .int .i64 0] := by
  unfold S.stagT S.stagIs S.stagIx
  rw [h, if_pos rfl, hk]
  have : ¬ ((k : Int) < 0) := by omega
  simp [this]
theorem stagT_miss {l : List Sp} {num den : Int} (h : S.stagErr l num den = 0) (hk : S.stag l num den = -1) : S.stagT l num den = .tuple #[.bool true, .int .i64 (-1), .int .i64 0] := by
  unfold S.stagT S.stagIs S.stagIx
  rw [h, if_pos rfl, hk]
  simp
set_option maxRecDepth 8000 in
set_option maxHeartbeats 4000000 in
theorem stag_any (l : List Sp) (num den : Int) (A : Option Addr) (n c : Nat) (B : Nat) (w : World) (hn : l.length = n) (hm : n ≤ 9223372036854775807) (hc : n ≤ c) (hB : B ≤ w.heap.size) (hs : Cells w B A (l.flatMap spC)) :
    Calls Try.prog 8 #[.slice A n c, .int .i64 num, .int .i64 den] w fun e w' => e = .returned (S.stagT l num den) ∧ Below w.heap.size w w' := by
  have HN := Lib.hid hn
  have HPL := Lib.hid (fun n w => lplace_any n w)
  clear hn
  go_enter Try.func8, Try.ntmps8
  go_wp2
  go_loopw [18] (fun i wr => ∃ k : Nat, k ≤ n ∧ i = .int .i64 k ∧ (∀ j (h : j < l.length), j < k → S.spanOk l[j] = true) ∧ Below w.heap.size w wr) (fun i _ => n - (intOf i).toNat)
  case atStart => exact ⟨0, Nat.zero_le _, rfl, fun j _ hj => absurd hj (by omega), Below.refl _ _⟩
  case round =>
    obtain ⟨k, hk, rfl, hno, hbr⟩ := hrel
    have HNO := Lib.hid hno
    clear hno
    by_cases hlt : k < n
    · have hkx : k < l.length := by have := HN.out; omega
      have hs' := hs.below (hbr.mono hB)
      obtain ⟨b, o, rfl, _, _⟩ := hs'.at_ (by rw [flat_len spC 2 spC_len]; omega)
      have c0 := hs'.row0 spC_len hkx rfl
      have c1 := hs'.rowj spC_len hkx 1 rfl
      have HGO := Lib.hid (fun (h : S.spanOk l[k] = true) (j : Nat) (hj : j < l.length) (hjk : j < k + 1) => show S.spanOk l[j] = true from by
        by_cases hjk' : j = k
        · subst hjk'; exact h
        · exact HNO.out j hj (by omega))
      have HBAD := Lib.hid (fun (h : S.spanOk l[k] = false) => stagT_err (l := l) (num := num) (den := den) (e := 1) (by unfold S.stagErr; rw [if_pos (span_bad hkx h)]) (by decide))
      have HSP := Lib.hid (show S.spanOk l[k] = (decide (l[k].lo ≤ l[k].hi) && S.place l[k].lo && S.place l[k].hi) from rfl)
      have HP0 := Lib.hid (HPL.out l[k].lo)
      have HP1 := Lib.hid (HPL.out l[k].hi)
      generalize S.place l[k].lo = t0 at *
      generalize S.place l[k].hi = t1 at *
      generalize l[k] = s at *
      clear hs' HNO
      have hcs : (s.hi < s.lo) ∨ (¬ s.hi < s.lo ∧ t0 = false) ∨ (¬ s.hi < s.lo ∧ t0 = true ∧ t1 = false) ∨ (¬ s.hi < s.lo ∧ t0 = true ∧ t1 = true) := by
        by_cases h : s.hi < s.lo
        · exact .inl h
        · cases t0
          · exact .inr (.inl ⟨h, rfl⟩)
          · cases t1
            · exact .inr (.inr (.inl ⟨h, rfl, rfl⟩))
            · exact .inr (.inr (.inr ⟨h, rfl, rfl⟩))
      rcases hcs with h1 | ⟨h1, rfl⟩ | ⟨h1, rfl, rfl⟩ | ⟨h1, rfl, rfl⟩
      rotate_right
      · have HG := Lib.hid (HGO.out (by rw [HSP.out, decide_eq_true (show s.lo ≤ s.hi by omega)]; rfl))
        go_wp2_with (first
          | (go_at_call 19; (with_reducible refine (HP0.out _).mono ?_); rintro e w' ⟨rfl, rfl⟩)
          | (go_at_call 19; (with_reducible refine (HP1.out _).mono ?_); rintro e w' ⟨rfl, rfl⟩))
        go_roundw
        case rel => exact ⟨k + 1, by omega, by go_num, HG.out, bel⟩
        case measure => simp [intOf]; omega
      all_goals (
        have HG := Lib.hid (HBAD.out (by rw [HSP.out]; first | rfl | (rw [decide_eq_false (show ¬ s.lo ≤ s.hi by omega)]; rfl) | (simp; done)))
        go_wp2_with (first
          | (go_at_call 19; (with_reducible refine (HP0.out _).mono ?_); rintro e w' ⟨rfl, rfl⟩)
          | (go_at_call 19; (with_reducible refine (HP1.out _).mono ?_); rintro e w' ⟨rfl, rfl⟩))
        go_ret3
        exact ⟨by rw [HG.out]; rfl, bel⟩)
    · have hall : ∀ j (h : j < l.length), S.spanOk l[j] = true := fun j hj => HNO.out j hj (by have := HN.out; omega)
      have HALL := Lib.hid hall
      have hany := span_all hall
      have hE0 : S.stagErr l num den = if S.stagNum num den = true then 2 else if 1000 < l.length then 4 else 0 := by
        unfold S.stagErr; rw [hany]; rfl
      by_cases hsn : S.stagNum num den = true
      · have HT := Lib.hid (stagT_err (l := l) (num := num) (den := den) (e := 2) (by rw [hE0, if_pos hsn]) (by decide))
        have hcs : (if den < num then den else num) < 1 ∨ (¬ (if den < num then den else num) < 1 ∧ 1000 < (if num < den then den else num)) := by
          simp only [S.stagNum, Bool.or_eq_true, decide_eq_true_eq] at hsn
          split <;> split <;> omega
        clear hE0 hsn hany hall
        generalize hlo : (if den < num then den else num) = lo at *
        generalize hhi : (if num < den then den else num) = hi at *
        rcases hcs with h1 | ⟨h1, h2⟩
        all_goals (
          go_wp2
          go_ret3
          exact ⟨by rw [HT.out]; rfl, bel⟩)
      have hsn' : (¬ (if den < num then den else num) < 1 ∧ ¬ 1000 < (if num < den then den else num)) ∧ (1 ≤ num ∧ num ≤ 1000) ∧ (1 ≤ den ∧ den ≤ 1000) := by
        simp only [S.stagNum, Bool.or_eq_true, decide_eq_true_eq] at hsn
        split <;> split <;> omega
      obtain ⟨⟨h1, h2⟩, hnum, hden⟩ := hsn'
      rw [if_neg hsn] at hE0
      generalize hlo : (if den < num then den else num) = lo at *
      generalize hhi : (if num < den then den else num) = hi at *
      by_cases h1000 : 1000 < n
      · have HT := Lib.hid (stagT_err (l := l) (num := num) (den := den) (e := 4) (by rw [hE0, if_pos (by have := HN.out; omega)]) (by decide))
        clear hE0 hsn hany hall
        go_wp2
        go_ret3
        exact ⟨by rw [HT.out]; rfl, bel⟩
      have HE0 := Lib.hid (show S.stagErr l num den = 0 by rw [hE0, if_neg (by have := HN.out; omega)])
      have HNW := Lib.hid (fun (i j : Nat) (hi : i < l.length) (hj : j < l.length) => near_walk (hall i hi) (hall j hj) hnum hden)
      clear hE0 hsn hany hall
      go_wp2
      have hsr := hs.below (hbr.mono hB)
      have hBr : B ≤ wr.heap.size := by have := hbr.size; omega
      clear hs
      go_loopw [57] (fun i wq => ∃ k : Nat, k ≤ n ∧ i = .int .i64 k ∧ (∀ j, j < k → S.stagP l num den j = false) ∧ Below wr.heap.size wr wq) (fun i _ => n - (intOf i).toNat)
      case atStart => exact ⟨0, Nat.zero_le _, rfl, fun j hj => absurd hj (by omega), Below.refl _ _⟩
      case round =>
        obtain ⟨k2, hk2, rfl, hno2, hbr2⟩ := hrel
        have HNO2 := Lib.hid hno2
        clear hno2
        by_cases hlt2 : k2 < n
        · have hkx : k2 < l.length := by have := HN.out; omega
          have hs' := hsr.below (hbr2.mono hBr)
          obtain ⟨b, o, rfl, hbB, _⟩ := hs'.at_ (by rw [flat_len spC 2 spC_len]; omega)
          have c0 := hs'.row0 spC_len hkx rfl
          have c1 := hs'.rowj spC_len hkx 1 rfl
          have hkc : k2 ≤ c := by omega
          have hk2i : (k2 : Int) < n := by omega
          have HNWk := Lib.hid (fun (j : Nat) (hj : j < l.length) => HNW.out k2 j hkx hj)
          have HYES := Lib.hid (fun (j : Nat) (hj : j < k2) (h : S.nearS num den l[k2] (l[j]'(by omega)) = true) => stagT_hit (l := l) (num := num) (den := den) HE0.out (stag_hit hkx (stagP_yes hkx hj h) HNO2.out))
          have HNON := Lib.hid (fun (h : ∀ j (hj : j < k2), S.nearS num den l[k2] (l[j]'(by omega)) = false) => show ∀ j, j < k2 + 1 → S.stagP l num den j = false from fun j hj => by
            by_cases hjk : j = k2
            · subst hjk; exact stagP_no hkx h
            · exact HNO2.out j (by omega))
          generalize l[k2] = a at *
          go_wp2
          have hbn := hbr2.size
          have hA := Blk.new wr 27 #[.int .i64 a.lo, .int .i64 a.hi]
          have hbw : Below w.heap.size w (wr.alloc (.cells #[.int .i64 a.lo, .int .i64 a.hi] 27)) := ba_alloc (hbr.trans (hbr2.mono hbr.size)) _
          have hsq := hs'.alloc (by omega) (.cells #[.int .i64 a.lo, .int .i64 a.hi] 27)
          have hwa : (wr.alloc (.cells #[.int .i64 a.lo, .int .i64 a.hi] 27)).heap.size = wr.heap.size + 1 := by simp
          have hbra := hbr2.trans ((ba_alloc (Below.refl _ wr) (.cells #[.int .i64 a.lo, .int .i64 a.hi] 27)).mono hbn)
          generalize wr.alloc (.cells #[.int .i64 a.lo, .int .i64 a.hi] 27) = wa at *
          clear hs' c0 c1
          go_loopw [66] (fun i wq => ∃ j : Nat, j ≤ k2 ∧ i = .int .i64 j ∧ (∀ m (hm : m < k2), m < j → S.nearS num den a (l[m]'(by omega)) = false) ∧ Below wa.heap.size wa wq) (fun i _ => k2 - (intOf i).toNat)
          case atStart => exact ⟨0, Nat.zero_le _, rfl, fun m _ hm => absurd hm (by omega), Below.refl _ _⟩
          case round =>
            obtain ⟨j, hj, rfl, hno3, hbq⟩ := hrel
            have HNO3 := Lib.hid hno3
            clear hno3
            by_cases hlt3 : j < k2
            · have hjx : j < l.length := by omega
              have hs3 := hsq.below (hbq.mono (by omega))
              have c0 := hs3.row0 spC_len hjx rfl
              have c1 := hs3.rowj spC_len hjx 1 rfl
              have hAq := hA.via hbq
              have a0 := hAq.cell 0
              have a1 := hAq.cell 1
              have ltA := hAq.lt
              simp only [List.getElem?_toArray, List.getElem?_cons_zero, List.getElem?_cons_succ] at a0 a1
              obtain ⟨x1, x2, d1, y1, y2, d2, M, p, q, v1, v2, W, z, e1, e2, e3, e4, e5, e6, e7, e8, e9, e10, e11, e12, e13, e14⟩ := HNWk.out j hjx
              have HY := Lib.hid (HYES.out j hlt3)
              have HG := Lib.hid (fun (h : S.nearS num den a (l[j]'hjx) = false) (m : Nat) (hm : m < k2) (hmj : m < j + 1) => show S.nearS num den a (l[m]'(by omega)) = false from by
                by_cases hmj' : m = j
                · subst hmj'; exact h
                · exact HNO3.out m hm (by omega))
              have E14 := Lib.hid e14
              clear e14 hs3 hAq
              generalize l[j] = s at *
              generalize S.nearS num den a s = t at *
              cases t
              · have hpz : ¬ p < z := of_decide_eq_false E14.out
                have HG' := Lib.hid (HG.out rfl)
                go_wp2
                go_roundw
                case rel => exact ⟨j + 1, by omega, by go_num, HG'.out, hbq.trans (Below.mono bel hbq.size)⟩
                case measure => simp [intOf]; omega
              · have hpz : p < z := of_decide_eq_true E14.out
                have HG' := Lib.hid (HY.out rfl)
                go_wp2
                go_ret3
                exact ⟨by rw [HG'.out]; rfl, hbw.trans (Below.mono (hbq.trans (Below.mono bel hbq.size)) hbw.size)⟩
            · have HNN := Lib.hid (HNON.out (fun m hm => HNO3.out m hm (by omega)))
              obtain rfl : k2 = j := by omega
              clear hj hlt3
              go_wp2
              go_roundw
              case rel => exact ⟨k2 + 1, by omega, by go_num, HNN.out, hbra.trans (hbq.mono hbra.size)⟩
              case measure => simp [intOf]; omega
        · have HT := Lib.hid (stagT_miss (l := l) (num := num) (den := den) HE0.out (stag_miss (fun j hj => HNO2.out j (by have := HN.out; omega))))
          go_wp2
          go_ret3
          exact ⟨by rw [HT.out]; rfl, hbr.trans (hbr2.mono hbr.size)⟩
theorem islen_any (n : Int) (w : World) :
    Calls Try.prog 18 #[.int .i64 n] w fun e w' => e = .returned (.bool (S.place n)) ∧ w = w' := by
  have H := Lib.hid (show S.place n = (decide (-1048576 ≤ n) && decide (n ≤ 1048576)) from rfl)
  go_enter Try.func18, Try.ntmps18
  go_wp2
  all_goals (go_ret; exact ⟨ret_b (by rw [H.out, Bool.eq_iff_iff]; all_goals (first | (simp; done) | (simp; omega))), rfl⟩)
theorem rspan_any (s : Sp) (w : World) : Calls Try.prog 7 #[spV s] w fun e w' => e = .returned (.bool (S.spanOk s)) ∧ Below w.heap.size w w' := by
  have H := Lib.hid (show S.spanOk s = (decide (s.lo ≤ s.hi) && S.place s.lo && S.place s.hi) from rfl)
  have H0 := Lib.hid (fun w => islen_any s.lo w)
  have H1 := Lib.hid (fun w => islen_any s.hi w)
  generalize S.place s.lo = t0 at *
  generalize S.place s.hi = t1 at *
  unfold spV
  have hcs : (s.hi < s.lo) ∨ (s.lo ≤ s.hi ∧ t0 = false) ∨ (s.lo ≤ s.hi ∧ t0 = true) := by
    by_cases h : s.hi < s.lo
    · exact .inl h
    · cases t0
      · exact .inr (.inl ⟨by omega, rfl⟩)
      · exact .inr (.inr ⟨by omega, rfl⟩)
  rcases hcs with h | ⟨h, rfl⟩ | ⟨h, rfl⟩
  · have hd : decide (s.lo ≤ s.hi) = false := decide_eq_false (by omega)
    rw [hd] at H
    clear hd
    go_enter Try.func7, Try.ntmps7
    go_wp2
    go_ret
    exact ⟨ret_b (by rw [H.out]; simp), bel⟩
  all_goals (
    rw [decide_eq_true h] at H
    go_enter Try.func7, Try.ntmps7
    go_wp2_with (first
      | (go_at_call 18; (with_reducible refine (H0.out _).mono ?_); rintro e w' ⟨rfl, rfl⟩)
      | (go_at_call 18; (with_reducible refine (H1.out _).mono ?_); rintro e w' ⟨rfl, rfl⟩))
    go_ret
    exact ⟨ret_b (by rw [H.out]; simp), bel⟩)
def AsksS (w : World) (F : Nat) (fst cap : Array Value) (p : Sp → Bool) : Prop :=
  ∀ (x : Sp) (w' : World), Below w.heap.size w w' → Calls Try.prog F (fst.push (spV x) ++ cap) w' fun e w'' => e = .returned (.bool (p x)) ∧ Below w'.heap.size w' w''
theorem indexfS_any (F : Nat) (fst cap : Array Value) (p : Sp → Bool) (A : Option Addr) (n c : Nat) (xs : List Sp) (B : Nat) (w : World) (hn : xs.length = n) (hm : n ≤ 9223372036854775807) (hB : B ≤ w.heap.size)
    (hs : Cells w B A (xs.flatMap spC)) (hF : ∀ args w, Sem.run Try.prog (callFunc F args) w = .ok (.enter F args) w) (hf : AsksS w F fst cap p) :
    Calls Try.prog 17 #[.slice A n c, .func (.func F) fst cap] w fun e w' => e = .returned (.int .i64 (idxf xs p)) ∧ Below w.heap.size w w' := by
  have HN := Lib.hid hn
  clear hn
  go_enter Try.func17, Try.ntmps17
  go_wp2
  go_loopw [8] (fun i wr => ∃ k : Nat, k ≤ n ∧ i = .int .i64 k ∧ (∀ j (h : j < xs.length), j < k → p xs[j] = false) ∧ Below w.heap.size w wr) (fun i _ => n - (intOf i).toNat)
  case atStart => exact ⟨0, Nat.zero_le _, rfl, fun j _ hj => absurd hj (by omega), Below.refl _ _⟩
  case round =>
    obtain ⟨k, hk, rfl, hno, hbr⟩ := hrel
    have HNO := Lib.hid hno
    clear hno
    by_cases hlt : k < n
    · have hkx : k < xs.length := by have := HN.out; omega
      have hs' := hs.below (hbr.mono hB)
      obtain ⟨b, o, rfl, _, _⟩ := hs'.at_ (by rw [flat_len spC 2 spC_len]; omega)
      have c0 := hs'.row0 spC_len hkx rfl
      have c1 := hs'.rowj spC_len hkx 1 rfl
      by_cases hx : p xs[k] = true
      · go_wp2_with (refine (hf _ _ hbr).mono ?_; rintro e w1 ⟨rfl, hb1⟩)
        go_ret
        exact ⟨ret_i (idxf_hit hkx hx HNO.out).symm, hbr.trans (hb1.mono hbr.size)⟩
      · have hx' : p xs[k] = false := by simpa using hx
        clear hx
        go_wp2_with (refine (hf _ _ hbr).mono ?_; rintro e w1 ⟨rfl, hb1⟩)
        go_roundw
        case rel =>
          refine ⟨k + 1, by omega, by go_num, fun j hj hjk => ?_, hbr.trans (hb1.mono hbr.size)⟩
          by_cases hjk' : j = k
          · subst hjk'; exact hx'
          · exact HNO.out j hj (by omega)
        case measure => simp [intOf]; omega
    · go_wp2
      go_ret
      exact ⟨ret_i (idxf_miss (fun j hj => HNO.out j hj (by have := HN.out; omega))).symm, hbr⟩
theorem containsfS_any (F : Nat) (fst cap : Array Value) (p : Sp → Bool) (A : Option Addr) (n c : Nat) (xs : List Sp) (B : Nat) (w : World) (hn : xs.length = n) (hm : n ≤ 9223372036854775807) (hB : B ≤ w.heap.size)
    (hs : Cells w B A (xs.flatMap spC)) (hF : ∀ args w, Sem.run Try.prog (callFunc F args) w = .ok (.enter F args) w) (hf : AsksS w F fst cap p) :
    Calls Try.prog 5 #[.slice A n c, .func (.func F) fst cap] w fun e w' => e = .returned (.bool (anyb xs p)) ∧ Below w.heap.size w w' := by
  have HN := Lib.hid hn
  have HF := Lib.hid hF
  have he : decide (0 ≤ idxf xs p) = anyb xs p := idxf_ge xs p
  clear hn hF
  go_enter Try.func5, Try.ntmps5
  go_wp2_with (go_at_call 17; (with_reducible refine (indexfS_any F fst cap p _ _ _ xs B _ HN.out hm hB hs HF.out hf).mono ?_); rintro e w1 ⟨rfl, hbw1⟩; obtain ⟨hcw1, hfw1⟩ := bcell hbw1)
  go_ret
  exact ⟨rfl, bel⟩
end Go.Proofs.Ytnjflafaflalfaa
