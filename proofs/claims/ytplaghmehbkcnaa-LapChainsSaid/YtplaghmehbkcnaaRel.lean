/- A region that draws its order, whose operations yield values that only have a property (addresses of memory just made): in whatever order they come. -/
import Derived.Test.YtplaghmehbkcnaaTail
import Derived.Test.YtplaghmehbkcnaaRow
import Derived.Deep.MidRow
set_option linter.unusedVariables false
set_option linter.unusedSimpArgs false
namespace Go.Proofs.Ytplaghmehbkcnaa
open Go.RowKit
/-- What an operation has left in its slot. -/
def slotV (a : Act) (o : Oper) : Value := match o.dst with | some s => a.tmps.getD s undef | none => undef
theorem cnt_set : ∀ (l : List Bool) (i : Nat), l[i]? = some false → (l.set i true).count false + 1 = l.count false := by
  intro l
  induction l with
  | nil => intro i h; simp at h
  | cons b l ih =>
    intro i h
    cases i with
    | zero =>
      simp only [List.getElem?_cons_zero, Option.some.injEq] at h
      subst h
      simp
    | succ i =>
      simp only [List.getElem?_cons_succ] at h
      have := ih i h
      cases b <;> simp <;> omega
section
variable {P : Program} {l : List Oper} {V : Nat → Value → World → Prop} {S : Act → World → Prop} {G : World → World → Prop} {Q : Exit → Act → World → Prop}
theorem slot_put {a : Act} {oi oj : Oper} {v : Value} (h : oi.dst.isSome = true → oi.dst ≠ oj.dst) : slotV (a.put oj.dst v) oi = slotV a oi := by
  unfold slotV Act.put
  cases hi : oi.dst with
  | none => rfl
  | some s =>
    cases hj : oj.dst with
    | none => rfl
    | some d =>
      have hne : s ≠ d := by
        have := h (by simp [hi])
        rw [hi, hj] at this
        simpa using this
      simp only [Array.getD_eq_getD_getElem?]
      rw [Array.getElem?_setIfInBounds_ne (fun e => hne e.symm)]
theorem slot_same {a : Act} {oj : Oper} {v : Value} (hb : ∀ s, oj.dst = some s → s < a.tmps.size) (hn : oj.dst = none → v = undef) : slotV (a.put oj.dst v) oj = v := by
  unfold slotV Act.put
  cases hj : oj.dst with
  | none => simpa using (hn hj).symm
  | some d =>
    have := hb d hj
    simp [Array.getD_eq_getD_getElem?, this]
theorem wpAny_rel {md : Region.Mode}
    (hV : ∀ i v w w', V i v w → G w w' → V i v w')
    (hearly : ∀ (j : Nat) (oj : Oper), l[j]? = some oj → ∀ e ∈ oj.after, Region.binds md e = true → e.on < j)
    (hdst : ∀ (i j : Nat) (oi oj : Oper), l[i]? = some oi → l[j]? = some oj → i ≠ j → oi.dst.isSome = true → oi.dst ≠ oj.dst)
    (hsz : ∀ (j : Nat) (oj : Oper) (s : Nat) (a : Act) (w : World), l[j]? = some oj → oj.dst = some s → S a w → s < a.tmps.size)
    (hstep : ∀ (j : Nat) (oj : Oper) (a : Act) (w : World), l[j]? = some oj → S a w → (∀ e ∈ oj.after, Region.binds md e = true → ∀ oe, l[e.on]? = some oe → V e.on (slotV a oe) w) →
      wpOp P l.toArray Q j (fun a' w' => ∃ v, a' = a.put oj.dst v ∧ (oj.dst = none → v = undef) ∧ V j v w' ∧ G w w' ∧ S a' w') a w)
    (hend : ∀ (a : Act) (w : World), S a w → (∀ j oj, l[j]? = some oj → V j (slotV a oj) w) → Q .normal a w) :
    ∀ (f : Nat) (listed : Array Bool) (a : Act) (w : World), listed.size = l.length → listed.toList.count false ≤ f → S a w → (∀ j oj, l[j]? = some oj → listed.getD j false = true → V j (slotV a oj) w) →
      wpAny P md l.toArray Q f listed a w := by
  have hlow : ∀ (listed : Array Bool), listed.size = l.length → Region.ready md l.toArray listed = [] → ∀ n, n ≤ l.length → ∀ j, j < n → listed.getD j false = true := by
    intro listed hls hr n
    induction n with
    | zero => intro _ j hj; omega
    | succ n ih =>
      intro hn j hj
      by_cases hjn : j < n
      · exact ih (by omega) j hjn
      · obtain rfl : j = n := by omega
        by_cases hlj : listed.getD j false = true
        · exact hlj
        · exfalso
          have hjl : j < l.length := by omega
          have hm : j ∈ Region.ready md l.toArray listed := by
            rw [mem_ready]
            refine ⟨?_, l[j], by simp [hjl], fun e he hb => ?_⟩
            · have h1 : j < listed.size := by omega
              simp [Array.getD_eq_getD_getElem?, h1] at hlj ⊢
              exact hlj
            · exact ih (by omega) e.on (hearly j l[j] (by simp [hjl]) e he hb)
          rw [hr] at hm
          cases hm
  have hfin : ∀ (listed : Array Bool) (a : Act) (w : World), listed.size = l.length → Region.ready md l.toArray listed = [] → S a w → (∀ j oj, l[j]? = some oj → listed.getD j false = true → V j (slotV a oj) w) → Q .normal a w := by
    intro listed a w hls hr hS hI
    refine hend a w hS (fun j oj hj => hI j oj hj ?_)
    exact hlow listed hls hr l.length (Nat.le_refl _) j (List.getElem?_eq_some_iff.1 hj).1
  intro f
  induction f with
  | zero =>
    intro listed a w hls hc hS hI
    have hr : Region.ready md l.toArray listed = [] := by
      rcases hrr : Region.ready md l.toArray listed with _ | ⟨j, t⟩
      · rfl
      · exfalso
        have hm : j ∈ Region.ready md l.toArray listed := by rw [hrr]; simp
        rw [mem_ready] at hm
        obtain ⟨h1, o, ho, _⟩ := hm
        have hjl : j < l.length := by
          have := (Array.getElem?_eq_some_iff.1 ho).1
          simpa using this
        have h2 : j < listed.size := by omega
        have h3 : listed[j] = false := by simpa [Array.getD_eq_getD_getElem?, h2] using h1
        have : false ∈ listed.toList := by
          rw [← h3]
          simp
        have := List.count_pos_iff.2 this
        omega
    exact ⟨hr, hfin listed a w hls hr hS hI⟩
  | succ f ih =>
    intro listed a w hls hc hS hI
    refine ⟨fun hr => hfin listed a w hls hr hS hI, fun j hj => ?_⟩
    rw [mem_ready] at hj
    obtain ⟨h1, oj, hoj, hdep⟩ := hj
    have hoj' : l[j]? = some oj := by simpa using hoj
    have hjl : j < l.length := (List.getElem?_eq_some_iff.1 hoj').1
    have h2 : j < listed.size := by omega
    have h3 : listed[j] = false := by simpa [Array.getD_eq_getD_getElem?, h2] using h1
    refine wpOp_mono ?_ (hstep j oj a w hoj' hS (fun e he hb oe hoe => hI e.on oe hoe (hdep e he hb)))
    rintro a' w' ⟨v, rfl, hvn, hvj, hg, hS'⟩
    refine ih _ _ _ (by simpa using hls) ?_ hS' (fun i oi hoi hli => ?_)
    · have hcs := cnt_set listed.toList j (by simp [h2, h3])
      rw [Array.toList_setIfInBounds]
      omega
    · by_cases hij : i = j
      · subst hij
        rw [hoj'] at hoi
        injection hoi with hoi
        subst hoi
        rw [slot_same (fun s hs => hsz i oj s a w hoj' hs hS) hvn]
        exact hvj
      · rw [slot_put (fun hs => hdst i j oi oj hoi hoj' hij hs)]
        refine hV _ _ _ _ (hI i oi hoi ?_) hg
        have hil : i < listed.size := by have := (List.getElem?_eq_some_iff.1 hoi).1; omega
        rw [Array.getD_eq_getD_getElem?, Array.getElem?_setIfInBounds_ne (fun e => hij e.symm)] at hli
        rw [Array.getD_eq_getD_getElem?]
        exact hli
/-- The region. -/
theorem wp_region_rel {id : Nat} {a : Act} {w : World} (hm : P.follows .mixedOrders = true)
    (hV : ∀ i v w w', V i v w → G w w' → V i v w')
    (hearly : ∀ (j : Nat) (oj : Oper), l[j]? = some oj → ∀ e ∈ oj.after, Region.binds .any e = true → e.on < j)
    (hdst : ∀ (i j : Nat) (oi oj : Oper), l[i]? = some oi → l[j]? = some oj → i ≠ j → oi.dst.isSome = true → oi.dst ≠ oj.dst)
    (hsz : ∀ (j : Nat) (oj : Oper) (s : Nat) (a : Act) (w : World), l[j]? = some oj → oj.dst = some s → S a w → s < a.tmps.size)
    (h0 : S a w.drew)
    (hstep : ∀ (j : Nat) (oj : Oper) (a : Act) (w : World), l[j]? = some oj → S a w → (∀ e ∈ oj.after, Region.binds .any e = true → ∀ oe, l[e.on]? = some oe → V e.on (slotV a oe) w) →
      wpOp P l.toArray Q j (fun a' w' => ∃ v, a' = a.put oj.dst v ∧ (oj.dst = none → v = undef) ∧ V j v w' ∧ G w w' ∧ S a' w') a w)
    (hend : ∀ (a : Act) (w : World), S a w → (∀ j oj, l[j]? = some oj → V j (slotV a oj) w) → Q .normal a w) : (Code.region id l.toArray true).wp P Q a w := by
  refine wp_region_any hm ?_
  refine wpAny_rel hV hearly hdst hsz hstep hend _ _ a w.drew (by simp) ?_ h0 (fun j oj hj hl => ?_)
  · simp
  · rw [Array.getD_eq_getD_getElem?] at hl
    have hjl : j < l.length := (List.getElem?_eq_some_iff.1 hj).1
    simp [hjl] at hl
end
theorem op_val {P : Program} {ops : Array Oper} {Q : Exit → Act → World → Prop} {j : Nat} {K : Act → World → Prop} {a : Act} {w w' : World} {o : Oper} {v : Value} (ho : ops[j]? = some o) (hg : o.guard = none)
    (hr : (execOp a.eval o).run P w = .ok (.value v) w') (hK : K (a.put o.dst v) w') : wpOp P ops Q j K a w := by
  unfold wpOp
  rw [ho]
  simp only []
  rw [if_pos (by simp [Region.wanted, hg])]
  left
  unfold Oper.wp
  rw [hr]
  exact hK
theorem op_skip {P : Program} {ops : Array Oper} {Q : Exit → Act → World → Prop} {j : Nat} {K : Act → World → Prop} {a : Act} {w w' : World} {o : Oper} (ho : ops[j]? = some o) (hg : o.guard = none)
    (hr : (execOp a.eval o).run P w = .ok .skip w') (hK : K (a.put o.dst undef) w') : wpOp P ops Q j K a w := by
  unfold wpOp
  rw [ho]
  simp only []
  rw [if_pos (by simp [Region.wanted, hg])]
  left
  unfold Oper.wp
  rw [hr]
  exact hK
theorem op_call {P : Program} {ops : Array Oper} {Q : Exit → Act → World → Prop} {j : Nat} {K : Act → World → Prop} {a : Act} {w : World} {o : Oper} {f : FuncId} {args : Array Value} (ho : ops[j]? = some o) (hg : o.guard = none)
    (hr : (execOp a.eval o).run P w = .ok (.enter f args) w) {R : Ending → World → Prop} (hc : Calls P f args w R) (hK : ∀ e w', R e w' → ∃ v, e = .returned v ∧ K (a.put o.dst v) w') : wpOp P ops Q j K a w := by
  unfold wpOp
  rw [ho]
  simp only []
  rw [if_pos (by simp [Region.wanted, hg])]
  left
  unfold Oper.wp
  rw [hr]
  exact hc.mono (fun e w' h => by obtain ⟨v, rfl, hk⟩ := hK e w' h; exact hk)
def earlyB (md : Region.Mode) (l : List Oper) : Bool := (List.range l.length).all fun j => match l[j]? with | some o => o.after.all (fun e => !Region.binds md e || decide (e.on < j)) | none => true
def distB (l : List Oper) : Bool := (List.range l.length).all fun i => (List.range l.length).all fun j => i == j || (match l[i]?, l[j]? with | some oi, some oj => !oi.dst.isSome || (oi.dst != oj.dst) | _, _ => true)
def slotsB (N : Nat) (l : List Oper) : Bool := l.all fun o => match o.dst with | some s => decide (s < N) | none => true
theorem earlyB_out {md : Region.Mode} {l : List Oper} (h : earlyB md l = true) : ∀ (j : Nat) (oj : Oper), l[j]? = some oj → ∀ e ∈ oj.after, Region.binds md e = true → e.on < j := by
  intro j oj hj e he hb
  unfold earlyB at h
  rw [List.all_eq_true] at h
  have := h j (by simpa using (List.getElem?_eq_some_iff.1 hj).1)
  rw [hj] at this
  simp only [Array.all_eq_true_iff_forall_mem] at this
  have := this e he
  simp only [hb, Bool.not_true, Bool.false_or, decide_eq_true_eq] at this
  exact this
theorem distB_out {l : List Oper} (h : distB l = true) : ∀ (i j : Nat) (oi oj : Oper), l[i]? = some oi → l[j]? = some oj → i ≠ j → oi.dst.isSome = true → oi.dst ≠ oj.dst := by
  intro i j oi oj hi hj hij hs
  unfold distB at h
  rw [List.all_eq_true] at h
  have := h i (by simpa using (List.getElem?_eq_some_iff.1 hi).1)
  rw [List.all_eq_true] at this
  have := this j (by simpa using (List.getElem?_eq_some_iff.1 hj).1)
  rw [hi, hj] at this
  simpa [hij, hs] using this
theorem slotsB_out {N : Nat} {l : List Oper} (h : slotsB N l = true) {j : Nat} {oj : Oper} {s : Nat} (hj : l[j]? = some oj) (hs : oj.dst = some s) : s < N := by
  unfold slotsB at h
  rw [List.all_eq_true] at h
  have := h oj (List.mem_of_getElem? hj)
  rw [hs] at this
  simpa using this
theorem exc_setCells (b : Nat) : ∀ (vs : List Value) (o : Nat) (w : World), Exc [b] w (w.setCells b o vs) := by
  intro vs
  induction vs with
  | nil => intro o w; exact Exc.refl _ _
  | cons v r ih =>
    intro o w
    have h1 : Exc [b] w (w.setCell ⟨b, o, none⟩ v) := (Exc.refl _ _).set (.inl (by simp)) v
    have h2 := ih (o + 1) (w.setCell ⟨b, o, none⟩ v)
    exact ⟨h2.os.trans h1.os, h2.tape.trans h1.tape, h2.output.trans h1.output, Nat.le_trans h1.size h2.size, fun k hk hm => (h2.block k (Nat.lt_of_lt_of_le hk h1.size) hm).trans (h1.block k hk hm)⟩
end Go.Proofs.Ytplaghmehbkcnaa
