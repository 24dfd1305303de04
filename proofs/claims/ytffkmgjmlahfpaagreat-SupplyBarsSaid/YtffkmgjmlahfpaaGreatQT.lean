/- As XMix, where one operation makes a variable of its own (an alloc that waits for nothing). Chains of the program as data; what supply.chains gives. -/
import Derived.Test.YtffkmgjmlahfpaaGreatQM
import Derived.Test.YtffkmgjmlahfpaaGreatQR
import Derived.Test.YtffkmgjmlahfpaaGreatQS
set_option linter.unusedVariables false
set_option linter.unusedSimpArgs false
namespace Go.Proofs.YtffkmgjmlahfpaaGreat
open Go.RowKit
section
variable {P : Program} {ops : Array Oper} {md : Region.Mode} {w0 : World}
/-- The world has grown, no more. -/
def Gw (w w' : World) : Prop := Below w.heap.size w w'
theorem Gw.refl (w : World) : Gw w w := Below.refl _ _
theorem Gw.trans {w w' w'' : World} (h : Gw w w') (h' : Gw w' w'') : Gw w w'' := ba_via h' h
abbrev Cg (w0 w' : World) : Prop := ∃ g, w' = grow w0 g
theorem cg_iff {w' : World} : Cg w0 w' ↔ Gw w0 w' := by
  constructor
  · rintro ⟨g, rfl⟩; exact grow_below w0 g
  · intro h; exact ⟨w', (grow_eq h).symm⟩
theorem wpOp_slot {i : Nat} {oi oj : Oper} {v : Value} (hi : ops[i]? = some oi) (hap : oi.apart ops oj = true) (hsi : ∀ cs b, oi.op ≠ .select cs b) {K K' : Act → World → Prop} {a : Act} {w : World}
    (hK : ∀ a' w', K a' w' → K' (a'.put oj.dst v) w') (h : wpOp P ops stopPost i K a w) : wpOp P ops stopPost i K' (a.put oj.dst v) w := by
  obtain ⟨h3, h2, h1⟩ := Oper.apart_spec hap
  have h2' : ∀ d, oj.dst = some d → oi.dst ≠ some d := fun d hd he => h2 d he hd
  unfold wpOp at *
  simp only [hi] at *
  rw [wanted_put oi a oj.dst v h1]
  split
  · rename_i hw
    simp only [hw, if_true] at h
    rcases h with h | ⟨hasks, hlets⟩
    case inr => exact (lets_stop hlets).elim
    refine .inl ?_
    unfold Oper.wp at *
    rw [execOp_put oi hsi a oj.dst v h1]
    generalize (execOp a.eval oi).run P w = r at *
    cases r with
    | ok n w' =>
      cases n <;> simp only [Oper.upon] at h ⊢
      case value u => rw [Act.put_comm a v u h2']; exact hK _ _ h
      case skip => rw [Act.put_comm a v undef h2']; exact hK _ _ h
      case defer d =>
        have := hK _ _ h
        rw [← Act.put_comm _ v undef h2', ← Act.put_defers] at this
        exact this
      case enter f args =>
        refine Calls.mono h fun e w'' he => ?_
        cases e with
        | returned u =>
          simp only [] at he ⊢
          rw [Act.put_comm a v u h2']; exact hK _ _ he
        | panicked c => exact he
        | outgrown => exact he
      case row row args => exact Rows.mono h fun u w'' he => by rw [Act.put_comm a v u h2']; exact hK _ _ he
    | halt x w' =>
      cases x <;> simp only [Oper.upon] at h ⊢
      case panic u => exact h
  · rename_i hw
    simp only [hw] at h
    rw [Act.put_comm a v undef h2']
    exact hK _ _ h
/-- The operations of R that are not listed yet, in the order of the text; ahead of each one that makes memory the world may have grown. -/
def wpFr (P : Program) (ops : Array Oper) (w0 : World) (ks : Nat → Bool) (K : Act → World → Prop) (listed : Array Bool) : List Nat → Act → World → Prop
  | [], a, w => K a w
  | i :: R, a, w => if listed.getD i false = true then wpFr P ops w0 ks K listed R a w
    else if ks i = true then ∀ w', Cg w0 w' → Gw w w' → wpOp P ops stopPost i (fun a' w'' => Gw w' w'' ∧ wpFr P ops w0 ks K listed R a' w'') a w'
    else qOp P ops (Cg w0) i (fun a' => wpFr P ops w0 ks K listed R a' w) a
theorem wpFr_congr {ks : Nat → Bool} {K : Act → World → Prop} {l1 l2 : Array Bool} : ∀ {R : List Nat}, (∀ i, i ∈ R → l1.getD i false = l2.getD i false) → wpFr P ops w0 ks K l1 R = wpFr P ops w0 ks K l2 R := by
  intro R
  induction R with
  | nil => intro _; rfl
  | cons i R ih =>
    intro h
    have e := ih (fun i hi => h i (List.mem_cons_of_mem _ hi))
    funext a w
    simp only [wpFr, e, h i List.mem_cons_self]
theorem wpFr_weak {ks : Nat → Bool} {K : Act → World → Prop} {listed : Array Bool} (hK : ∀ a w w', K a w → Gw w w' → K a w') : ∀ {R : List Nat} {a : Act} {w w' : World}, wpFr P ops w0 ks K listed R a w → Gw w w' → wpFr P ops w0 ks K listed R a w' := by
  intro R
  induction R with
  | nil => intro a w w' h hg; exact hK a w w' h hg
  | cons i R ih =>
    intro a w w' h hg
    simp only [wpFr] at h ⊢
    split
    · rename_i hl; rw [if_pos hl] at h; exact ih h hg
    · rename_i hl
      rw [if_neg hl] at h
      split
      · rename_i hk; rw [if_pos hk] at h
        exact fun w'' hc hg' => h w'' hc (hg.trans hg')
      · rename_i hk; rw [if_neg hk] at h
        exact qOp_mono (fun a' h' => ih h' hg) h
/-- The fresh variable may be made at any time. -/
theorem wpFr_slot {ks : Nat → Bool} {K K' : Act → World → Prop} {listed : Array Bool} {oj : Oper} {v : Value} (hsel : ∀ (j : Nat) (o : Oper) cs b, ops[j]? = some o → o.op ≠ .select cs b) (hK : ∀ a w, K a w → K' (a.put oj.dst v) w) :
    ∀ {R : List Nat}, (∀ i, i ∈ R → ∃ oi, ops[i]? = some oi ∧ oi.apart ops oj = true) → ∀ {a : Act} {w : World}, wpFr P ops w0 ks K listed R a w → wpFr P ops w0 ks K' listed R (a.put oj.dst v) w := by
  intro R
  induction R with
  | nil => intro _ a w h; exact hK a w h
  | cons i R ih =>
    intro hR a w h
    have ih' := fun {a : Act} {w : World} => ih (fun k hk => hR k (List.mem_cons_of_mem _ hk)) (a := a) (w := w)
    obtain ⟨oi, hoi, hap⟩ := hR i List.mem_cons_self
    simp only [wpFr] at h ⊢
    split
    · rename_i hl; rw [if_pos hl] at h; exact ih' h
    · rename_i hl
      rw [if_neg hl] at h
      split
      · rename_i hk; rw [if_pos hk] at h
        exact fun w' hc hg => wpOp_slot hoi hap (fun cs b => hsel i oi cs b hoi) (fun a' w'' hh => ⟨hh.1, ih' hh.2⟩) (h w' hc hg)
      · rename_i hk; rw [if_neg hk] at h
        obtain ⟨u, hy, hn⟩ := yieldsIn_of_qOp hoi h
        obtain ⟨h3, h2, h1⟩ := Oper.apart_spec hap
        have h2' : ∀ d, oj.dst = some d → oi.dst ≠ some d := fun d hd he => h2 d he hd
        have hy' : YieldsIn P ops (Cg w0) oi u (a.put oj.dst v) := hy.of_same (execOp_put oi (fun cs b => hsel i oi cs b hoi) a oj.dst v h1) (wanted_put oi a oj.dst v h1)
        refine hy'.qOp hoi ?_
        rw [Act.put_comm a v u h2']
        exact ih' hn
theorem pullF {ks : Nat → Bool} {K : Act → World → Prop} (hsel : ∀ (j : Nat) (o : Oper) cs b, ops[j]? = some o → o.op ≠ .select cs b) (hcalm : ∀ i o, ops[i]? = some o → ks i = false → calmB o = true)
    {listed : Array Bool} {j : Nat} {oj : Oper} (hj : ops[j]? = some oj) (hjl : listed.getD j false = false) (hjs : j < listed.size) :
    ∀ R : List Nat, R.Pairwise (· < ·) → j ∈ R → (∀ i, i ∈ R → i < j → listed.getD i false = false → (ks j = false ∨ ks j = true) → ∃ oi, ops[i]? = some oi ∧ oi.apart ops oj = true) → (ks j = true → ∀ i, i ∈ R → i < j → listed.getD i false = false → ks i = false) →
    ∀ (a : Act) (w : World), Cg w0 w → wpFr P ops w0 ks K listed R a w → if ks j = true then ∀ w', Cg w0 w' → Gw w w' → wpOp P ops stopPost j (fun a' w'' => Gw w' w'' ∧ wpFr P ops w0 ks K (listed.setIfInBounds j true) R a' w'') a w' else qOp P ops (Cg w0) j (fun a' => wpFr P ops w0 ks K (listed.setIfInBounds j true) R a' w) a := by
  intro R
  induction R with
  | nil => intro _ h; cases h
  | cons i R ih =>
    intro hp hm hap hch a w hC h
    have hjt : (listed.setIfInBounds j true).getD j false = true := by simp [Array.getD_eq_getD_getElem?, hjs]
    obtain ⟨hlt, hpR⟩ := List.pairwise_cons.1 hp
    by_cases hij : i = j
    · subst hij
      have hni : i ∉ R := fun hi => absurd (hlt i hi) (Nat.lt_irrefl _)
      have e : wpFr P ops w0 ks K (listed.setIfInBounds i true) (i :: R) = wpFr P ops w0 ks K listed R := by
        funext a w
        simp only [wpFr, hjt, if_true]
        rw [wpFr_congr (fun k hk => getD_set_ne false (fun (e : i = k) => hni (by rw [e]; exact hk)))]
      rw [e]
      simp only [wpFr, hjl, Bool.false_eq_true, if_false] at h
      exact h
    · have hjR : j ∈ R := by
        rcases List.mem_cons.1 hm with h1 | h1
        · exact absurd h1.symm hij
        · exact h1
      have hi_lt := hlt j hjR
      have ih' := ih hpR hjR (fun k hk => hap k (List.mem_cons_of_mem _ hk)) (fun h k hk => hch h k (List.mem_cons_of_mem _ hk))
      have hset : (listed.setIfInBounds j true).getD i false = listed.getD i false := getD_set_ne false (fun e => hij e.symm)
      by_cases hl : listed.getD i false = true
      · simp only [wpFr, hset, hl, if_true] at h ⊢
        exact ih' a w hC h
      · have hl' : listed.getD i false = false := by simpa using hl
        obtain ⟨oi, hoi, hapi⟩ := hap i List.mem_cons_self hi_lt hl' (by cases ks j <;> simp)
        simp only [wpFr, hset, hl', Bool.false_eq_true, if_false] at h ⊢
        by_cases hk : ks i = true
        · have hkj : ks j = false := by
            cases hkj : ks j with
            | false => rfl
            | true =>
              have := hch hkj i List.mem_cons_self hi_lt hl'
              rw [hk] at this
              cases this
          simp only [hkj, Bool.false_eq_true, if_false] at ih' ⊢
          rw [if_pos hk] at h
          obtain ⟨a0, u, w1, ⟨hG1, h1⟩, ha0⟩ := wpOp_some hoi (h w hC (Gw.refl w))
          obtain ⟨v, hy, _⟩ := yieldsIn_of_qOp hj (ih' _ _ (cg_iff.2 ((cg_iff.1 hC).trans hG1)) h1)
          obtain ⟨g1, g2, g3⟩ := Oper.apart_spec hapi
          have hy0 : YieldsIn P ops (Cg w0) oj v a0 := hy.of_same (execOp_put oj (fun cs b => hsel j oj cs b hj) a0 oi.dst u g1).symm (wanted_put oj a0 oi.dst u g1).symm
          have hya : YieldsIn P ops (Cg w0) oj v a := by
            rcases ha0 with rfl | ⟨d, rfl⟩
            · exact hy0
            · exact hy0.of_same rfl rfl
          refine hya.qOp hj ?_
          rw [if_pos hk]
          intro w' hC' hG'
          refine wpOp_back hoi hapi (fun cs b => hsel i oi cs b hoi) (fun cs b => hsel j oj cs b hj) hya (fun a' w'' hy' hh => ⟨hh.1, ?_⟩) (h w' hC' hG')
          have hC'' : Cg w0 w'' := cg_iff.2 ((cg_iff.1 hC').trans hh.1)
          obtain ⟨v', hv', hn⟩ := yieldsIn_of_qOp hj (ih' _ _ hC'' hh.2)
          rw [yields_one (hcalm j oj hj hkj) hC'' hy' hv']
          exact hn
        · have hk' : ks i = false := by simpa using hk
          simp only [hk', Bool.false_eq_true, if_false] at h ⊢
          obtain ⟨v, hy, hn⟩ := yieldsIn_of_qOp hoi h
          have h2 := ih' _ _ hC hn
          by_cases hkj : ks j = true
          · rw [if_pos hkj] at h2 ⊢
            intro w' hC' hG'
            refine wpOp_mono ?_ (wpOp_putC hj hapi (fun cs b => hsel i oi cs b hoi) (fun cs b => hsel j oj cs b hj) hy (h2 w' hC' hG'))
            rintro a' w'' ⟨hy', hg', hm'⟩
            exact ⟨hg', hy'.qOp hoi hm'⟩
          · rw [if_neg hkj] at h2 ⊢
            refine qOp_mono ?_ (qOp_put hj hapi (fun cs b => hsel i oi cs b hoi) (fun cs b => hsel j oj cs b hj) hy h2)
            rintro a' ⟨hy', hm'⟩
            exact hy'.qOp hoi hm'
/-- Operations that hand a slot's value on: the same value in every world. -/
def pureB (o : Oper) : Bool := match o.op with | .move _ | .assign _ | .extract _ _ => true | _ => false
theorem extract_any {v u : Value} {ix : Nat} {w w' : World} (h : (Instr.extract v ix).run P w = .ok u w') (W : World) : (Instr.extract v ix).run P W = .ok u W := by
  unfold Instr.extract at h ⊢
  split at h
  · split at h
    · simp only [Sem.run_pure, Result.ok.injEq] at h ⊢
      first | exact ⟨h.1, trivial⟩ | exact h.1
    · cases h
  · cases h
theorem pure_any {o : Oper} (hp : pureB o = true) {a : Act} {v : Value} {w w' : World} (h : (execOp a.eval o).run P w = .ok (.value v) w') (W : World) : (execOp a.eval o).run P W = .ok (.value v) W := by
  unfold pureB at hp
  unfold execOp at h ⊢
  split at hp
  all_goals (first | (rename_i ho; rw [ho] at h ⊢) | cases hp)
  · simp only [Sem.run_pure, Result.ok.injEq] at h ⊢
    exact ⟨h.1, trivial⟩
  · simp only [Sem.run_pure, Result.ok.injEq] at h ⊢
    exact ⟨h.1, trivial⟩
  · rw [Sem.run_bind] at h ⊢
    generalize hr : Instr.extract _ _ = I at h ⊢
    cases hx : I.run P w with
    | halt x w1 => rw [hx] at h; cases h
    | ok u w1 =>
      subst hr
      rw [hx] at h
      rw [extract_any hx W]
      have h' : Result.ok (Next.value u) w1 = Result.ok (Next.value v) w' := h
      injection h' with h1 h2
      injection h1 with h3
      subst h3
      rfl
theorem pure_yields {o : Oper} (hp : pureB o = true) (hc : calmB o = true) {a : Act} {v : Value} {w : World} (hw : Cg w0 w) (h : YieldsIn P ops (Cg w0) o v a) : Yields P ops o v a := by
  rcases h with ⟨h1, h2⟩ | ⟨h1, h2⟩
  · exact .inl ⟨h1, fun W => pure_any hp (calm_at hc (h2 w hw)) W⟩
  · exact .inr ⟨h1, h2⟩
theorem apart_comm {x y : Oper} (h : x.apart ops y = true) : y.apart ops x = true := by
  obtain ⟨h1, h2, h3⟩ := Oper.apart_spec h
  unfold Oper.apart
  rw [Bool.and_eq_true]
  constructor
  · cases hy : y.dst with
    | none => rfl
    | some d =>
      have a1 := h3 d hy
      have a2 : x.dst ≠ some d := fun e => h2 d e hy
      simp [a1, a2]
  · cases hx : x.dst with
    | none => rfl
    | some d =>
      have a1 := h1 d hx
      simp [a1]
/-- Each operation ahead of the tail is waited for; those in ls go free. -/
def sinkLB (md : Region.Mode) (ops : Array Oper) (n : Nat) (ls : List Nat) : Bool :=
  (List.range n).all fun i => ls.contains i || (List.range (n + 1)).any fun j => decide (i < j) && !ls.contains j && Region.waitsFor md ops j i
theorem tail_waitsL {n : Nat} {ls : List Nat} {listed : Array Bool} (hs : sinkLB md ops n ls = true) (hc : Region.chainB md ops n = true) (hn : n < ops.size) (inv : HeadInv md ops n listed) :
    ∀ (d i : Nat), n - i = d → ls.contains i = false → i < n → listed.getD i true = false → ∀ t, n ≤ t → t ∉ Region.ready md ops listed := by
  intro d
  induction d using Nat.strongRecOn with
  | _ d ih =>
    intro i hd hli hi hun t ht hr
    obtain ⟨_, ot, hot, hall⟩ := mem_ready.1 hr
    have htlt : t < ops.size := (Array.getElem?_eq_some_iff.1 hot).1
    by_cases htn : t = n
    · subst htn
      have h1 := List.all_eq_true.1 hs i (List.mem_range.2 hi)
      rw [hli, Bool.false_or] at h1
      obtain ⟨j, hj, hj2⟩ := List.any_eq_true.1 h1
      simp only [Bool.and_eq_true, decide_eq_true_eq, Bool.not_eq_true'] at hj2
      obtain ⟨oj, hoj, e, he, hb, hon⟩ := Region.waitsFor_spec hj2.2
      have hjle : j ≤ t := by have := List.mem_range.1 hj; omega
      by_cases hjt : j = t
      · subst hjt
        have : oj = ot := Option.some.inj (hoj.symm.trans hot)
        subst this
        have h2 := hall e he hb
        rw [hon, getD_both hun] at h2
        cases h2
      · cases hl : listed.getD j false with
        | true =>
          have h2 := inv.closed j oj hoj hl e he hb
          rw [hon, getD_both hun] at h2
          cases h2
        | false =>
          have hjs : j < listed.size := by rw [inv.size]; omega
          exact ih (t - j) (by omega) j rfl hj2.1.2 (by omega) (getD_in hjs hl) t (Nat.le_refl _) hr
    · have h1 := List.all_eq_true.1 hc t (List.mem_range.2 htlt)
      simp only [Bool.or_eq_true, decide_eq_true_eq] at h1
      rcases h1 with h1 | h1
      · omega
      · obtain ⟨o', ho', e, he, hb, hon⟩ := Region.waitsFor_spec h1
        have : o' = ot := Option.some.inj (ho'.symm.trans hot)
        subst this
        have h2 := hall e he hb
        rw [hon, getD_both (inv.tail (t - 1) (by omega) (by omega))] at h2
        cases h2
def mixFB (md : Region.Mode) (ops : Array Oper) (t f : Nat) (l ls : List Nat) : Bool :=
  ls.all (fun i => decide (i < f) && !l.contains i && (match ops[i]? with | some o => pureB o | none => false)) && Region.noSelect ops && decide (t < ops.size) && sinkLB md ops t ls && Region.chainB md ops t && apartAllB md ops && earlyB md ops.toList && linksB md ops l && (List.range f).all (fun i => l.contains i || (match ops[i]? with | some o => calmB o | none => true)) && Region.seqB md ops (ops.size - t) t (canonL t ops.size) && decide (t = f + 1) && (List.range f).all (fun i => !Region.waitsFor md ops f i)
def FrK (P : Program) (ops : Array Oper) (w0 : World) (Q : Exit → Act → World → Prop) (t : Nat) (of : Oper) (T : TypeId) (zs : Array Value) : Act → World → Prop := fun a w =>
  ∀ b w', Cg w0 w' → Gw w w' → w0.heap.size ≤ b → Blk w' b T zs → wpList P ops Q (ops.toList.drop t) (a.put of.dst (.pointer (some ⟨b, 0, none⟩))) w'
def FrB (P : Program) (ops : Array Oper) (w0 : World) (Q : Exit → Act → World → Prop) (t : Nat) (b : Nat) (T : TypeId) (zs : Array Value) : Act → World → Prop := fun a w =>
  ∀ w', Cg w0 w' → Gw w w' → Blk w' b T zs → wpList P ops Q (ops.toList.drop t) a w'
theorem mixF_any {Q : Exit → Act → World → Prop} {t f : Nat} {l ls : List Nat} {of : Oper} {T : TypeId} {zs : Array Value} (hQ : ∀ c a d v w, Q (.panic c) (Act.put a d v) w → Q (.panic c) a w) (hB : mixFB md ops t f l ls = true) (hof : ops[f]? = some of) (hg : of.guard = none)
    (hfr : ∀ (a : Act) (w : World), (execOp a.eval of).run P w = .ok (.value (.pointer (some ⟨w.heap.size, 0, none⟩))) (w.alloc (.cells zs T))) :
    ∀ (n : Nat) (listed : Array Bool) (a : Act) (w : World), listed.toList.count false = n → HeadInv md ops t listed → Cg w0 w →
      ((listed.getD f false = false ∧ wpFr P ops w0 (fun i => l.contains i || decide (f ≤ i)) (FrK P ops w0 Q t of T zs) listed (List.range f) a w) ∨
       (∃ b, listed.getD f false = true ∧ w0.heap.size ≤ b ∧ Blk w b T zs ∧ wpFr P ops w0 (fun i => l.contains i || decide (f ≤ i)) (FrB P ops w0 Q t b T zs) listed (List.range f) a w)) → wpAny P md ops Q n listed a w := by
  simp only [mixFB, Bool.and_eq_true, decide_eq_true_eq] at hB
  obtain ⟨⟨⟨⟨⟨⟨⟨⟨⟨⟨⟨hloo, hsel⟩, hn⟩, hs⟩, hc⟩, hap⟩, hear⟩, hl⟩, hcm⟩, hseq⟩, htf⟩, hfd⟩ := hB
  have hsel' := Region.noSelect_spec hsel
  have hcalm : ∀ i o, ops[i]? = some o → (l.contains i || decide (f ≤ i)) = false → calmB o = true := fun i o ho hk => by
    rw [Bool.or_eq_false_iff, decide_eq_false_iff_not] at hk
    rw [List.all_eq_true] at hcm
    have := hcm i (List.mem_range.2 (by omega))
    rw [hk.1, ho] at this
    simpa using this
  have hwf : ∀ i, i < f → Region.waitsFor md ops f i = false := fun i hi => by
    rw [List.all_eq_true] at hfd
    simpa using hfd i (List.mem_range.2 hi)
  have hKw : ∀ a w w', FrK P ops w0 Q t of T zs a w → Gw w w' → FrK P ops w0 Q t of T zs a w' := fun a w w' h hg b w'' hc' hg' => h b w'' hc' (hg.trans hg')
  have hBw : ∀ b a w w', FrB P ops w0 Q t b T zs a w → Gw w w' → FrB P ops w0 Q t b T zs a w' := fun b a w w' h hg w'' hc' hg' => h w'' hc' (hg.trans hg')
  intro n
  induction n with
  | zero =>
    intro listed a w hf inv hC h
    exfalso
    have h1 := inv.tail t (Nat.le_refl _) hn
    have h2 : t < listed.size := by rw [inv.size]; exact hn
    have h3 : listed[t] = false := by simpa [Array.getD_eq_getD_getElem?, h2] using h1
    have h4 : false ∈ listed.toList := by rw [← h3]; simp
    have := List.count_pos_iff.2 h4
    omega
  | succ n ih =>
    intro listed a w hf inv hC h
    by_cases hall : ∀ i, i < t → listed.getD i false = true
    · have hcan : listed = canonL t ops.size := by
        apply Array.ext
        · rw [inv.size]; simp [canonL]; omega
        · intro i h1 h2
          by_cases hi : i < t
          · have := hall i hi
            have e : listed[i] = true := by simpa [Array.getD_eq_getD_getElem?, h1] using this
            rw [e]
            simp [canonL, hi, List.getElem_append]
          · have := inv.tail i (by omega) (by rw [← inv.size]; exact h1)
            have e : listed[i] = false := by simpa [Array.getD_eq_getD_getElem?, h1] using this
            rw [e]
            simp [canonL, hi, List.getElem_append]
      have hK : wpList P ops Q (ops.toList.drop t) a w := by
        rcases h with ⟨h1, _⟩ | ⟨b, _, hb0, hbk, h⟩
        · rw [hall f (by omega)] at h1; cases h1
        · have : ∀ R : List Nat, (∀ i, i ∈ R → i < t) → wpFr P ops w0 (fun i => l.contains i || decide (f ≤ i)) (FrB P ops w0 Q t b T zs) listed R a w → FrB P ops w0 Q t b T zs a w := by
            intro R
            induction R with
            | nil => intro _ h; exact h
            | cons i R ihR =>
              intro hR h
              simp only [wpFr, hall i (hR i List.mem_cons_self), if_true] at h
              exact ihR (fun k hk => hR k (List.mem_cons_of_mem _ hk)) h
          exact this _ (fun i hi => by have := List.mem_range.1 hi; omega) h w hC (Gw.refl w) hbk
      have hlen : (ops.toList.drop t).length = n + 1 := by
        rw [← hf, hcan]
        simp [canonL, List.count_append, List.count_replicate]
      have hdl : (ops.toList.drop t).length = ops.size - t := by simp
      have := wpAny_of_seq (P := P) (md := md) (Q' := Q) (ops.toList.drop t) t listed a w (fun j => by simp [List.getElem?_drop]) (by rw [hdl, hcan]; exact hseq) hK
      rwa [hlen] at this
    · have hex : ∃ i, i < t ∧ listed.getD i false = false := by
        apply Classical.byContradiction
        intro hno
        refine hall fun i hi => ?_
        cases hg : listed.getD i false with
        | true => rfl
        | false => exact (hno ⟨i, hi, hg⟩).elim
      obtain ⟨i0, hi0, hg0⟩ := hex
      have hun0 : listed.getD i0 true = false := getD_in (by rw [inv.size]; omega) hg0
      by_cases hlr : ∃ p, ls.contains p = true ∧ p ∈ Region.ready md ops listed
      · obtain ⟨p, hpl, hpr⟩ := hlr
        rw [List.all_eq_true] at hloo
        have hp1 := hloo p (by simpa using hpl)
        simp only [Bool.and_eq_true, decide_eq_true_eq, Bool.not_eq_true'] at hp1
        obtain ⟨⟨hpf, hpnl⟩, hpp⟩ := hp1
        obtain ⟨hpun, op, hop, hpdep⟩ := mem_ready.1 hpr
        rw [hop] at hpp
        have hps : p < listed.size := by rw [inv.size]; omega
        have hpun' : listed.getD p false = false := getD_both hpun
        have hkp : (l.contains p || decide (f ≤ p)) = false := by rw [hpnl]; simp; omega
        have hwtp : ∀ i, listed.getD i false = false → Region.waitsFor md ops p i = false := fun i hi => by
          cases hw : Region.waitsFor md ops p i with
          | false => rfl
          | true =>
            obtain ⟨o', ho', e, he, hb, hon⟩ := Region.waitsFor_spec hw
            obtain rfl : o' = op := Option.some.inj (ho'.symm.trans hop)
            have := hpdep e he hb
            rw [hon, hi] at this
            cases this
        have hfirst := fun (v : Value) => wpAny_first (P := P) (md := md) (Q := Q) (v := v) hop hsel' (fun c a w h => hQ c a _ _ w h) n listed a w (fun j oj hoj hne hun hno => by
          have hjf := getD_both hun
          rcases Nat.lt_or_gt_of_ne hne with hlt | hlt
          · exact apart_comm (apartAll_out hap hlt hoj hop (hwtp j hjf))
          · refine apartAll_out hap hlt hop hoj ?_
            cases hw : Region.waitsFor md ops j p with
            | false => rfl
            | true =>
              obtain ⟨o', ho', e, he, hb, hon⟩ := Region.waitsFor_spec hw
              obtain rfl : o' = oj := Option.some.inj (ho'.symm.trans hoj)
              exact absurd hon (hno e he hb)) hpr
        have hcs : (listed.setIfInBounds p true).toList.count false = n := by
          have h3 : listed[p] = false := by simpa [Array.getD_eq_getD_getElem?, hps] using hpun
          have := cnt_set listed.toList p (by simp [hps, h3])
          rw [Array.toList_setIfInBounds]
          omega
        have hfs : (listed.setIfInBounds p true).getD f false = listed.getD f false := getD_set_ne false (by omega)
        have key : ∀ (K : Act → World → Prop), wpFr P ops w0 (fun i => l.contains i || decide (f ≤ i)) K listed (List.range f) a w → ∃ v, Yields P ops op v a ∧ wpFr P ops w0 (fun i => l.contains i || decide (f ≤ i)) K (listed.setIfInBounds p true) (List.range f) (a.put op.dst v) w := by
          intro K hK
          have hp := pullF (P := P) (ops := ops) (w0 := w0) (ks := fun i => l.contains i || decide (f ≤ i)) (K := K) hsel' hcalm hop hpun' hps (List.range f) List.pairwise_lt_range (List.mem_range.2 hpf)
            (fun i hi hij hil _ => by
              have his : i < ops.size := by omega
              exact ⟨ops[i], by simp [his], apartAll_out hap hij (by simp [his]) hop (hwtp i hil)⟩)
            (fun hk => by rw [hkp] at hk; cases hk) a w hC hK
          rw [if_neg (by rw [hkp]; decide)] at hp
          obtain ⟨v, hy, hn'⟩ := yieldsIn_of_qOp hop hp
          exact ⟨v, pure_yields hpp (hcalm p op hop hkp) hC hy, hn'⟩
        rcases h with ⟨h1, h⟩ | ⟨b, h1, hb0, hbk, h⟩
        · obtain ⟨v, hy, hh⟩ := key _ h
          exact hfirst v hy (ih _ _ w hcs (inv.set hpr (by omega)) hC (.inl ⟨by rw [hfs]; exact h1, hh⟩))
        · obtain ⟨v, hy, hh⟩ := key _ h
          exact hfirst v hy (ih _ _ w hcs (inv.set hpr (by omega)) hC (.inr ⟨b, by rw [hfs]; exact h1, hb0, hbk, hh⟩))
      have hjt : ∀ j, j ∈ Region.ready md ops listed → j < t := fun j hj => Nat.lt_of_not_le fun hle => by
        have hnl : ∀ i, i < t → ls.contains i = false → listed.getD i false = true := fun i hi hli => by
          cases hg : listed.getD i false with
          | true => rfl
          | false => exact (tail_waitsL hs hc hn inv _ i rfl hli hi (getD_in (by rw [inv.size]; omega) hg) j hle hj).elim
        have hlow : ∀ n, n ≤ t → ∀ i, i < n → listed.getD i false = true := by
          intro n
          induction n with
          | zero => intro _ i hi; omega
          | succ n ihn =>
            intro hn' i hi
            by_cases hin : i < n
            · exact ihn (by omega) i hin
            · obtain rfl : i = n := by omega
              cases hg : listed.getD i false with
              | true => rfl
              | false =>
                exfalso
                have his : i < ops.size := by omega
                cases hli : ls.contains i with
                | false =>
                  have := hnl i (by omega) hli
                  rw [hg] at this
                  cases this
                | true =>
                  refine hlr ⟨i, hli, ?_⟩
                  rw [mem_ready]
                  refine ⟨getD_in (by rw [inv.size]; exact his) hg, ops[i], by simp [his], fun e he hb => ?_⟩
                  exact ihn (by omega) e.on (earlyB_out hear i ops[i] (by simp [his]) e he hb)
        have := hlow t (Nat.le_refl _) i0 hi0
        rw [hg0] at this
        cases this
      refine ⟨fun hr => ?_, fun j hj => ?_⟩
      · exfalso
        have hlow : ∀ n, n ≤ t → ∀ i, i < n → listed.getD i false = true := by
          intro n
          induction n with
          | zero => intro _ i hi; omega
          | succ n ihn =>
            intro hn' i hi
            by_cases hin : i < n
            · exact ihn (by omega) i hin
            · obtain rfl : i = n := by omega
              cases hg : listed.getD i false with
              | true => rfl
              | false =>
                exfalso
                have hm : i ∈ Region.ready md ops listed := by
                  rw [mem_ready]
                  have his : i < ops.size := by omega
                  refine ⟨getD_in (by rw [inv.size]; exact his) hg, ops[i], by simp [his], fun e he hb => ?_⟩
                  exact ihn (by omega) e.on (earlyB_out hear i ops[i] (by simp [his]) e he hb)
                rw [hr] at hm
                cases hm
        have := hlow t (Nat.le_refl _) i0 hi0
        rw [hg0] at this
        cases this
      · have hj' := hjt j hj
        obtain ⟨hun, oj, hoj, hdep⟩ := mem_ready.1 hj
        have hjs : j < listed.size := by rw [inv.size]; omega
        have hjl : listed.getD j false = false := getD_both hun
        have hwt : ∀ i, listed.getD i false = false → Region.waitsFor md ops j i = false := fun i hi => by
          cases hw : Region.waitsFor md ops j i with
          | false => rfl
          | true =>
            obtain ⟨o', ho', e, he, hb, hon⟩ := Region.waitsFor_spec hw
            obtain rfl : o' = oj := Option.some.inj (ho'.symm.trans hoj)
            have := hdep e he hb
            rw [hon, hi] at this
            cases this
        have hcs : (listed.setIfInBounds j true).toList.count false = n := by
          have h3 : listed[j] = false := by simpa [Array.getD_eq_getD_getElem?, hjs] using hun
          have := cnt_set listed.toList j (by simp [hjs, h3])
          rw [Array.toList_setIfInBounds]
          omega
        by_cases hjf : j = f
        · subst hjf
          obtain rfl : oj = of := Option.some.inj (hoj.symm.trans hof)
          rcases h with ⟨_, h⟩ | ⟨b, h1, _⟩
          rotate_left
          · rw [hjl] at h1; cases h1
          have hle : w0.heap.size ≤ w.heap.size := (cg_iff.1 hC).size
          have hga : Gw w (w.alloc (.cells zs T)) := ba_alloc (Below.refl _ _) _
          unfold wpOp
          simp only [hoj]
          rw [if_pos (by simp [Region.wanted, hg])]
          refine .inl ?_
          unfold Oper.wp
          rw [hfr a w]
          refine ih _ _ _ hcs (inv.set hj hj') (cg_iff.2 ((cg_iff.1 hC).trans hga)) (.inr ⟨w.heap.size, by simp [Array.getD_eq_getD_getElem?, hjs], hle, Blk.new _ _ _, ?_⟩)
          have h2 := wpFr_slot (P := P) (ops := ops) (w0 := w0) (ks := fun i => l.contains i || decide (j ≤ i)) (K := FrK P ops w0 Q t oj T zs) (K' := FrB P ops w0 Q t w.heap.size T zs) (listed := listed) (oj := oj) (v := .pointer (some ⟨w.heap.size, 0, none⟩)) hsel'
            (fun a' w' hh w'' hc' hg' hb' => hh w.heap.size w'' hc' hg' hle hb') (R := List.range j) (fun i hi => by
              have hij := List.mem_range.1 hi
              have his : i < ops.size := by omega
              exact ⟨ops[i], by simp [his], apartAll_out hap hij (by simp [his]) hoj (hwf i hij)⟩) h
          rw [wpFr_congr (l2 := listed.setIfInBounds j true) (fun i hi => (getD_set_ne false (fun e => by have := List.mem_range.1 hi; omega)).symm)] at h2
          exact wpFr_weak (hBw _) h2 hga
        · have hjf' : j < f := by omega
          have key : ∀ (K : Act → World → Prop), wpFr P ops w0 (fun i => l.contains i || decide (f ≤ i)) K listed (List.range f) a w → wpOp P ops Q j (fun a' w' => Gw w w' ∧ wpFr P ops w0 (fun i => l.contains i || decide (f ≤ i)) K (listed.setIfInBounds j true) (List.range f) a' w') a w := by
            intro K hK
            have hp := pullF (P := P) (ops := ops) (w0 := w0) (ks := fun i => l.contains i || decide (f ≤ i)) (K := K) hsel' hcalm hoj hjl hjs (List.range f) List.pairwise_lt_range (List.mem_range.2 hjf')
              (fun i hi hij hil _ => by
                have his : i < ops.size := by omega
                exact ⟨ops[i], by simp [his], apartAll_out hap hij (by simp [his]) hoj (hwt i hil)⟩)
              (fun hk i hi hij hil => by
                simp only [Bool.or_eq_true, List.contains_iff_mem, decide_eq_true_eq] at hk
                rw [Bool.or_eq_false_iff, decide_eq_false_iff_not]
                refine ⟨?_, by omega⟩
                cases hci : l.contains i with
                | false => rfl
                | true =>
                  have := links_order inv hl i j (by simpa using hci) (by rcases hk with hk | hk; exact hk; omega) hij (.inl hj)
                  rw [hil] at this
                  cases this) a w hC hK
            by_cases hk : (l.contains j || decide (f ≤ j)) = true
            · rw [if_pos hk] at hp
              exact wpOp_stop (hp w hC (Gw.refl w))
            · rw [if_neg hk] at hp
              refine wpOp_mono ?_ (wpOp_calm hoj (hcalm j oj hoj (by simpa using hk)) hC hp)
              rintro a' w' ⟨rfl, hh⟩
              exact ⟨Gw.refl _, hh⟩
          have hfs : (listed.setIfInBounds j true).getD f false = listed.getD f false := getD_set_ne false hjf
          rcases h with ⟨h1, h⟩ | ⟨b, h1, hb0, hbk, h⟩
          · refine wpOp_mono ?_ (key _ h)
            rintro a' w' ⟨hg', hh⟩
            exact ih _ a' w' hcs (inv.set hj hj') (cg_iff.2 ((cg_iff.1 hC).trans hg')) (.inl ⟨by rw [hfs]; exact h1, hh⟩)
          · refine wpOp_mono ?_ (key _ h)
            rintro a' w' ⟨hg', hh⟩
            exact ih _ a' w' hcs (inv.set hj hj') (cg_iff.2 ((cg_iff.1 hC).trans hg')) (.inr ⟨b, by rw [hfs]; exact h1, hb0, hbk.via hg', hh⟩)
/-- The walk. -/
def segPostF (next : Act → World → Prop) (w0 : World) : Exit → Act → World → Prop
  | .normal, a, w => Gw w0 w ∧ next a w
  | _, _, _ => False
theorem segF_next {next : Act → World → Prop} {w0 : World} {a : Act} {w : World} (hC : Gw w0 w) (h : next a w) : segPostF next w0 .normal a w := ⟨hC, h⟩
def wpSegsF (P : Program) (ops : Array Oper) (w0 : World) (K : Act → World → Prop) (r : Nat) : List Nat → List Oper → Act → World → Prop
  | [], l, a, w => wpQuiet P ops (Cg w0) (fun a' => K a' w) (l.take r) a
  | m :: ms, l, a, w => wpQuiet P ops (Cg w0) (fun a' => ∀ w', Gw w0 w' → Gw w w' → wpList P ops (segPostF (wpSegsF P ops w0 K r ms (l.drop (m + 1))) w') ((l.drop m).take 1) a' w') (l.take m) a
theorem quiet_mixF {ks : Nat → Bool} {K : Act → World → Prop} {listed : Array Bool} {N : Act → Prop} {w : World} {R : List Nat} (hlist : ∀ i, listed.getD i false = false) :
    ∀ (m p : Nat) (a : Act), p + m ≤ ops.size → (∀ i, p ≤ i → i < p + m → ks i = false) → (∀ a, N a → wpFr P ops w0 ks K listed R a w) → wpQuiet P ops (Cg w0) N ((ops.toList.drop p).take m) a →
      wpFr P ops w0 ks K listed (List.range' p m ++ R) a w := by
  intro m
  induction m with
  | zero =>
    intro p a _ _ hN h
    simp only [List.take_zero] at h
    exact hN a h
  | succ m ih =>
    intro p a hp hk hN h
    have hps : p < ops.size := by omega
    have e : (ops.toList.drop p).take (m + 1) = ops[p] :: (ops.toList.drop (p + 1)).take m := by
      rw [List.drop_eq_getElem_cons (by simpa using hps), List.take_succ_cons]
      rfl
    rw [e] at h
    rw [List.range'_succ, List.cons_append]
    simp only [wpFr, hlist p, hk p (Nat.le_refl _) (by omega), Bool.false_eq_true, if_false]
    unfold wpQuiet at h
    unfold qOp
    simp only [show ops[p]? = some ops[p] by simp [hps]]
    have ih' : ∀ a, wpQuiet P ops (Cg w0) N ((ops.toList.drop (p + 1)).take m) a → wpFr P ops w0 ks K listed (List.range' (p + 1) m ++ R) a w := fun a' h' => ih (p + 1) a' (by omega) (fun i h1 h2 => hk i (by omega) (by omega)) hN h'
    split
    · rename_i hw
      rw [if_pos hw] at h
      exact Oper.quiet_mono ih' h
    · rename_i hw
      rw [if_neg hw] at h
      exact ih' _ h
theorem segsF_mix {ks : Nat → Bool} {K : Act → World → Prop} {listed : Array Bool} {t : Nat} (r : Nat) (ht : t ≤ ops.size) (hlist : ∀ i, listed.getD i false = false) :
    ∀ (ms : List Nat) (p : Nat) (a : Act) (w : World), endAt r p ms = t → (∀ i, p ≤ i → i < t → ks i = (chainAt p ms).contains i) → wpSegsF P ops w0 K r ms (ops.toList.drop p) a w →
      wpFr P ops w0 ks K listed (List.range' p (t - p)) a w := by
  intro ms
  induction ms with
  | nil =>
    intro p a w he hk h
    simp only [endAt] at he
    subst he
    have e : List.range' p (p + r - p) = List.range' p r ++ [] := by simp
    rw [e]
    refine quiet_mixF hlist r p a ht (fun i h1 h2 => by rw [hk i h1 h2]; simp [chainAt]) ?_ h
    intro a' h'
    simpa only [wpFr] using h'
  | cons m ms ih =>
    intro p a w he hk h
    simp only [endAt] at he
    have hle := endAt_le r ms (p + m + 1)
    have e : List.range' p (t - p) = List.range' p m ++ ((p + m) :: List.range' (p + m + 1) (t - (p + m + 1))) := by
      have e1 : t - p = m + (1 + (t - (p + m + 1))) := by omega
      rw [e1, ← List.range'_append_1, ← List.range'_append_1]
      simp
    rw [e]
    refine quiet_mixF hlist m p a (by omega) (fun i h1 h2 => ?_) ?_ h
    · rw [hk i h1 (by omega)]
      simp only [chainAt]
      cases hc : ((p + m) :: chainAt (p + m + 1) ms).contains i with
      | false => rfl
      | true =>
        exfalso
        have hm : i ∈ (p + m) :: chainAt (p + m + 1) ms := by simpa using hc
        rcases List.mem_cons.1 hm with h3 | h3
        · omega
        · have := chainAt_ge _ _ _ h3; omega
    · intro a' h'
      have hps : p + m < ops.size := by omega
      have hkp : ks (p + m) = true := by rw [hk (p + m) (by omega) (by omega)]; simp [chainAt]
      simp only [wpFr, hlist (p + m), hkp, Bool.false_eq_true, if_false, if_true]
      intro w' hC' hG'
      have h' := h' w' (cg_iff.1 hC') hG'
      have e2 : ((ops.toList.drop p).drop m).take 1 = [ops[p + m]] := by
        rw [List.drop_drop, List.drop_eq_getElem_cons (by simpa using hps), List.take_succ_cons, List.take_zero]
        rfl
      rw [e2] at h'
      have ih' := fun a w h => ih (p + m + 1) a w he (fun i h1 h2 => by
        rw [hk i (by omega) h2]
        simp only [chainAt, List.contains_cons]
        rw [show (i == p + m) = false by simp; omega]
        rfl) h
      have e3 : (ops.toList.drop p).drop (m + 1) = ops.toList.drop (p + m + 1) := by rw [List.drop_drop]; rfl
      rw [e3] at h'
      unfold wpList at h'
      unfold wpOp
      simp only [show ops[p + m]? = some ops[p + m] by simp [hps]]
      have hfin : ∀ a w, wpList P ops (segPostF (wpSegsF P ops w0 K r ms (ops.toList.drop (p + m + 1))) w') [] a w → Gw w' w ∧ wpFr P ops w0 ks K listed (List.range' (p + m + 1) (t - (p + m + 1))) a w := fun a w h => ⟨h.1, ih' a w h.2⟩
      have hlets : LetsOut (segPostF (wpSegsF P ops w0 K r ms (ops.toList.drop (p + m + 1))) w') → LetsOut stopPost := fun ⟨_, _, h⟩ => (show False from h).elim
      split
      · rename_i hw
        rw [if_pos hw] at h'
        rcases h' with h' | ⟨h1, h2⟩
        · refine .inl (Oper.wp_mono hfin ?_)
          unfold Oper.wp at *
          generalize (execOp a'.eval ops[p + m]).run P w' = rr at *
          cases rr with
          | ok n w'' =>
            cases n <;> simp only [Oper.upon] at h' ⊢ <;> try exact h'
          | halt x w'' =>
            cases x <;> simp only [Oper.upon] at h' ⊢
            all_goals (try exact (show False from h').elim)
        · exact .inr ⟨h1, hlets h2⟩
      · rename_i hw
        rw [if_neg hw] at h'
        exact hfin _ _ h'
/-- The region: the last operation ahead of the tail makes a variable. -/
theorem wp_region_mixF {id : Nat} {Q : Exit → Act → World → Prop} {a : Act} {w : World} {l : List Oper} (r : Nat) (ms ls : List Nat) (of : Oper) (T : TypeId) (zs : Array Value) (hm : P.follows .mixedOrders = true) (hB : mixFB .any l.toArray (endAt r 0 ms + 1) (endAt r 0 ms) (chainAt 0 ms) ls = true)
    (hend : endAt r 0 ms ≤ l.length) (hof : l[endAt r 0 ms]? = some of) (hg : of.guard = none) (hfr : ∀ (a : Act) (w : World), (execOp a.eval of).run P w = .ok (.value (.pointer (some ⟨w.heap.size, 0, none⟩))) (w.alloc (.cells zs T)))
    (hQ : ∀ c a d v w, Q (.panic c) (Act.put a d v) w → Q (.panic c) a w) (h : wpSegsF P l.toArray w (fun a' w' => ∀ b w'', Gw w w'' → Gw w' w'' → w.heap.size ≤ b → Blk w'' b T zs → wpList P l.toArray Q (l.drop (endAt r 0 ms + 1)) (a'.put of.dst (.pointer (some ⟨b, 0, none⟩))) w'') r ms l a w.drew) : (Code.region id l.toArray true).wp P Q a w := by
  refine wp_region_any hm ?_
  have hin : ∀ i, (Array.replicate l.toArray.size false).getD i false = false := fun i => getD_replicate_false _ _
  refine mixF_any (w0 := w) (T := T) (zs := zs) (of := of) hQ hB (by simpa using hof) hg hfr _ _ a w.drew (by simp [List.count_replicate]) ⟨by simp, fun j oj _ hl => (by rw [hin] at hl; cases hl), fun t _ ht => getD_in (by simpa using ht) (hin t)⟩ ⟨w.drew, (grow_eq (Below.drew (Below.refl _ _))).symm⟩ (.inl ⟨hin _, ?_⟩)
  have hK : ∀ a' w', (∀ b w'', Gw w w'' → Gw w' w'' → w.heap.size ≤ b → Blk w'' b T zs → wpList P l.toArray Q (l.drop (endAt r 0 ms + 1)) (a'.put of.dst (.pointer (some ⟨b, 0, none⟩))) w'') = FrK P l.toArray w Q (endAt r 0 ms + 1) of T zs a' w' := fun a' w' => by
    unfold FrK
    simp only [cg_iff, List.toList_toArray]
  have hKf : (fun a' w' => ∀ b w'', Gw w w'' → Gw w' w'' → w.heap.size ≤ b → Blk w'' b T zs → wpList P l.toArray Q (l.drop (endAt r 0 ms + 1)) (a'.put of.dst (.pointer (some ⟨b, 0, none⟩))) w'') = FrK P l.toArray w Q (endAt r 0 ms + 1) of T zs := by
    funext a' w'
    exact hK a' w'
  rw [hKf] at h
  have := segsF_mix (P := P) (ops := l.toArray) (w0 := w) (K := FrK P l.toArray w Q (endAt r 0 ms + 1) of T zs) (ks := fun i => (chainAt 0 ms).contains i || decide (endAt r 0 ms ≤ i)) (listed := Array.replicate l.toArray.size false) (t := endAt r 0 ms) r (by simpa using hend) hin ms 0 a w.drew rfl
    (fun i _ h2 => by simp [Nat.not_le.2 h2]) (by simpa using h)
  rwa [Nat.sub_zero, ← List.range_eq_range'] at this
end
end Go.Proofs.YtffkmgjmlahfpaaGreat
set_option linter.unusedVariables false
set_option linter.unusedSimpArgs false
namespace Go.Proofs.YtffkmgjmlahfpaaGreat
open Go.RowKit
theorem LegsAt.cells {w : World} {base : Nat} {v : Value} {r : Rod} (h : LegsAt w base v r) : Cells w w.heap.size r.A (r.legs.flatMap boxC) := by
  obtain ⟨g, cur, t, fr, h1, _, _, h4, h5⟩ := h
  exact .inr ⟨g, 0, h1, (Array.getElem?_eq_some_iff.1 h4).1, fun j v hv => by rw [Nat.zero_add, cell_of_row w g j cur t fr h4]; exact h5 j v hv⟩
theorem DtAt.wide {w : World} {B B' : Nat} {x : Dt} (h : DtAt w B x) (hB : B ≤ B') : DtAt w B' x :=
  ⟨⟨h.sol.len, h.sol.max, h.sol.len', h.sol.max', h.sol.cells.mono hB, h.sol.cells'.mono hB⟩, h.name, ⟨h.bars.len, h.bars.max, h.bars.cells.mono hB, fun r hr => (h.bars.each r hr).mono hB⟩, ⟨h.runs.len, h.runs.max, h.runs.cells.mono hB⟩, h.jlen, h.jmax, h.joints.mono hB⟩
theorem Blk.mid {w : World} {g : Nat} {t : TypeId} {cs : List Value} (h : Blk w g t cs.toArray) (o : Nat) (zs : List Value) (hz : (cs.drop o).take zs.length = zs) : w.rangeAt g o zs := fun j v hv => by
  rw [h.cell]
  rw [← hz, List.getElem?_take] at hv
  split at hv
  · simpa [List.getElem?_drop] using hv
  · cases hv
theorem endLen_bd (x : Dt) (r : Rod) (hr : S.rule x.rule = true) (h : RodFit x r) (p : Pt) : 0 ≤ S.endLen x.rule x.m r.bar.b r.legs r.main.toNat p ∧ S.endLen x.rule x.m r.bar.b r.legs r.main.toNat p ≤ 40000000000 := by
  have hs : 0 ≤ r.bar.b.size ∧ r.bar.b.size ≤ 40 := by
    rcases size_cases (bar_size h.bar) with h | h | h | h | h | h | h | h | h <;> omega
  exact length_bd (rule_ok hr) hs.1 hs.2 _ _
def S.sizeI (rs : List Rod) (i : Int) : Int := match rs[i.toNat]? with | some r => r.bar.b.size | none => 0
def S.spanOf (x : Dt) (a b : Rod) : Int × Int × Bool :=
  if a.main < 0 then (0, 0, false) else if b.main < 0 then (0, 0, false) else
  if (S.legOf a).lo.x + S.lowOf x a < (S.legOf b).hi.x - S.upOf x b then ((S.legOf a).lo.x + S.lowOf x a, (S.legOf b).hi.x - S.upOf x b, true) else (0, 0, false)
/-- A chain of the program for a chain of laid bars. -/
structure SchOk (x : Dt) (rs : List Rod) (l : List Int) (c : SCh) : Prop where
  bars : c.l = l
  area : c.area = S.steelArea (S.sizeI rs (minBy (S.sizeI rs) l))
  span : ∃ a b, rs[(l.headD 0).toNat]? = some a ∧ rs[(l.getLastD 0).toNat]? = some b ∧ (c.lo, c.hi, c.is) = S.spanOf x a b
def GivesSup (x : Dt) (C : List (List Int)) (n : Nat) (w : World) (e : Ending) (w' : World) : Prop :=
  ∃ (A1 : Option Addr) (c1 : Nat) (rs : List Rod) (A2 : Option Addr) (c2 : Nat) (cs : List SCh), e = .returned (.tuple #[.slice A1 rs.length c1, .slice A2 cs.length c2, .int .i64 0]) ∧ rs.length = n ∧ (∀ (i : Nat) (hi : i < rs.length), RodOk x i rs[i]) ∧ RodsAt w' w.heap.size (.slice A1 rs.length c1) rs ∧
    w'.ownsRow w.heap.size 152 5 (.slice A2 cs.length c2) cs.length (cs.flatMap schC) ∧ cs.length = C.length ∧ (∀ (i : Nat) (hi : i < cs.length) (hj : i < C.length), SchOk x rs C[i] cs[i]) ∧ (∀ c, c ∈ cs → Cells w' w'.heap.size c.A (i64s c.l)) ∧ Below w.heap.size w w'
theorem elemSch : Elem Tryz.prog 146 152 (.agg #[.slice none 0 0, .int .i64 0, .int .i64 0, .bool false, .int .i64 0]) 5 56 := ⟨Tryz.underlying146, by kernel_rfl, rfl, by decide⟩
end Go.Proofs.YtffkmgjmlahfpaaGreat
