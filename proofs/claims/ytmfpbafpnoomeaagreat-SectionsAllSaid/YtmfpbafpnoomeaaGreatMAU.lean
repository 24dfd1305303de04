/- Lemmas. -/
import Derived.Test.YtmfpbafpnoomeaaGreatMAT
set_option linter.unusedVariables false
set_option linter.unusedSimpArgs false
namespace Go.Proofs.YtmfpbafpnoomeaaGreat
open Go.RowKit
theorem Exc.drewN {M : List Nat} {W w : World} (h : Exc M W w) (n : Nat) : Exc M W (w.drewN n) := ⟨h.os, h.tape, h.output, h.size, h.block⟩
theorem ecell {M : List Nat} {W w : World} (h : Exc M W w) : (∀ b o, b < W.heap.size -> b ∉ M -> w.cell? ⟨b, o, none⟩ = W.cell? ⟨b, o, none⟩) /\ (∀ b o, b < W.heap.size -> b ∉ M -> w.frozen? ⟨b, o, none⟩ = W.frozen? ⟨b, o, none⟩) :=
 ⟨fun b o hb hm => h.cell (p := ⟨b, o, none⟩) hb hm, fun b o hb hm => h.frozen (p := ⟨b, o, none⟩) hb hm⟩
def slotV (a : Act) (o : Oper) : Value := match o.dst with | some s => a.tmps.getD s undef | none => undef
section
variable {P : Program} {l : List Oper} {V : Nat -> Value -> World -> Prop} {S : Act -> World -> Prop} {G : World -> World -> Prop} {Q : Exit -> Act -> World -> Prop}
theorem slot_put {a : Act} {oi oj : Oper} {v : Value} (h : oi.dst.isSome = true -> oi.dst ≠ oj.dst) : slotV (a.put oj.dst v) oi = slotV a oi := by
 unfold slotV Act.put
 cases hi : oi.dst with
 | none => rfl
 | some s =>
  cases hj : oj.dst with
  | none => rfl
  | some d =>
   have hne : s ≠ d := by
    have := h (by simp [hi])
    rw [hi, hj] at this
    simpa using this
   simp only [Array.getD_eq_getD_getElem?]
   rw [Array.getElem?_setIfInBounds_ne (fun e => hne e.symm)]
theorem slot_same {a : Act} {oj : Oper} {v : Value} (hb : ∀ s, oj.dst = some s -> s < a.tmps.size) (hn : oj.dst = none -> v = undef) : slotV (a.put oj.dst v) oj = v := by
 unfold slotV Act.put
 cases hj : oj.dst with
 | none => simpa using (hn hj).symm
 | some d =>
  have := hb d hj
  simp [Array.getD_eq_getD_getElem?, this]
theorem wpAny_rel {md : Region.Mode}
 (hV : ∀ i v w w', V i v w -> G w w' -> V i v w')
 (hearly : ∀ (j : Nat) (oj : Oper), l[j]? = some oj -> ∀ e ∈ oj.after, Region.binds md e = true -> e.on < j)
 (hdst : ∀ (i j : Nat) (oi oj : Oper), l[i]? = some oi -> l[j]? = some oj -> i ≠ j -> oi.dst.isSome = true -> oi.dst ≠ oj.dst)
 (hsz : ∀ (j : Nat) (oj : Oper) (s : Nat) (a : Act) (w : World), l[j]? = some oj -> oj.dst = some s -> S a w -> s < a.tmps.size)
 (hstep : ∀ (j : Nat) (oj : Oper) (a : Act) (w : World), l[j]? = some oj -> S a w -> (∀ e ∈ oj.after, Region.binds md e = true -> ∀ oe, l[e.on]? = some oe -> V e.on (slotV a oe) w) ->
   wpOp P l.toArray Q j (fun a' w' => ∃ v, a' = a.put oj.dst v /\ (oj.dst = none -> v = undef) /\ V j v w' /\ G w w' /\ S a' w') a w)
 (hend : ∀ (a : Act) (w : World), S a w -> (∀ j oj, l[j]? = some oj -> V j (slotV a oj) w) -> Q .normal a w) :
 ∀ (f : Nat) (listed : Array Bool) (a : Act) (w : World), listed.size = l.length -> listed.toList.count false <= f -> S a w -> (∀ j oj, l[j]? = some oj -> listed.getD j false = true -> V j (slotV a oj) w) ->
  wpAny P md l.toArray Q f listed a w := by
 have hlow : ∀ (listed : Array Bool), listed.size = l.length -> Region.ready md l.toArray listed = [] -> ∀ n, n <= l.length -> ∀ j, j < n -> listed.getD j false = true := by
  intro listed hls hr n
  induction n with
  | zero => intro _ j hj; omega
  | succ n ih =>
   intro hn j hj
   by_cases hjn : j < n
   ·exact ih (by omega) j hjn
   ·obtain rfl : j = n := by omega
    by_cases hlj : listed.getD j false = true
    ·exact hlj
    ·exfalso
     have hjl : j < l.length := by omega
     have hm : j ∈ Region.ready md l.toArray listed := by
      rw [mem_ready]
      refine ⟨?_, l[j], by simp [hjl], fun e he hb => ?_⟩
      ·have h1 : j < listed.size := by omega
       simp [Array.getD_eq_getD_getElem?, h1] at hlj ⊢
       exact hlj
      ·exact ih (by omega) e.on (hearly j l[j] (by simp [hjl]) e he hb)
     rw [hr] at hm
     cases hm
 have hfin : ∀ (listed : Array Bool) (a : Act) (w : World), listed.size = l.length -> Region.ready md l.toArray listed = [] -> S a w -> (∀ j oj, l[j]? = some oj -> listed.getD j false = true -> V j (slotV a oj) w) -> Q .normal a w := by
  intro listed a w hls hr hS hI
  refine hend a w hS (fun j oj hj => hI j oj hj ?_)
  exact hlow listed hls hr l.length (Nat.le_refl _) j (List.getElem?_eq_some_iff.1 hj).1
 intro f
 induction f with
 | zero =>
  intro listed a w hls hc hS hI
  have hr : Region.ready md l.toArray listed = [] := by
   rcases hrr : Region.ready md l.toArray listed with _ | ⟨j, t⟩
   ·rfl
   ·exfalso
    have hm : j ∈ Region.ready md l.toArray listed := by rw [hrr]; simp
    rw [mem_ready] at hm
    obtain ⟨h1, o, ho, _⟩ := hm
    have hjl : j < l.length := by
     have := (Array.getElem?_eq_some_iff.1 ho).1
     simpa using this
    have h2 : j < listed.size := by omega
    have h3 : listed[j] = false := by simpa [Array.getD_eq_getD_getElem?, h2] using h1
    have : false ∈ listed.toList := by
     rw [<- h3]
     simp
    have := List.count_pos_iff.2 this
    omega
  exact ⟨hr, hfin listed a w hls hr hS hI⟩
 | succ f ih =>
  intro listed a w hls hc hS hI
  refine ⟨fun hr => hfin listed a w hls hr hS hI, fun j hj => ?_⟩
  rw [mem_ready] at hj
  obtain ⟨h1, oj, hoj, hdep⟩ := hj
  have hoj' : l[j]? = some oj := by simpa using hoj
  have hjl : j < l.length := (List.getElem?_eq_some_iff.1 hoj').1
  have h2 : j < listed.size := by omega
  have h3 : listed[j] = false := by simpa [Array.getD_eq_getD_getElem?, h2] using h1
  refine wpOp_mono ?_ (hstep j oj a w hoj' hS (fun e he hb oe hoe => hI e.on oe hoe (hdep e he hb)))
  rintro a' w' ⟨v, rfl, hvn, hvj, hg, hS'⟩
  refine ih _ _ _ (by simpa using hls) ?_ hS' (fun i oi hoi hli => ?_)
  ·have hcs := cnt_set listed.toList j (by simp [h2, h3])
   rw [Array.toList_setIfInBounds]
   omega
  ·by_cases hij : i = j
   ·subst hij
    rw [hoj'] at hoi
    injection hoi with hoi
    subst hoi
    rw [slot_same (fun s hs => hsz i oj s a w hoj' hs hS) hvn]
    exact hvj
   ·rw [slot_put (fun hs => hdst i j oi oj hoi hoj' hij hs)]
    refine hV _ _ _ _ (hI i oi hoi ?_) hg
    have hil : i < listed.size := by have := (List.getElem?_eq_some_iff.1 hoi).1; omega
    rw [Array.getD_eq_getD_getElem?, Array.getElem?_setIfInBounds_ne (fun e => hij e.symm)] at hli
    rw [Array.getD_eq_getD_getElem?]
    exact hli
theorem wp_region_rel {id : Nat} {a : Act} {w : World} (hm : P.follows .mixedOrders = true)
 (hV : ∀ i v w w', V i v w -> G w w' -> V i v w')
 (hearly : ∀ (j : Nat) (oj : Oper), l[j]? = some oj -> ∀ e ∈ oj.after, Region.binds .any e = true -> e.on < j)
 (hdst : ∀ (i j : Nat) (oi oj : Oper), l[i]? = some oi -> l[j]? = some oj -> i ≠ j -> oi.dst.isSome = true -> oi.dst ≠ oj.dst)
 (hsz : ∀ (j : Nat) (oj : Oper) (s : Nat) (a : Act) (w : World), l[j]? = some oj -> oj.dst = some s -> S a w -> s < a.tmps.size)
 (h0 : S a w.drew)
 (hstep : ∀ (j : Nat) (oj : Oper) (a : Act) (w : World), l[j]? = some oj -> S a w -> (∀ e ∈ oj.after, Region.binds .any e = true -> ∀ oe, l[e.on]? = some oe -> V e.on (slotV a oe) w) ->
   wpOp P l.toArray Q j (fun a' w' => ∃ v, a' = a.put oj.dst v /\ (oj.dst = none -> v = undef) /\ V j v w' /\ G w w' /\ S a' w') a w)
 (hend : ∀ (a : Act) (w : World), S a w -> (∀ j oj, l[j]? = some oj -> V j (slotV a oj) w) -> Q .normal a w) : (Code.region id l.toArray true).wp P Q a w := by
 refine wp_region_any hm ?_
 refine wpAny_rel hV hearly hdst hsz hstep hend _ _ a w.drew (by simp) ?_ h0 (fun j oj hj hl => ?_)
 ·simp
 ·rw [Array.getD_eq_getD_getElem?] at hl
  have hjl : j < l.length := (List.getElem?_eq_some_iff.1 hj).1
  simp [hjl] at hl
end
theorem op_val {P : Program} {ops : Array Oper} {Q : Exit -> Act -> World -> Prop} {j : Nat} {K : Act -> World -> Prop} {a : Act} {w w' : World} {o : Oper} {v : Value} (ho : ops[j]? = some o) (hg : o.guard = none)
 (hr : (execOp a.eval o).run P w = .ok (.value v) w') (hK : K (a.put o.dst v) w') : wpOp P ops Q j K a w := by
 unfold wpOp
 rw [ho]
 simp only []
 rw [if_pos (by simp [Region.wanted, hg])]
 left
 unfold Oper.wp
 rw [hr]
 exact hK
theorem op_skip {P : Program} {ops : Array Oper} {Q : Exit -> Act -> World -> Prop} {j : Nat} {K : Act -> World -> Prop} {a : Act} {w w' : World} {o : Oper} (ho : ops[j]? = some o) (hg : o.guard = none)
 (hr : (execOp a.eval o).run P w = .ok .skip w') (hK : K (a.put o.dst undef) w') : wpOp P ops Q j K a w := by
 unfold wpOp
 rw [ho]
 simp only []
 rw [if_pos (by simp [Region.wanted, hg])]
 left
 unfold Oper.wp
 rw [hr]
 exact hK
theorem op_call {P : Program} {ops : Array Oper} {Q : Exit -> Act -> World -> Prop} {j : Nat} {K : Act -> World -> Prop} {a : Act} {w : World} {o : Oper} {f : FuncId} {args : Array Value} (ho : ops[j]? = some o) (hg : o.guard = none)
 (hr : (execOp a.eval o).run P w = .ok (.enter f args) w) {R : Ending -> World -> Prop} (hc : Calls P f args w R) (hK : ∀ e w', R e w' -> ∃ v, e = .returned v /\ K (a.put o.dst v) w') : wpOp P ops Q j K a w := by
 unfold wpOp
 rw [ho]
 simp only []
 rw [if_pos (by simp [Region.wanted, hg])]
 left
 unfold Oper.wp
 rw [hr]
 exact hc.mono (fun e w' h => by obtain ⟨v, rfl, hk⟩ := hK e w' h; exact hk)
def distB (l : List Oper) : Bool := (List.range l.length).all fun i => (List.range l.length).all fun j => i == j || (match l[i]?, l[j]? with | some oi, some oj => !oi.dst.isSome || (oi.dst != oj.dst) | _, _ => true)
def slotsB (N : Nat) (l : List Oper) : Bool := l.all fun o => match o.dst with | some s => decide (s < N) | none => true
theorem distB_out {l : List Oper} (h : distB l = true) : ∀ (i j : Nat) (oi oj : Oper), l[i]? = some oi -> l[j]? = some oj -> i ≠ j -> oi.dst.isSome = true -> oi.dst ≠ oj.dst := by
 intro i j oi oj hi hj hij hs
 unfold distB at h
 rw [List.all_eq_true] at h
 have := h i (by simpa using (List.getElem?_eq_some_iff.1 hi).1)
 rw [List.all_eq_true] at this
 have := this j (by simpa using (List.getElem?_eq_some_iff.1 hj).1)
 rw [hi, hj] at this
 simpa [hij, hs] using this
theorem slotsB_out {N : Nat} {l : List Oper} (h : slotsB N l = true) {j : Nat} {oj : Oper} {s : Nat} (hj : l[j]? = some oj) (hs : oj.dst = some s) : s < N := by
 unfold slotsB at h
 rw [List.all_eq_true] at h
 have := h oj (List.mem_of_getElem? hj)
 rw [hs] at this
 simpa using this
theorem forms_set2 {w0 w : World} {b : Nat} {T : TypeId} {z0 z1 : Value} (h0 : Below w0.heap.size w0 w) (hl : w0.heap.size <= b) (hb : Blk w b T #[z0, z1]) (v0 v1 : Value) :
 ∃ W, ((w.setCell ⟨b, 0, none⟩ v0).setCell ⟨b, 1, none⟩ v1) = W /\ Below w0.heap.size w0 W /\ Blk W b T #[v0, v1] := by
 refine ⟨_, rfl, ba_set (ba_set h0 hl _) hl _, ?_⟩
 have := (hb.set 0 v0).set 1 v1
 simpa only [List.setIfInBounds_toArray, List.set_cons_zero, List.set_cons_succ] using this
theorem opH {P : Program} {ops : Array Oper} {Q : Exit -> Act -> World -> Prop} {K : Act -> World -> Prop} {i : Nat} {o : Oper} {a : Act} {w : World} (hi : ops[i]? = some o) (hg : o.guard = none) (h : o.wp P a w K Q) : wpOp P ops Q i K a w := by
 unfold wpOp
 simp only [hi]
 rw [if_pos (by simp [Region.wanted, hg])]
 exact .inl h
def setL (l : Array Bool) (is : List Nat) : Array Bool := is.foldl (fun l i => l.setIfInBounds i true) l
def copy2B (ops : Array Oper) : Bool :=
 Region.noSelect ops && decide (ops.size = 6) && Region.free .any ops (setL (Array.replicate 6 false) []) 0 && (Region.ready .any ops (setL (Array.replicate 6 false) [])).contains 0 && Region.free .any ops (setL (Array.replicate 6 false) [0]) 1 && (Region.ready .any ops (setL (Array.replicate 6 false) [0])).contains 1 &&
  (Region.ready .any ops (setL (Array.replicate 6 false) [0, 1]) == [2, 3]) && (Region.ready .any ops (setL (Array.replicate 6 false) [0, 1, 2]) == [3]) && (Region.ready .any ops (setL (Array.replicate 6 false) [0, 1, 3]) == [2]) &&
  (Region.ready .any ops (setL (Array.replicate 6 false) [0, 1, 2, 3]) == [4]) && (Region.ready .any ops (setL (Array.replicate 6 false) [0, 1, 3, 2]) == [4]) && (Region.ready .any ops (setL (Array.replicate 6 false) [0, 1, 2, 3, 4]) == [5]) && (Region.ready .any ops (setL (Array.replicate 6 false) [0, 1, 3, 2, 4]) == [5]) &&
  (Region.ready .any ops (setL (Array.replicate 6 false) [0, 1, 2, 3, 4, 5]) == []) && (Region.ready .any ops (setL (Array.replicate 6 false) [0, 1, 3, 2, 4, 5]) == [])
theorem load_run {P : Program} {op : Oper} {a : Act} {W : World} (ty : TypeId) (x : Operand) (ho : op.op = .load ty x) (b o : Nat) (hx : a.eval x = .pointer (some ⟨b, o, none⟩)) (cs : List Value) (d : TypeDesc) (hc : W.rangeAt b o cs)
 (hu : P.underlying ty = some d) (hd : d.isRow = true) (hi : (P.info? ty).map (·.size) = some cs.length) : (execOp a.eval op).run P W = .ok (.value (.agg cs.toArray)) W := by
 unfold execOp
 simp only [ho, hx, Instr.loadAt, Instr.sureAddr, Sem.run_bind, Sem.run_pure, Result.andThen_ok, run_loadVar_mid W b o ty cs d hc hu hd hi]
theorem wp_copy_two {P : Program} {id : Nat} {Q : Exit -> Act -> World -> Prop} {a : Act} {w : World} {o0 o1 o2 o3 o4 o5 : Oper} (hm : P.follows .mixedOrders = true) (hB : copy2B #[o0, o1, o2, o3, o4, o5] = true)
 (g0 : o0.guard = none) (g1 : o1.guard = none) (g2 : o2.guard = none) (g3 : o3.guard = none) (g4 : o4.guard = none) (g5 : o5.guard = none) (T : TypeId) (x y4 z4 y5 z5 : Operand) (b : Nat) (cs Z : List Value) (d : TypeDesc)
 (h0 : o0.op = .load T x) (h1 : o1.op = .load T x) (hx : a.eval x = .pointer (some ⟨b, 0, none⟩)) (hx1 : (a.put o0.dst (.agg cs.toArray)).eval x = .pointer (some ⟨b, 0, none⟩)) (hbl : Blk w b T cs.toArray) (hu : P.underlying T = some d) (hd : d.isRow = true) (hi : (P.info? T).map (·.size) = some cs.length)
 (h2 : ∀ (a : Act) (W : World), (execOp a.eval o2).run P W = .ok (.value (.pointer (some ⟨W.heap.size, 0, none⟩))) (W.alloc (.cells Z.toArray T))) (h3 : ∀ (a : Act) (W : World), (execOp a.eval o3).run P W = .ok (.value (.pointer (some ⟨W.heap.size, 0, none⟩))) (W.alloc (.cells Z.toArray T)))
 (hZ : Z.length = cs.length) (h4 : o4.op = .store T y4 z4) (h5 : o5.op = .store T y5 z5)
 (hy4 : ∀ u v, ((((a.put o0.dst (.agg cs.toArray)).put o1.dst (.agg cs.toArray)).put o2.dst u).put o3.dst v).eval y4 = u) (hz4 : ∀ u v, ((((a.put o0.dst (.agg cs.toArray)).put o1.dst (.agg cs.toArray)).put o2.dst u).put o3.dst v).eval z4 = .agg cs.toArray)
 (hy5 : ∀ u v, ((((a.put o0.dst (.agg cs.toArray)).put o1.dst (.agg cs.toArray)).put o2.dst u).put o3.dst v).eval y5 = v) (hz5 : ∀ u v, ((((a.put o0.dst (.agg cs.toArray)).put o1.dst (.agg cs.toArray)).put o2.dst u).put o3.dst v).eval z5 = .agg cs.toArray)
 (d4 : o4.dst = none) (d5 : o5.dst = none) (dne : ∀ d, o3.dst = some d -> o2.dst ≠ some d) (hQ : ∀ c a d v w, Q (.panic c) (Act.put a d v) w -> Q (.panic c) a w) (hone : cs.toArray.all (·.oneCell') = true)
 (h : ∀ (p q : Nat) (W : World), p ≠ q -> w.heap.size <= p -> w.heap.size <= q -> Blk W p T cs.toArray -> Blk W q T cs.toArray -> Below w.heap.size w W -> Q .normal ((((a.put o0.dst (.agg cs.toArray)).put o1.dst (.agg cs.toArray)).put o2.dst (.pointer (some ⟨p, 0, none⟩))).put o3.dst (.pointer (some ⟨q, 0, none⟩))) W) :
 (Code.region id #[o0, o1, o2, o3, o4, o5] true).wp P Q a w := by
 simp only [copy2B, Bool.and_eq_true, beq_iff_eq, decide_eq_true_eq] at hB
 obtain ⟨⟨⟨⟨⟨⟨⟨⟨⟨⟨⟨⟨⟨⟨hsel, _⟩, f0⟩, r0⟩, f1⟩, r1⟩, r2⟩, r3⟩, r3'⟩, r4⟩, r4'⟩, r5⟩, r5'⟩, r6⟩, r6'⟩ := hB
 have hsz : cs.toArray.size = Z.toArray.size := by simp [hZ]
 have hbw := hbl.lt
 have key : ∀ (L : Array Bool) (hr4 : Region.ready .any #[o0, o1, o2, o3, o4, o5] L = [4]) (hr5 : Region.ready .any #[o0, o1, o2, o3, o4, o5] (L.setIfInBounds 4 true) = [5]) (hr6 : Region.ready .any #[o0, o1, o2, o3, o4, o5] ((L.setIfInBounds 4 true).setIfInBounds 5 true) = []) (p q : Nat) (W : World),
  p ≠ q -> w.heap.size <= p -> w.heap.size <= q -> Blk W p T Z.toArray -> Blk W q T Z.toArray -> Blk W b T cs.toArray -> Below w.heap.size w W ->
  wpAnyH P .any #[o0, o1, o2, o3, o4, o5] Q (fun W => Blk W b T cs.toArray) 2 L ((((a.put o0.dst (.agg cs.toArray)).put o1.dst (.agg cs.toArray)).put o2.dst (.pointer (some ⟨p, 0, none⟩))).put o3.dst (.pointer (some ⟨q, 0, none⟩))) W := by
  intro L hr4 hr5 hr6 p q W hne hp hq hP hQ' hS hbe
  refine wpAnyH_all hr4 (by simp) ?_
  intro i hi'
  obtain rfl : i = 4 := by simpa using hi'
  refine opH (o := o4) rfl g4 (wp_store_mid T y4 z4 h4 p 0 cs.toArray (hy4 _ _) (hz4 _ _) (hP.there (by omega)) (by simpa using hi) hone ?_)
  rw [d4]
  have hx4 := exc_setCells p cs.toArray.toList 0 W
  have hP2 : Blk (W.setCells p 0 cs.toArray.toList) p T cs.toArray := hP.put0 cs.toArray hsz
  have hQ2 := hQ'.exc hx4 (by simp; omega)
  have hS2 := hS.exc hx4 (by simp; omega)
  have hbe2 : Below w.heap.size w (W.setCells p 0 cs.toArray.toList) := hbe.trans (hx4.below hbe.size (by intro g hg; simp at hg; omega))
  refine ⟨hS2, ?_⟩
  refine wpAnyH_all hr5 (by simp) ?_
  intro i hi'
  obtain rfl : i = 5 := by simpa using hi'
  refine opH (o := o5) rfl g5 (wp_store_mid T y5 z5 h5 q 0 cs.toArray (hy5 _ _) (hz5 _ _) (hQ2.there (by omega)) (by simpa using hi) hone ?_)
  rw [d5]
  have hx5 := exc_setCells q cs.toArray.toList 0 (W.setCells p 0 cs.toArray.toList)
  refine ⟨hS2.exc hx5 (by simp; omega), ?_⟩
  refine wpAnyH_done hr6 ?_ 0
  exact h p q _ hne hp hq (hP2.exc hx5 (by simp; omega)) (hQ2.put0 cs.toArray hsz) (hbe2.trans (hx5.below hbe2.size (by intro g hg; simp at hg; omega)))
 refine wp_region_held (S := fun W => Blk W b T cs.toArray) hm ?_
 show wpAnyH P .any _ Q _ 6 (Array.replicate 6 false) a w.drew
 have hb0 : Blk w.drew b T cs.toArray := hbl
 have hbe0 : Below w.heap.size w w.drew := ba_drew (Below.refl _ _)
 refine wpAnyH_take (i := 0) (oi := o0) rfl hsel f0 r0 (fun c a w h => hQ c a _ _ w h) (.inl ⟨by simp [Region.wanted, g0], fun W hW => load_run T x h0 b 0 hx cs d (Blk.range hW) hu hd hi⟩) hb0 ?_
 refine wpAnyH_take (i := 1) (oi := o1) rfl hsel f1 r1 (fun c a w h => hQ c a _ _ w h) (.inl ⟨by simp [Region.wanted, g1], fun W hW => load_run T x h1 b 0 hx1 cs d (Blk.range hW) hu hd hi⟩) hb0 ?_
 refine wpAnyH_all r2 (by simp) ?_
 intro i hi'
 have hsz0 : w.drew.heap.size = w.heap.size := rfl
 have hsA : (w.drew.alloc (.cells Z.toArray T)).heap.size = w.heap.size + 1 := by simp
 have hA0 := Blk.new w.drew T Z.toArray
 have hA1 := Blk.new (w.drew.alloc (.cells Z.toArray T)) T Z.toArray
 have hA2 := hA0.alloc (.cells Z.toArray T)
 rw [hsA] at hA1
 rw [hsz0] at hA0 hA2
 have hbA := hb0.alloc (.cells Z.toArray T)
 have hbB := hbA.alloc (.cells Z.toArray T)
 have hbe2 : Below w.heap.size w ((w.drew.alloc (.cells Z.toArray T)).alloc (.cells Z.toArray T)) := ba_alloc (ba_alloc hbe0 _) _
 have hcs : i = 2 ∨ i = 3 := by simpa using hi'
 rcases hcs with rfl | rfl
 ·refine opH (o := o2) rfl g2 ?_
  unfold Oper.wp
  rw [h2]
  refine ⟨hbA, ?_⟩
  refine wpAnyH_all r3 (by simp) ?_
  intro i hi'
  obtain rfl : i = 3 := by simpa using hi'
  refine opH (o := o3) rfl g3 ?_
  unfold Oper.wp
  rw [h3]
  refine ⟨hbB, ?_⟩
  have := key _ r4 r5 r6 w.heap.size (w.heap.size + 1) _ (by omega) (Nat.le_refl _) (by omega) hA2 hA1 hbB hbe2
  rw [hsz0, hsA]
  exact this
 ·refine opH (o := o3) rfl g3 ?_
  unfold Oper.wp
  rw [h3]
  refine ⟨hbA, ?_⟩
  refine wpAnyH_all r3' (by simp) ?_
  intro i hi'
  obtain rfl : i = 2 := by simpa using hi'
  refine opH (o := o2) rfl g2 ?_
  unfold Oper.wp
  rw [h2]
  refine ⟨hbB, ?_⟩
  have := key _ r4' r5' r6' (w.heap.size + 1) w.heap.size _ (by omega) (by omega) (Nat.le_refl _) hA1 hA2 hbB hbe2
  rw [hsz0, hsA, Act.put_comm _ _ _ dne]
  exact this
theorem at_far (x : Dt) (C : List (List Int)) (n : Nat) (z : Bx) (k : Nat) (p : Int) (w : World) (hp : p < -1048576 ∨ 1048576 < p)
 (hSU : ∀ W, Below w.heap.size w W -> Calls Tryz.prog 90 #[dtV x, .int .i64 k] W (GivesSups x C n (fun rs => S.sup rs z) W)) :
 Calls Tryz.prog 56 #[dtV x, .int .i64 k, .int .i64 p] w fun e w' => e = .returned (.tuple #[.slice none 0 0, .slice none 0 0, .int .i64 2]) /\ Below w.heap.size w w' := by
 have HSU := lh hSU
 clear hSU
 unfold dtV at HSU
 unfold dtV
 have hDB := (Blk.new w 34 (dtc x)).alloc (.cells #[.int .i64 p] 3)
 have hPB := Blk.new (w.alloc (.cells (dtc x) 34)) 3 #[.int .i64 p]
 have hW1 : Below w.heap.size w ((w.alloc (.cells (dtc x) 34)).alloc (.cells #[.int .i64 p] 3)) := ba_alloc (ba_alloc (Below.refl _ _) _) _
 go_enter Tryz.func56, Tryz.ntmps56
 go_upto_region 1 with fail
 rw [show (w.alloc (.cells (dtc x) 34)).heap.size = w.heap.size + 1 by simp] at hPB
 generalize ((w.alloc (.cells (dtc x) 34)).alloc (.cells #[.int .i64 p] 3)) = W1 at *
 have HDB := lh hDB
 have HPB := lh hPB
 clear hDB hPB
 go_upto_region 2 with (first
  | ((with_reducible refine at_load 34 3 ?_); refine wpList_load_mid rfl 34 (.tmp 3) rfl _ _ rfl _ _ (HDB.out.via belr).range Tryz.underlying34 rfl (by kernel_rfl) ?_)
  | (go_at_call 90; (with_reducible refine (HSU.out _ belr).mono ?_); rintro e w2 ⟨A1, c1, rs, A2, c2, cs, b2, rfl, hrl, hok, hb1, hb2, hRC, hRL, hOW, hcl, hsch, hcc, hbw2⟩; clear hrl hok hRC hRL hOW hcl hsch hcc))
 have hPB2 := HPB.out.via hbw2
 have p0 := hPB2.cell 0
 have pl := hPB2.lt
 simp only [ga1, ga2, ga3] at p0
 clear hPB2 HSU HDB HPB
 by_cases h1 : p < -1048576
 ·go_wp2
  go_returns
  exact ⟨rfl, bel⟩
 ·have h2 : 1048576 < p := by omega
  go_wp2
  go_returns
  exact ⟨rfl, bel⟩
theorem at_err (x : Dt) (k : Int) (p : Int) (er : Int) (w : World) (he : (er == 0) = false)
 (hSU : ∀ W, Below w.heap.size w W -> Calls Tryz.prog 90 #[dtV x, .int .i64 k] W fun e w' => e = .returned (.tuple #[.slice none 0 0, .slice none 0 0, .int .i64 er]) /\ Below W.heap.size W w') :
 Calls Tryz.prog 56 #[dtV x, .int .i64 k, .int .i64 p] w fun e w' => e = .returned (.tuple #[.slice none 0 0, .slice none 0 0, .int .i64 er]) /\ Below w.heap.size w w' := by
 have HSU := lh hSU
 have he2 : ¬ (er = 0) := by simpa using he
 clear hSU
 unfold dtV at HSU
 unfold dtV
 have hDB := (Blk.new w 34 (dtc x)).alloc (.cells #[.int .i64 p] 3)
 have hW1 : Below w.heap.size w ((w.alloc (.cells (dtc x) 34)).alloc (.cells #[.int .i64 p] 3)) := ba_alloc (ba_alloc (Below.refl _ _) _) _
 go_enter Tryz.func56, Tryz.ntmps56
 go_upto_region 1 with fail
 generalize ((w.alloc (.cells (dtc x) 34)).alloc (.cells #[.int .i64 p] 3)) = W1 at *
 have HDB := lh hDB
 clear hDB
 go_wp2_with (first
  | ((with_reducible refine at_load 34 3 ?_); refine wpList_load_mid rfl 34 (.tmp 3) rfl _ _ rfl _ _ (HDB.out.via belr).range Tryz.underlying34 rfl (by kernel_rfl) ?_)
  | (go_at_call 90; (with_reducible refine (HSU.out _ belr).mono ?_); rintro e w2 ⟨rfl, hbw2⟩))
 go_returns
 exact ⟨rfl, bel⟩
theorem At_err (x : Dt) (k : Int) (p : Int) (er : Int) (w : World) (he : (er == 0) = false)
 (hAT : ∀ W, Below w.heap.size w W -> Calls Tryz.prog 56 #[dtV x, .int .i64 k, .int .i64 p] W fun e w' => e = .returned (.tuple #[.slice none 0 0, .slice none 0 0, .int .i64 er]) /\ Below W.heap.size W w') :
 Calls Tryz.prog 28 #[dtV x, .int .i64 k, .int .i64 p] w fun e w' => e = .returned (.tuple #[.int .i64 0, .int .i64 er]) /\ Below w.heap.size w w' := by
 have HAT := lh hAT
 have he2 : ¬ (er = 0) := by simpa using he
 clear hAT
 unfold dtV at HAT
 unfold dtV
 have hDB := Blk.new w 34 (dtc x)
 have hW1 : Below w.heap.size w (w.alloc (.cells (dtc x) 34)) := ba_alloc (Below.refl _ _) _
 go_enter Tryz.func28, Tryz.ntmps28
 go_upto_region 1 with fail
 generalize (w.alloc (.cells (dtc x) 34)) = W1 at *
 have HDB := lh hDB
 clear hDB
 go_wp2_with (first
  | ((with_reducible refine at_load 34 3 ?_); refine wpList_load_mid rfl 34 (.tmp 3) rfl _ _ rfl _ _ (HDB.out.via belr).range Tryz.underlying34 rfl (by kernel_rfl) ?_)
  | (go_at_call 56; (with_reducible refine (HAT.out _ belr).mono ?_); rintro e w2 ⟨rfl, hbw2⟩))
 go_ret2
 exact ⟨rfl, bel⟩
set_option maxRecDepth 20000 in
theorem schains_no (x : Dt) (w : World)
 (hLV : ∀ W, Below w.heap.size w W -> Calls Tryz.prog 53 #[dtV x] W fun e w' => e = .returned (.bool false) /\ Below W.heap.size W w') :
 Calls Tryz.prog 126 #[dtV x] w fun e w' => e = .returned (.tuple #[.slice none 0 0, .slice none 0 0, .int .i64 1]) /\ Below w.heap.size w w' := by
 have HLV := lh hLV
 clear hLV
 unfold dtV at HLV
 unfold dtV
 have hDB := Blk.new w 34 (dtc x)
 have hW1 : Below w.heap.size w (w.alloc (.cells (dtc x) 34)) := ba_alloc (Below.refl _ _) _
 go_enter Tryz.func126, Tryz.ntmps126
 go_upto_region 1 with fail
 generalize (w.alloc (.cells (dtc x) 34)) = W1 at *
 have HDB := lh hDB
 clear hDB
 go_wp2_with (first
  | ((with_reducible refine at_load 34 1 ?_); refine wpList_load_mid rfl 34 (.tmp 1) rfl _ _ rfl _ _ (HDB.out.via belr).range Tryz.underlying34 rfl (by kernel_rfl) ?_)
  | (go_at_call 53; (with_reducible refine (HLV.out _ belr).mono ?_); rintro e w2 ⟨rfl, hbw2⟩))
 go_returns
 exact ⟨rfl, bel⟩
theorem sups_err (x : Dt) (k : Int) (er : Int) (w : World) (he : (er == 0) = false)
 (hCH : ∀ W, Below w.heap.size w W -> Calls Tryz.prog 126 #[dtV x] W fun e w' => e = .returned (.tuple #[.slice none 0 0, .slice none 0 0, .int .i64 er]) /\ Below W.heap.size W w') :
 Calls Tryz.prog 90 #[dtV x, .int .i64 k] w fun e w' => e = .returned (.tuple #[.slice none 0 0, .slice none 0 0, .int .i64 er]) /\ Below w.heap.size w w' := by
 have HCH := lh hCH
 have he2 : ¬ (er = 0) := by simpa using he
 clear hCH
 unfold dtV at HCH
 unfold dtV
 have hDB := (Blk.new w 34 (dtc x)).alloc (.cells #[.int .i64 k] 3)
 have hW1 : Below w.heap.size w ((w.alloc (.cells (dtc x) 34)).alloc (.cells #[.int .i64 k] 3)) := ba_alloc (ba_alloc (Below.refl _ _) _) _
 go_enter Tryz.func90, Tryz.ntmps90
 go_upto_region 1 with fail
 generalize ((w.alloc (.cells (dtc x) 34)).alloc (.cells #[.int .i64 k] 3)) = W1 at *
 have HDB := lh hDB
 clear hDB
 go_wp2_with (first
  | ((with_reducible refine at_load 34 2 ?_); refine wpList_load_mid rfl 34 (.tmp 2) rfl _ _ rfl _ _ (HDB.out.via belr).range Tryz.underlying34 rfl (by kernel_rfl) ?_)
  | (go_at_call 126; (with_reducible refine (HCH.out _ belr).mono ?_); rintro e w2 ⟨rfl, hbw2⟩))
 go_returns
 exact ⟨rfl, bel⟩
theorem sups_range (x : Dt) (C : List (List Int)) (n : Nat) (k : Int) (w : World) (hk : k < 0 ∨ (x.dn : Int) <= k)
 (hCH : ∀ W, Below w.heap.size w W -> Calls Tryz.prog 126 #[dtV x] W (GivesSup x C n W)) :
 Calls Tryz.prog 90 #[dtV x, .int .i64 k] w fun e w' => e = .returned (.tuple #[.slice none 0 0, .slice none 0 0, .int .i64 2]) /\ Below w.heap.size w w' := by
 have HCH := lh hCH
 clear hCH
 unfold dtV at HCH
 unfold dtV
 have hDB := (Blk.new w 34 (dtc x)).alloc (.cells #[.int .i64 k] 3)
 have hKB := Blk.new (w.alloc (.cells (dtc x) 34)) 3 #[.int .i64 k]
 have hW1 : Below w.heap.size w ((w.alloc (.cells (dtc x) 34)).alloc (.cells #[.int .i64 k] 3)) := ba_alloc (ba_alloc (Below.refl _ _) _) _
 go_enter Tryz.func90, Tryz.ntmps90
 go_upto_region 1 with fail
 rw [show (w.alloc (.cells (dtc x) 34)).heap.size = w.heap.size + 1 by simp] at hKB
 generalize ((w.alloc (.cells (dtc x) 34)).alloc (.cells #[.int .i64 k] 3)) = W1 at *
 have HDB := lh hDB
 have HKB := lh hKB
 clear hDB hKB
 go_upto_region 2 with (first
  | ((with_reducible refine at_load 34 2 ?_); refine wpList_load_mid rfl 34 (.tmp 2) rfl _ _ rfl _ _ (HDB.out.via belr).range Tryz.underlying34 rfl (by kernel_rfl) ?_)
  | (go_at_call 126; (with_reducible refine (HCH.out _ belr).mono ?_); rintro e w2 ⟨A1, c1, rs, A2, c2, cs, rfl, hrl, hok, hRA, hOW, hcl, hsch, hcc, hbw2⟩; clear hrl hok hRA hOW hcl hsch hcc))
 have hb2 : Below w2.heap.size w2 (w2.alloc (.cells #[.slice A1 rs.length c1] 117)) := ba_alloc (Below.refl _ _) _
 have HD3 := lh ((HDB.out.via hbw2).via hb2)
 have HK3 := lh ((HKB.out.via hbw2).via hb2)
 have hw3 : Below w.heap.size w (w2.alloc (.cells #[.slice A1 rs.length c1] 117)) := ba_alloc (ba_via hbw2 hW1) _
 have hwl : w.heap.size < W1.heap.size := HDB.out.lt
 have hwl1 : w.heap.size + 1 < W1.heap.size := HKB.out.lt
 generalize (w2.alloc (.cells #[.slice A1 rs.length c1] 117)) = W3 at *
 have d9 := HD3.out.cell 9
 have k0 := HK3.out.cell 0
 have dl := HD3.out.lt
 have kl := HK3.out.lt
 simp only [ga1, ga2, ga3] at d9 k0
 by_cases h1 : k < 0
 ·go_wp2
  go_returns
  exact ⟨rfl, bel⟩
 ·have h2 : (x.dn : Int) <= k := by omega
  go_wp2
  go_returns
  exact ⟨rfl, bel⟩
section
variable {x : Dt} {ds : List Dm} {w : World}
theorem bad_chains (h : DtOk w x ds) (hlk : S.look x (S.dems ds) = false) : ∀ W, Below w.heap.size w W -> Calls Tryz.prog 126 #[dtV x] W fun e w' => e = .returned (.tuple #[.slice none 0 0, .slice none 0 0, .int .i64 1]) /\ Below W.heap.size W w' :=
 fun W hw => schains_no x W (fun V hV => lvalid_any x false w.heap.size _ _ V (hw.trans (hV.mono hw.size)).size (fun U hU => bad_look h hlk U ((hw.trans (hV.mono hw.size)).trans (hU.mono (hw.trans (hV.mono hw.size)).size))))
theorem bad_sups (h : DtOk w x ds) (d : Int) (hg : S.given26 x ds d 0 ≠ 0) : ∀ W, Below w.heap.size w W -> Calls Tryz.prog 90 #[dtV x, .int .i64 d] W fun e w' => e = .returned (.tuple #[.slice none 0 0, .slice none 0 0, .int .i64 (S.given26 x ds d 0)]) /\ Below W.heap.size W w' := fun W hw => by
 unfold S.given26 at hg ⊢
 by_cases hlk : S.look x (S.dems ds) = false
 ·rw [if_pos hlk]
  exact sups_err x d 1 W rfl (fun V hV => bad_chains h hlk V (hw.trans (hV.mono hw.size)))
 ·rw [if_neg hlk] at hg ⊢
  have hlk2 : S.look x (S.dems ds) = true := by simpa using hlk
  by_cases hr : d < 0 ∨ (ds.length : Int) <= d ∨ S.place 0 = false
  ·rw [if_pos hr]
   refine sups_range x (S.cOf x) (S.nOf x) d W ?_ (fun V hV => good_chains h hlk2 V (hw.trans (hV.mono hw.size)))
   rcases hr with h1 | h1 | h1
   ·exact .inl h1
   ·exact .inr (by rw [h.dems.len] at h1; exact h1)
   ·exact absurd h1 (by decide)
  ·rw [if_neg hr] at hg
   exact absurd rfl hg
theorem bad_at (h : DtOk w x ds) (d p : Int) (hg : S.given26 x ds d p ≠ 0) : ∀ W, Below w.heap.size w W -> Calls Tryz.prog 56 #[dtV x, .int .i64 d, .int .i64 p] W fun e w' => e = .returned (.tuple #[.slice none 0 0, .slice none 0 0, .int .i64 (S.given26 x ds d p)]) /\ Below W.heap.size W w' := fun W hw => by
 by_cases hg0 : S.given26 x ds d 0 = 0
 ·unfold S.given26 at hg hg0 ⊢
  by_cases hlk : S.look x (S.dems ds) = false
  ·rw [if_pos hlk] at hg0; cases hg0
  ·rw [if_neg hlk] at hg hg0 ⊢
   have hlk2 : S.look x (S.dems ds) = true := by simpa using hlk
   by_cases hr : d < 0 ∨ (ds.length : Int) <= d ∨ S.place p = false
   ·rw [if_pos hr]
    by_cases hr0 : d < 0 ∨ (ds.length : Int) <= d ∨ S.place 0 = false
    ·rw [if_pos hr0] at hg0; cases hg0
    ·obtain ⟨m, rfl⟩ := Int.eq_ofNat_of_zero_le (show 0 <= d by omega)
     have hml : m < ds.length := by omega
     refine at_far x (S.cOf x) (S.nOf x) ds[m].zone m p W ?_ (fun V hV => good_sups h hlk2 (List.getElem?_eq_getElem hml) V (hw.trans (hV.mono hw.size)))
     have hpl : S.place p = false := by
      rcases hr with h1 | h1 | h1
      ·omega
      ·omega
      ·exact h1
     unfold S.place at hpl
     rw [Bool.and_eq_false_iff, decide_eq_false_iff_not, decide_eq_false_iff_not] at hpl
     omega
   ·rw [if_neg hr] at hg
    exact absurd rfl hg
 ·have he : S.given26 x ds d p = S.given26 x ds d 0 := by
   unfold S.given26 at hg0 ⊢
   by_cases hlk : S.look x (S.dems ds) = false
   ·rw [if_pos hlk, if_pos hlk]
   ·rw [if_neg hlk] at hg0 ⊢
    rw [if_neg hlk]
    by_cases hr : d < 0 ∨ (ds.length : Int) <= d ∨ S.place 0 = false
    ·have hr2 : d < 0 ∨ (ds.length : Int) <= d := by
      rcases hr with h1 | h1 | h1
      ·exact .inl h1
      ·exact .inr h1
      ·exact absurd h1 (by decide)
     rw [if_pos hr, if_pos (by rcases hr2 with h1 | h1; exact .inl h1; exact .inr (.inl h1))]
    ·rw [if_neg hr] at hg0
     exact absurd rfl hg0
  rw [he]
  refine at_err x d p _ W ?_ (fun V hV => bad_sups h d hg0 V (hw.trans (hV.mono hw.size)))
  simpa using hg0
theorem bad_At (h : DtOk w x ds) (d p : Int) (hg : S.given26 x ds d p ≠ 0) : ∀ W, Below w.heap.size w W -> Calls Tryz.prog 28 #[dtV x, .int .i64 d, .int .i64 p] W fun e w' => e = .returned (.tuple #[.int .i64 0, .int .i64 (S.given26 x ds d p)]) /\ Below W.heap.size W w' :=
 fun W hw => At_err x d p _ W (by simpa using hg) (fun V hV => bad_at h d p hg V (hw.trans (hV.mono hw.size)))
end
theorem area_mono {d e : Int} (h0 : 0 <= d) (h : d <= e) : S.steelArea d <= S.steelArea e := by
 unfold S.steelArea
 have h1 : d * d <= e * e := Int.mul_le_mul h h h0 (by omega)
 have e1 : 7854 * d * d = 7854 * (d * d) := Int.mul_assoc _ _ _
 have e2 : 7854 * e * e = 7854 * (e * e) := Int.mul_assoc _ _ _
 exact Int.ediv_le_ediv (by decide) (by omega)
section
variable {x : Dt} {ds : List Dm} {w : World}
theorem bad_Of (h : DtOk w x ds) (d : Int) (hg : S.given26 x ds d 0 ≠ 0) : ∀ W, Below w.heap.size w W -> Calls Tryz.prog 69 #[dtV x, .int .i64 d] W fun e w' => e = .returned (.tuple #[.slice none 0 0, .int .i64 (S.given26 x ds d 0)]) /\ Below W.heap.size W w' :=
 fun W hw => Of_err x d _ W (by simpa using hg) (fun V hV => bad_sups h d hg V (hw.trans (hV.mono hw.size)))
end
def S.leastA (rs : List Rod) (l : List Int) : Int := l.foldl (fun m b => if m = 0 ∨ S.areaI rs b < m then S.areaI rs b else m) 0
theorem leastA_next (rs : List Rod) {l : List Int} {k : Nat} (h : k < l.length) : S.leastA rs (l.take (k + 1)) = if S.leastA rs (l.take k) = 0 ∨ S.areaI rs l[k] < S.leastA rs (l.take k) then S.areaI rs l[k] else S.leastA rs (l.take k) := by
 have e : l.take (k + 1) = l.take k ++ [l[k]] := by rw [List.take_add_one, List.getElem?_eq_getElem h]; rfl
 unfold S.leastA
 rw [e, List.foldl_append]
 rfl
theorem leastA_min {x : Dt} {n : Nat} {rs : List Rod} (hla : S.laid (bars x.bs) x.rs = true) (hrs : RodsOf x n rs) {l : List Int} (hin : ∀ i, i ∈ l -> 0 <= i /\ i < (n : Int)) : ∀ k, 0 < k -> k <= l.length -> S.leastA rs (l.take k) = S.areaI rs (minBy (S.sizeI rs) (l.take k)) := by
 intro k
 induction k with
 | zero => intro h; omega
 | succ k ih =>
  intro _ hk
  have hkx : k < l.length := by omega
  obtain ⟨a1, _, a3⟩ := areaI_pos hla hrs (hin _ (List.getElem_mem hkx))
  rw [leastA_next rs hkx]
  by_cases h0 : k = 0
  ·subst h0
   have e : S.leastA rs (l.take 0) = 0 := by simp [S.leastA]
   rw [if_pos (.inl e), minBy_one _ (by omega)]
  ·have h1 := ih (by omega) (by omega)
   have hm := minBy_mem (S.sizeI rs) (xs := l) (k := k) (by omega) (by omega)
   obtain ⟨b1, _, b3⟩ := areaI_pos hla hrs (hin _ hm)
   rw [h1, minBy_next (S.sizeI rs) hkx (by omega)]
   generalize minBy (S.sizeI rs) (l.take k) = m at *
   generalize l[k] = i at *
   have s1 : 0 <= S.sizeI rs i := by rcases size_cases a3 with h | h | h | h | h | h | h | h | h <;> omega
   have s2 : 0 <= S.sizeI rs m := by rcases size_cases b3 with h | h | h | h | h | h | h | h | h <;> omega
   by_cases hlt : S.sizeI rs i < S.sizeI rs m
   ·have hle : S.areaI rs i <= S.areaI rs m := area_mono s1 (by omega)
    rw [if_pos hlt]
    split
    ·rfl
    ·rename_i hn
     have : ¬ S.areaI rs i < S.areaI rs m := fun h => hn (.inr h)
     omega
   ·have hle : S.areaI rs m <= S.areaI rs i := area_mono s2 (by omega)
    rw [if_neg hlt, if_neg (by omega)]
theorem leastA_all {x : Dt} {n : Nat} {rs : List Rod} (hla : S.laid (bars x.bs) x.rs = true) (hrs : RodsOf x n rs) {l : List Int} (hin : ∀ i, i ∈ l -> 0 <= i /\ i < (n : Int)) (h0 : 0 < l.length) : S.leastA rs l = (S.schOf x rs l).area := by
 have := leastA_min hla hrs hin l.length h0 (Nat.le_refl _)
 rw [List.take_length] at this
 exact this
theorem wp_copy_block {P : Program} {id : Nat} {Q : Exit -> Act -> World -> Prop} {a : Act} {w : World} {o1 o2 o3 : Oper} (g1 : o1.guard = none) (g2 : o2.guard = none) (g3 : o3.guard = none) (T : TypeId) (x y z : Operand) (b : Nat) (cs Z : List Value) (d : TypeDesc)
 (h1 : o1.op = .load T x) (hx : a.eval x = .pointer (some ⟨b, 0, none⟩)) (hc : w.rangeAt b 0 cs) (hu : P.underlying T = some d) (hd : d.isRow = true) (hi : (P.info? T).map (·.size) = some cs.length)
 (h2 : (execOp (a.put o1.dst (.agg cs.toArray)).eval o2).run P w = .ok (.value (.pointer (some ⟨w.heap.size, 0, none⟩))) (w.alloc (.cells Z.toArray T))) (hZ : Z.length = cs.length)
 (h3 : o3.op = .store T y z) (hy : ((a.put o1.dst (.agg cs.toArray)).put o2.dst (.pointer (some ⟨w.heap.size, 0, none⟩))).eval y = .pointer (some ⟨w.heap.size, 0, none⟩)) (hz : ((a.put o1.dst (.agg cs.toArray)).put o2.dst (.pointer (some ⟨w.heap.size, 0, none⟩))).eval z = .agg cs.toArray)
 (hone : cs.toArray.all (·.oneCell') = true)
 (h : ∀ W, Blk W w.heap.size T cs.toArray -> Below w.heap.size w W -> Q .normal (((a.put o1.dst (.agg cs.toArray)).put o2.dst (.pointer (some ⟨w.heap.size, 0, none⟩))).put o3.dst undef) W) :
 (Code.region id #[o1, o2, o3] false).wp P Q a w := by
 refine wp_region_list ?_
 refine wpList_load_mid g1 T x h1 b 0 hx cs d hc hu hd hi ?_
 refine wpList_plain g2 fun K hK => ?_
 unfold Oper.wp
 rw [h2]
 refine hK _ _ ?_
 have hB := Blk.new w T Z.toArray
 have hsz : cs.toArray.size = Z.toArray.size := by simp [hZ]
 refine wpList_store_mid g3 T y z h3 w.heap.size 0 cs.toArray hy hz (hB.there (by omega)) (by simpa using hi) hone ?_
 refine wpList_nil (h _ ?_ ?_)
 ·have := hB.put0 cs.toArray hsz
  exact this
 ·exact (ba_alloc (Below.refl _ _) _).trans ((exc_setCells w.heap.size _ 0 _).below (by simp) (by intro g hg; simp at hg; omega))
theorem stp_ext {a b : Stp} (h1 : a.fro = b.fro) (h2 : a.val = b.val) : a = b := by cases a; cases b; simp_all
theorem Two.drewN {s : Nat} {W0 w : World} {x y : Nat} (h : Two s W0 w x y) (n : Nat) : Two s W0 (w.drewN n) x y := ⟨h.fst, h.snd, h.exc.drewN n⟩
end Go.Proofs.YtmfpbafpnoomeaaGreat
