/- Lemmas. -/
import Derived.OrdersHeld
import Derived.Test.YtmfpbafpnoomeaaGreatMW
import Derived.Test.YtmfpbafpnoomeaaGreatMQ
import Derived.Test.YtmfpbafpnoomeaaGreatMT
set_option linter.unusedVariables false
set_option linter.unusedSimpArgs false
namespace Go.Proofs.YtmfpbafpnoomeaaGreat
open Go.RowKit
def S.isMainB (b : Bx) : Bool := decide (b.lo.x < b.hi.x) && decide (b.lo.y = b.hi.y) && decide (b.lo.z = b.hi.z)
theorem Main_any (b : Bx) (w : World) :
 Calls Tryz.prog 195 #[boxV b] w fun e w' => e = .returned (.bool (S.isMainB b)) /\ Below w.heap.size w w' := by
 have H := lh (show S.isMainB b = (decide (b.lo.x < b.hi.x) && decide (b.lo.y = b.hi.y) && decide (b.lo.z = b.hi.z)) from rfl)
 unfold boxV
 go_enter Tryz.func195, Tryz.ntmps195
 go_wp2
 all_goals (go_ret; exact ⟨ret_b (by rw [H.out, Bool.eq_iff_iff]; all_goals (first | (simp at *; done) | (simp at *; omega))), bel⟩)
theorem mainleg_any (A : Option Addr) (n c : Nat) (xs : List Bx) (B : Nat) (w : World) (hn : xs.length = n) (hm : n <= 9223372036854775807) (hB : B <= w.heap.size) (hs : Cells w B A (xs.flatMap boxC)) :
 Calls Tryz.prog 148 #[.slice A n c] w fun e w' => e = .returned (.int .i64 (idxf xs S.isMainB)) /\ Below w.heap.size w w' := by
 have HN := lh hn
 clear hn
 go_enter Tryz.func148, Tryz.ntmps148
 go_wp2
 go_loopw [3] (fun i wr => ∃ k : Nat, k <= n /\ i = .int .i64 k /\ Hid (∀ j (h : j < xs.length), j < k -> S.isMainB xs[j] = false) /\ Below w.heap.size w wr) (fun i _ => n - (intOf i).toNat)
 case atStart => exact ⟨0, Nat.zero_le _, rfl, lh fun j _ hj => absurd hj (by omega), Below.refl _ _⟩
 case round =>
  obtain ⟨k, hk, rfl, HNO, hbr⟩ := hrel
  by_cases hlt : k < n
  ·have hki : (k : Int) < (n : Int) := by omega
   have hkx : k < xs.length := by have := HN.out; omega
   have hs' := hs.below (hbr.mono hB)
   obtain ⟨b, o, rfl, _, _⟩ := hs'.at_ (by rw [flat_len boxC 6 boxC_len]; omega)
   obtain ⟨c0, c1, c2, c3, c4, c5⟩ := hs'.boxes (List.getElem?_eq_getElem hkx)
   have HT := lh (Main_any xs[k])
   have HX := lh (fun hx => idxf_hit (p := S.isMainB) hkx hx HNO.out)
   generalize hq : S.isMainB xs[k] = q at *
   have HQ := lh hq
   clear hq
   cases q
   ·go_wp2_with (go_at_call 195; (with_reducible refine (HT.out _).mono ?_); rintro e w1 ⟨rfl, hbw1⟩; obtain ⟨hcw1, hfw1⟩ := bcell hbw1)
    go_roundw
    case rel =>
     refine ⟨k + 1, by omega, by go_num, lh fun j hj hjk => ?_, ba_via hbw1 hbr⟩
     by_cases hjk' : j = k
     ·subst hjk'; exact HQ.out
     ·exact HNO.out j hj (by omega)
    case measure => simp [intOf]; omega
   ·go_wp2_with (go_at_call 195; (with_reducible refine (HT.out _).mono ?_); rintro e w1 ⟨rfl, hbw1⟩; obtain ⟨hcw1, hfw1⟩ := bcell hbw1)
    go_ret
    exact ⟨ret_i (HX.out trivial).symm, ba_via hbw1 hbr⟩
  ·have HX := lh (idxf_miss (p := S.isMainB) (xs := xs) fun j hj => HNO.out j hj (by have := HN.out; omega))
   go_wp2
   go_ret
   exact ⟨ret_i HX.out.symm, hbr⟩
theorem quietBy {w : World} {b o : Nat} {cs : List Value} (h : ∀ W, Below w.heap.size w W -> W.rangeAt b o cs) : ∀ W, (∃ g, W = grow w g) -> W.rangeAt b o cs := by
 rintro W ⟨g, rfl⟩
 exact h _ (grow_below _ _)
theorem quietLoad {P : Program} {ops : Array Oper} {C : World -> Prop} {Q : Act -> Prop} {rest : List Oper} {op : Oper} {a : Act} (hw : Region.wanted op (yielded ops a.tmps) = true) (ty : TypeId) (x : Operand) (ho : op.op = .load ty x)
 (b o : Nat) (hx : a.eval x = .pointer (some ⟨b, o, none⟩)) (cs : List Value) (d : TypeDesc) (hS : ∀ w, C w -> w.rangeAt b o cs)
 (hu : P.underlying ty = some d) (hd : d.isRow = true) (hi : (P.info? ty).map (·.size) = some cs.length)
 (h : ∀ a', a.put op.dst (.agg cs.toArray) = a' -> wpQuiet P ops C Q rest a') : wpQuiet P ops C Q (op :: rest) a := by
 unfold wpQuiet
 rw [if_pos hw]
 refine ⟨.agg cs.toArray, fun w hw' => ?_, h _ rfl⟩
 unfold Oper.quietAt execOp
 simp only [ho, hx, Instr.loadAt, Instr.sureAddr, Sem.run_bind, Sem.run_pure, Result.andThen_ok, run_loadVar_mid w b o ty cs d (hS w hw') hu hd hi]
 exact ⟨rfl, rfl⟩
def S.ptBox (p : Pt) : Bx := ⟨p, p⟩
theorem join_self (p : Pt) : S.join (S.ptBox p) (S.ptBox p) = S.ptBox p := by simp [S.join, S.ptBox]
theorem hull_one (p : Pt) : S.hull (S.ptBox p) [S.ptBox p] = S.ptBox p := join_self p
set_option maxRecDepth 100000 in
set_option maxHeartbeats 2000000 in
theorem rhull_any (A : Option Addr) (n c : Nat) (ps : List Pt) (p0 : Pt) (B : Nat) (w : World) (hn : ps.length = n) (hm : n <= 1000000) (hB : B <= w.heap.size) (hs : Cells w B A (ps.flatMap ptC)) (h0 : ps[0]? = some p0) :
 Calls Tryz.prog 194 #[.slice A n c] w fun e w' => e = .returned (boxV (S.hull (S.ptBox p0) (ps.map S.ptBox))) /\ Below w.heap.size w w' := by
 have hn0 : 0 < n := by have := (List.getElem?_eq_some_iff.1 h0).1; omega
 have hni : (0 : Int) < (n : Int) := by omega
 have HN := lh hn
 have HS := lh hs
 have hh1 : (ps.map S.ptBox).take 1 = [S.ptBox p0] := by
  obtain ⟨x, l, rfl⟩ : ∃ x l, ps = x :: l := by cases ps with
   | nil => simp at h0
   | cons x l => exact ⟨x, l, rfl⟩
  simp at h0
  subst h0
  simp
 have HH1 := lh hh1
 obtain ⟨b, o, rfl, hb, _⟩ := hs.at_ (by rw [flat_len ptC 3 ptC_len]; omega)
 obtain ⟨c0, c1, c2⟩ := hs.pts h0
 simp only [Nat.zero_mul, Nat.add_zero] at c0 c1 c2
 have hbw : b < w.heap.size := by omega
 clear hn hs h0 hh1
 go_enter Tryz.func194, Tryz.ntmps194
 go_wp2
 go_region
 go_wp2
 have hW : Below w.heap.size w ((w.alloc (.cells #[.int .i64 0, .int .i64 0, .int .i64 0, .int .i64 0, .int .i64 0, .int .i64 0] 78)).alloc (.cells #[.int .i64 p0.x, .int .i64 p0.y, .int .i64 p0.z, .int .i64 p0.x, .int .i64 p0.y, .int .i64 p0.z] 78)).drew := bel
 have hK0 : Blk ((w.alloc (.cells #[.int .i64 0, .int .i64 0, .int .i64 0, .int .i64 0, .int .i64 0, .int .i64 0] 78)).alloc (.cells #[.int .i64 p0.x, .int .i64 p0.y, .int .i64 p0.z, .int .i64 p0.x, .int .i64 p0.y, .int .i64 p0.z] 78)).drew (w.heap.size + 1) 78 #[.int .i64 p0.x, .int .i64 p0.y, .int .i64 p0.z, .int .i64 p0.x, .int .i64 p0.y, .int .i64 p0.z] := by
  have h6 : Blk ((w.alloc (.cells #[.int .i64 0, .int .i64 0, .int .i64 0, .int .i64 0, .int .i64 0, .int .i64 0] 78)).alloc (.cells #[.int .i64 p0.x, .int .i64 p0.y, .int .i64 p0.z, .int .i64 p0.x, .int .i64 p0.y, .int .i64 p0.z] 78)) (w.heap.size + 1) 78 #[.int .i64 p0.x, .int .i64 p0.y, .int .i64 p0.z, .int .i64 p0.x, .int .i64 p0.y, .int .i64 p0.z] := by simpa using Blk.new (w.alloc (.cells #[.int .i64 0, .int .i64 0, .int .i64 0, .int .i64 0, .int .i64 0, .int .i64 0] 78)) 78 #[.int .i64 p0.x, .int .i64 p0.y, .int .i64 p0.z, .int .i64 p0.x, .int .i64 p0.y, .int .i64 p0.z]
  exact h6
 have hR0 : Blk ((w.alloc (.cells #[.int .i64 0, .int .i64 0, .int .i64 0, .int .i64 0, .int .i64 0, .int .i64 0] 78)).alloc (.cells #[.int .i64 p0.x, .int .i64 p0.y, .int .i64 p0.z, .int .i64 p0.x, .int .i64 p0.y, .int .i64 p0.z] 78)).drew w.heap.size 78 #[.int .i64 0, .int .i64 0, .int .i64 0, .int .i64 0, .int .i64 0, .int .i64 0] := (Blk.new w _ _).alloc _
 have hC1 := HS.out.below (hW.mono hB)
 have hzW : ((w.alloc (.cells #[.int .i64 0, .int .i64 0, .int .i64 0, .int .i64 0, .int .i64 0, .int .i64 0] 78)).alloc (.cells #[.int .i64 p0.x, .int .i64 p0.y, .int .i64 p0.z, .int .i64 p0.x, .int .i64 p0.y, .int .i64 p0.z] 78)).drew.heap.size = w.heap.size + 2 := by simp
 have HR0 := lh hR0
 clear c0 c1 c2 hR0
 generalize ((w.alloc (.cells #[.int .i64 0, .int .i64 0, .int .i64 0, .int .i64 0, .int .i64 0, .int .i64 0] 78)).alloc (.cells #[.int .i64 p0.x, .int .i64 p0.y, .int .i64 p0.z, .int .i64 p0.x, .int .i64 p0.y, .int .i64 p0.z] 78)).drew = W1 at *
 go_loopw [4] (fun i wr => ∃ k : Nat, 1 <= k /\ k <= n /\ i = .int .i64 k /\ Blk wr (w.heap.size + 1) 78 #[.int .i64 (S.hull (S.ptBox p0) ((ps.map S.ptBox).take k)).lo.x, .int .i64 (S.hull (S.ptBox p0) ((ps.map S.ptBox).take k)).lo.y, .int .i64 (S.hull (S.ptBox p0) ((ps.map S.ptBox).take k)).lo.z, .int .i64 (S.hull (S.ptBox p0) ((ps.map S.ptBox).take k)).hi.x, .int .i64 (S.hull (S.ptBox p0) ((ps.map S.ptBox).take k)).hi.y, .int .i64 (S.hull (S.ptBox p0) ((ps.map S.ptBox).take k)).hi.z] /\ Exc [w.heap.size + 1] W1 wr) (fun i _ => n - (intOf i).toNat)
 case atStart => exact ⟨1, Nat.le_refl _, by omega, rfl, by rw [HH1.out, hull_one]; exact hK0, Exc.refl _ _⟩
 case round =>
  obtain ⟨k, hk1, hk, rfl, hK, hX⟩ := hrel
  have hsz := hX.size
  have hgr := hK.lt
  have k0 := hK.cell 0
  have k1 := hK.cell 1
  have k2 := hK.cell 2
  have k3 := hK.cell 3
  have k4 := hK.cell 4
  have k5 := hK.cell 5
  have f0 := hK.frozen 0
  have f1 := hK.frozen 1
  have f2 := hK.frozen 2
  have f3 := hK.frozen 3
  have f4 := hK.frozen 4
  have f5 := hK.frozen 5
  simp only [ga1, ga2, ga3] at k0 k1 k2 k3 k4 k5
  by_cases hlt : k < n
  ·have hkx : k < ps.length := by have := HN.out; omega
   obtain ⟨c0, c1, c2⟩ := (hC1.below (hX.below (by have := hW.size; omega) (by intro x hx; simp at hx; omega))).pts (List.getElem?_eq_getElem hkx)
   have HT := lh (show S.hull (S.ptBox p0) ((ps.map S.ptBox).take (k + 1)) = S.join (S.hull (S.ptBox p0) ((ps.map S.ptBox).take k)) (S.ptBox ps[k]) by rw [List.take_succ_eq_append_getElem (by simpa using hkx), hull_snoc, List.getElem_map])
   have hbr : b < wr.heap.size := by omega
   generalize (S.hull (S.ptBox p0) ((ps.map S.ptBox).take k)) = Hk at *
   generalize ps[k] = Y at *
   have hki : (k : Int) < (n : Int) := by omega
   go_wp2
   go_roundw
   case rel =>
    refine ⟨k + 1, by omega, by omega, by go_num, ?_, ?_⟩
    ·rw [HT.out]
     have h6 := ((((((hK.set 0 (.int .i64 (S.join Hk (S.ptBox Y)).lo.x)).set 1 (.int .i64 (S.join Hk (S.ptBox Y)).lo.y)).set 2 (.int .i64 (S.join Hk (S.ptBox Y)).lo.z)).set 3 (.int .i64 (S.join Hk (S.ptBox Y)).hi.x)).set 4 (.int .i64 (S.join Hk (S.ptBox Y)).hi.y)).set 5 (.int .i64 (S.join Hk (S.ptBox Y)).hi.z)).alloc (.cells #[.int .i64 Y.x, .int .i64 Y.y, .int .i64 Y.z] 76)
     simp only [List.setIfInBounds_toArray, List.set_cons_zero, List.set_cons_succ] at h6
     exact h6
    ·exact ((((((hX.set (.inl (by simp)) _).set (.inl (by simp)) _).set (.inl (by simp)) _).set (.inl (by simp)) _).set (.inl (by simp)) _).set (.inl (by simp)) _).alloc _
   case measure => simp [intOf]; omega
  ·have he : k = n := by omega
   subst he
   have ht : (ps.map S.ptBox).take k = ps.map S.ptBox := List.take_of_length_le (by have := HN.out; simp; omega)
   rw [ht] at k0 k1 k2 k3 k4 k5
   have hRr : Blk wr w.heap.size 78 #[.int .i64 0, .int .i64 0, .int .i64 0, .int .i64 0, .int .i64 0, .int .i64 0] := (hX.block w.heap.size (by omega) (by simp)).trans HR0.out
   have z0 := hRr.cell 0
   have z1 := hRr.cell 1
   have z2 := hRr.cell 2
   have z3 := hRr.cell 3
   have z4 := hRr.cell 4
   have z5 := hRr.cell 5
   have y0 := hRr.frozen 0
   have y1 := hRr.frozen 1
   have y2 := hRr.frozen 2
   have y3 := hRr.frozen 3
   have y4 := hRr.frozen 4
   have y5 := hRr.frozen 5
   simp only [ga1, ga2, ga3] at z0 z1 z2 z3 z4 z5
   have hrl := hRr.lt
   have hbel : Below w.heap.size w wr := hW.trans (hX.below (by omega) (by intro x hx; simp at hx; omega))
   clear hRr
   generalize hH : S.hull (S.ptBox p0) (ps.map S.ptBox) = Hk at *
   have HH := lh hH
   clear hH
   go_wp2
   exact bodyPost_ret (v := boxV Hk) (by simp [results, Tryz.results194, go_sem, *]) rfl ⟨by rw [HH.out], ((((((hbel.setCell (Nat.le_refl _) _).setCell (Nat.le_refl _) _).setCell (Nat.le_refl _) _).setCell (Nat.le_refl _) _).setCell (Nat.le_refl _) _).setCell (Nat.le_refl _) _)⟩
def S.legB (p q : Pt) : Bx := S.join (S.ptBox p) (S.ptBox q)
def S.ptD (l : List Pt) (k : Nat) : Pt := (l[k]?).getD ⟨0, 0, 0⟩
def S.legsTo (l : List Pt) (m : Nat) : List Bx := (List.range m).map fun k => S.legB (S.ptD l k) (S.ptD l (k + 1))
def S.legsL (l : List Pt) : List Bx := S.legsTo l (l.length - 1)
theorem legsTo_len (l : List Pt) (m : Nat) : (S.legsTo l m).length = m := by simp [S.legsTo]
theorem legsTo_snoc (l : List Pt) (m : Nat) : S.legsTo l (m + 1) = S.legsTo l m ++ [S.legB (S.ptD l m) (S.ptD l (m + 1))] := by simp [S.legsTo, List.range_succ]
theorem hull_two (p q : Pt) : S.hull (S.ptBox p) [S.ptBox p, S.ptBox q] = S.legB p q := by
 show S.join (S.join (S.ptBox p) (S.ptBox p)) (S.ptBox q) = _
 rw [join_self]
 rfl
theorem mnmx_eq (p q : Int) : (if q < p then q else p) = (if p < q then q else p) ↔ p = q := by
 split <;> split <;> omega
theorem mnmx_lt (p q : Int) : (if q < p then q else p) < (if p < q then q else p) ↔ p ≠ q := by
 split <;> split <;> omega
theorem isMainB_iff {b : Bx} : S.isMainB b = true ↔ b.lo.x < b.hi.x /\ b.lo.y = b.hi.y /\ b.lo.z = b.hi.z := by simp [S.isMainB, and_assoc]
theorem isMain_iff2 {p q : Pt} : S.isMain p q = true ↔ p.x ≠ q.x /\ p.y = q.y /\ p.z = q.z := by simp [S.isMain, and_assoc]
theorem legB_main (p q : Pt) : S.isMainB (S.legB p q) = S.isMain p q := by
 rw [Bool.eq_iff_iff, isMainB_iff, isMain_iff2]
 show (if q.x < p.x then q.x else p.x) < (if p.x < q.x then q.x else p.x) /\ (if q.y < p.y then q.y else p.y) = (if p.y < q.y then q.y else p.y) /\ (if q.z < p.z then q.z else p.z) = (if p.z < q.z then q.z else p.z) ↔ _
 rw [mnmx_lt, mnmx_eq, mnmx_eq]
theorem legB_box {p q : Pt} (h : S.isMain p q = true) : S.legB p q = S.legBx p q := by
 simp only [S.isMain, Bool.and_eq_true, decide_eq_true_eq, bne_iff_ne] at h
 obtain ⟨⟨h1, h2⟩, h3⟩ := h
 obtain ⟨px, py, pz⟩ := p
 obtain ⟨qx, qy, qz⟩ := q
 simp only [] at h1 h2 h3
 subst h2 h3
 simp only [S.legB, S.join, S.ptBox, S.legBx, S.lmn, S.lmx, Bx.mk.injEq, Pt.mk.injEq]
 simp
 exact ⟨rfl, rfl⟩
theorem mainTo_leg {l : List Pt} : ∀ {m : Nat}, m < l.length -> (S.mainTo l m = none -> ∀ k, k < m -> S.isMainB (S.legB (S.ptD l k) (S.ptD l (k + 1))) = false) /\
 (∀ b, S.mainTo l m = some b -> ∃ j, j < m /\ S.legB (S.ptD l j) (S.ptD l (j + 1)) = b /\ S.isMainB b = true /\ ∀ k, k < j -> S.isMainB (S.legB (S.ptD l k) (S.ptD l (k + 1))) = false) := by
 intro m
 induction m with
 | zero => intro _; exact ⟨fun _ k hk => absurd hk (by omega), fun b h => by simp [S.mainTo] at h⟩
 | succ m ih =>
  intro hm
  obtain ⟨ih1, ih2⟩ := ih (by omega)
  have hp : l[m]? = some (S.ptD l m) := by simp [S.ptD, List.getElem?_eq_getElem (show m < l.length by omega)]
  have hq : l[m + 1]? = some (S.ptD l (m + 1)) := by simp [S.ptD, List.getElem?_eq_getElem hm]
  cases hc : S.mainTo l m with
  | some b =>
   have hs := mainTo_stay hc (m + 1) (by omega)
   refine ⟨fun h => (by rw [hs] at h; cases h), fun b' h => ?_⟩
   rw [hs] at h
   injection h with h
   subst h
   obtain ⟨j, h1, h2⟩ := ih2 b hc
   exact ⟨j, by omega, h2⟩
  | none =>
   have hs := mainTo_succ hc hp hq
   have hno := ih1 hc
   by_cases hx : S.isMain (S.ptD l m) (S.ptD l (m + 1)) = true
   ·rw [if_pos hx] at hs
    refine ⟨fun h => (by rw [hs] at h; cases h), fun b h => ?_⟩
    rw [hs] at h
    injection h with h
    subst h
    exact ⟨m, by omega, legB_box hx, by rw [<- legB_box hx, legB_main]; exact hx, hno⟩
   ·rw [if_neg hx] at hs
    refine ⟨fun _ k hk => ?_, fun b h => by rw [hs] at h; cases h⟩
    by_cases hkm : k = m
    ·subst hkm; rw [legB_main]; simpa using hx
    ·exact hno k (by omega)
theorem legsL_get {l : List Pt} {k : Nat} (hk : k < l.length - 1) : (S.legsL l)[k]? = some (S.legB (S.ptD l k) (S.ptD l (k + 1))) := by
 unfold S.legsL S.legsTo
 rw [List.getElem?_map, List.getElem?_range hk]
 rfl
theorem main_none {l : List Pt} (hl : 0 < l.length) (h : S.mainLeg l = none) : idxf (S.legsL l) S.isMainB = -1 := by
 have h1 := (mainTo_leg (l := l) (m := l.length - 1) (by omega)).1 h
 refine idxf_miss (fun j hj => ?_)
 have hj' : j < l.length - 1 := by simpa [S.legsL, legsTo_len] using hj
 have := legsL_get hj'
 rw [List.getElem?_eq_getElem hj] at this
 injection this with this
 rw [this]
 exact h1 j hj'
theorem main_some {l : List Pt} {b : Bx} (hl : 0 < l.length) (h : S.mainLeg l = some b) : ∃ j : Nat, idxf (S.legsL l) S.isMainB = (j : Int) /\ (S.legsL l)[j]? = some b /\ j < l.length - 1 := by
 obtain ⟨j, hj, h1, h2, h3⟩ := (mainTo_leg (l := l) (m := l.length - 1) (by omega)).2 b h
 have hg := legsL_get hj
 obtain ⟨hj', he⟩ := List.getElem?_eq_some_iff.1 hg
 refine ⟨j, idxf_hit hj' (by rw [he, h1]; exact h2) (fun k hk hkj => ?_), by rw [hg, h1], hj⟩
 have hk' : k < l.length - 1 := by omega
 have := legsL_get hk'
 rw [List.getElem?_eq_getElem hk] at this
 injection this with this
 rw [this]
 exact h3 k hkj
theorem Blk.there {w : World} {g : Nat} {t : TypeId} {cs : Array Value} (h : Blk w g t cs) {n : Nat} (hn : n <= cs.size) : w.there g 0 n := fun j hj => ⟨by rw [Nat.zero_add, h.cell]; simp; omega, h.frozen _⟩
theorem Blk.put {t : TypeId} {g : Nat} : ∀ (vs : List Value) (o : Nat) (w : World) (cs : Array Value), Blk w g t cs -> o + vs.length <= cs.size ->
 ∃ cs', Blk (w.setCells g o vs) g t cs' /\ cs'.size = cs.size /\ ∀ j, cs'[j]? = if o <= j /\ j < o + vs.length then vs[j - o]? else cs[j]? := by
 intro vs
 induction vs with
 | nil => intro o w cs h _; exact ⟨cs, h, rfl, fun j => by rw [if_neg (by simp)]⟩
 | cons v r ih =>
  intro o w cs h hl
  simp only [List.length_cons] at hl
  obtain ⟨cs', h1, h2, h3⟩ := ih (o + 1) _ _ (h.set o v) (by simp; omega)
  refine ⟨cs', h1, by simpa using h2, fun j => ?_⟩
  rw [h3 j, Array.getElem?_setIfInBounds]
  simp only [List.length_cons]
  by_cases e : o = j
  ·subst e
   rw [if_neg (by omega), if_pos rfl, if_pos (by omega), if_pos (by omega), Nat.sub_self]
   rfl
  ·by_cases e2 : o + 1 <= j /\ j < o + 1 + r.length
   ·rw [if_pos e2, if_pos (by omega)]
    obtain ⟨m, rfl⟩ : ∃ m, j = o + 1 + m := ⟨j - (o + 1), by omega⟩
    rw [show o + 1 + m - (o + 1) = m by omega, show o + 1 + m - o = m + 1 by omega]
    rfl
   ·rw [if_neg e2, if_neg e, if_neg (by omega)]
theorem Blk.put0 {t : TypeId} {g : Nat} {w : World} {cs : Array Value} (h : Blk w g t cs) (vs : Array Value) (hl : vs.size = cs.size) : Blk (w.setCells g 0 vs.toList) g t vs := by
 obtain ⟨cs', h1, h2, h3⟩ := Blk.put vs.toList 0 w cs h (by simp; omega)
 have : cs' = vs := by
  apply Array.ext_getElem?
  intro j
  rw [h3 j]
  by_cases hj : j < vs.size
  ·rw [if_pos ⟨by omega, by simpa using hj⟩]
   simp
  ·rw [if_neg (by simp; omega), Array.getElem?_eq_none (by omega), Array.getElem?_eq_none (by omega)]
 rw [this] at h1
 exact h1
end Go.Proofs.YtmfpbafpnoomeaaGreat
namespace Go.Proofs.YtmfpbafpnoomeaaGreat
open Go.ChangeShapes Go.WideShapes Go.ChangeAt Go.RowKit
section
variable {H : Type} {enc : TypeId × Value -> H} {w : World} {base : Nat} {sp : Nat -> Bool} {hd : Bool}
theorem cellsInts : Tryz.prog.cellsOf 108 = 1 := by kernel_rfl
theorem cellsBar : Tryz.prog.cellsOf 138 = 5 := by kernel_rfl
theorem opn_ints {fuel : Nat} {cs : List Value} {y : Option (DataW H × List MemPlace)} (h : DataW.trod enc Tryz.prog w base sp hd fuel 108 cs = y) (hy : y.isSome = true) :
 ∃ (A : Option Addr) (n c : Nat) (xs : List Int), cs = [.slice A n c] /\ xs.length = n /\ n <= c /\ c <= maxLen /\ Cells w w.heap.size A (i64s xs) /\ ∀ x, x ∈ xs -> I64 x := by
 obtain ⟨z, rfl⟩ := Option.isSome_iff_exists.1 hy
 rcases open_ints Tryz.underlying108 Tryz.underlying3 cellsInt h with ⟨rfl, _⟩ | ⟨a, len, cap, zs, rfl, _, hl, hm, hz, _, hc, hw⟩
 ·exact ⟨none, 0, 0, [], rfl, rfl, Nat.le_refl _, Nat.zero_le _, .inl rfl, by simp⟩
 ·have hlz : len <= zs.length := by rw [hz]; split <;> omega
  refine ⟨some a, len, cap, zs.take len, rfl, by simp; omega, hl, hm, ?_, fun x hx => bounds_i64 (hw x (List.mem_of_mem_take hx))⟩
  by_cases h0 : len = 0
  ·left; simp [h0]
  ·right
   have h1 := hc 0 (by omega)
   have hsp : a.spot = none := by
    unfold World.cell? at h1
    split at h1
    ·split at h1
     ·cases h1
     ·rename_i hn
      simpa [Addr.add] using hn
    ·cases h1
   have hlt : a.block < w.heap.size := by
    unfold World.cell? at h1
    split at h1
    ·rename_i hh
     exact (Array.getElem?_eq_some_iff.1 hh).1
    ·cases h1
   obtain ⟨bb, o, s⟩ := a
   cases hsp
   refine ⟨bb, o, rfl, hlt, fun j v hv => ?_⟩
   have hj : j < len := by
    obtain ⟨hj, _⟩ := List.getElem?_eq_some_iff.1 hv
    simp at hj
    omega
   have h2 := hc j (by omega)
   have h3 : (i64s (zs.take len))[j]? = some (.int .i64 (zs.getD j 0)) := by
    simp [hj, List.getElem?_eq_getElem (show j < zs.length by omega)]
   rw [h3] at hv
   injection hv with hv
   subst hv
   have e : (Addr.add ⟨bb, o, none⟩ j) = ⟨bb, o + j, none⟩ := by unfold Addr.add; split <;> simp_all
   rw [e] at h2
   exact h2
theorem len5 {α : Type} {l : List α} (h : l.length = 5) : ∃ a b c d e, l = [a, b, c, d, e] := by
 match l, h with
 | [a, b, c, d, e], _ => exact ⟨a, b, c, d, e, rfl⟩
structure BarI (b : Bar) : Prop where
 size : I64 b.size
 count : I64 b.count
 code : I64 b.code
 dims : ∀ x, x ∈ b.dims -> I64 x
theorem open_bar {fuel : Nat} {cs : List Value} {x : DataW H × List MemPlace} (h : DataW.trod enc Tryz.prog w base sp hd fuel 138 cs = some x) :
 ∃ (b : Bar) (A : Option Addr) (n c : Nat), cs = (barV b A n c).cells.toList /\ BarAt w w.heap.size A n b /\ n <= c /\ c <= maxLen /\ BarI b := by
 obtain ⟨xs, n, _, _, hl, hxl, hg⟩ := DataW.trod_struct Tryz.underlying138 h
 rw [cellsBar] at hl
 obtain ⟨c0, c1, c2, c3, c4, rfl⟩ := len5 hl
 have hs : ∀ i, i < 5 -> xs[i]?.isSome = true := fun i hi => by
  have : xs.length = 5 := hxl
  simp [this, hi]
 obtain ⟨n0, e0, b0⟩ := opn_str (hg 0 _ rfl) (hs 0 (by decide))
 obtain ⟨n1, e1, b1⟩ := opn_int (hg 1 _ rfl) (hs 1 (by decide))
 obtain ⟨n2, e2, b2⟩ := opn_int (hg 2 _ rfl) (hs 2 (by decide))
 obtain ⟨n3, e3, b3⟩ := opn_int (hg 3 _ rfl) (hs 3 (by decide))
 obtain ⟨A, m, c, zs, e4, hz, hmc, hcm, hcl, hzi⟩ := opn_ints (hg 4 _ rfl) (hs 4 (by decide))
 simp [cellsInt, cellsStr, cellsInts] at e0 e1 e2 e3 e4
 subst e0 e1 e2 e3 e4
 have hmx : maxLen <= 9223372036854775807 := by unfold maxLen; decide
 exact ⟨⟨n0, n1, n2, n3, zs⟩, A, m, c, rfl, ⟨hz, by omega, by show n0.size <= _; omega, hcl⟩, hmc, hcm, ⟨b1, b2, b3, hzi⟩⟩
end
end Go.Proofs.YtmfpbafpnoomeaaGreat
