/- Lemmas. -/
import Derived.Test.YtmfpbafpnoomeaaGreatMB
set_option linter.unusedVariables false
set_option linter.unusedSimpArgs false
namespace Go.Proofs.YtmfpbafpnoomeaaGreat
open Go.RowKit
def AsksB (w : World) (F : Nat) (fst cap : Array Value) (p : Bx -> Bool) : Prop :=
 ∀ (x : Bx) (w' : World), Below w.heap.size w w' -> Calls Tryz.prog F (fst.push (boxV x) ++ cap) w' fun e w'' => e = .returned (.bool (p x)) /\ Below w'.heap.size w' w''
theorem Cells.boxes {w : World} {B bb o : Nat} {l : List Bx} (h : Cells w B (some ⟨bb, o, none⟩) (l.flatMap boxC)) {k : Nat} {p : Bx} (hk : l[k]? = some p) :
 w.cell? ⟨bb, o + k * 6, none⟩ = some (.int .i64 p.lo.x) /\ w.cell? ⟨bb, o + k * 6 + 1, none⟩ = some (.int .i64 p.lo.y) /\ w.cell? ⟨bb, o + k * 6 + 2, none⟩ = some (.int .i64 p.lo.z) /\
 w.cell? ⟨bb, o + k * 6 + 3, none⟩ = some (.int .i64 p.hi.x) /\ w.cell? ⟨bb, o + k * 6 + 4, none⟩ = some (.int .i64 p.hi.y) /\ w.cell? ⟨bb, o + k * 6 + 5, none⟩ = some (.int .i64 p.hi.z) := by
 obtain ⟨hk', rfl⟩ := List.getElem?_eq_some_iff.1 hk
 exact ⟨h.row0 boxC_len hk' rfl, h.rowj boxC_len hk' 1 rfl, h.rowj boxC_len hk' 2 rfl, h.rowj boxC_len hk' 3 rfl, h.rowj boxC_len hk' 4 rfl, h.rowj boxC_len hk' 5 rfl⟩
theorem indexfB_any (F : Nat) (fst cap : Array Value) (p : Bx -> Bool) (A : Option Addr) (n c : Nat) (xs : List Bx) (B : Nat) (w : World) (hn : xs.length = n) (hm : n <= 9223372036854775807) (hB : B <= w.heap.size)
 (hs : Cells w B A (xs.flatMap boxC)) (hF : ∀ args w, Sem.run Tryz.prog (callFunc F args) w = .ok (.enter F args) w) (hf : AsksB w F fst cap p) :
 Calls Tryz.prog 229 #[.slice A n c, .func (.func F) fst cap] w fun e w' => e = .returned (.int .i64 (idxf xs p)) /\ Below w.heap.size w w' := by
 have HN := lh hn
 clear hn
 go_enter Tryz.func229, Tryz.ntmps229
 go_wp2
 go_loopw [8] (fun i wr => ∃ k : Nat, k <= n /\ i = .int .i64 k /\ (∀ j (h : j < xs.length), j < k -> p xs[j] = false) /\ Below w.heap.size w wr) (fun i _ => n - (intOf i).toNat)
 case atStart => exact ⟨0, Nat.zero_le _, rfl, fun j _ hj => absurd hj (by omega), Below.refl _ _⟩
 case round =>
  obtain ⟨k, hk, rfl, hno, hbr⟩ := hrel
  have HNO := lh hno
  clear hno
  by_cases hlt : k < n
  ·have hkx : k < xs.length := by have := HN.out; omega
   have hs' := hs.below (hbr.mono hB)
   obtain ⟨b, o, rfl, _, _⟩ := hs'.at_ (by rw [flat_len boxC 6 boxC_len]; omega)
   obtain ⟨c0, c1, c2, c3, c4, c5⟩ := hs'.boxes (List.getElem?_eq_getElem hkx)
   by_cases hx : p xs[k] = true
   ·go_wp2_with (refine (hf _ _ hbr).mono ?_; rintro e w1 ⟨rfl, hb1⟩)
    go_ret
    exact ⟨ret_i (idxf_hit hkx hx HNO.out).symm, hbr.trans (hb1.mono hbr.size)⟩
   ·have hx' : p xs[k] = false := by simpa using hx
    clear hx
    go_wp2_with (refine (hf _ _ hbr).mono ?_; rintro e w1 ⟨rfl, hb1⟩)
    go_roundw
    case rel =>
     refine ⟨k + 1, by omega, by go_num, fun j hj hjk => ?_, hbr.trans (hb1.mono hbr.size)⟩
     by_cases hjk' : j = k
     ·subst hjk'; exact hx'
     ·exact HNO.out j hj (by omega)
    case measure => simp [intOf]; omega
  ·go_wp2
   go_ret
   exact ⟨ret_i (idxf_miss (fun j hj => HNO.out j hj (by have := HN.out; omega))).symm, hbr⟩
theorem containsfB_any (F : Nat) (fst cap : Array Value) (p : Bx -> Bool) (A : Option Addr) (n c : Nat) (xs : List Bx) (B : Nat) (w : World) (hn : xs.length = n) (hm : n <= 9223372036854775807) (hB : B <= w.heap.size)
 (hs : Cells w B A (xs.flatMap boxC)) (hF : ∀ args w, Sem.run Tryz.prog (callFunc F args) w = .ok (.enter F args) w) (hf : AsksB w F fst cap p) :
 Calls Tryz.prog 202 #[.slice A n c, .func (.func F) fst cap] w fun e w' => e = .returned (.bool (anyb xs p)) /\ Below w.heap.size w w' := by
 have HN := lh hn
 have HF := lh hF
 have he : decide (0 <= idxf xs p) = anyb xs p := idxf_ge xs p
 clear hn hF
 go_enter Tryz.func202, Tryz.ntmps202
 go_wp2_with (go_at_call 229; (with_reducible refine (indexfB_any F fst cap p _ _ _ xs B _ HN.out hm hB hs HF.out hf).mono ?_); rintro e w1 ⟨rfl, hbw1⟩; obtain ⟨hcw1, hfw1⟩ := bcell hbw1)
 go_ret
 exact ⟨rfl, bel⟩
def S.boxNot (b : Bx) : Bool := !S.boxOk b
theorem all1_any (b : Bx) (w : World) : Calls Tryz.prog 276 #[boxV b] w fun e w' => e = .returned (.bool (S.boxNot b)) /\ Below w.heap.size w w' := by
 have HV := lh (fun w => bvalid_any b w)
 unfold boxV
 go_enter Tryz.func276, Tryz.ntmps276
 go_wp2_with (go_at_call 94; (with_reducible refine (HV.out _).mono ?_); rintro e w1 ⟨rfl, hbw1⟩; obtain ⟨hcw1, hfw1⟩ := bcell hbw1; have hzw1_0 : w.heap.size < w1.heap.size := lt_via hbw1 sz)
 go_ret
 exact ⟨rfl, bel⟩
theorem ball_any (A : Option Addr) (n c : Nat) (xs : List Bx) (B : Nat) (w : World) (hn : xs.length = n) (hm : n <= 9223372036854775807) (hB : B <= w.heap.size) (hs : Cells w B A (xs.flatMap boxC)) :
 Calls Tryz.prog 270 #[.slice A n c] w fun e w' => e = .returned (.bool (!anyb xs S.boxNot)) /\ Below w.heap.size w w' := by
 have HN := lh hn
 clear hn
 have hf : AsksB w 276 #[] #[] S.boxNot := fun x w' _ => all1_any x w'
 go_enter Tryz.func270, Tryz.ntmps270
 go_wp2_with (go_at_call 202; (with_reducible refine (containsfB_any 276 #[] #[] S.boxNot _ _ _ xs B _ HN.out hm hB hs Tryz.call276 hf).mono ?_); rintro e w1 ⟨rfl, hbw1⟩; obtain ⟨hcw1, hfw1⟩ := bcell hbw1)
 go_ret
 exact ⟨rfl, bel⟩
def S.join (a b : Bx) : Bx := ⟨⟨if b.lo.x < a.lo.x then b.lo.x else a.lo.x, if b.lo.y < a.lo.y then b.lo.y else a.lo.y, if b.lo.z < a.lo.z then b.lo.z else a.lo.z⟩, ⟨if a.hi.x < b.hi.x then b.hi.x else a.hi.x, if a.hi.y < b.hi.y then b.hi.y else a.hi.y, if a.hi.z < b.hi.z then b.hi.z else a.hi.z⟩⟩
def S.hull (a : Bx) (l : List Bx) : Bx := l.foldl S.join a
theorem hull_snoc (a : Bx) (l : List Bx) (x : Bx) : S.hull a (l ++ [x]) = S.join (S.hull a l) x := by simp [S.hull]
set_option maxRecDepth 100000 in
set_option maxHeartbeats 2000000 in
theorem bhull_yes (A : Option Addr) (n c : Nat) (xs : List Bx) (x0 : Bx) (B : Nat) (w : World) (hn : xs.length = n) (hm : n <= 1000000) (hB : B <= w.heap.size) (hs : Cells w B A (xs.flatMap boxC)) (h0 : xs[0]? = some x0) (ha : anyb xs S.boxNot = false) :
 Calls Tryz.prog 258 #[.slice A n c] w fun e w' => e = .returned (.tuple #[boxV (S.hull x0 xs), .int .i64 0]) /\ Below w.heap.size w w' := by
 have hn0 : 0 < n := by have := (List.getElem?_eq_some_iff.1 h0).1; omega
 have hne : ((n : Int) == 0) = false := by simp; omega
 have hni : (0 : Int) < (n : Int) := by omega
 have HN := lh hn
 have HS := lh hs
 have H0 := lh h0
 obtain ⟨b, o, rfl, hb, _⟩ := hs.at_ (by rw [flat_len boxC 6 boxC_len]; omega)
 clear hn hs h0
 go_enter Tryz.func258, Tryz.ntmps258
 go_wp2_with ((go_at_call 270; (with_reducible refine (ball_any _ n c xs B _ HN.out (by omega) (by simp; omega) (HS.out.alloc hB _)).mono ?_); rintro e w1 ⟨rfl, hbw1⟩; obtain ⟨hcw1, hfw1⟩ := bcell hbw1; have hzw1_0 : w.heap.size < w1.heap.size := lt_via hbw1 sz)
              obtain ⟨c0, c1, c2, c3, c4, c5⟩ := (HS.out.below ((by exact (Below.refl _ w).alloc (Nat.le_refl _) _ : Below w.heap.size w _).mono hB |>.trans (hbw1.mono (by simp; omega)))).boxes H0.out
              have hbw : b < w1.heap.size := by omega
              simp only [Nat.zero_mul, Nat.add_zero] at c0 c1 c2 c3 c4 c5)
 have hW : Below w.heap.size w (w1.alloc (.cells #[.int .i64 x0.lo.x, .int .i64 x0.lo.y, .int .i64 x0.lo.z, .int .i64 x0.hi.x, .int .i64 x0.hi.y, .int .i64 x0.hi.z] 78)) := bel
 have hK0 : Blk (w1.alloc (.cells #[.int .i64 x0.lo.x, .int .i64 x0.lo.y, .int .i64 x0.lo.z, .int .i64 x0.hi.x, .int .i64 x0.hi.y, .int .i64 x0.hi.z] 78)) w1.heap.size 78 #[.int .i64 x0.lo.x, .int .i64 x0.lo.y, .int .i64 x0.lo.z, .int .i64 x0.hi.x, .int .i64 x0.hi.y, .int .i64 x0.hi.z] := Blk.new _ _ _
 have hR0 : Blk (w1.alloc (.cells #[.int .i64 x0.lo.x, .int .i64 x0.lo.y, .int .i64 x0.lo.z, .int .i64 x0.hi.x, .int .i64 x0.hi.y, .int .i64 x0.hi.z] 78)) w.heap.size 78 #[.int .i64 0, .int .i64 0, .int .i64 0, .int .i64 0, .int .i64 0, .int .i64 0] := ((Blk.new w _ _).via hbw1).alloc _
 have hC1 := HS.out.below (hW.mono hB)
 have hzW : (w1.alloc (.cells #[.int .i64 x0.lo.x, .int .i64 x0.lo.y, .int .i64 x0.lo.z, .int .i64 x0.hi.x, .int .i64 x0.hi.y, .int .i64 x0.hi.z] 78)).heap.size = w1.heap.size + 1 := by simp
 have HR0 := lh hR0
 clear c0 c1 c2 c3 c4 c5 hcw1 hfw1 hR0
 generalize w1.alloc (.cells #[.int .i64 x0.lo.x, .int .i64 x0.lo.y, .int .i64 x0.lo.z, .int .i64 x0.hi.x, .int .i64 x0.hi.y, .int .i64 x0.hi.z] 78) = W1 at *
 go_loopw [22] (fun i wr => ∃ k : Nat, k <= n /\ i = .int .i64 k /\ Blk wr w1.heap.size 78 #[.int .i64 (S.hull x0 (xs.take k)).lo.x, .int .i64 (S.hull x0 (xs.take k)).lo.y, .int .i64 (S.hull x0 (xs.take k)).lo.z, .int .i64 (S.hull x0 (xs.take k)).hi.x, .int .i64 (S.hull x0 (xs.take k)).hi.y, .int .i64 (S.hull x0 (xs.take k)).hi.z] /\ Exc [w1.heap.size] W1 wr) (fun i _ => n - (intOf i).toNat)
 case atStart => exact ⟨0, Nat.zero_le _, rfl, hK0, Exc.refl _ _⟩
 case round =>
  obtain ⟨k, hk, rfl, hK, hX⟩ := hrel
  have hsz := hX.size
  have hgr := hK.lt
  have k0 := hK.cell 0
  have k1 := hK.cell 1
  have k2 := hK.cell 2
  have k3 := hK.cell 3
  have k4 := hK.cell 4
  have k5 := hK.cell 5
  have f0 := hK.frozen 0
  have f1 := hK.frozen 1
  have f2 := hK.frozen 2
  have f3 := hK.frozen 3
  have f4 := hK.frozen 4
  have f5 := hK.frozen 5
  simp only [ga1, ga2, ga3] at k0 k1 k2 k3 k4 k5
  by_cases hlt : k < n
  ·have hkx : k < xs.length := by have := HN.out; omega
   obtain ⟨c0, c1, c2, c3, c4, c5⟩ := (hC1.below (hX.below (by have := hW.size; omega) (by intro x hx; simp at hx; omega))).boxes (List.getElem?_eq_getElem hkx)
   have HT := lh (show S.hull x0 (xs.take (k + 1)) = S.join (S.hull x0 (xs.take k)) xs[k] by rw [List.take_succ_eq_append_getElem hkx, hull_snoc])
   have hbr : b < wr.heap.size := by omega
   generalize S.hull x0 (xs.take k) = Hk at *
   generalize xs[k] = X at *
   have hki : (k : Int) < (n : Int) := by omega
   go_wp2
   go_roundw
   case rel =>
    refine ⟨k + 1, by omega, by go_num, ?_, ?_⟩
    ·rw [HT.out]
     have h6 := ((((((hK.set 0 (.int .i64 (S.join Hk X).lo.x)).set 1 (.int .i64 (S.join Hk X).lo.y)).set 2 (.int .i64 (S.join Hk X).lo.z)).set 3 (.int .i64 (S.join Hk X).hi.x)).set 4 (.int .i64 (S.join Hk X).hi.y)).set 5 (.int .i64 (S.join Hk X).hi.z)).alloc (.cells #[.int .i64 X.lo.x, .int .i64 X.lo.y, .int .i64 X.lo.z, .int .i64 X.hi.x, .int .i64 X.hi.y, .int .i64 X.hi.z] 78)
     simp only [List.setIfInBounds_toArray, List.set_cons_zero, List.set_cons_succ] at h6
     exact h6
    ·exact ((((((hX.set (.inl (by simp)) _).set (.inl (by simp)) _).set (.inl (by simp)) _).set (.inl (by simp)) _).set (.inl (by simp)) _).set (.inl (by simp)) _).alloc _
   case measure => simp [intOf]; omega
  ·have he : k = n := by omega
   subst he
   have ht : xs.take k = xs := List.take_of_length_le (by have := HN.out; omega)
   rw [ht] at k0 k1 k2 k3 k4 k5
   have hRr := (hX.block w.heap.size (by omega) (by simp; omega)).trans HR0.out
   have hRr : Blk wr w.heap.size 78 #[.int .i64 0, .int .i64 0, .int .i64 0, .int .i64 0, .int .i64 0, .int .i64 0] := hRr
   have z0 := hRr.cell 0
   have z1 := hRr.cell 1
   have z2 := hRr.cell 2
   have z3 := hRr.cell 3
   have z4 := hRr.cell 4
   have z5 := hRr.cell 5
   have y0 := hRr.frozen 0
   have y1 := hRr.frozen 1
   have y2 := hRr.frozen 2
   have y3 := hRr.frozen 3
   have y4 := hRr.frozen 4
   have y5 := hRr.frozen 5
   simp only [ga1, ga2, ga3] at z0 z1 z2 z3 z4 z5
   have hrl := hRr.lt
   have hbel : Below w.heap.size w wr := hW.trans (hX.below (by omega) (by intro x hx; simp at hx; omega))
   clear hRr
   generalize hH : S.hull x0 xs = Hk at *
   have HH := lh hH
   clear hH
   go_wp2
   exact bodyPost_ret (v := .tuple #[boxV Hk, .int .i64 0]) (by simp [results, Tryz.results258, go_sem, *]) rfl ⟨by rw [HH.out], ((((((hbel.setCell (Nat.le_refl _) _).setCell (Nat.le_refl _) _).setCell (Nat.le_refl _) _).setCell (Nat.le_refl _) _).setCell (Nat.le_refl _) _).setCell (Nat.le_refl _) _)⟩
namespace S
def thick (b : Bx) : Bool := boxOk b && decide (b.lo.x < b.hi.x) && decide (b.lo.y < b.hi.y) && decide (b.lo.z < b.hi.z)
def thin (b : Bx) : Bool := !thick b
def solid (xs hs : List Bx) : Bool := decide (1 <= xs.length) && decide (xs.length <= 20) && decide (hs.length <= 20) && !anyb xs thin && !anyb hs thin
def within (n lo hi : Int) : Bool := decide (lo <= n) && decide (n <= hi)
end S
structure Mem where
 name : ByteArray
 boxes : List Bx
 holes : List Bx
 cover : Int
 aggr : Int
 poker : Int
def S.member (m : Mem) : Bool := S.isName m.name && S.solid m.boxes m.holes && S.within m.cover 0 200 && S.within m.aggr 1 100 && S.within m.poker 1 200
abbrev solV (A : Option Addr) (n c : Nat) (A' : Option Addr) (n' c' : Nat) : Value := .agg #[.slice A n c, .slice A' n' c']
abbrev memV (m : Mem) (A : Option Addr) (n c : Nat) (A' : Option Addr) (n' c' : Nat) : Value := .agg #[.string m.name, .slice A n c, .slice A' n' c', .int .i64 m.cover, .int .i64 m.aggr, .int .i64 m.poker]
structure SolAt (w : World) (B : Nat) (A : Option Addr) (n : Nat) (A' : Option Addr) (n' : Nat) (xs hs : List Bx) : Prop where
 len : xs.length = n
 max : n <= 9223372036854775807
 len' : hs.length = n'
 max' : n' <= 9223372036854775807
 cells : Cells w B A (xs.flatMap boxC)
 cells' : Cells w B A' (hs.flatMap boxC)
theorem SolAt.below {w w' : World} {B : Nat} {A : Option Addr} {n : Nat} {A' : Option Addr} {n' : Nat} {xs hs : List Bx} (h : SolAt w B A n A' n' xs hs) (hb : Below B w w') : SolAt w' B A n A' n' xs hs := ⟨h.len, h.max, h.len', h.max', h.cells.below hb, h.cells'.below hb⟩
theorem SolAt.at_ {w w' : World} {B : Nat} {A : Option Addr} {n : Nat} {A' : Option Addr} {n' : Nat} {xs hs : List Bx} (h : SolAt w B A n A' n' xs hs) (hB : B <= w.heap.size) (hb : Below w.heap.size w w') : SolAt w' B A n A' n' xs hs := h.below (hb.mono hB)
theorem size_via {B : Nat} {w W : World} (hB : B <= w.heap.size) (h : Below w.heap.size w W) : B <= W.heap.size := Nat.le_trans hB h.size
set_option maxHeartbeats 1000000 in
theorem thick_any (b : Bx) (w : World) :
 Calls Tryz.prog 201 #[boxV b] w fun e w' => e = .returned (.bool (S.thick b)) /\ Below w.heap.size w w' := by
 have HV := lh (fun w => bvalid_any b w)
 have H := lh (show S.thick b = (S.boxOk b && decide (b.lo.x < b.hi.x) && decide (b.lo.y < b.hi.y) && decide (b.lo.z < b.hi.z)) from rfl)
 generalize S.boxOk b = t at *
 unfold boxV
 cases t
 all_goals (
  go_enter Tryz.func201, Tryz.ntmps201
  go_wp2_with (go_at_call 94; (with_reducible refine (HV.out _).mono ?_); rintro e w1 ⟨rfl, hbw1⟩; obtain ⟨hcw1, hfw1⟩ := bcell hbw1; have hzw1_0 : w.heap.size < w1.heap.size := lt_via hbw1 sz)
  all_goals (go_ret; exact ⟨ret_b (by rw [H.out, Bool.eq_iff_iff]; all_goals (first | (simp; done) | (simp; omega))), bel⟩))
theorem thin_any (b : Bx) (w : World) :
 Calls Tryz.prog 200 #[boxV b] w fun e w' => e = .returned (.bool (S.thin b)) /\ Below w.heap.size w w' := by
 have HV := lh (fun w => thick_any b w)
 unfold boxV
 go_enter Tryz.func200, Tryz.ntmps200
 go_wp2_with (go_at_call 201; (with_reducible refine (HV.out _).mono ?_); rintro e w1 ⟨rfl, hbw1⟩; obtain ⟨hcw1, hfw1⟩ := bcell hbw1; have hzw1_0 : w.heap.size < w1.heap.size := lt_via hbw1 sz)
 go_ret
 exact ⟨rfl, bel⟩
set_option maxHeartbeats 2000000 in
theorem svalid_any (A : Option Addr) (n c : Nat) (A' : Option Addr) (n' c' : Nat) (xs hs : List Bx) (B : Nat) (w : World) (hB : B <= w.heap.size) (hA : SolAt w B A n A' n' xs hs) :
 Calls Tryz.prog 155 #[solV A n c A' n' c'] w fun e w' => e = .returned (.bool (S.solid xs hs)) /\ Below w.heap.size w w' := by
 have HA := lh hA
 have hm := hA.max
 have hm' := hA.max'
 have H := lh (show S.solid xs hs = (decide (1 <= n) && decide (n <= 20) && decide (n' <= 20) && !anyb xs S.thin && !anyb hs S.thin) by unfold S.solid; rw [hA.len, hA.len'])
 clear hA
 have hf : ∀ w, AsksB w 200 #[] #[] S.thin := fun w x w' _ => thin_any x w'
 have HF := lh hf
 have HC := lh (fun (W : World) (hw : B <= W.heap.size) (hs1 : Cells W B A (xs.flatMap boxC)) => containsfB_any 200 #[] #[] S.thin A n c xs B W HA.out.len hm hw hs1 Tryz.call200 (hf W))
 have HC' := lh (fun (W : World) (hw : B <= W.heap.size) (hs1 : Cells W B A' (hs.flatMap boxC)) => containsfB_any 200 #[] #[] S.thin A' n' c' hs B W HA.out.len' hm' hw hs1 Tryz.call200 (hf W))
 clear hf
 generalize anyb xs S.thin = t1 at *
 generalize anyb hs S.thin = t2 at *
 unfold solV
 cases t1 <;> cases t2
 all_goals (
  go_enter Tryz.func155, Tryz.ntmps155
  go_wp2_with (first
   | (go_at_call 202; (with_reducible refine (HC.out _ (size_via hB bel) (SolAt.at_ HA.out hB bel).cells).mono ?_); rintro e w1 ⟨rfl, hbw1⟩; obtain ⟨hcw1, hfw1⟩ := bcell hbw1; have hzw1_0 : w.heap.size < w1.heap.size := lt_via hbw1 sz)
   | (go_at_call 202; (with_reducible refine (HC'.out _ (size_via hB bel) (SolAt.at_ HA.out hB bel).cells').mono ?_); rintro e w2 ⟨rfl, hbw2⟩; obtain ⟨hcw2, hfw2⟩ := bcell hbw2; have hzw2_0 : w.heap.size < w2.heap.size := lt_via hbw2 sz))
  all_goals (go_ret; exact ⟨ret_b (by rw [H.out, Bool.eq_iff_iff]; all_goals (first | (simp; done) | (simp; omega))), bel⟩))
theorem member1_any (n lo hi : Int) (w : World) :
 Calls Tryz.prog 154 #[.int .i64 n, .int .i64 lo, .int .i64 hi] w fun e w' => e = .returned (.bool (S.within n lo hi)) /\ w = w' := by
 have H := lh (show S.within n lo hi = (decide (lo <= n) && decide (n <= hi)) from rfl)
 go_enter Tryz.func154, Tryz.ntmps154
 go_wp2
 all_goals (go_ret; exact ⟨ret_b (by rw [H.out, Bool.eq_iff_iff]; all_goals (first | (simp; done) | (simp; omega))), rfl⟩)
set_option maxHeartbeats 2000000 in
theorem smember_any (m : Mem) (A : Option Addr) (n c : Nat) (A' : Option Addr) (n' c' : Nat) (B : Nat) (w : World) (hB : B <= w.heap.size) (hA : SolAt w B A n A' n' m.boxes m.holes) (hk : m.name.size <= 9223372036854775807) :
 Calls Tryz.prog 111 #[memV m A n c A' n' c'] w fun e w' => e = .returned (.bool (S.member m)) /\ Below w.heap.size w w' := by
 have HA := lh hA
 have H := lh (show S.member m = (S.isName m.name && S.solid m.boxes m.holes && S.within m.cover 0 200 && S.within m.aggr 1 100 && S.within m.poker 1 200) from rfl)
 have HN := lh (fun w => isname_any m.name w hk)
 have HS := lh (fun (W : World) (hw : B <= W.heap.size) (h : SolAt W B A n A' n' m.boxes m.holes) => svalid_any A n c A' n' c' m.boxes m.holes B W hw h)
 have H1 := lh (fun w => member1_any m.cover 0 200 w)
 have H2 := lh (fun w => member1_any m.aggr 1 100 w)
 have H3 := lh (fun w => member1_any m.poker 1 200 w)
 have hF := Tryz.call154
 clear hA
 generalize S.isName m.name = t0 at *
 generalize S.solid m.boxes m.holes = t1 at *
 generalize S.within m.cover 0 200 = t2 at *
 generalize S.within m.aggr 1 100 = t3 at *
 generalize S.within m.poker 1 200 = t4 at *
 unfold memV
 cases t0 <;> cases t1 <;> cases t2 <;> cases t3
 all_goals (
  go_enter Tryz.func111, Tryz.ntmps111
  go_wp2_with (first
   | (go_at_call 93; (with_reducible refine (HN.out _).mono ?_); rintro e w' ⟨rfl, rfl⟩)
   | (go_at_call 155; (with_reducible refine (HS.out _ (size_via hB bel) (SolAt.at_ HA.out hB bel)).mono ?_); rintro e w1 ⟨rfl, hbw1⟩; obtain ⟨hcw1, hfw1⟩ := bcell hbw1; have hzw1_0 : w.heap.size < w1.heap.size := lt_via hbw1 sz)
   | (go_at_call 154; (with_reducible refine (H1.out _).mono ?_); rintro e w' ⟨rfl, rfl⟩)
   | (go_at_call 154; (with_reducible refine (H2.out _).mono ?_); rintro e w' ⟨rfl, rfl⟩)
   | (go_at_call 154; (with_reducible refine (H3.out _).mono ?_); rintro e w' ⟨rfl, rfl⟩))
  go_ret
  exact ⟨ret_b (by rw [H.out]; simp), bel⟩)
theorem shull_yes (A : Option Addr) (n c : Nat) (A' : Option Addr) (n' c' : Nat) (xs hs : List Bx) (x0 : Bx) (B : Nat) (w : World) (hB : B <= w.heap.size) (hA : SolAt w B A n A' n' xs hs) (h : S.solid xs hs = true) (h0 : xs[0]? = some x0) (hok : anyb xs S.boxNot = false) :
 Calls Tryz.prog 261 #[solV A n c A' n' c'] w fun e w' => e = .returned (.tuple #[boxV (S.hull x0 xs), .int .i64 0]) /\ Below w.heap.size w w' := by
 have HA := lh hA
 have hn20 : n <= 20 := by
  have h1 := hA.len
  simp only [S.solid, Bool.and_eq_true, decide_eq_true_eq] at h
  omega
 have HS := lh (fun (W : World) (hw : B <= W.heap.size) (hh : SolAt W B A n A' n' xs hs) => svalid_any A n c A' n' c' xs hs B W hw hh)
 rw [h] at HS
 have HX := lh (show S.hull x0 xs = S.hull x0 xs from rfl)
 have HH := lh (fun (W : World) (hw : B <= W.heap.size) (hh : Cells W B A (xs.flatMap boxC)) => bhull_yes A n c xs x0 B W HA.out.len (by omega) hw hh h0 hok)
 clear hA
 generalize S.hull x0 xs = X at *
 unfold solV
 go_enter Tryz.func261, Tryz.ntmps261
 go_wp2_with (first
  | (go_at_call 155; (with_reducible refine (HS.out _ (size_via hB bel) (SolAt.at_ HA.out hB bel)).mono ?_); rintro e w1 ⟨rfl, hbw1⟩; obtain ⟨hcw1, hfw1⟩ := bcell hbw1; have hzw1_0 : w.heap.size < w1.heap.size := lt_via hbw1 sz; have hzw1_1 : w.heap.size + 1 < w1.heap.size := lt_via hbw1 sz)
  | (go_at_call 258; (with_reducible refine (HH.out _ (size_via hB bel) (SolAt.at_ HA.out hB bel).cells).mono ?_); rintro e w2 ⟨rfl, hbw2⟩; obtain ⟨hcw2, hfw2⟩ := bcell hbw2; have hzw2_0 : w.heap.size < w2.heap.size := lt_via hbw2 sz; have hzw2_1 : w.heap.size + 1 < w2.heap.size := lt_via hbw2 sz))
 have hbel : Below w.heap.size w w2 := bel
 have hRs : Blk w2 (w.heap.size + 1) 78 #[.int .i64 0, .int .i64 0, .int .i64 0, .int .i64 0, .int .i64 0, .int .i64 0] := Blk.via (Blk.via (by simpa using Blk.new (w.alloc (.cells #[.slice A n c, .slice A' n' c'] 24)) 78 #[.int .i64 0, .int .i64 0, .int .i64 0, .int .i64 0, .int .i64 0, .int .i64 0]) hbw1) hbw2
 have z0 := hRs.cell 0
 have z1 := hRs.cell 1
 have z2 := hRs.cell 2
 have z3 := hRs.cell 3
 have z4 := hRs.cell 4
 have z5 := hRs.cell 5
 simp only [ga1, ga2, ga3] at z0 z1 z2 z3 z4 z5
 exact bodyPost_ret (v := .tuple #[boxV X, .int .i64 0]) (by simp [results, Tryz.results261, go_sem, *]) rfl ⟨rfl, ((((((hbel.setCell (Nat.le_succ _) _).setCell (Nat.le_succ _) _).setCell (Nat.le_succ _) _).setCell (Nat.le_succ _) _).setCell (Nat.le_succ _) _).setCell (Nat.le_succ _) _)⟩
theorem solid_ok {xs hs : List Bx} (h : S.solid xs hs = true) : anyb xs S.boxNot = false /\ 1 <= xs.length := by
 simp only [S.solid, Bool.and_eq_true, decide_eq_true_eq, Bool.not_eq_true'] at h
 refine ⟨?_, h.1.1.1.1⟩
 have h1 := h.1.2
 unfold anyb at h1 ⊢
 rw [List.any_eq_false] at h1 ⊢
 intro x hx
 have := h1 x hx
 simp only [S.thin, S.thick, S.boxNot, Bool.not_eq_true', Bool.not_eq_false, Bool.and_eq_true] at this ⊢
 simp [this.1.1.1]
end Go.Proofs.YtmfpbafpnoomeaaGreat
