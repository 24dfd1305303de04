/- Lemmas. -/
import Derived.Test.YtmfpbafpnoomeaaGreatME
set_option linter.unusedVariables false
set_option linter.unusedSimpArgs false
namespace Go.Proofs.YtmfpbafpnoomeaaGreat
open Go.RowKit
namespace S
def thick (b : Bx) : Bool := boxOk b && decide (b.lo.x < b.hi.x) && decide (b.lo.y < b.hi.y) && decide (b.lo.z < b.hi.z)
def thin (b : Bx) : Bool := !thick b
def solid (xs hs : List Bx) : Bool := decide (1 <= xs.length) && decide (xs.length <= 20) && decide (hs.length <= 20) && !anyb xs thin && !anyb hs thin
def within (n lo hi : Int) : Bool := decide (lo <= n) && decide (n <= hi)
end S
structure Mem where
 name : ByteArray
 boxes : List Bx
 holes : List Bx
 cover : Int
 aggr : Int
 poker : Int
def S.member (m : Mem) : Bool := S.isName m.name && S.solid m.boxes m.holes && S.within m.cover 0 200 && S.within m.aggr 1 100 && S.within m.poker 1 200
abbrev solV (A : Option Addr) (n c : Nat) (A' : Option Addr) (n' c' : Nat) : Value := .agg #[.slice A n c, .slice A' n' c']
abbrev memV (m : Mem) (A : Option Addr) (n c : Nat) (A' : Option Addr) (n' c' : Nat) : Value := .agg #[.string m.name, .slice A n c, .slice A' n' c', .int .i64 m.cover, .int .i64 m.aggr, .int .i64 m.poker]
structure SolAt (w : World) (B : Nat) (A : Option Addr) (n : Nat) (A' : Option Addr) (n' : Nat) (xs hs : List Bx) : Prop where
 len : xs.length = n
 max : n <= 9223372036854775807
 len' : hs.length = n'
 max' : n' <= 9223372036854775807
 cells : Cells w B A (xs.flatMap boxC)
 cells' : Cells w B A' (hs.flatMap boxC)
theorem SolAt.below {w w' : World} {B : Nat} {A : Option Addr} {n : Nat} {A' : Option Addr} {n' : Nat} {xs hs : List Bx} (h : SolAt w B A n A' n' xs hs) (hb : Below B w w') : SolAt w' B A n A' n' xs hs := ⟨h.len, h.max, h.len', h.max', h.cells.below hb, h.cells'.below hb⟩
theorem SolAt.at_ {w w' : World} {B : Nat} {A : Option Addr} {n : Nat} {A' : Option Addr} {n' : Nat} {xs hs : List Bx} (h : SolAt w B A n A' n' xs hs) (hB : B <= w.heap.size) (hb : Below w.heap.size w w') : SolAt w' B A n A' n' xs hs := h.below (hb.mono hB)
theorem size_via {B : Nat} {w W : World} (hB : B <= w.heap.size) (h : Below w.heap.size w W) : B <= W.heap.size := Nat.le_trans hB h.size
set_option maxHeartbeats 1000000 in
theorem thick_any (b : Bx) (w : World) :
 Calls Tryz.prog 201 #[boxV b] w fun e w' => e = .returned (.bool (S.thick b)) /\ Below w.heap.size w w' := by
 have HV := lh (fun w => bvalid_any b w)
 have H := lh (show S.thick b = (S.boxOk b && decide (b.lo.x < b.hi.x) && decide (b.lo.y < b.hi.y) && decide (b.lo.z < b.hi.z)) from rfl)
 generalize S.boxOk b = t at *
 unfold boxV
 cases t
 all_goals (
  go_enter Tryz.func201, Tryz.ntmps201
  go_wp2_with (go_at_call 94; (with_reducible refine (HV.out _).mono ?_); rintro e w1 ⟨rfl, hbw1⟩; obtain ⟨hcw1, hfw1⟩ := bcell hbw1; have hzw1_0 : w.heap.size < w1.heap.size := lt_via hbw1 sz)
  all_goals (go_ret; exact ⟨ret_b (by rw [H.out, Bool.eq_iff_iff]; all_goals (first | (simp; done) | (simp; omega))), bel⟩))
theorem thin_any (b : Bx) (w : World) :
 Calls Tryz.prog 200 #[boxV b] w fun e w' => e = .returned (.bool (S.thin b)) /\ Below w.heap.size w w' := by
 have HV := lh (fun w => thick_any b w)
 unfold boxV
 go_enter Tryz.func200, Tryz.ntmps200
 go_wp2_with (go_at_call 201; (with_reducible refine (HV.out _).mono ?_); rintro e w1 ⟨rfl, hbw1⟩; obtain ⟨hcw1, hfw1⟩ := bcell hbw1; have hzw1_0 : w.heap.size < w1.heap.size := lt_via hbw1 sz)
 go_ret
 exact ⟨rfl, bel⟩
set_option maxHeartbeats 2000000 in
theorem svalid_any (A : Option Addr) (n c : Nat) (A' : Option Addr) (n' c' : Nat) (xs hs : List Bx) (B : Nat) (w : World) (hB : B <= w.heap.size) (hA : SolAt w B A n A' n' xs hs) :
 Calls Tryz.prog 155 #[solV A n c A' n' c'] w fun e w' => e = .returned (.bool (S.solid xs hs)) /\ Below w.heap.size w w' := by
 have HA := lh hA
 have hm := hA.max
 have hm' := hA.max'
 have H := lh (show S.solid xs hs = (decide (1 <= n) && decide (n <= 20) && decide (n' <= 20) && !anyb xs S.thin && !anyb hs S.thin) by unfold S.solid; rw [hA.len, hA.len'])
 clear hA
 have hf : ∀ w, AsksB w 200 #[] #[] S.thin := fun w x w' _ => thin_any x w'
 have HF := lh hf
 have HC := lh (fun (W : World) (hw : B <= W.heap.size) (hs1 : Cells W B A (xs.flatMap boxC)) => containsfB_any 200 #[] #[] S.thin A n c xs B W HA.out.len hm hw hs1 Tryz.call200 (hf W))
 have HC' := lh (fun (W : World) (hw : B <= W.heap.size) (hs1 : Cells W B A' (hs.flatMap boxC)) => containsfB_any 200 #[] #[] S.thin A' n' c' hs B W HA.out.len' hm' hw hs1 Tryz.call200 (hf W))
 clear hf
 generalize anyb xs S.thin = t1 at *
 generalize anyb hs S.thin = t2 at *
 unfold solV
 cases t1 <;> cases t2
 all_goals (
  go_enter Tryz.func155, Tryz.ntmps155
  go_wp2_with (first
   | (go_at_call 202; (with_reducible refine (HC.out _ (size_via hB bel) (SolAt.at_ HA.out hB bel).cells).mono ?_); rintro e w1 ⟨rfl, hbw1⟩; obtain ⟨hcw1, hfw1⟩ := bcell hbw1; have hzw1_0 : w.heap.size < w1.heap.size := lt_via hbw1 sz)
   | (go_at_call 202; (with_reducible refine (HC'.out _ (size_via hB bel) (SolAt.at_ HA.out hB bel).cells').mono ?_); rintro e w2 ⟨rfl, hbw2⟩; obtain ⟨hcw2, hfw2⟩ := bcell hbw2; have hzw2_0 : w.heap.size < w2.heap.size := lt_via hbw2 sz))
  all_goals (go_ret; exact ⟨ret_b (by rw [H.out, Bool.eq_iff_iff]; all_goals (first | (simp; done) | (simp; omega))), bel⟩))
theorem member1_any (n lo hi : Int) (w : World) :
 Calls Tryz.prog 154 #[.int .i64 n, .int .i64 lo, .int .i64 hi] w fun e w' => e = .returned (.bool (S.within n lo hi)) /\ w = w' := by
 have H := lh (show S.within n lo hi = (decide (lo <= n) && decide (n <= hi)) from rfl)
 go_enter Tryz.func154, Tryz.ntmps154
 go_wp2
 all_goals (go_ret; exact ⟨ret_b (by rw [H.out, Bool.eq_iff_iff]; all_goals (first | (simp; done) | (simp; omega))), rfl⟩)
set_option maxHeartbeats 2000000 in
theorem smember_any (m : Mem) (A : Option Addr) (n c : Nat) (A' : Option Addr) (n' c' : Nat) (B : Nat) (w : World) (hB : B <= w.heap.size) (hA : SolAt w B A n A' n' m.boxes m.holes) (hk : m.name.size <= 9223372036854775807) :
 Calls Tryz.prog 111 #[memV m A n c A' n' c'] w fun e w' => e = .returned (.bool (S.member m)) /\ Below w.heap.size w w' := by
 have HA := lh hA
 have H := lh (show S.member m = (S.isName m.name && S.solid m.boxes m.holes && S.within m.cover 0 200 && S.within m.aggr 1 100 && S.within m.poker 1 200) from rfl)
 have HN := lh (fun w => isname_any m.name w hk)
 have HS := lh (fun (W : World) (hw : B <= W.heap.size) (h : SolAt W B A n A' n' m.boxes m.holes) => svalid_any A n c A' n' c' m.boxes m.holes B W hw h)
 have H1 := lh (fun w => member1_any m.cover 0 200 w)
 have H2 := lh (fun w => member1_any m.aggr 1 100 w)
 have H3 := lh (fun w => member1_any m.poker 1 200 w)
 have hF := Tryz.call154
 clear hA
 generalize S.isName m.name = t0 at *
 generalize S.solid m.boxes m.holes = t1 at *
 generalize S.within m.cover 0 200 = t2 at *
 generalize S.within m.aggr 1 100 = t3 at *
 generalize S.within m.poker 1 200 = t4 at *
 unfold memV
 cases t0 <;> cases t1 <;> cases t2 <;> cases t3
 all_goals (
  go_enter Tryz.func111, Tryz.ntmps111
  go_wp2_with (first
   | (go_at_call 93; (with_reducible refine (HN.out _).mono ?_); rintro e w' ⟨rfl, rfl⟩)
   | (go_at_call 155; (with_reducible refine (HS.out _ (size_via hB bel) (SolAt.at_ HA.out hB bel)).mono ?_); rintro e w1 ⟨rfl, hbw1⟩; obtain ⟨hcw1, hfw1⟩ := bcell hbw1; have hzw1_0 : w.heap.size < w1.heap.size := lt_via hbw1 sz)
   | (go_at_call 154; (with_reducible refine (H1.out _).mono ?_); rintro e w' ⟨rfl, rfl⟩)
   | (go_at_call 154; (with_reducible refine (H2.out _).mono ?_); rintro e w' ⟨rfl, rfl⟩)
   | (go_at_call 154; (with_reducible refine (H3.out _).mono ?_); rintro e w' ⟨rfl, rfl⟩))
  go_ret
  exact ⟨ret_b (by rw [H.out]; simp), bel⟩)
theorem shull_yes (A : Option Addr) (n c : Nat) (A' : Option Addr) (n' c' : Nat) (xs hs : List Bx) (x0 : Bx) (B : Nat) (w : World) (hB : B <= w.heap.size) (hA : SolAt w B A n A' n' xs hs) (h : S.solid xs hs = true) (h0 : xs[0]? = some x0) (hok : anyb xs S.boxNot = false) :
 Calls Tryz.prog 261 #[solV A n c A' n' c'] w fun e w' => e = .returned (.tuple #[boxV (S.hull x0 xs), .int .i64 0]) /\ Below w.heap.size w w' := by
 have HA := lh hA
 have hn20 : n <= 20 := by
  have h1 := hA.len
  simp only [S.solid, Bool.and_eq_true, decide_eq_true_eq] at h
  omega
 have HS := lh (fun (W : World) (hw : B <= W.heap.size) (hh : SolAt W B A n A' n' xs hs) => svalid_any A n c A' n' c' xs hs B W hw hh)
 rw [h] at HS
 have HX := lh (show S.hull x0 xs = S.hull x0 xs from rfl)
 have HH := lh (fun (W : World) (hw : B <= W.heap.size) (hh : Cells W B A (xs.flatMap boxC)) => bhull_yes A n c xs x0 B W HA.out.len (by omega) hw hh h0 hok)
 clear hA
 generalize S.hull x0 xs = X at *
 unfold solV
 go_enter Tryz.func261, Tryz.ntmps261
 go_wp2_with (first
  | (go_at_call 155; (with_reducible refine (HS.out _ (size_via hB bel) (SolAt.at_ HA.out hB bel)).mono ?_); rintro e w1 ⟨rfl, hbw1⟩; obtain ⟨hcw1, hfw1⟩ := bcell hbw1; have hzw1_0 : w.heap.size < w1.heap.size := lt_via hbw1 sz; have hzw1_1 : w.heap.size + 1 < w1.heap.size := lt_via hbw1 sz)
  | (go_at_call 258; (with_reducible refine (HH.out _ (size_via hB bel) (SolAt.at_ HA.out hB bel).cells).mono ?_); rintro e w2 ⟨rfl, hbw2⟩; obtain ⟨hcw2, hfw2⟩ := bcell hbw2; have hzw2_0 : w.heap.size < w2.heap.size := lt_via hbw2 sz; have hzw2_1 : w.heap.size + 1 < w2.heap.size := lt_via hbw2 sz))
 have hbel : Below w.heap.size w w2 := bel
 have hRs : Blk w2 (w.heap.size + 1) 78 #[.int .i64 0, .int .i64 0, .int .i64 0, .int .i64 0, .int .i64 0, .int .i64 0] := Blk.via (Blk.via (by simpa using Blk.new (w.alloc (.cells #[.slice A n c, .slice A' n' c'] 24)) 78 #[.int .i64 0, .int .i64 0, .int .i64 0, .int .i64 0, .int .i64 0, .int .i64 0]) hbw1) hbw2
 have z0 := hRs.cell 0
 have z1 := hRs.cell 1
 have z2 := hRs.cell 2
 have z3 := hRs.cell 3
 have z4 := hRs.cell 4
 have z5 := hRs.cell 5
 simp only [ga1, ga2, ga3] at z0 z1 z2 z3 z4 z5
 exact bodyPost_ret (v := .tuple #[boxV X, .int .i64 0]) (by simp [results, Tryz.results261, go_sem, *]) rfl ⟨rfl, ((((((hbel.setCell (Nat.le_succ _) _).setCell (Nat.le_succ _) _).setCell (Nat.le_succ _) _).setCell (Nat.le_succ _) _).setCell (Nat.le_succ _) _).setCell (Nat.le_succ _) _)⟩
theorem solid_ok {xs hs : List Bx} (h : S.solid xs hs = true) : anyb xs S.boxNot = false /\ 1 <= xs.length := by
 simp only [S.solid, Bool.and_eq_true, decide_eq_true_eq, Bool.not_eq_true'] at h
 refine ⟨?_, h.1.1.1.1⟩
 have h1 := h.1.2
 unfold anyb at h1 ⊢
 rw [List.any_eq_false] at h1 ⊢
 intro x hx
 have := h1 x hx
 simp only [S.thin, S.thick, S.boxNot, Bool.not_eq_true', Bool.not_eq_false, Bool.and_eq_true] at this ⊢
 simp [this.1.1.1]
end Go.Proofs.YtmfpbafpnoomeaaGreat
