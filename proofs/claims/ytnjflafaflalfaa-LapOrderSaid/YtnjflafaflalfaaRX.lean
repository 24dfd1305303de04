/- Contracts: solid.thick, Valid, Member, Hull. -/
import Derived.Test.YtnjflafaflalfaaRW
import Derived.Test.YtnjflafaflalfaaRC
set_option linter.unusedVariables false
set_option linter.unusedSimpArgs false
namespace Go.Proofs.Ytnjflafaflalfaa
open Go.RowKit
namespace S
def thick (b : Bx) : Bool := boxOk b && decide (b.lo.x < b.hi.x) && decide (b.lo.y < b.hi.y) && decide (b.lo.z < b.hi.z)
def thin (b : Bx) : Bool := !thick b
def solid (xs hs : List Bx) : Bool := decide (1 ≤ xs.length) && decide (xs.length ≤ 20) && decide (hs.length ≤ 20) && !anyb xs thin && !anyb hs thin
def within (n lo hi : Int) : Bool := decide (lo ≤ n) && decide (n ≤ hi)
end S
structure Mem where
  name : ByteArray
  boxes : List Bx
  holes : List Bx
  cover : Int
  aggr : Int
  poker : Int
def S.member (m : Mem) : Bool := S.isName m.name && S.solid m.boxes m.holes && S.within m.cover 0 200 && S.within m.aggr 1 100 && S.within m.poker 1 200
abbrev solV (A : Option Addr) (n c : Nat) (A' : Option Addr) (n' c' : Nat) : Value := .agg #[.slice A n c, .slice A' n' c']
abbrev memV (m : Mem) (A : Option Addr) (n c : Nat) (A' : Option Addr) (n' c' : Nat) : Value := .agg #[.string m.name, .slice A n c, .slice A' n' c', .int .i64 m.cover, .int .i64 m.aggr, .int .i64 m.poker]
structure SolAt (w : World) (B : Nat) (A : Option Addr) (n : Nat) (A' : Option Addr) (n' : Nat) (xs hs : List Bx) : Prop where
  len : xs.length = n
  max : n ≤ 9223372036854775807
  len' : hs.length = n'
  max' : n' ≤ 9223372036854775807
  cells : Cells w B A (xs.flatMap boxC)
  cells' : Cells w B A' (hs.flatMap boxC)
theorem SolAt.below {w w' : World} {B : Nat} {A : Option Addr} {n : Nat} {A' : Option Addr} {n' : Nat} {xs hs : List Bx} (h : SolAt w B A n A' n' xs hs) (hb : Below B w w') : SolAt w' B A n A' n' xs hs := ⟨h.len, h.max, h.len', h.max', h.cells.below hb, h.cells'.below hb⟩
theorem SolAt.at_ {w w' : World} {B : Nat} {A : Option Addr} {n : Nat} {A' : Option Addr} {n' : Nat} {xs hs : List Bx} (h : SolAt w B A n A' n' xs hs) (hB : B ≤ w.heap.size) (hb : Below w.heap.size w w') : SolAt w' B A n A' n' xs hs := h.below (hb.mono hB)
theorem size_via {B : Nat} {w W : World} (hB : B ≤ w.heap.size) (h : Below w.heap.size w W) : B ≤ W.heap.size := Nat.le_trans hB h.size
set_option maxHeartbeats 1000000 in
theorem thick_any (b : Bx) (w : World) :
    Calls Try.prog 53 #[boxV b] w fun e w' => e = .returned (.bool (S.thick b)) ∧ Below w.heap.size w w' := by
  have HV := Lib.hid (fun w => bvalid_any b w)
  have H := Lib.hid (show S.thick b = (S.boxOk b && decide (b.lo.x < b.hi.x) && decide (b.lo.y < b.hi.y) && decide (b.lo.z < b.hi.z)) from rfl)
  generalize S.boxOk b = t at *
  unfold boxV
  cases t
  all_goals (
    go_enter Try.func53, Try.ntmps53
    go_wp2_with (go_at_call 62; (with_reducible refine (HV.out _).mono ?_); rintro e w1 ⟨rfl, hbw1⟩; obtain ⟨hcw1, hfw1⟩ := bcell hbw1; have hzw1_0 : w.heap.size < w1.heap.size := lt_via hbw1 (by first | omega | (simp; done) | (simp; omega)))
    all_goals (go_ret; exact ⟨ret_b (by rw [H.out, Bool.eq_iff_iff]; all_goals (first | (simp; done) | (simp; omega))), bel⟩))
theorem thin_any (b : Bx) (w : World) :
    Calls Try.prog 52 #[boxV b] w fun e w' => e = .returned (.bool (S.thin b)) ∧ Below w.heap.size w w' := by
  have HV := Lib.hid (fun w => thick_any b w)
  unfold boxV
  go_enter Try.func52, Try.ntmps52
  go_wp2_with (go_at_call 53; (with_reducible refine (HV.out _).mono ?_); rintro e w1 ⟨rfl, hbw1⟩; obtain ⟨hcw1, hfw1⟩ := bcell hbw1; have hzw1_0 : w.heap.size < w1.heap.size := lt_via hbw1 (by first | omega | (simp; done) | (simp; omega)))
  go_ret
  exact ⟨rfl, bel⟩
set_option maxHeartbeats 2000000 in
theorem svalid_any (A : Option Addr) (n c : Nat) (A' : Option Addr) (n' c' : Nat) (xs hs : List Bx) (B : Nat) (w : World) (hB : B ≤ w.heap.size) (hA : SolAt w B A n A' n' xs hs) :
    Calls Try.prog 38 #[solV A n c A' n' c'] w fun e w' => e = .returned (.bool (S.solid xs hs)) ∧ Below w.heap.size w w' := by
  have HA := Lib.hid hA
  have hm := hA.max
  have hm' := hA.max'
  have H := Lib.hid (show S.solid xs hs = (decide (1 ≤ n) && decide (n ≤ 20) && decide (n' ≤ 20) && !anyb xs S.thin && !anyb hs S.thin) by unfold S.solid; rw [hA.len, hA.len'])
  clear hA
  have hf : ∀ w, AsksB w 52 #[] #[] S.thin := fun w x w' _ => thin_any x w'
  have HF := Lib.hid hf
  have HC := Lib.hid (fun (W : World) (hw : B ≤ W.heap.size) (hs1 : Cells W B A (xs.flatMap boxC)) => containsfB_any 52 #[] #[] S.thin A n c xs B W HA.out.len hm hw hs1 Try.call52 (hf W))
  have HC' := Lib.hid (fun (W : World) (hw : B ≤ W.heap.size) (hs1 : Cells W B A' (hs.flatMap boxC)) => containsfB_any 52 #[] #[] S.thin A' n' c' hs B W HA.out.len' hm' hw hs1 Try.call52 (hf W))
  clear hf
  generalize anyb xs S.thin = t1 at *
  generalize anyb hs S.thin = t2 at *
  unfold solV
  cases t1 <;> cases t2
  all_goals (
    go_enter Try.func38, Try.ntmps38
    go_wp2_with (first
      | (go_at_call 54; (with_reducible refine (HC.out _ (size_via hB bel) (SolAt.at_ HA.out hB bel).cells).mono ?_); rintro e w1 ⟨rfl, hbw1⟩; obtain ⟨hcw1, hfw1⟩ := bcell hbw1; have hzw1_0 : w.heap.size < w1.heap.size := lt_via hbw1 (by first | omega | (simp; done) | (simp; omega)))
      | (go_at_call 54; (with_reducible refine (HC'.out _ (size_via hB bel) (SolAt.at_ HA.out hB bel).cells').mono ?_); rintro e w2 ⟨rfl, hbw2⟩; obtain ⟨hcw2, hfw2⟩ := bcell hbw2; have hzw2_0 : w.heap.size < w2.heap.size := lt_via hbw2 (by first | omega | (simp; done) | (simp; omega))))
    all_goals (go_ret; exact ⟨ret_b (by rw [H.out, Bool.eq_iff_iff]; all_goals (first | (simp; done) | (simp; omega))), bel⟩))
theorem member1_any (n lo hi : Int) (w : World) :
    Calls Try.prog 36 #[.int .i64 n, .int .i64 lo, .int .i64 hi] w fun e w' => e = .returned (.bool (S.within n lo hi)) ∧ w = w' := by
  have H := Lib.hid (show S.within n lo hi = (decide (lo ≤ n) && decide (n ≤ hi)) from rfl)
  go_enter Try.func36, Try.ntmps36
  go_wp2
  all_goals (go_ret; exact ⟨ret_b (by rw [H.out, Bool.eq_iff_iff]; all_goals (first | (simp; done) | (simp; omega))), rfl⟩)
end Go.Proofs.Ytnjflafaflalfaa
