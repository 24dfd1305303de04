/- Contracts: solid.thick, Valid, Member, Hull. Contracts: solid.Member, solid.Hull. Contracts: anchor.poor, anchor.Poor. Contracts of the reference for layer 17: thick, Valid, Member. Sizes of bars, as plain functions (no program in sight). Contracts: sizes, slices.Index and Contains over integers. The plain functions (no program in sight). Contracts: anchor.Valid, given, Length (printed by gen_anchl out of the anchor texts). Bars as plain data: legs, dimensions, what is valid (no program in sight). -/
import Derived.Test.YtffkmgjmlahfpaaGreatQB
import Derived.Test.YtffkmgjmlahfpaaGreatQA
import Derived.Test.YtffkmgjmlahfpaaGreatRows
set_option linter.unusedVariables false
set_option linter.unusedSimpArgs false
namespace Go.Proofs.YtffkmgjmlahfpaaGreat
open Go.RowKit
namespace S
def thick (b : Bx) : Bool := boxOk b && decide (b.lo.x < b.hi.x) && decide (b.lo.y < b.hi.y) && decide (b.lo.z < b.hi.z)
def thin (b : Bx) : Bool := !thick b
/-- A solid is valid: its boxes and its holes. -/
def solid (xs hs : List Bx) : Bool := decide (1 ≤ xs.length) && decide (xs.length ≤ 20) && decide (hs.length ≤ 20) && !anyb xs thin && !anyb hs thin
def within (n lo hi : Int) : Bool := decide (lo ≤ n) && decide (n ≤ hi)
end S
/-- A member as plain data. -/
structure Mem where
  name : ByteArray
  boxes : List Bx
  holes : List Bx
  cover : Int
  aggr : Int
  poker : Int
def S.member (m : Mem) : Bool := S.isName m.name && S.solid m.boxes m.holes && S.within m.cover 0 200 && S.within m.aggr 1 100 && S.within m.poker 1 200
abbrev solV (A : Option Addr) (n c : Nat) (A' : Option Addr) (n' c' : Nat) : Value := .agg #[.slice A n c, .slice A' n' c']
abbrev memV (m : Mem) (A : Option Addr) (n c : Nat) (A' : Option Addr) (n' c' : Nat) : Value := .agg #[.string m.name, .slice A n c, .slice A' n' c', .int .i64 m.cover, .int .i64 m.aggr, .int .i64 m.poker]
/-- The boxes and the holes of a solid lie in memory, below block B. -/
structure SolAt (w : World) (B : Nat) (A : Option Addr) (n : Nat) (A' : Option Addr) (n' : Nat) (xs hs : List Bx) : Prop where
  len : xs.length = n
  max : n ≤ 9223372036854775807
  len' : hs.length = n'
  max' : n' ≤ 9223372036854775807
  cells : Cells w B A (xs.flatMap boxC)
  cells' : Cells w B A' (hs.flatMap boxC)
theorem SolAt.below {w w' : World} {B : Nat} {A : Option Addr} {n : Nat} {A' : Option Addr} {n' : Nat} {xs hs : List Bx} (h : SolAt w B A n A' n' xs hs) (hb : Below B w w') : SolAt w' B A n A' n' xs hs := ⟨h.len, h.max, h.len', h.max', h.cells.below hb, h.cells'.below hb⟩
theorem SolAt.at_ {w w' : World} {B : Nat} {A : Option Addr} {n : Nat} {A' : Option Addr} {n' : Nat} {xs hs : List Bx} (h : SolAt w B A n A' n' xs hs) (hB : B ≤ w.heap.size) (hb : Below w.heap.size w w') : SolAt w' B A n A' n' xs hs := h.below (hb.mono hB)
theorem size_via {B : Nat} {w W : World} (hB : B ≤ w.heap.size) (h : Below w.heap.size w W) : B ≤ W.heap.size := Nat.le_trans hB h.size
set_option maxHeartbeats 1000000 in
theorem thick_any (b : Bx) (w : World) :
    Calls Tryz.prog 239 #[boxV b] w fun e w' => e = .returned (.bool (S.thick b)) ∧ Below w.heap.size w w' := by
  have HV := Lib.hid (fun w => bvalid_any b w)
  have H := Lib.hid (show S.thick b = (S.boxOk b && decide (b.lo.x < b.hi.x) && decide (b.lo.y < b.hi.y) && decide (b.lo.z < b.hi.z)) from rfl)
  generalize S.boxOk b = t at *
  unfold boxV
  cases t
  all_goals (
    go_enter Tryz.func239, Tryz.ntmps239
    go_wp2_with (go_at_call 107; (with_reducible refine (HV.out _).mono ?_); rintro e w1 ⟨rfl, hbw1⟩; obtain ⟨hcw1, hfw1⟩ := bcell hbw1; have hzw1_0 : w.heap.size < w1.heap.size := lt_via hbw1 (by first | omega | (simp; done) | (simp; omega)))
    all_goals (go_ret; exact ⟨ret_b (by rw [H.out, Bool.eq_iff_iff]; all_goals (first | (simp; done) | (simp; omega))), (by repeat (first | exact Below.refl _ _ | assumption | refine ba_alloc ?_ _ | refine ba_drew ?_ | refine ba_drewN ?_ _ | refine ba_via (by assumption) ?_ | (refine ba_set ?_ ?_ _; rotate_left; (first | omega | (simp; omega) | simp))))⟩))
theorem thin_any (b : Bx) (w : World) :
    Calls Tryz.prog 238 #[boxV b] w fun e w' => e = .returned (.bool (S.thin b)) ∧ Below w.heap.size w w' := by
  have HV := Lib.hid (fun w => thick_any b w)
  unfold boxV
  go_enter Tryz.func238, Tryz.ntmps238
  go_wp2_with (go_at_call 239; (with_reducible refine (HV.out _).mono ?_); rintro e w1 ⟨rfl, hbw1⟩; obtain ⟨hcw1, hfw1⟩ := bcell hbw1; have hzw1_0 : w.heap.size < w1.heap.size := lt_via hbw1 (by first | omega | (simp; done) | (simp; omega)))
  go_ret
  exact ⟨rfl, (by repeat (first | exact Below.refl _ _ | assumption | refine ba_alloc ?_ _ | refine ba_drew ?_ | refine ba_drewN ?_ _ | refine ba_via (by assumption) ?_ | (refine ba_set ?_ ?_ _; rotate_left; (first | omega | (simp; omega) | simp))))⟩
set_option maxHeartbeats 2000000 in
theorem svalid_any (A : Option Addr) (n c : Nat) (A' : Option Addr) (n' c' : Nat) (xs hs : List Bx) (B : Nat) (w : World) (hB : B ≤ w.heap.size) (hA : SolAt w B A n A' n' xs hs) :
    Calls Tryz.prog 182 #[solV A n c A' n' c'] w fun e w' => e = .returned (.bool (S.solid xs hs)) ∧ Below w.heap.size w w' := by
  have HA := Lib.hid hA
  have hm := hA.max
  have hm' := hA.max'
  have H := Lib.hid (show S.solid xs hs = (decide (1 ≤ n) && decide (n ≤ 20) && decide (n' ≤ 20) && !anyb xs S.thin && !anyb hs S.thin) by unfold S.solid; rw [hA.len, hA.len'])
  clear hA
  have hf : ∀ w, AsksB w 238 #[] #[] S.thin := fun w x w' _ => thin_any x w'
  have HF := Lib.hid hf
  have HC := Lib.hid (fun (W : World) (hw : B ≤ W.heap.size) (hs1 : Cells W B A (xs.flatMap boxC)) => containsfB_any 238 #[] #[] S.thin A n c xs B W HA.out.len hm hw hs1 Tryz.call238 (hf W))
  have HC' := Lib.hid (fun (W : World) (hw : B ≤ W.heap.size) (hs1 : Cells W B A' (hs.flatMap boxC)) => containsfB_any 238 #[] #[] S.thin A' n' c' hs B W HA.out.len' hm' hw hs1 Tryz.call238 (hf W))
  clear hf
  generalize anyb xs S.thin = t1 at *
  generalize anyb hs S.thin = t2 at *
  unfold solV
  cases t1 <;> cases t2
  all_goals (
    go_enter Tryz.func182, Tryz.ntmps182
    go_wp2_with (first
      | (go_at_call 216; (with_reducible refine (HC.out _ (size_via hB (by repeat (first | exact Below.refl _ _ | assumption | refine ba_alloc ?_ _ | refine ba_drew ?_ | refine ba_drewN ?_ _ | refine ba_via (by assumption) ?_ | (refine ba_set ?_ ?_ _; rotate_left; (first | omega | (simp; omega) | simp))))) (SolAt.at_ HA.out hB (by repeat (first | exact Below.refl _ _ | assumption | refine ba_alloc ?_ _ | refine ba_drew ?_ | refine ba_drewN ?_ _ | refine ba_via (by assumption) ?_ | (refine ba_set ?_ ?_ _; rotate_left; (first | omega | (simp; omega) | simp))))).cells).mono ?_); rintro e w1 ⟨rfl, hbw1⟩; obtain ⟨hcw1, hfw1⟩ := bcell hbw1; have hzw1_0 : w.heap.size < w1.heap.size := lt_via hbw1 (by first | omega | (simp; done) | (simp; omega)))
      | (go_at_call 216; (with_reducible refine (HC'.out _ (size_via hB (by repeat (first | exact Below.refl _ _ | assumption | refine ba_alloc ?_ _ | refine ba_drew ?_ | refine ba_drewN ?_ _ | refine ba_via (by assumption) ?_ | (refine ba_set ?_ ?_ _; rotate_left; (first | omega | (simp; omega) | simp))))) (SolAt.at_ HA.out hB (by repeat (first | exact Below.refl _ _ | assumption | refine ba_alloc ?_ _ | refine ba_drew ?_ | refine ba_drewN ?_ _ | refine ba_via (by assumption) ?_ | (refine ba_set ?_ ?_ _; rotate_left; (first | omega | (simp; omega) | simp))))).cells').mono ?_); rintro e w2 ⟨rfl, hbw2⟩; obtain ⟨hcw2, hfw2⟩ := bcell hbw2; have hzw2_0 : w.heap.size < w2.heap.size := lt_via hbw2 (by first | omega | (simp; done) | (simp; omega))))
    all_goals (go_ret; exact ⟨ret_b (by rw [H.out, Bool.eq_iff_iff]; all_goals (first | (simp; done) | (simp; omega))), (by repeat (first | exact Below.refl _ _ | assumption | refine ba_alloc ?_ _ | refine ba_drew ?_ | refine ba_drewN ?_ _ | refine ba_via (by assumption) ?_ | (refine ba_set ?_ ?_ _; rotate_left; (first | omega | (simp; omega) | simp))))⟩))
theorem member1_any (n lo hi : Int) (w : World) :
    Calls Tryz.prog 181 #[.int .i64 n, .int .i64 lo, .int .i64 hi] w fun e w' => e = .returned (.bool (S.within n lo hi)) ∧ w = w' := by
  have H := Lib.hid (show S.within n lo hi = (decide (lo ≤ n) && decide (n ≤ hi)) from rfl)
  go_enter Tryz.func181, Tryz.ntmps181
  go_wp2
  all_goals (go_ret; exact ⟨ret_b (by rw [H.out, Bool.eq_iff_iff]; all_goals (first | (simp; done) | (simp; omega))), rfl⟩)
end Go.Proofs.YtffkmgjmlahfpaaGreat
set_option linter.unusedVariables false
set_option linter.unusedSimpArgs false
namespace Go.Proofs.YtffkmgjmlahfpaaGreat
open Go.RowKit
set_option maxHeartbeats 2000000 in
theorem smember_any (m : Mem) (A : Option Addr) (n c : Nat) (A' : Option Addr) (n' c' : Nat) (B : Nat) (w : World) (hB : B ≤ w.heap.size) (hA : SolAt w B A n A' n' m.boxes m.holes) (hk : m.name.size ≤ 9223372036854775807) :
    Calls Tryz.prog 119 #[memV m A n c A' n' c'] w fun e w' => e = .returned (.bool (S.member m)) ∧ Below w.heap.size w w' := by
  have HA := Lib.hid hA
  have H := Lib.hid (show S.member m = (S.isName m.name && S.solid m.boxes m.holes && S.within m.cover 0 200 && S.within m.aggr 1 100 && S.within m.poker 1 200) from rfl)
  have HN := Lib.hid (fun w => isname_any m.name w hk)
  have HS := Lib.hid (fun (W : World) (hw : B ≤ W.heap.size) (h : SolAt W B A n A' n' m.boxes m.holes) => svalid_any A n c A' n' c' m.boxes m.holes B W hw h)
  have H1 := Lib.hid (fun w => member1_any m.cover 0 200 w)
  have H2 := Lib.hid (fun w => member1_any m.aggr 1 100 w)
  have H3 := Lib.hid (fun w => member1_any m.poker 1 200 w)
  have hF := Tryz.call181
  clear hA
  generalize S.isName m.name = t0 at *
  generalize S.solid m.boxes m.holes = t1 at *
  generalize S.within m.cover 0 200 = t2 at *
  generalize S.within m.aggr 1 100 = t3 at *
  generalize S.within m.poker 1 200 = t4 at *
  unfold memV
  cases t0 <;> cases t1 <;> cases t2 <;> cases t3
  all_goals (
    go_enter Tryz.func119, Tryz.ntmps119
    go_wp2_with (first
      | (go_at_call 166; (with_reducible refine (HN.out _).mono ?_); rintro e w' ⟨rfl, rfl⟩)
      | (go_at_call 182; (with_reducible refine (HS.out _ (size_via hB (by repeat (first | exact Below.refl _ _ | assumption | refine ba_alloc ?_ _ | refine ba_drew ?_ | refine ba_drewN ?_ _ | refine ba_via (by assumption) ?_ | (refine ba_set ?_ ?_ _; rotate_left; (first | omega | (simp; omega) | simp))))) (SolAt.at_ HA.out hB (by repeat (first | exact Below.refl _ _ | assumption | refine ba_alloc ?_ _ | refine ba_drew ?_ | refine ba_drewN ?_ _ | refine ba_via (by assumption) ?_ | (refine ba_set ?_ ?_ _; rotate_left; (first | omega | (simp; omega) | simp)))))).mono ?_); rintro e w1 ⟨rfl, hbw1⟩; obtain ⟨hcw1, hfw1⟩ := bcell hbw1; have hzw1_0 : w.heap.size < w1.heap.size := lt_via hbw1 (by first | omega | (simp; done) | (simp; omega)))
      | (go_at_call 181; (with_reducible refine (H1.out _).mono ?_); rintro e w' ⟨rfl, rfl⟩)
      | (go_at_call 181; (with_reducible refine (H2.out _).mono ?_); rintro e w' ⟨rfl, rfl⟩)
      | (go_at_call 181; (with_reducible refine (H3.out _).mono ?_); rintro e w' ⟨rfl, rfl⟩))
    go_ret
    exact ⟨ret_b (by rw [H.out]; simp), (by repeat (first | exact Below.refl _ _ | assumption | refine ba_alloc ?_ _ | refine ba_drew ?_ | refine ba_drewN ?_ _ | refine ba_via (by assumption) ?_ | (refine ba_set ?_ ?_ _; rotate_left; (first | omega | (simp; omega) | simp))))⟩)
/-- The hull of a solid: of its boxes. -/
theorem shull_yes (A : Option Addr) (n c : Nat) (A' : Option Addr) (n' c' : Nat) (xs hs : List Bx) (x0 : Bx) (B : Nat) (w : World) (hB : B ≤ w.heap.size) (hA : SolAt w B A n A' n' xs hs) (h : S.solid xs hs = true) (h0 : xs[0]? = some x0) (hok : anyb xs S.boxNot = false) :
    Calls Tryz.prog 191 #[solV A n c A' n' c'] w fun e w' => e = .returned (.tuple #[boxV (S.hull x0 xs), .int .i64 0]) ∧ Below w.heap.size w w' := by
  have HA := Lib.hid hA
  have hn20 : n ≤ 20 := by
    have h1 := hA.len
    simp only [S.solid, Bool.and_eq_true, decide_eq_true_eq] at h
    omega
  have HS := Lib.hid (fun (W : World) (hw : B ≤ W.heap.size) (hh : SolAt W B A n A' n' xs hs) => svalid_any A n c A' n' c' xs hs B W hw hh)
  rw [h] at HS
  have HX := Lib.hid (show S.hull x0 xs = S.hull x0 xs from rfl)
  have HH := Lib.hid (fun (W : World) (hw : B ≤ W.heap.size) (hh : Cells W B A (xs.flatMap boxC)) => bhull_yes A n c xs x0 B W HA.out.len (by omega) hw hh h0 hok)
  clear hA
  generalize S.hull x0 xs = X at *
  unfold solV
  go_enter Tryz.func191, Tryz.ntmps191
  go_wp2_with (first
    | (go_at_call 182; (with_reducible refine (HS.out _ (size_via hB (by repeat (first | exact Below.refl _ _ | assumption | refine ba_alloc ?_ _ | refine ba_drew ?_ | refine ba_drewN ?_ _ | refine ba_via (by assumption) ?_ | (refine ba_set ?_ ?_ _; rotate_left; (first | omega | (simp; omega) | simp))))) (SolAt.at_ HA.out hB (by repeat (first | exact Below.refl _ _ | assumption | refine ba_alloc ?_ _ | refine ba_drew ?_ | refine ba_drewN ?_ _ | refine ba_via (by assumption) ?_ | (refine ba_set ?_ ?_ _; rotate_left; (first | omega | (simp; omega) | simp)))))).mono ?_); rintro e w1 ⟨rfl, hbw1⟩; obtain ⟨hcw1, hfw1⟩ := bcell hbw1; have hzw1_0 : w.heap.size < w1.heap.size := lt_via hbw1 (by first | omega | (simp; done) | (simp; omega)); have hzw1_1 : w.heap.size + 1 < w1.heap.size := lt_via hbw1 (by first | omega | (simp; done) | (simp; omega)))
    | (go_at_call 212; (with_reducible refine (HH.out _ (size_via hB (by repeat (first | exact Below.refl _ _ | assumption | refine ba_alloc ?_ _ | refine ba_drew ?_ | refine ba_drewN ?_ _ | refine ba_via (by assumption) ?_ | (refine ba_set ?_ ?_ _; rotate_left; (first | omega | (simp; omega) | simp))))) (SolAt.at_ HA.out hB (by repeat (first | exact Below.refl _ _ | assumption | refine ba_alloc ?_ _ | refine ba_drew ?_ | refine ba_drewN ?_ _ | refine ba_via (by assumption) ?_ | (refine ba_set ?_ ?_ _; rotate_left; (first | omega | (simp; omega) | simp))))).cells).mono ?_); rintro e w2 ⟨rfl, hbw2⟩; obtain ⟨hcw2, hfw2⟩ := bcell hbw2; have hzw2_0 : w.heap.size < w2.heap.size := lt_via hbw2 (by first | omega | (simp; done) | (simp; omega)); have hzw2_1 : w.heap.size + 1 < w2.heap.size := lt_via hbw2 (by first | omega | (simp; done) | (simp; omega))))
  have hbel : Below w.heap.size w w2 := (by repeat (first | exact Below.refl _ _ | assumption | refine ba_alloc ?_ _ | refine ba_drew ?_ | refine ba_drewN ?_ _ | refine ba_via (by assumption) ?_ | (refine ba_set ?_ ?_ _; rotate_left; (first | omega | (simp; omega) | simp))))
  have hRs : Blk w2 (w.heap.size + 1) 89 #[.int .i64 0, .int .i64 0, .int .i64 0, .int .i64 0, .int .i64 0, .int .i64 0] := Blk.via (Blk.via (by simpa using Blk.new (w.alloc (.cells #[.slice A n c, .slice A' n' c'] 24)) 89 #[.int .i64 0, .int .i64 0, .int .i64 0, .int .i64 0, .int .i64 0, .int .i64 0]) hbw1) hbw2
  have z0 := hRs.cell 0
  have z1 := hRs.cell 1
  have z2 := hRs.cell 2
  have z3 := hRs.cell 3
  have z4 := hRs.cell 4
  have z5 := hRs.cell 5
  simp only [List.getElem?_toArray, List.getElem?_cons_zero, List.getElem?_cons_succ] at z0 z1 z2 z3 z4 z5
  exact bodyPost_ret (v := .tuple #[boxV X, .int .i64 0]) (by simp [results, Tryz.results191, go_sem, *]) rfl ⟨rfl, ((((((hbel.setCell (Nat.le_succ _) _).setCell (Nat.le_succ _) _).setCell (Nat.le_succ _) _).setCell (Nat.le_succ _) _).setCell (Nat.le_succ _) _).setCell (Nat.le_succ _) _)⟩
theorem solid_ok {xs hs : List Bx} (h : S.solid xs hs = true) : anyb xs S.boxNot = false ∧ 1 ≤ xs.length := by
  simp only [S.solid, Bool.and_eq_true, decide_eq_true_eq, Bool.not_eq_true'] at h
  refine ⟨?_, h.1.1.1.1⟩
  have h1 := h.1.2
  unfold anyb at h1 ⊢
  rw [List.any_eq_false] at h1 ⊢
  intro x hx
  have := h1 x hx
  simp only [S.thin, S.thick, S.boxNot, Bool.not_eq_true', Bool.not_eq_false, Bool.and_eq_true] at this ⊢
  simp [this.1.1.1]
end Go.Proofs.YtffkmgjmlahfpaaGreat
set_option linter.unusedVariables false
set_option linter.unusedSimpArgs false
namespace Go.Proofs.YtffkmgjmlahfpaaGreat
open Go.RowKit
def S.poor (xs : List Bx) (leg : Bx) : Bool := decide (250 < leg.lo.z - (S.hull (xs.headD ⟨⟨0, 0, 0⟩, ⟨0, 0, 0⟩⟩) xs).lo.z)
theorem hull_lo_in (a : Bx) (l : List Bx) (h0 : -1048576 ≤ a.lo.z ∧ a.lo.z ≤ 1048576) (h : ∀ b, b ∈ l → -1048576 ≤ b.lo.z ∧ b.lo.z ≤ 1048576) : -1048576 ≤ (S.hull a l).lo.z ∧ (S.hull a l).lo.z ≤ 1048576 := by
  induction l generalizing a with
  | nil => exact h0
  | cons x l ih =>
    have e : S.hull a (x :: l) = S.hull (S.join a x) l := rfl
    rw [e]
    refine ih _ ?_ (fun b hb => h b (List.mem_cons_of_mem _ hb))
    have hx := h x List.mem_cons_self
    simp only [S.join]
    split <;> omega
theorem boxOk_z {b : Bx} (h : S.boxOk b = true) : -1048576 ≤ b.lo.z ∧ b.lo.z ≤ b.hi.z ∧ b.hi.z ≤ 1048576 := by
  simp only [S.boxOk, S.okAx, Bool.and_eq_true, decide_eq_true_eq] at h
  omega
theorem boxes_ok {xs : List Bx} (h : anyb xs S.boxNot = false) : ∀ b, b ∈ xs → S.boxOk b = true := by
  intro b hb
  unfold anyb at h
  rw [List.any_eq_false] at h
  have := h b hb
  simpa [S.boxNot] using this
theorem poor_yes (m : Mem) (leg : Bx) (A : Option Addr) (n c : Nat) (A' : Option Addr) (n' c' : Nat) (B : Nat) (w : World) (hB : B ≤ w.heap.size) (hA : SolAt w B A n A' n' m.boxes m.holes) (h : S.solid m.boxes m.holes = true) (hl : S.boxOk leg = true) :
    Calls Tryz.prog 125 #[memV m A n c A' n' c', boxV leg] w fun e w' => e = .returned (.bool (S.poor m.boxes leg)) ∧ Below w.heap.size w w' := by
  have HA := Lib.hid hA
  obtain ⟨hok, hlen⟩ := solid_ok h
  have h0 : m.boxes[0]? = some (m.boxes.headD ⟨⟨0, 0, 0⟩, ⟨0, 0, 0⟩⟩) := by
    cases hb : m.boxes with
    | nil => rw [hb] at hlen; simp at hlen
    | cons x l => rfl
  have hz := boxOk_z hl
  have hin := hull_lo_in (m.boxes.headD ⟨⟨0, 0, 0⟩, ⟨0, 0, 0⟩⟩) m.boxes (by have := boxOk_z (boxes_ok hok _ (List.mem_of_getElem? h0)); omega) (fun b hb => by have := boxOk_z (boxes_ok hok b hb); omega)
  have HP := Lib.hid (show S.poor m.boxes leg = decide (250 < leg.lo.z - (S.hull (m.boxes.headD ⟨⟨0, 0, 0⟩, ⟨0, 0, 0⟩⟩) m.boxes).lo.z) from rfl)
  have HH := Lib.hid (fun (W : World) (hw : B ≤ W.heap.size) (hh : SolAt W B A n A' n' m.boxes m.holes) => shull_yes A n c A' n' c' m.boxes m.holes _ B W hw hh h h0 hok)
  clear hA
  generalize S.hull (m.boxes.headD ⟨⟨0, 0, 0⟩, ⟨0, 0, 0⟩⟩) m.boxes = X at *
  have e1 : IntKind.i64.wrap (leg.lo.z - X.lo.z) = leg.lo.z - X.lo.z := IntWalk.i64_in _ (by omega)
  unfold memV boxV
  go_enter Tryz.func125, Tryz.ntmps125
  go_wp2_with (go_at_call 191; (with_reducible refine (HH.out _ (size_via hB (by repeat (first | exact Below.refl _ _ | assumption | refine ba_alloc ?_ _ | refine ba_drew ?_ | refine ba_drewN ?_ _ | refine ba_via (by assumption) ?_ | (refine ba_set ?_ ?_ _; rotate_left; (first | omega | (simp; omega) | simp))))) (SolAt.at_ HA.out hB (by repeat (first | exact Below.refl _ _ | assumption | refine ba_alloc ?_ _ | refine ba_drew ?_ | refine ba_drewN ?_ _ | refine ba_via (by assumption) ?_ | (refine ba_set ?_ ?_ _; rotate_left; (first | omega | (simp; omega) | simp)))))).mono ?_); rintro e w1 ⟨rfl, hbw1⟩; obtain ⟨hcw1, hfw1⟩ := bcell hbw1; have hzw1_0 : w.heap.size < w1.heap.size := lt_via hbw1 (by first | omega | (simp; done) | (simp; omega)); have hzw1_1 : w.heap.size + 1 < w1.heap.size := lt_via hbw1 (by first | omega | (simp; done) | (simp; omega)))
  go_ret
  exact ⟨ret_b HP.out.symm, (by repeat (first | exact Below.refl _ _ | assumption | refine ba_alloc ?_ _ | refine ba_drew ?_ | refine ba_drewN ?_ _ | refine ba_via (by assumption) ?_ | (refine ba_set ?_ ?_ _; rotate_left; (first | omega | (simp; omega) | simp))))⟩
end Go.Proofs.YtffkmgjmlahfpaaGreat
set_option linter.unusedVariables false
set_option linter.unusedSimpArgs false
namespace Go.Proofs.YtffkmgjmlahfpaaGreat
open Go.RowKit
theorem anyb_of {α : Type} {xs : List α} {p : α → Bool} {k : Nat} (hk : k < xs.length) (h : p xs[k] = true) : anyb xs p = true := by
  unfold anyb
  rw [List.any_eq_true]
  exact ⟨_, List.getElem_mem hk, h⟩
theorem anyb_not {α : Type} {xs : List α} {p : α → Bool} (h : ∀ j (hj : j < xs.length), p xs[j] = false) : anyb xs p = false := by
  unfold anyb
  rw [List.any_eq_false]
  intro x hx
  obtain ⟨j, hj, rfl⟩ := List.mem_iff_getElem.1 hx
  simp [h j hj]
end Go.Proofs.YtffkmgjmlahfpaaGreat
set_option linter.unusedVariables false
set_option linter.unusedSimpArgs false
namespace Go.Proofs.YtffkmgjmlahfpaaGreat
namespace S
def sizes : List Int := [6, 8, 10, 12, 16, 20, 25, 32, 40]
/-- Whether a list has an integer (a word of its own: the walk leaves it alone). -/
def has (xs : List Int) (x : Int) : Bool := xs.contains x
def size (d : Int) : Bool := has sizes d
end S
theorem size_bd {d : Int} (h : S.size d = true) : 6 ≤ d ∧ d ≤ 40 := by
  simp [S.size, S.has, S.sizes] at h
  omega
end Go.Proofs.YtffkmgjmlahfpaaGreat
set_option linter.unusedVariables false
set_option linter.unusedSimpArgs false
namespace Go.Proofs.YtffkmgjmlahfpaaGreat
open Go.RowKit

theorem sizes_any (w : World) :
    Calls Tryz.prog 223 #[] w fun e w' => e = .returned (.slice (some ⟨w.heap.size, 0, none⟩) 9 9) ∧ w.alloc (.cells (i64s S.sizes).toArray 3) = w' := by
  go_enter Tryz.func223, Tryz.ntmps223
  go_wp2
  go_ret
  exact ⟨rfl, rfl⟩
/-- slices.Index over integers: the first place, or -1. -/
def idx (xs : List Int) (x : Int) : Int := match xs.findIdx? (· == x) with | some k => k | none => -1
theorem idx_hit {xs : List Int} {x : Int} {k : Nat} (hk : k < xs.length) (hx : xs[k] = x) (hno : ∀ j, j < k → xs[j]? ≠ some x) : idx xs x = k := by
  have : xs.findIdx? (· == x) = some k := by
    rw [List.findIdx?_eq_some_iff_getElem]
    refine ⟨hk, by simp [hx], fun j hj => ?_⟩
    have := hno j hj
    have hl : j < xs.length := by omega
    rw [List.getElem?_eq_getElem hl] at this
    simpa using this
  simp [idx, this]
theorem idx_miss {xs : List Int} {x : Int} (hno : ∀ j, j < xs.length → xs[j]? ≠ some x) : idx xs x = -1 := by
  have : xs.findIdx? (· == x) = none := by
    rw [List.findIdx?_eq_none_iff]
    intro y hy
    obtain ⟨j, hj, rfl⟩ := List.mem_iff_getElem.1 hy
    have := hno j hj
    rw [List.getElem?_eq_getElem hj] at this
    simpa using this
  simp [idx, this]
theorem index_any (A : Option Addr) (n c : Nat) (x : Int) (xs : List Int) (B : Nat) (w : World) (hn : xs.length = n) (hm : n ≤ 9223372036854775807) (hs : Cells w B A (i64s xs)) :
    Calls Tryz.prog 262 #[.slice A n c, .int .i64 x] w fun e w' => e = .returned (.int .i64 (idx xs x)) ∧ w = w' := by
  have HN := Lib.hid hn
  clear hn
  go_enter Tryz.func262, Tryz.ntmps262
  go_wp2
  go_loop [8] (fun i => ∃ k : Nat, k ≤ n ∧ i = .int .i64 k ∧ ∀ j, j < k → xs[j]? ≠ some x) (fun i => n - (intOf i).toNat)
  case atStart => exact ⟨0, Nat.zero_le _, rfl, fun j hj => absurd hj (by omega)⟩
  case round =>
    obtain ⟨k, hk, rfl, hno⟩ := hrel
    have HNO := Lib.hid hno
    clear hno
    by_cases hlt : k < n
    · have hkx : k < xs.length := by have := HN.out; omega
      obtain ⟨b, o, rfl, _, hc⟩ := hs.at_ (by simp; omega)
      have hck := hc k _ (i64s_get hkx)
      clear hc
      by_cases hx : xs[k] = x
      · have hb : (x == xs[k]) = true := by simp [hx]
        go_wp2
        go_ret
        exact ⟨ret_i (idx_hit hkx hx HNO.out).symm, rfl⟩
      · have hb : (x == xs[k]) = false := by simp; exact fun h => hx h.symm
        have HX := Lib.hid hx
        clear hx
        go_wp2
        go_round
        case rel =>
          refine ⟨k + 1, by omega, by go_num, fun j hj => ?_⟩
          by_cases hjk : j = k
          · subst hjk; rw [List.getElem?_eq_getElem hkx]; simpa using HX.out
          · exact HNO.out j (by omega)
        case measure => simp [intOf]; omega
    · go_wp2
      go_ret
      exact ⟨ret_i (idx_miss (fun j hj => HNO.out j (by have := HN.out; omega))).symm, rfl⟩
theorem idx_ge (xs : List Int) (x : Int) : decide (0 ≤ idx xs x) = S.has xs x := by
  unfold idx S.has
  split
  · rename_i k hk
    have : x ∈ xs := by
      obtain ⟨h1, h2, _⟩ := List.findIdx?_eq_some_iff_getElem.1 hk
      simp at h2
      exact h2 ▸ List.getElem_mem h1
    simp [this]
  · rename_i hk
    rw [List.findIdx?_eq_none_iff] at hk
    have : x ∉ xs := fun h => by have := hk x h; simp at this
    simp [this]
theorem contains_any (A : Option Addr) (n c : Nat) (x : Int) (xs : List Int) (B : Nat) (w : World) (hn : xs.length = n) (hm : n ≤ 9223372036854775807) (hs : Cells w B A (i64s xs)) :
    Calls Tryz.prog 222 #[.slice A n c, .int .i64 x] w fun e w' => e = .returned (.bool (S.has xs x)) ∧ w = w' := by
  have HN := Lib.hid hn
  clear hn
  have e := idx_ge xs x
  go_enter Tryz.func222, Tryz.ntmps222
  go_wp2_with (go_at_call 262; refine (index_any _ _ _ x xs B _ HN.out hm hs).mono ?_; rintro e w' ⟨rfl, rfl⟩)
  go_ret
  exact ⟨rfl, rfl⟩
theorem ssize_any (d : Int) (w : World) :
    Calls Tryz.prog 160 #[.int .i64 d] w fun e w' => e = .returned (.bool (S.size d)) ∧ Below w.heap.size w w' := by
  have hs := Cells.new w (i64s S.sizes).toArray 3 (0, 0)
  go_enter Tryz.func160, Tryz.ntmps160
  go_wp2_with (first
    | (go_at_call 223; refine (sizes_any _).mono ?_; rintro e w' ⟨rfl, rfl⟩)
    | (go_at_call 222; refine (contains_any _ 9 _ d S.sizes _ _ rfl (by omega) (by simpa using hs)).mono ?_; rintro e w' ⟨rfl, rfl⟩))
  go_ret
  exact ⟨rfl, by go_grown⟩
end Go.Proofs.YtffkmgjmlahfpaaGreat
set_option linter.unusedVariables false
set_option linter.unusedSimpArgs false
namespace Go.Proofs.YtffkmgjmlahfpaaGreat
structure Rule where
  num : Int
  den : Int
  pnum : Int
  pden : Int
  bnum : Int
  bden : Int
  lnum : Int
  lden : Int
  least : Int
namespace S
def num (n : Int) : Bool := decide (1 ≤ n) && decide (n ≤ 1000)
def up (n p q : Int) : Int := (n * p + q - 1) / q
def rule (r : Rule) : Bool := num r.num && num r.den && num r.pnum && num r.pden && num r.bnum && num r.bden && num r.lnum && num r.lden &&
  decide (r.pden ≤ r.pnum) && decide (r.lden ≤ r.lnum) && decide (r.bnum ≤ r.bden) && decide (0 ≤ r.least) && decide (r.least ≤ 1000)
def basic (r : Rule) (d : Int) : Int := if up d r.num r.den < r.least then r.least else up d r.num r.den
def poorUp (r : Rule) (poor : Bool) (n : Int) : Int := if poor then up n r.pnum r.pden else n
def bentUp (r : Rule) (bent : Bool) (n : Int) : Int := if bent then up n r.bnum r.bden else n
def atLeast (r : Rule) (n : Int) : Int := if n < r.least then r.least else n
def length (r : Rule) (d : Int) (poor bent : Bool) : Int := atLeast r (bentUp r bent (poorUp r poor (basic r d)))
end S
structure RuleOk (r : Rule) : Prop where
  num : 1 ≤ r.num ∧ r.num ≤ 1000
  den : 1 ≤ r.den ∧ r.den ≤ 1000
  pnum : 1 ≤ r.pnum ∧ r.pnum ≤ 1000
  pden : 1 ≤ r.pden ∧ r.pden ≤ 1000
  bnum : 1 ≤ r.bnum ∧ r.bnum ≤ 1000
  bden : 1 ≤ r.bden ∧ r.bden ≤ 1000
  lnum : 1 ≤ r.lnum ∧ r.lnum ≤ 1000
  lden : 1 ≤ r.lden ∧ r.lden ≤ 1000
  poor : r.pden ≤ r.pnum
  lap : r.lden ≤ r.lnum
  bend : r.bnum ≤ r.bden
  least : 0 ≤ r.least ∧ r.least ≤ 1000
theorem rule_ok {r : Rule} (h : S.rule r = true) : RuleOk r := by
  simp only [S.rule, S.num, Bool.and_eq_true, decide_eq_true_eq] at h
  obtain ⟨⟨⟨⟨⟨⟨⟨⟨⟨⟨⟨⟨h1, h2⟩, h3⟩, h4⟩, h5⟩, h6⟩, h7⟩, h8⟩, h9⟩, h10⟩, h11⟩, h12⟩, h13⟩ := h
  exact ⟨h1, h2, h3, h4, h5, h6, h7, h8, h9, h10, h11, ⟨h12, h13⟩⟩
theorem mul_bd {a b A B : Int} (ha : 0 ≤ a) (hA : a ≤ A) (hb : 0 ≤ b) (hB : b ≤ B) : 0 ≤ a * b ∧ a * b ≤ A * B :=
  ⟨Int.mul_nonneg ha hb, Int.mul_le_mul hA hB hb (by omega)⟩
/-- A quotient rounded up lies between 0 and the product (with a whole divisor). -/
theorem up_bd {n p q A : Int} (hn : 0 ≤ n) (hA : n ≤ A) (hp : 1 ≤ p) (hp' : p ≤ 1000) (hq : 1 ≤ q) : 0 ≤ S.up n p q ∧ S.up n p q ≤ 1000 * A := by
  unfold S.up
  have h1 := mul_bd hn hA (by omega : 0 ≤ p) hp'
  refine ⟨Int.ediv_nonneg (by omega) (by omega), ?_⟩
  have h2 : (n * p + q - 1) / q ≤ n * p := by
    rcases Int.lt_or_eq_of_le h1.1 with h | h
    · have : n * p + q - 1 < (n * p + 1) * q := by
        have := Int.mul_le_mul_of_nonneg_left hq (show 0 ≤ n * p by omega)
        rw [Int.add_mul]; omega
      have := Int.ediv_lt_of_lt_mul (by omega) this
      omega
    · rw [← h, Int.zero_add, Int.ediv_eq_zero_of_lt (by omega) (by omega)]
      exact Int.le_refl 0
  have := Int.mul_comm A 1000
  omega
theorem basic_bd {r : Rule} {d : Int} (hr : RuleOk r) (hd : 0 ≤ d) (hd' : d ≤ 40) : 0 ≤ S.basic r d ∧ S.basic r d ≤ 40000 := by
  have h := up_bd (p := r.num) (q := r.den) hd hd' hr.num.1 hr.num.2 hr.den.1
  have h2 := hr.least
  unfold S.basic
  split <;> omega
theorem poorUp_bd {r : Rule} {n : Int} (hr : RuleOk r) (b : Bool) (hn : 0 ≤ n) (hn' : n ≤ 40000) : 0 ≤ S.poorUp r b n ∧ S.poorUp r b n ≤ 40000000 := by
  have h := up_bd (p := r.pnum) (q := r.pden) hn hn' hr.pnum.1 hr.pnum.2 hr.pden.1
  unfold S.poorUp
  split <;> omega
theorem bentUp_bd {r : Rule} {n : Int} (hr : RuleOk r) (b : Bool) (hn : 0 ≤ n) (hn' : n ≤ 40000000) : 0 ≤ S.bentUp r b n ∧ S.bentUp r b n ≤ 40000000000 := by
  have h := up_bd (p := r.bnum) (q := r.bden) hn hn' hr.bnum.1 hr.bnum.2 hr.bden.1
  unfold S.bentUp
  split <;> omega
end Go.Proofs.YtffkmgjmlahfpaaGreat
set_option linter.unusedVariables false
set_option linter.unusedSimpArgs false
namespace Go.Proofs.YtffkmgjmlahfpaaGreat
open Go.RowKit
theorem up_any (n p q : Int) (w : World) (h2 : 1 ≤ q) (h3 : q ≤ 1000000) (hlo : 0 ≤ n * p) (hp : n * p ≤ 4611686018427387904) :
    Calls Tryz.prog 228 #[.int .i64 n, .int .i64 p, .int .i64 q] w fun e w' => e = .returned (.int .i64 (S.up n p q)) ∧ w = w' := by
  have hq : (q == 0) = false := by simp; omega
  go_enter Tryz.func228, Tryz.ntmps228
  go_wp2
  go_ret
  exact ⟨rfl, rfl⟩
/-- What a function value of one integer answers: p, and memory of its own at most. -/
def Asks (w : World) (F : Nat) (fst cap : Array Value) (p : Int → Bool) : Prop :=
  ∀ (x : Int) (w' : World), Below w.heap.size w w' → Calls Tryz.prog F (fst.push (.int .i64 x) ++ cap) w' fun e w'' => e = .returned (.bool (p x)) ∧ Below w'.heap.size w' w''
theorem indexf_any (F : Nat) (fst cap : Array Value) (p : Int → Bool) (A : Option Addr) (n c : Nat) (xs : List Int) (B : Nat) (w : World) (hn : xs.length = n) (hm : n ≤ 9223372036854775807) (hB : B ≤ w.heap.size)
    (hs : Cells w B A (i64s xs)) (hF : ∀ args w, Sem.run Tryz.prog (callFunc F args) w = .ok (.enter F args) w) (hf : Asks w F fst cap p) :
    Calls Tryz.prog 199 #[.slice A n c, .func (.func F) fst cap] w fun e w' => e = .returned (.int .i64 (idxf xs p)) ∧ Below w.heap.size w w' := by
  have HN := Lib.hid hn
  clear hn
  go_enter Tryz.func199, Tryz.ntmps199
  go_wp2
  go_loopw [8] (fun i wr => ∃ k : Nat, k ≤ n ∧ i = .int .i64 k ∧ (∀ j (h : j < xs.length), j < k → p xs[j] = false) ∧ Below w.heap.size w wr) (fun i _ => n - (intOf i).toNat)
  case atStart => exact ⟨0, Nat.zero_le _, rfl, fun j _ hj => absurd hj (by omega), Below.refl _ _⟩
  case round =>
    obtain ⟨k, hk, rfl, hno, hbr⟩ := hrel
    have HNO := Lib.hid hno
    clear hno
    by_cases hlt : k < n
    · have hkx : k < xs.length := by have := HN.out; omega
      have hs' := hs.below (hbr.mono hB)
      obtain ⟨b, o, rfl, _, hc⟩ := hs'.at_ (by simp; omega)
      have hck := hc k _ (i64s_get hkx)
      clear hc
      by_cases hx : p xs[k] = true
      · go_wp2_with (refine (hf _ _ hbr).mono ?_; rintro e w1 ⟨rfl, hb1⟩)
        go_ret
        exact ⟨ret_i (idxf_hit hkx hx HNO.out).symm, hbr.trans (hb1.mono hbr.size)⟩
      · have hx' : p xs[k] = false := by simpa using hx
        clear hx
        go_wp2_with (refine (hf _ _ hbr).mono ?_; rintro e w1 ⟨rfl, hb1⟩)
        go_roundw
        case rel =>
          refine ⟨k + 1, by omega, by go_num, fun j hj hjk => ?_, hbr.trans (hb1.mono hbr.size)⟩
          by_cases hjk' : j = k
          · subst hjk'; exact hx'
          · exact HNO.out j hj (by omega)
        case measure => simp [intOf]; omega
    · go_wp2
      go_ret
      exact ⟨ret_i (idxf_miss (fun j hj => HNO.out j hj (by have := HN.out; omega))).symm, hbr⟩
theorem containsf_any (F : Nat) (fst cap : Array Value) (p : Int → Bool) (A : Option Addr) (n c : Nat) (xs : List Int) (B : Nat) (w : World) (hn : xs.length = n) (hm : n ≤ 9223372036854775807) (hB : B ≤ w.heap.size)
    (hs : Cells w B A (i64s xs)) (hF : ∀ args w, Sem.run Tryz.prog (callFunc F args) w = .ok (.enter F args) w) (hf : Asks w F fst cap p) :
    Calls Tryz.prog 139 #[.slice A n c, .func (.func F) fst cap] w fun e w' => e = .returned (.bool (anyb xs p)) ∧ Below w.heap.size w w' := by
  have HN := Lib.hid hn
  have HF := Lib.hid hF
  have he : decide (0 ≤ idxf xs p) = anyb xs p := idxf_ge xs p
  clear hn hF
  go_enter Tryz.func139, Tryz.ntmps139
  go_wp2_with (go_at_call 199; refine (indexf_any F fst cap p _ _ _ xs B _ HN.out hm hB hs HF.out hf).mono ?_; rintro e w1 ⟨rfl, hb1⟩)
  go_ret
  exact ⟨rfl, hb1⟩
def numNot (n : Int) : Bool := !S.num n
theorem within1_any (n : Int) (w : World) : Calls Tryz.prog 247 #[.int .i64 n] w fun e w' => e = .returned (.bool (numNot n)) ∧ Below w.heap.size w w' := by
  by_cases h1 : n < 1
  · go_enter Tryz.func247, Tryz.ntmps247
    go_wp2
    go_ret
    exact ⟨ret_b (by simp [numNot, S.num]; omega), Below.refl _ _⟩
  · by_cases h2 : 1000 < n
    · go_enter Tryz.func247, Tryz.ntmps247
      go_wp2
      go_ret
      exact ⟨ret_b (by simp [numNot, S.num]; omega), Below.refl _ _⟩
    · go_enter Tryz.func247, Tryz.ntmps247
      go_wp2
      go_ret
      exact ⟨ret_b (by simp [numNot, S.num]; omega), Below.refl _ _⟩
theorem within_any (A : Option Addr) (n c : Nat) (xs : List Int) (B : Nat) (w : World) (hn : xs.length = n) (hm : n ≤ 9223372036854775807) (hB : B ≤ w.heap.size) (hs : Cells w B A (i64s xs)) :
    Calls Tryz.prog 187 #[.slice A n c] w fun e w' => e = .returned (.bool (!anyb xs numNot)) ∧ Below w.heap.size w w' := by
  have HN := Lib.hid hn
  clear hn
  have hf : Asks w 247 #[] #[] numNot := fun x w' _ => within1_any x w'
  go_enter Tryz.func187, Tryz.ntmps187
  go_wp2_with (go_at_call 139; refine (containsf_any 247 #[] #[] numNot _ _ _ xs B _ HN.out hm hB hs Tryz.call247 hf).mono ?_; rintro e w1 ⟨rfl, hb1⟩)
  go_ret
  exact ⟨rfl, hb1⟩
abbrev ruleV (r : Rule) : Value := .agg #[.int .i64 r.num, .int .i64 r.den, .int .i64 r.pnum, .int .i64 r.pden, .int .i64 r.bnum, .int .i64 r.bden, .int .i64 r.lnum, .int .i64 r.lden, .int .i64 r.least]
def eight (r : Rule) : List Int := [r.num, r.den, r.pnum, r.pden, r.bnum, r.bden, r.lnum, r.lden]
theorem rule_eq (r : Rule) : S.rule r = (!anyb (eight r) numNot && decide (r.pden ≤ r.pnum) && decide (r.lden ≤ r.lnum) && decide (r.bnum ≤ r.bden) && decide (0 ≤ r.least) && decide (r.least ≤ 1000)) := by
  simp [S.rule, anyb, eight, numNot, Bool.and_assoc]
theorem avalid_any (r : Rule) (w : World) : Calls Tryz.prog 122 #[ruleV r] w fun e w' => e = .returned (.bool (S.rule r)) ∧ Below w.heap.size w w' := by
  have H := Lib.hid (rule_eq r)
  have hs : Cells ((w.alloc (.cells #[.int .i64 r.num, .int .i64 r.den, .int .i64 r.pnum, .int .i64 r.pden, .int .i64 r.bnum, .int .i64 r.bden, .int .i64 r.lnum, .int .i64 r.lden, .int .i64 r.least] 32)).alloc (.cells #[.int .i64 r.num, .int .i64 r.den, .int .i64 r.pnum, .int .i64 r.pden, .int .i64 r.bnum, .int .i64 r.bden, .int .i64 r.lnum, .int .i64 r.lden] 3)) (w.heap.size + 1 + 1) (some ⟨w.heap.size + 1, 0, none⟩) (i64s (eight r)) := by
    have := Cells.new (w.alloc (.cells #[.int .i64 r.num, .int .i64 r.den, .int .i64 r.pnum, .int .i64 r.pden, .int .i64 r.bnum, .int .i64 r.bden, .int .i64 r.lnum, .int .i64 r.lden, .int .i64 r.least] 32)) #[.int .i64 r.num, .int .i64 r.den, .int .i64 r.pnum, .int .i64 r.pden, .int .i64 r.bnum, .int .i64 r.bden, .int .i64 r.lnum, .int .i64 r.lden] 3 (0, 0)
    simpa [eight] using this
  unfold ruleV
  cases ha : anyb (eight r) numNot
  · go_enter Tryz.func122, Tryz.ntmps122
    go_wp2_with (go_at_call 187; refine (within_any _ 8 _ (eight r) _ _ rfl (by omega) (by simp) hs).mono ?_; rintro e w1 ⟨rfl, hb1⟩; obtain ⟨hc, hf⟩ := bcell hb1)
    all_goals (go_ret; exact ⟨ret_b (by rw [H.out, ha, Bool.eq_iff_iff]; simp; omega), via hb1 (by go_grown) (Nat.le_refl _)⟩)
  · go_enter Tryz.func122, Tryz.ntmps122
    go_wp2_with (go_at_call 187; refine (within_any _ 8 _ (eight r) _ _ rfl (by omega) (by simp) hs).mono ?_; rintro e w1 ⟨rfl, hb1⟩; obtain ⟨hc, hf⟩ := bcell hb1)
    all_goals (go_ret; exact ⟨ret_b (by rw [H.out, ha]; simp), via hb1 (by go_grown) (Nat.le_refl _)⟩)
theorem max_eq (r : Rule) (n : Int) : max n r.least = S.atLeast r n := by unfold S.atLeast; split <;> omega
theorem basic_eq (r : Rule) (d : Int) : S.basic r d = max r.least (S.up d r.num r.den) := by unfold S.basic; split <;> omega
theorem abasic_any (r : Rule) (d : Int) (w : World) (hr : RuleOk r) (h0 : 0 ≤ d) (h1 : d ≤ 40) :
    Calls Tryz.prog 227 #[ruleV r, .int .i64 d] w fun e w' => e = .returned (.int .i64 (S.basic r d)) ∧ Below w.heap.size w w' := by
  have H := Lib.hid (basic_eq r d)
  have hp := mul_bd h0 h1 (by have := hr.num; omega) hr.num.2
  have hd := hr.den
  unfold ruleV
  go_enter Tryz.func227, Tryz.ntmps227
  go_wp2
  refine wp_region_grow (by kernel_rfl) (by kernel_rfl) ?_
  repeat (go_big_quiet_step ((go_at_call 228; exact grow_of_eq (up_any _ _ _ _ (by omega) (by omega) (by omega) (by omega)))))
  all_goals (refine wpQuiet_nil ?_; intro w1 hb1)
  go_wp2
  all_goals (go_ret; exact ⟨ret_i (by rw [H.out]; omega), via hb1 (by go_grown) (Nat.le_refl _)⟩)
theorem alength_any (r : Rule) (d : Int) (poor bent : Bool) (w : World) (hr : RuleOk r) (h0 : 0 ≤ d) (h1 : d ≤ 40) :
    Calls Tryz.prog 170 #[ruleV r, .int .i64 d, .bool poor, .bool bent] w fun e w' => e = .returned (.int .i64 (S.length r d poor bent)) ∧ Below w.heap.size w w' := by
  have b1 := basic_bd hr h0 h1
  have hd := hr.pden
  have hd2 := hr.bden
  have m1 := mul_bd b1.1 b1.2 (by have := hr.pnum; omega) hr.pnum.2
  have b2 : 0 ≤ S.up (S.basic r d) r.pnum r.pden ∧ S.up (S.basic r d) r.pnum r.pden ≤ 40000000 := poorUp_bd hr true b1.1 b1.2
  have m2 := mul_bd b2.1 b2.2 (by have := hr.bnum; omega) hr.bnum.2
  have m3 := mul_bd b1.1 b1.2 (by have := hr.bnum; omega) hr.bnum.2
  cases poor <;> cases bent
  all_goals
    have H := Lib.hid (fun n => max_eq r n)
    unfold ruleV
    go_enter Tryz.func170, Tryz.ntmps170
    go_wp2_with (first
      | (go_at_call 227; refine (abasic_any r d _ hr h0 h1).mono ?_; rintro e w1 ⟨rfl, hb1⟩; obtain ⟨hc, hf⟩ := bcell hb1)
      | (go_at_call 228; refine (up_any _ _ _ _ ?_ ?_ ?_ ?_).mono ?_; (· omega); (· omega); (· omega); (· omega); rintro e w2 ⟨rfl, rfl⟩))
    all_goals (go_ret; exact ⟨ret_i (by simp only [S.length, S.poorUp, S.bentUp, ← H.out, if_true, if_false, Bool.false_eq_true]; omega), via hb1 (by go_grown) (Nat.le_refl _)⟩)
end Go.Proofs.YtffkmgjmlahfpaaGreat
set_option linter.unusedVariables false
set_option linter.unusedSimpArgs false
namespace Go.Proofs.YtffkmgjmlahfpaaGreat
structure Bar where
  mark : ByteArray
  size : Int
  count : Int
  code : Int
  dims : List Int
namespace S
/-- The legs of a code: the dimension, and the letter of the way. -/
def legsOf (code : Int) : List (Nat × Nat) :=
  if code = 0 then [(0, 120)] else if code = 11 then [(0, 120), (1, 121)] else if code = 21 then [(0, 89), (1, 120), (2, 121)]
  else if code = 26 then [(0, 120), (1, 121), (2, 120)] else if code = 31 then [(0, 120), (1, 121), (2, 122)]
  else if code = 41 then [(0, 120), (1, 121), (2, 120), (3, 89), (4, 120)]
  else if code = 51 then [(2, 89), (0, 120), (1, 121), (0, 88), (1, 89), (2, 120)]
  else if code = 98 then [(0, 122), (1, 89), (2, 120), (1, 121), (0, 122)] else []
def dimsOf (code : Int) : Int :=
  if code = 0 then 1 else if code = 11 then 2 else if code = 21 then 3 else if code = 26 then 3 else if code = 31 then 3 else if code = 41 then 5 else if code = 51 then 3 else if code = 98 then 3 else 0
/-- The error of a code: the wrong kind, or none. -/
def dimsErr (code : Int) : Int := if dimsOf code = 0 then 11 else 0
def maxd (l : List (Nat × Nat)) : Int := l.foldl (fun m x => max m (x.1 : Int)) (-1)
def sum (l : List Int) : Int := l.foldl (· + ·) 0
/-- Each dimension is at least 1, and all together are at most 262,144. -/
def dimsOk (l : List Int) : Bool := l.all (fun n => decide (1 ≤ n)) && decide (sum l ≤ 262144)
def barHead (b : Bar) : Bool := !(dimsOf b.code == 0) && isName b.mark && size b.size && decide (1 ≤ b.count) && decide (b.count ≤ 1000) && ((b.dims.length : Int) == dimsOf b.code)
def bar (b : Bar) : Bool := barHead b && dimsOk b.dims
end S
theorem maxd_legs (code : Int) : S.maxd (S.legsOf code) + 1 = S.dimsOf code := by
  unfold S.legsOf S.dimsOf
  repeat' (split <;> try rfl)
theorem maxd_snoc (l : List (Nat × Nat)) (x : Nat × Nat) : S.maxd (l ++ [x]) = max (S.maxd l) (x.1 : Int) := by simp [S.maxd, List.foldl_append]
theorem maxd_bd (l : List (Nat × Nat)) : -1 ≤ S.maxd l := by
  have h : ∀ (l : List (Nat × Nat)) (m : Int), m ≤ l.foldl (fun m x => max m (x.1 : Int)) m := by
    intro l
    induction l with
    | nil => intro m; exact Int.le_refl _
    | cons x l ih => intro m; exact Int.le_trans (Int.le_max_left _ _) (ih _)
  exact h l (-1)
theorem dimsOf_bd (code : Int) : 0 ≤ S.dimsOf code ∧ S.dimsOf code ≤ 5 := by
  unfold S.dimsOf
  repeat' (split <;> try omega)
theorem legs_len (code : Int) : (S.legsOf code).length ≤ 6 := by
  unfold S.legsOf
  repeat' (split <;> try decide)
theorem legs_dim (code : Int) {k : Nat} (hk : k < (S.legsOf code).length) : ((S.legsOf code)[k].1 : Int) < S.dimsOf code := by
  have h : ∀ x, x ∈ S.legsOf code → (x.1 : Int) < S.dimsOf code := by
    unfold S.legsOf S.dimsOf
    repeat' (split <;> try decide)
  exact h _ (List.getElem_mem hk)
theorem sum_snoc (l : List Int) (x : Int) : S.sum (l ++ [x]) = S.sum l + x := by simp [S.sum, List.foldl_append]
end Go.Proofs.YtffkmgjmlahfpaaGreat
