/- Contracts: box.coords, ends, Valid, all; slices.IndexFunc and ContainsFunc over boxes. Contracts: slices.IndexFunc and ContainsFunc over boxes, box.all, box.Hull. Contracts: solid.thick, Valid, Member -/
import Derived.Test.YtnmolefblaahmaaGreatMD
set_option linter.unusedVariables false
set_option linter.unusedSimpArgs false
namespace Go.Proofs.YtnmolefblaahmaaGreat
open Go.RowKit
structure Bx where
 lo : Pt
 hi : Pt
abbrev boxC (b : Bx) : List Value := [.int .i64 b.lo.x, .int .i64 b.lo.y, .int .i64 b.lo.z, .int .i64 b.hi.x, .int .i64 b.hi.y, .int .i64 b.hi.z]
theorem boxC_len (b : Bx) : (boxC b).length = 6 := rfl
abbrev boxV (b : Bx) : Value := .agg #[.int .i64 b.lo.x, .int .i64 b.lo.y, .int .i64 b.lo.z, .int .i64 b.hi.x, .int .i64 b.hi.y, .int .i64 b.hi.z]
theorem elemBx : Elem Tryz.prog 22 122 (.agg #[.int .i64 0, .int .i64 0, .int .i64 0, .int .i64 0, .int .i64 0, .int .i64 0]) 6 48 := ⟨Tryz.underlying22, by kernel_rfl, rfl, by decide⟩
namespace S
def okAx (l h : Int) : Bool := decide (l ≤ h) && decide (-1048576 ≤ l) && decide (h ≤ 1048576)
def boxOk (b : Bx) : Bool := okAx b.lo.x b.hi.x && okAx b.lo.y b.hi.y && okAx b.lo.z b.hi.z
end S
theorem coords_any (x y z : Int) (w : World) :
 Calls Tryz.prog 208 #[.agg #[.int .i64 x, .int .i64 y, .int .i64 z]] w fun e w' => e = .returned (.agg #[.int .i64 x, .int .i64 y, .int .i64 z]) ∧ Below w.heap.size w w' := by
 go_enter Tryz.func208, Tryz.ntmps208
 go_wp2
 exact bodyPost_ret (v := .agg #[.int .i64 x, .int .i64 y, .int .i64 z]) (by simp [results, Tryz.results208, go_sem, *]) rfl ⟨rfl, bel⟩
theorem ends_x (b : Bx) (w : World) :
 Calls Tryz.prog 146 #[boxV b, .int .i64 0] w fun e w' => e = .returned (.tuple #[.int .i64 b.lo.x, .int .i64 b.hi.x]) ∧ Below w.heap.size w w' := by
 have i0 : ∀ W, (Instr.index 216 (.agg #[.int .i64 b.lo.x, .int .i64 b.lo.y, .int .i64 b.lo.z]) (.int .i64 0)).run Tryz.prog W = .ok (.int .i64 b.lo.x) W := fun _ => by kernel_rfl
 have i1 : ∀ W, (Instr.index 216 (.agg #[.int .i64 b.hi.x, .int .i64 b.hi.y, .int .i64 b.hi.z]) (.int .i64 0)).run Tryz.prog W = .ok (.int .i64 b.hi.x) W := fun _ => by kernel_rfl
 unfold boxV
 go_enter Tryz.func146, Tryz.ntmps146
 go_wp2
 refine wp_region_grow (by kernel_rfl) (by kernel_rfl) ?_
 repeat (go_big_quiet_step ((go_at_call 208; exact grow_of (coords_any _ _ _ _))))
 all_goals (refine wpQuiet_nil ?_; intro wg hbwg; obtain ⟨hcwg, hfwg⟩ := bcell hbwg; have hzwg_0 : w.heap.size < wg.heap.size := lt_via hbwg sz)
 go_wp2
 go_ret2
 exact ⟨rfl, bel⟩
theorem ends_y (b : Bx) (w : World) :
 Calls Tryz.prog 146 #[boxV b, .int .i64 1] w fun e w' => e = .returned (.tuple #[.int .i64 b.lo.y, .int .i64 b.hi.y]) ∧ Below w.heap.size w w' := by
 have i0 : ∀ W, (Instr.index 216 (.agg #[.int .i64 b.lo.x, .int .i64 b.lo.y, .int .i64 b.lo.z]) (.int .i64 1)).run Tryz.prog W = .ok (.int .i64 b.lo.y) W := fun _ => by kernel_rfl
 have i1 : ∀ W, (Instr.index 216 (.agg #[.int .i64 b.hi.x, .int .i64 b.hi.y, .int .i64 b.hi.z]) (.int .i64 1)).run Tryz.prog W = .ok (.int .i64 b.hi.y) W := fun _ => by kernel_rfl
 unfold boxV
 go_enter Tryz.func146, Tryz.ntmps146
 go_wp2
 refine wp_region_grow (by kernel_rfl) (by kernel_rfl) ?_
 repeat (go_big_quiet_step ((go_at_call 208; exact grow_of (coords_any _ _ _ _))))
 all_goals (refine wpQuiet_nil ?_; intro wg hbwg; obtain ⟨hcwg, hfwg⟩ := bcell hbwg; have hzwg_0 : w.heap.size < wg.heap.size := lt_via hbwg sz)
 go_wp2
 go_ret2
 exact ⟨rfl, bel⟩
theorem ends_z (b : Bx) (w : World) :
 Calls Tryz.prog 146 #[boxV b, .int .i64 2] w fun e w' => e = .returned (.tuple #[.int .i64 b.lo.z, .int .i64 b.hi.z]) ∧ Below w.heap.size w w' := by
 have i0 : ∀ W, (Instr.index 216 (.agg #[.int .i64 b.lo.x, .int .i64 b.lo.y, .int .i64 b.lo.z]) (.int .i64 2)).run Tryz.prog W = .ok (.int .i64 b.lo.z) W := fun _ => by kernel_rfl
 have i1 : ∀ W, (Instr.index 216 (.agg #[.int .i64 b.hi.x, .int .i64 b.hi.y, .int .i64 b.hi.z]) (.int .i64 2)).run Tryz.prog W = .ok (.int .i64 b.hi.z) W := fun _ => by kernel_rfl
 unfold boxV
 go_enter Tryz.func146, Tryz.ntmps146
 go_wp2
 refine wp_region_grow (by kernel_rfl) (by kernel_rfl) ?_
 repeat (go_big_quiet_step ((go_at_call 208; exact grow_of (coords_any _ _ _ _))))
 all_goals (refine wpQuiet_nil ?_; intro wg hbwg; obtain ⟨hcwg, hfwg⟩ := bcell hbwg; have hzwg_0 : w.heap.size < wg.heap.size := lt_via hbwg sz)
 go_wp2
 go_ret2
 exact ⟨rfl, bel⟩
set_option maxHeartbeats 2000000 in
theorem bvalid_any (b : Bx) (w : World) :
 Calls Tryz.prog 144 #[boxV b] w fun e w' => e = .returned (.bool (S.boxOk b)) ∧ Below w.heap.size w w' := by
 have H := Lib.hid (show ∀ t : Bool, (t = true ↔ (b.lo.x ≤ b.hi.x ∧ -1048576 ≤ b.lo.x ∧ b.hi.x ≤ 1048576) ∧ (b.lo.y ≤ b.hi.y ∧ -1048576 ≤ b.lo.y ∧ b.hi.y ≤ 1048576) ∧ (b.lo.z ≤ b.hi.z ∧ -1048576 ≤ b.lo.z ∧ b.hi.z ≤ 1048576)) → t = S.boxOk b from fun t ht => by
  rw [Bool.eq_iff_iff, ht]
  simp only [S.boxOk, S.okAx, Bool.and_eq_true, decide_eq_true_eq]
  constructor <;> (intro h; omega))
 have HX := Lib.hid (fun w => ends_x b w)
 have HY := Lib.hid (fun w => ends_y b w)
 have HZ := Lib.hid (fun w => ends_z b w)
 unfold boxV
 go_enter Tryz.func144, Tryz.ntmps144
 go_wp2
 refine wp_loop_rounds 4 ?_
 rw [rounds_succ]
 go_wp2_with (go_at_call 146; (with_reducible refine (HX.out _).mono ?_); rintro e w1 ⟨rfl, hbw1⟩; obtain ⟨hcw1, hfw1⟩ := bcell hbw1; have hzw1_0 : w.heap.size < w1.heap.size := lt_via hbw1 sz)
 all_goals (try (go_ret; exact ⟨ret_b (H.out _ (by simp only [decide_eq_true_eq, decide_eq_false_iff_not, Bool.false_eq_true, true_iff, false_iff] at *; omega)), bel⟩))
 rw [rounds_succ]
 go_wp2_with (go_at_call 146; (with_reducible refine (HY.out _).mono ?_); rintro e w2 ⟨rfl, hbw2⟩; obtain ⟨hcw2, hfw2⟩ := bcell hbw2; have hzw2_0 : w.heap.size < w2.heap.size := lt_via hbw2 sz)
 all_goals (try (go_ret; exact ⟨ret_b (H.out _ (by simp only [decide_eq_true_eq, decide_eq_false_iff_not, Bool.false_eq_true, true_iff, false_iff] at *; omega)), bel⟩))
 rw [rounds_succ]
 go_wp2_with (go_at_call 146; (with_reducible refine (HZ.out _).mono ?_); rintro e w3 ⟨rfl, hbw3⟩; obtain ⟨hcw3, hfw3⟩ := bcell hbw3; have hzw3_0 : w.heap.size < w3.heap.size := lt_via hbw3 sz)
 all_goals (try (go_ret; exact ⟨ret_b (H.out _ (by simp only [decide_eq_true_eq, decide_eq_false_iff_not, Bool.false_eq_true, true_iff, false_iff] at *; omega)), bel⟩))
 rw [rounds_succ]
 go_wp2
 (go_ret; exact ⟨ret_b (H.out _ (by simp only [decide_eq_true_eq, decide_eq_false_iff_not, Bool.false_eq_true, true_iff, false_iff] at *; omega)), bel⟩)
def AsksB (w : World) (F : Nat) (fst cap : Array Value) (p : Bx → Bool) : Prop :=
 ∀ (x : Bx) (w' : World), Below w.heap.size w w' → Calls Tryz.prog F (fst.push (boxV x) ++ cap) w' fun e w'' => e = .returned (.bool (p x)) ∧ Below w'.heap.size w' w''
theorem Cells.boxes {w : World} {B bb o : Nat} {l : List Bx} (h : Cells w B (some ⟨bb, o, none⟩) (l.flatMap boxC)) {k : Nat} {p : Bx} (hk : l[k]? = some p) :
 w.cell? ⟨bb, o + k * 6, none⟩ = some (.int .i64 p.lo.x) ∧ w.cell? ⟨bb, o + k * 6 + 1, none⟩ = some (.int .i64 p.lo.y) ∧ w.cell? ⟨bb, o + k * 6 + 2, none⟩ = some (.int .i64 p.lo.z) ∧
 w.cell? ⟨bb, o + k * 6 + 3, none⟩ = some (.int .i64 p.hi.x) ∧ w.cell? ⟨bb, o + k * 6 + 4, none⟩ = some (.int .i64 p.hi.y) ∧ w.cell? ⟨bb, o + k * 6 + 5, none⟩ = some (.int .i64 p.hi.z) := by
 obtain ⟨hk', rfl⟩ := List.getElem?_eq_some_iff.1 hk
 exact ⟨h.row0 boxC_len hk' rfl, h.rowj boxC_len hk' 1 rfl, h.rowj boxC_len hk' 2 rfl, h.rowj boxC_len hk' 3 rfl, h.rowj boxC_len hk' 4 rfl, h.rowj boxC_len hk' 5 rfl⟩
theorem indexfB_any (F : Nat) (fst cap : Array Value) (p : Bx → Bool) (A : Option Addr) (n c : Nat) (xs : List Bx) (B : Nat) (w : World) (hn : xs.length = n) (hm : n ≤ 9223372036854775807) (hB : B ≤ w.heap.size)
 (hs : Cells w B A (xs.flatMap boxC)) (hF : ∀ args w, Sem.run Tryz.prog (callFunc F args) w = .ok (.enter F args) w) (hf : AsksB w F fst cap p) :
 Calls Tryz.prog 231 #[.slice A n c, .func (.func F) fst cap] w fun e w' => e = .returned (.int .i64 (idxf xs p)) ∧ Below w.heap.size w w' := by
 have HN := Lib.hid hn
 clear hn
 go_enter Tryz.func231, Tryz.ntmps231
 go_wp2
 go_loopw [8] (fun i wr => ∃ k : Nat, k ≤ n ∧ i = .int .i64 k ∧ (∀ j (h : j < xs.length), j < k → p xs[j] = false) ∧ Below w.heap.size w wr) (fun i _ => n - (intOf i).toNat)
 case atStart => exact ⟨0, Nat.zero_le _, rfl, fun j _ hj => absurd hj (by omega), Below.refl _ _⟩
 case round =>
  obtain ⟨k, hk, rfl, hno, hbr⟩ := hrel
  have HNO := Lib.hid hno
  clear hno
  by_cases hlt : k < n
  ·have hkx : k < xs.length := by have := HN.out; omega
   have hs' := hs.below (hbr.mono hB)
   obtain ⟨b, o, rfl, _, _⟩ := hs'.at_ (by rw [flat_len boxC 6 boxC_len]; omega)
   obtain ⟨c0, c1, c2, c3, c4, c5⟩ := hs'.boxes (List.getElem?_eq_getElem hkx)
   by_cases hx : p xs[k] = true
   ·go_wp2_with (refine (hf _ _ hbr).mono ?_; rintro e w1 ⟨rfl, hb1⟩)
    go_ret
    exact ⟨ret_i (idxf_hit hkx hx HNO.out).symm, hbr.trans (hb1.mono hbr.size)⟩
   ·have hx' : p xs[k] = false := by simpa using hx
    clear hx
    go_wp2_with (refine (hf _ _ hbr).mono ?_; rintro e w1 ⟨rfl, hb1⟩)
    go_roundw
    case rel =>
     refine ⟨k + 1, by omega, by go_num, fun j hj hjk => ?_, hbr.trans (hb1.mono hbr.size)⟩
     by_cases hjk' : j = k
     ·subst hjk'; exact hx'
     ·exact HNO.out j hj (by omega)
    case measure => simp [intOf]; omega
  ·go_wp2
   go_ret
   exact ⟨ret_i (idxf_miss (fun j hj => HNO.out j hj (by have := HN.out; omega))).symm, hbr⟩
theorem containsfB_any (F : Nat) (fst cap : Array Value) (p : Bx → Bool) (A : Option Addr) (n c : Nat) (xs : List Bx) (B : Nat) (w : World) (hn : xs.length = n) (hm : n ≤ 9223372036854775807) (hB : B ≤ w.heap.size)
 (hs : Cells w B A (xs.flatMap boxC)) (hF : ∀ args w, Sem.run Tryz.prog (callFunc F args) w = .ok (.enter F args) w) (hf : AsksB w F fst cap p) :
 Calls Tryz.prog 218 #[.slice A n c, .func (.func F) fst cap] w fun e w' => e = .returned (.bool (anyb xs p)) ∧ Below w.heap.size w w' := by
 have HN := Lib.hid hn
 have HF := Lib.hid hF
 have he : decide (0 ≤ idxf xs p) = anyb xs p := idxf_ge xs p
 clear hn hF
 go_enter Tryz.func218, Tryz.ntmps218
 go_wp2_with (go_at_call 231; (with_reducible refine (indexfB_any F fst cap p _ _ _ xs B _ HN.out hm hB hs HF.out hf).mono ?_); rintro e w1 ⟨rfl, hbw1⟩; obtain ⟨hcw1, hfw1⟩ := bcell hbw1)
 go_ret
 exact ⟨rfl, bel⟩
def S.join (a b : Bx) : Bx := ⟨⟨if b.lo.x < a.lo.x then b.lo.x else a.lo.x, if b.lo.y < a.lo.y then b.lo.y else a.lo.y, if b.lo.z < a.lo.z then b.lo.z else a.lo.z⟩, ⟨if a.hi.x < b.hi.x then b.hi.x else a.hi.x, if a.hi.y < b.hi.y then b.hi.y else a.hi.y, if a.hi.z < b.hi.z then b.hi.z else a.hi.z⟩⟩
def S.hull (a : Bx) (l : List Bx) : Bx := l.foldl S.join a
theorem hull_snoc (a : Bx) (l : List Bx) (x : Bx) : S.hull a (l ++ [x]) = S.join (S.hull a l) x := by simp [S.hull]
namespace S
def thick (b : Bx) : Bool := boxOk b && decide (b.lo.x < b.hi.x) && decide (b.lo.y < b.hi.y) && decide (b.lo.z < b.hi.z)
def thin (b : Bx) : Bool := !thick b
def solid (xs hs : List Bx) : Bool := decide (1 ≤ xs.length) && decide (xs.length ≤ 20) && decide (hs.length ≤ 20) && !anyb xs thin && !anyb hs thin
def within (n lo hi : Int) : Bool := decide (lo ≤ n) && decide (n ≤ hi)
end S
structure Mem where
 name : ByteArray
 boxes : List Bx
 holes : List Bx
 cover : Int
 aggr : Int
 poker : Int
def S.member (m : Mem) : Bool := S.isName m.name && S.solid m.boxes m.holes && S.within m.cover 0 200 && S.within m.aggr 1 100 && S.within m.poker 1 200
abbrev solV (A : Option Addr) (n c : Nat) (A' : Option Addr) (n' c' : Nat) : Value := .agg #[.slice A n c, .slice A' n' c']
abbrev memV (m : Mem) (A : Option Addr) (n c : Nat) (A' : Option Addr) (n' c' : Nat) : Value := .agg #[.string m.name, .slice A n c, .slice A' n' c', .int .i64 m.cover, .int .i64 m.aggr, .int .i64 m.poker]
structure SolAt (w : World) (B : Nat) (A : Option Addr) (n : Nat) (A' : Option Addr) (n' : Nat) (xs hs : List Bx) : Prop where
 len : xs.length = n
 max : n ≤ 9223372036854775807
 len' : hs.length = n'
 max' : n' ≤ 9223372036854775807
 cells : Cells w B A (xs.flatMap boxC)
 cells' : Cells w B A' (hs.flatMap boxC)
theorem SolAt.below {w w' : World} {B : Nat} {A : Option Addr} {n : Nat} {A' : Option Addr} {n' : Nat} {xs hs : List Bx} (h : SolAt w B A n A' n' xs hs) (hb : Below B w w') : SolAt w' B A n A' n' xs hs := ⟨h.len, h.max, h.len', h.max', h.cells.below hb, h.cells'.below hb⟩
theorem SolAt.at_ {w w' : World} {B : Nat} {A : Option Addr} {n : Nat} {A' : Option Addr} {n' : Nat} {xs hs : List Bx} (h : SolAt w B A n A' n' xs hs) (hB : B ≤ w.heap.size) (hb : Below w.heap.size w w') : SolAt w' B A n A' n' xs hs := h.below (hb.mono hB)
theorem size_via {B : Nat} {w W : World} (hB : B ≤ w.heap.size) (h : Below w.heap.size w W) : B ≤ W.heap.size := Nat.le_trans hB h.size
set_option maxHeartbeats 1000000 in
theorem thick_any (b : Bx) (w : World) :
 Calls Tryz.prog 217 #[boxV b] w fun e w' => e = .returned (.bool (S.thick b)) ∧ Below w.heap.size w w' := by
 have HV := Lib.hid (fun w => bvalid_any b w)
 have H := Lib.hid (show S.thick b = (S.boxOk b && decide (b.lo.x < b.hi.x) && decide (b.lo.y < b.hi.y) && decide (b.lo.z < b.hi.z)) from rfl)
 generalize S.boxOk b = t at *
 unfold boxV
 cases t
 all_goals (
  go_enter Tryz.func217, Tryz.ntmps217
  go_wp2_with (go_at_call 144; (with_reducible refine (HV.out _).mono ?_); rintro e w1 ⟨rfl, hbw1⟩; obtain ⟨hcw1, hfw1⟩ := bcell hbw1; have hzw1_0 : w.heap.size < w1.heap.size := lt_via hbw1 sz)
  all_goals (go_ret; exact ⟨ret_b (by rw [H.out, Bool.eq_iff_iff]; all_goals (first | (simp; done) | (simp; omega))), bel⟩))
theorem thin_any (b : Bx) (w : World) :
 Calls Tryz.prog 216 #[boxV b] w fun e w' => e = .returned (.bool (S.thin b)) ∧ Below w.heap.size w w' := by
 have HV := Lib.hid (fun w => thick_any b w)
 unfold boxV
 go_enter Tryz.func216, Tryz.ntmps216
 go_wp2_with (go_at_call 217; (with_reducible refine (HV.out _).mono ?_); rintro e w1 ⟨rfl, hbw1⟩; obtain ⟨hcw1, hfw1⟩ := bcell hbw1; have hzw1_0 : w.heap.size < w1.heap.size := lt_via hbw1 sz)
 go_ret
 exact ⟨rfl, bel⟩
set_option maxHeartbeats 2000000 in
theorem svalid_any (A : Option Addr) (n c : Nat) (A' : Option Addr) (n' c' : Nat) (xs hs : List Bx) (B : Nat) (w : World) (hB : B ≤ w.heap.size) (hA : SolAt w B A n A' n' xs hs) :
 Calls Tryz.prog 158 #[solV A n c A' n' c'] w fun e w' => e = .returned (.bool (S.solid xs hs)) ∧ Below w.heap.size w w' := by
 have HA := Lib.hid hA
 have hm := hA.max
 have hm' := hA.max'
 have H := Lib.hid (show S.solid xs hs = (decide (1 ≤ n) && decide (n ≤ 20) && decide (n' ≤ 20) && !anyb xs S.thin && !anyb hs S.thin) by unfold S.solid; rw [hA.len, hA.len'])
 clear hA
 have hf : ∀ w, AsksB w 216 #[] #[] S.thin := fun w x w' _ => thin_any x w'
 have HF := Lib.hid hf
 have HC := Lib.hid (fun (W : World) (hw : B ≤ W.heap.size) (hs1 : Cells W B A (xs.flatMap boxC)) => containsfB_any 216 #[] #[] S.thin A n c xs B W HA.out.len hm hw hs1 Tryz.call216 (hf W))
 have HC' := Lib.hid (fun (W : World) (hw : B ≤ W.heap.size) (hs1 : Cells W B A' (hs.flatMap boxC)) => containsfB_any 216 #[] #[] S.thin A' n' c' hs B W HA.out.len' hm' hw hs1 Tryz.call216 (hf W))
 clear hf
 generalize anyb xs S.thin = t1 at *
 generalize anyb hs S.thin = t2 at *
 unfold solV
 cases t1 <;> cases t2
 all_goals (
  go_enter Tryz.func158, Tryz.ntmps158
  go_wp2_with (first
   | (go_at_call 218; (with_reducible refine (HC.out _ (size_via hB bel) (SolAt.at_ HA.out hB bel).cells).mono ?_); rintro e w1 ⟨rfl, hbw1⟩; obtain ⟨hcw1, hfw1⟩ := bcell hbw1; have hzw1_0 : w.heap.size < w1.heap.size := lt_via hbw1 sz)
   | (go_at_call 218; (with_reducible refine (HC'.out _ (size_via hB bel) (SolAt.at_ HA.out hB bel).cells').mono ?_); rintro e w2 ⟨rfl, hbw2⟩; obtain ⟨hcw2, hfw2⟩ := bcell hbw2; have hzw2_0 : w.heap.size < w2.heap.size := lt_via hbw2 sz))
  all_goals (go_ret; exact ⟨ret_b (by rw [H.out, Bool.eq_iff_iff]; all_goals (first | (simp; done) | (simp; omega))), bel⟩))
theorem member1_any (n lo hi : Int) (w : World) :
 Calls Tryz.prog 156 #[.int .i64 n, .int .i64 lo, .int .i64 hi] w fun e w' => e = .returned (.bool (S.within n lo hi)) ∧ w = w' := by
 have H := Lib.hid (show S.within n lo hi = (decide (lo ≤ n) && decide (n ≤ hi)) from rfl)
 go_enter Tryz.func156, Tryz.ntmps156
 go_wp2
 all_goals (go_ret; exact ⟨ret_b (by rw [H.out, Bool.eq_iff_iff]; all_goals (first | (simp; done) | (simp; omega))), rfl⟩)
set_option maxHeartbeats 2000000 in
theorem smember_any (m : Mem) (A : Option Addr) (n c : Nat) (A' : Option Addr) (n' c' : Nat) (B : Nat) (w : World) (hB : B ≤ w.heap.size) (hA : SolAt w B A n A' n' m.boxes m.holes) (hk : m.name.size ≤ 9223372036854775807) :
 Calls Tryz.prog 106 #[memV m A n c A' n' c'] w fun e w' => e = .returned (.bool (S.member m)) ∧ Below w.heap.size w w' := by
 have HA := Lib.hid hA
 have H := Lib.hid (show S.member m = (S.isName m.name && S.solid m.boxes m.holes && S.within m.cover 0 200 && S.within m.aggr 1 100 && S.within m.poker 1 200) from rfl)
 have HN := Lib.hid (fun w => isname_any m.name w hk)
 have HS := Lib.hid (fun (W : World) (hw : B ≤ W.heap.size) (h : SolAt W B A n A' n' m.boxes m.holes) => svalid_any A n c A' n' c' m.boxes m.holes B W hw h)
 have H1 := Lib.hid (fun w => member1_any m.cover 0 200 w)
 have H2 := Lib.hid (fun w => member1_any m.aggr 1 100 w)
 have H3 := Lib.hid (fun w => member1_any m.poker 1 200 w)
 have hF := Tryz.call156
 clear hA
 generalize S.isName m.name = t0 at *
 generalize S.solid m.boxes m.holes = t1 at *
 generalize S.within m.cover 0 200 = t2 at *
 generalize S.within m.aggr 1 100 = t3 at *
 generalize S.within m.poker 1 200 = t4 at *
 unfold memV
 cases t0 <;> cases t1 <;> cases t2 <;> cases t3
 all_goals (
  go_enter Tryz.func106, Tryz.ntmps106
  go_wp2_with (first
   | (go_at_call 157; (with_reducible refine (HN.out _).mono ?_); rintro e w' ⟨rfl, rfl⟩)
   | (go_at_call 158; (with_reducible refine (HS.out _ (size_via hB bel) (SolAt.at_ HA.out hB bel)).mono ?_); rintro e w1 ⟨rfl, hbw1⟩; obtain ⟨hcw1, hfw1⟩ := bcell hbw1; have hzw1_0 : w.heap.size < w1.heap.size := lt_via hbw1 sz)
   | (go_at_call 156; (with_reducible refine (H1.out _).mono ?_); rintro e w' ⟨rfl, rfl⟩)
   | (go_at_call 156; (with_reducible refine (H2.out _).mono ?_); rintro e w' ⟨rfl, rfl⟩)
   | (go_at_call 156; (with_reducible refine (H3.out _).mono ?_); rintro e w' ⟨rfl, rfl⟩))
  go_ret
  exact ⟨ret_b (by rw [H.out]; simp), bel⟩)
end Go.Proofs.YtnmolefblaahmaaGreat
