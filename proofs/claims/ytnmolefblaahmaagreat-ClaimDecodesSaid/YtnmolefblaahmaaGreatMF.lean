/- Contracts: anchor.Valid, given, Length (printed by gen_anchl out of the anchor texts). -/
import Derived.Test.YtnmolefblaahmaaGreatMD
set_option linter.unusedVariables false
set_option linter.unusedSimpArgs false
namespace Go.Proofs.YtnmolefblaahmaaGreat
open Go.RowKit
def Asks (w : World) (F : Nat) (fst cap : Array Value) (p : Int → Bool) : Prop :=
 ∀ (x : Int) (w' : World), Below w.heap.size w w' → Calls Tryz.prog F (fst.push (.int .i64 x) ++ cap) w' fun e w'' => e = .returned (.bool (p x)) ∧ Below w'.heap.size w' w''
theorem indexf_any (F : Nat) (fst cap : Array Value) (p : Int → Bool) (A : Option Addr) (n c : Nat) (xs : List Int) (B : Nat) (w : World) (hn : xs.length = n) (hm : n ≤ 9223372036854775807) (hB : B ≤ w.heap.size)
 (hs : Cells w B A (i64s xs)) (hF : ∀ args w, Sem.run Tryz.prog (callFunc F args) w = .ok (.enter F args) w) (hf : Asks w F fst cap p) :
 Calls Tryz.prog 187 #[.slice A n c, .func (.func F) fst cap] w fun e w' => e = .returned (.int .i64 (idxf xs p)) ∧ Below w.heap.size w w' := by
 have HN := Lib.hid hn
 clear hn
 go_enter Tryz.func187, Tryz.ntmps187
 go_wp2
 go_loopw [8] (fun i wr => ∃ k : Nat, k ≤ n ∧ i = .int .i64 k ∧ (∀ j (h : j < xs.length), j < k → p xs[j] = false) ∧ Below w.heap.size w wr) (fun i _ => n - (intOf i).toNat)
 case atStart => exact ⟨0, Nat.zero_le _, rfl, fun j _ hj => absurd hj (by omega), Below.refl _ _⟩
 case round =>
  obtain ⟨k, hk, rfl, hno, hbr⟩ := hrel
  have HNO := Lib.hid hno
  clear hno
  by_cases hlt : k < n
  ·have hkx : k < xs.length := by have := HN.out; omega
   have hs' := hs.below (hbr.mono hB)
   obtain ⟨b, o, rfl, _, hc⟩ := hs'.at_ (by simp; omega)
   have hck := hc k _ (i64s_get hkx)
   clear hc
   by_cases hx : p xs[k] = true
   ·go_wp2_with (refine (hf _ _ hbr).mono ?_; rintro e w1 ⟨rfl, hb1⟩)
    go_ret
    exact ⟨ret_i (idxf_hit hkx hx HNO.out).symm, hbr.trans (hb1.mono hbr.size)⟩
   ·have hx' : p xs[k] = false := by simpa using hx
    clear hx
    go_wp2_with (refine (hf _ _ hbr).mono ?_; rintro e w1 ⟨rfl, hb1⟩)
    go_roundw
    case rel =>
     refine ⟨k + 1, by omega, by go_num, fun j hj hjk => ?_, hbr.trans (hb1.mono hbr.size)⟩
     by_cases hjk' : j = k
     ·subst hjk'; exact hx'
     ·exact HNO.out j hj (by omega)
    case measure => simp [intOf]; omega
  ·go_wp2
   go_ret
   exact ⟨ret_i (idxf_miss (fun j hj => HNO.out j hj (by have := HN.out; omega))).symm, hbr⟩
theorem containsf_any (F : Nat) (fst cap : Array Value) (p : Int → Bool) (A : Option Addr) (n c : Nat) (xs : List Int) (B : Nat) (w : World) (hn : xs.length = n) (hm : n ≤ 9223372036854775807) (hB : B ≤ w.heap.size)
 (hs : Cells w B A (i64s xs)) (hF : ∀ args w, Sem.run Tryz.prog (callFunc F args) w = .ok (.enter F args) w) (hf : Asks w F fst cap p) :
 Calls Tryz.prog 129 #[.slice A n c, .func (.func F) fst cap] w fun e w' => e = .returned (.bool (anyb xs p)) ∧ Below w.heap.size w w' := by
 have HN := Lib.hid hn
 have HF := Lib.hid hF
 have he : decide (0 ≤ idxf xs p) = anyb xs p := idxf_ge xs p
 clear hn hF
 go_enter Tryz.func129, Tryz.ntmps129
 go_wp2_with (go_at_call 187; refine (indexf_any F fst cap p _ _ _ xs B _ HN.out hm hB hs HF.out hf).mono ?_; rintro e w1 ⟨rfl, hb1⟩)
 go_ret
 exact ⟨rfl, hb1⟩
def numNot (n : Int) : Bool := !S.num n
theorem within1_any (n : Int) (w : World) : Calls Tryz.prog 220 #[.int .i64 n] w fun e w' => e = .returned (.bool (numNot n)) ∧ Below w.heap.size w w' := by
 by_cases h1 : n < 1
 ·go_enter Tryz.func220, Tryz.ntmps220
  go_wp2
  go_ret
  exact ⟨ret_b (by simp [numNot, S.num]; omega), Below.refl _ _⟩
 ·by_cases h2 : 1000 < n
  ·go_enter Tryz.func220, Tryz.ntmps220
   go_wp2
   go_ret
   exact ⟨ret_b (by simp [numNot, S.num]; omega), Below.refl _ _⟩
  ·go_enter Tryz.func220, Tryz.ntmps220
   go_wp2
   go_ret
   exact ⟨ret_b (by simp [numNot, S.num]; omega), Below.refl _ _⟩
theorem within_any (A : Option Addr) (n c : Nat) (xs : List Int) (B : Nat) (w : World) (hn : xs.length = n) (hm : n ≤ 9223372036854775807) (hB : B ≤ w.heap.size) (hs : Cells w B A (i64s xs)) :
 Calls Tryz.prog 162 #[.slice A n c] w fun e w' => e = .returned (.bool (!anyb xs numNot)) ∧ Below w.heap.size w w' := by
 have HN := Lib.hid hn
 clear hn
 have hf : Asks w 220 #[] #[] numNot := fun x w' _ => within1_any x w'
 go_enter Tryz.func162, Tryz.ntmps162
 go_wp2_with (go_at_call 129; refine (containsf_any 220 #[] #[] numNot _ _ _ xs B _ HN.out hm hB hs Tryz.call220 hf).mono ?_; rintro e w1 ⟨rfl, hb1⟩)
 go_ret
 exact ⟨rfl, hb1⟩
abbrev ruleV (r : Rule) : Value := .agg #[.int .i64 r.num, .int .i64 r.den, .int .i64 r.pnum, .int .i64 r.pden, .int .i64 r.bnum, .int .i64 r.bden, .int .i64 r.lnum, .int .i64 r.lden, .int .i64 r.least]
def eight (r : Rule) : List Int := [r.num, r.den, r.pnum, r.pden, r.bnum, r.bden, r.lnum, r.lden]
theorem rule_eq (r : Rule) : S.rule r = (!anyb (eight r) numNot && decide (r.pden ≤ r.pnum) && decide (r.lden ≤ r.lnum) && decide (r.bnum ≤ r.bden) && decide (0 ≤ r.least) && decide (r.least ≤ 1000)) := by
 simp [S.rule, anyb, eight, numNot, Bool.and_assoc]
theorem avalid_any (r : Rule) (w : World) : Calls Tryz.prog 108 #[ruleV r] w fun e w' => e = .returned (.bool (S.rule r)) ∧ Below w.heap.size w w' := by
 have H := Lib.hid (rule_eq r)
 have hs : Cells ((w.alloc (.cells #[.int .i64 r.num, .int .i64 r.den, .int .i64 r.pnum, .int .i64 r.pden, .int .i64 r.bnum, .int .i64 r.bden, .int .i64 r.lnum, .int .i64 r.lden, .int .i64 r.least] 32)).alloc (.cells #[.int .i64 r.num, .int .i64 r.den, .int .i64 r.pnum, .int .i64 r.pden, .int .i64 r.bnum, .int .i64 r.bden, .int .i64 r.lnum, .int .i64 r.lden] 3)) (w.heap.size + 1 + 1) (some ⟨w.heap.size + 1, 0, none⟩) (i64s (eight r)) := by
  have := Cells.new (w.alloc (.cells #[.int .i64 r.num, .int .i64 r.den, .int .i64 r.pnum, .int .i64 r.pden, .int .i64 r.bnum, .int .i64 r.bden, .int .i64 r.lnum, .int .i64 r.lden, .int .i64 r.least] 32)) #[.int .i64 r.num, .int .i64 r.den, .int .i64 r.pnum, .int .i64 r.pden, .int .i64 r.bnum, .int .i64 r.bden, .int .i64 r.lnum, .int .i64 r.lden] 3 (0, 0)
  simpa [eight] using this
 unfold ruleV
 cases ha : anyb (eight r) numNot
 ·go_enter Tryz.func108, Tryz.ntmps108
  go_wp2_with (go_at_call 162; refine (within_any _ 8 _ (eight r) _ _ rfl (by omega) (by simp) hs).mono ?_; rintro e w1 ⟨rfl, hb1⟩; obtain ⟨hc, hf⟩ := bcell hb1)
  all_goals (go_ret; exact ⟨ret_b (by rw [H.out, ha, Bool.eq_iff_iff]; simp; omega), via hb1 (by go_grown) (Nat.le_refl _)⟩)
 ·go_enter Tryz.func108, Tryz.ntmps108
  go_wp2_with (go_at_call 162; refine (within_any _ 8 _ (eight r) _ _ rfl (by omega) (by simp) hs).mono ?_; rintro e w1 ⟨rfl, hb1⟩; obtain ⟨hc, hf⟩ := bcell hb1)
  all_goals (go_ret; exact ⟨ret_b (by rw [H.out, ha]; simp), via hb1 (by go_grown) (Nat.le_refl _)⟩)
end Go.Proofs.YtnmolefblaahmaaGreat
