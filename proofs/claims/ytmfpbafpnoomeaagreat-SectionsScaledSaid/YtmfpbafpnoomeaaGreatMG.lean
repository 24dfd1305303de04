/- Lemmas. -/
import Derived.Test.YtmfpbafpnoomeaaGreatMB
set_option linter.unusedVariables false
set_option linter.unusedSimpArgs false
namespace Go.Proofs.YtmfpbafpnoomeaaGreat
open Go.RowKit
theorem up_any (n p q : Int) (w : World) (h2 : 1 <= q) (h3 : q <= 1000000) (hlo : 0 <= n * p) (hp : n * p <= 4611686018427387904) :
 Calls Tryz.prog 263 #[.int .i64 n, .int .i64 p, .int .i64 q] w fun e w' => e = .returned (.int .i64 (S.up n p q)) /\ w = w' := by
 have hq : (q == 0) = false := by simp; omega
 go_enter Tryz.func263, Tryz.ntmps263
 go_wp2
 go_ret
 exact ⟨rfl, rfl⟩
def Asks (w : World) (F : Nat) (fst cap : Array Value) (p : Int -> Bool) : Prop :=
 ∀ (x : Int) (w' : World), Below w.heap.size w w' -> Calls Tryz.prog F (fst.push (.int .i64 x) ++ cap) w' fun e w'' => e = .returned (.bool (p x)) /\ Below w'.heap.size w' w''
theorem indexf_any (F : Nat) (fst cap : Array Value) (p : Int -> Bool) (A : Option Addr) (n c : Nat) (xs : List Int) (B : Nat) (w : World) (hn : xs.length = n) (hm : n <= 9223372036854775807) (hB : B <= w.heap.size)
 (hs : Cells w B A (i64s xs)) (hF : ∀ args w, Sem.run Tryz.prog (callFunc F args) w = .ok (.enter F args) w) (hf : Asks w F fst cap p) :
 Calls Tryz.prog 183 #[.slice A n c, .func (.func F) fst cap] w fun e w' => e = .returned (.int .i64 (idxf xs p)) /\ Below w.heap.size w w' := by
 have HN := lh hn
 clear hn
 go_enter Tryz.func183, Tryz.ntmps183
 go_wp2
 go_loopw [8] (fun i wr => ∃ k : Nat, k <= n /\ i = .int .i64 k /\ (∀ j (h : j < xs.length), j < k -> p xs[j] = false) /\ Below w.heap.size w wr) (fun i _ => n - (intOf i).toNat)
 case atStart => exact ⟨0, Nat.zero_le _, rfl, fun j _ hj => absurd hj (by omega), Below.refl _ _⟩
 case round =>
  obtain ⟨k, hk, rfl, hno, hbr⟩ := hrel
  have HNO := lh hno
  clear hno
  by_cases hlt : k < n
  ·have hkx : k < xs.length := by have := HN.out; omega
   have hs' := hs.below (hbr.mono hB)
   obtain ⟨b, o, rfl, _, hc⟩ := hs'.at_ (by simp; omega)
   have hck := hc k _ (i64s_get hkx)
   clear hc
   by_cases hx : p xs[k] = true
   ·go_wp2_with (refine (hf _ _ hbr).mono ?_; rintro e w1 ⟨rfl, hb1⟩)
    go_ret
    exact ⟨ret_i (idxf_hit hkx hx HNO.out).symm, hbr.trans (hb1.mono hbr.size)⟩
   ·have hx' : p xs[k] = false := by simpa using hx
    clear hx
    go_wp2_with (refine (hf _ _ hbr).mono ?_; rintro e w1 ⟨rfl, hb1⟩)
    go_roundw
    case rel =>
     refine ⟨k + 1, by omega, by go_num, fun j hj hjk => ?_, hbr.trans (hb1.mono hbr.size)⟩
     by_cases hjk' : j = k
     ·subst hjk'; exact hx'
     ·exact HNO.out j hj (by omega)
    case measure => simp [intOf]; omega
  ·go_wp2
   go_ret
   exact ⟨ret_i (idxf_miss (fun j hj => HNO.out j hj (by have := HN.out; omega))).symm, hbr⟩
theorem containsf_any (F : Nat) (fst cap : Array Value) (p : Int -> Bool) (A : Option Addr) (n c : Nat) (xs : List Int) (B : Nat) (w : World) (hn : xs.length = n) (hm : n <= 9223372036854775807) (hB : B <= w.heap.size)
 (hs : Cells w B A (i64s xs)) (hF : ∀ args w, Sem.run Tryz.prog (callFunc F args) w = .ok (.enter F args) w) (hf : Asks w F fst cap p) :
 Calls Tryz.prog 127 #[.slice A n c, .func (.func F) fst cap] w fun e w' => e = .returned (.bool (anyb xs p)) /\ Below w.heap.size w w' := by
 have HN := lh hn
 have HF := lh hF
 have he : decide (0 <= idxf xs p) = anyb xs p := idxf_ge xs p
 clear hn hF
 go_enter Tryz.func127, Tryz.ntmps127
 go_wp2_with (go_at_call 183; refine (indexf_any F fst cap p _ _ _ xs B _ HN.out hm hB hs HF.out hf).mono ?_; rintro e w1 ⟨rfl, hb1⟩)
 go_ret
 exact ⟨rfl, hb1⟩
def numNot (n : Int) : Bool := !S.num n
theorem within1_any (n : Int) (w : World) : Calls Tryz.prog 211 #[.int .i64 n] w fun e w' => e = .returned (.bool (numNot n)) /\ Below w.heap.size w w' := by
 by_cases h1 : n < 1
 ·go_enter Tryz.func211, Tryz.ntmps211
  go_wp2
  go_ret
  exact ⟨ret_b (by simp [numNot, S.num]; omega), Below.refl _ _⟩
 ·by_cases h2 : 1000 < n
  ·go_enter Tryz.func211, Tryz.ntmps211
   go_wp2
   go_ret
   exact ⟨ret_b (by simp [numNot, S.num]; omega), Below.refl _ _⟩
  ·go_enter Tryz.func211, Tryz.ntmps211
   go_wp2
   go_ret
   exact ⟨ret_b (by simp [numNot, S.num]; omega), Below.refl _ _⟩
theorem within_any (A : Option Addr) (n c : Nat) (xs : List Int) (B : Nat) (w : World) (hn : xs.length = n) (hm : n <= 9223372036854775807) (hB : B <= w.heap.size) (hs : Cells w B A (i64s xs)) :
 Calls Tryz.prog 160 #[.slice A n c] w fun e w' => e = .returned (.bool (!anyb xs numNot)) /\ Below w.heap.size w w' := by
 have HN := lh hn
 clear hn
 have hf : Asks w 211 #[] #[] numNot := fun x w' _ => within1_any x w'
 go_enter Tryz.func160, Tryz.ntmps160
 go_wp2_with (go_at_call 127; refine (containsf_any 211 #[] #[] numNot _ _ _ xs B _ HN.out hm hB hs Tryz.call211 hf).mono ?_; rintro e w1 ⟨rfl, hb1⟩)
 go_ret
 exact ⟨rfl, hb1⟩
abbrev ruleV (r : Rule) : Value := .agg #[.int .i64 r.num, .int .i64 r.den, .int .i64 r.pnum, .int .i64 r.pden, .int .i64 r.bnum, .int .i64 r.bden, .int .i64 r.lnum, .int .i64 r.lden, .int .i64 r.least]
def eight (r : Rule) : List Int := [r.num, r.den, r.pnum, r.pden, r.bnum, r.bden, r.lnum, r.lden]
theorem rule_eq (r : Rule) : S.rule r = (!anyb (eight r) numNot && decide (r.pden <= r.pnum) && decide (r.lden <= r.lnum) && decide (r.bnum <= r.bden) && decide (0 <= r.least) && decide (r.least <= 1000)) := by
 simp [S.rule, anyb, eight, numNot, Bool.and_assoc]
theorem avalid_any (r : Rule) (w : World) : Calls Tryz.prog 114 #[ruleV r] w fun e w' => e = .returned (.bool (S.rule r)) /\ Below w.heap.size w w' := by
 have H := lh (rule_eq r)
 have hs : Cells ((w.alloc (.cells #[.int .i64 r.num, .int .i64 r.den, .int .i64 r.pnum, .int .i64 r.pden, .int .i64 r.bnum, .int .i64 r.bden, .int .i64 r.lnum, .int .i64 r.lden, .int .i64 r.least] 32)).alloc (.cells #[.int .i64 r.num, .int .i64 r.den, .int .i64 r.pnum, .int .i64 r.pden, .int .i64 r.bnum, .int .i64 r.bden, .int .i64 r.lnum, .int .i64 r.lden] 3)) (w.heap.size + 1 + 1) (some ⟨w.heap.size + 1, 0, none⟩) (i64s (eight r)) := by
  have := Cells.new (w.alloc (.cells #[.int .i64 r.num, .int .i64 r.den, .int .i64 r.pnum, .int .i64 r.pden, .int .i64 r.bnum, .int .i64 r.bden, .int .i64 r.lnum, .int .i64 r.lden, .int .i64 r.least] 32)) #[.int .i64 r.num, .int .i64 r.den, .int .i64 r.pnum, .int .i64 r.pden, .int .i64 r.bnum, .int .i64 r.bden, .int .i64 r.lnum, .int .i64 r.lden] 3 (0, 0)
  simpa [eight] using this
 unfold ruleV
 cases ha : anyb (eight r) numNot
 ·go_enter Tryz.func114, Tryz.ntmps114
  go_wp2_with (go_at_call 160; refine (within_any _ 8 _ (eight r) _ _ rfl (by omega) (by simp) hs).mono ?_; rintro e w1 ⟨rfl, hb1⟩; obtain ⟨hc, hf⟩ := bcell hb1)
  all_goals (go_ret; exact ⟨ret_b (by rw [H.out, ha, Bool.eq_iff_iff]; simp; omega), via hb1 (by go_grown) (Nat.le_refl _)⟩)
 ·go_enter Tryz.func114, Tryz.ntmps114
  go_wp2_with (go_at_call 160; refine (within_any _ 8 _ (eight r) _ _ rfl (by omega) (by simp) hs).mono ?_; rintro e w1 ⟨rfl, hb1⟩; obtain ⟨hc, hf⟩ := bcell hb1)
  all_goals (go_ret; exact ⟨ret_b (by rw [H.out, ha]; simp), via hb1 (by go_grown) (Nat.le_refl _)⟩)
theorem max_eq (r : Rule) (n : Int) : max n r.least = S.atLeast r n := by unfold S.atLeast; split <;> omega
theorem basic_eq (r : Rule) (d : Int) : S.basic r d = max r.least (S.up d r.num r.den) := by unfold S.basic; split <;> omega
theorem abasic_any (r : Rule) (d : Int) (w : World) (hr : RuleOk r) (h0 : 0 <= d) (h1 : d <= 40) :
 Calls Tryz.prog 262 #[ruleV r, .int .i64 d] w fun e w' => e = .returned (.int .i64 (S.basic r d)) /\ Below w.heap.size w w' := by
 have H := lh (basic_eq r d)
 have hp := mul_bd h0 h1 (by have := hr.num; omega) hr.num.2
 have hd := hr.den
 unfold ruleV
 go_enter Tryz.func262, Tryz.ntmps262
 go_wp2
 refine wp_region_grow (by kernel_rfl) (by kernel_rfl) ?_
 repeat (go_big_quiet_step ((go_at_call 263; exact grow_of_eq (up_any _ _ _ _ (by omega) (by omega) (by omega) (by omega)))))
 all_goals (refine wpQuiet_nil ?_; intro w1 hb1)
 go_wp2
 all_goals (go_ret; exact ⟨ret_i (by rw [H.out]; omega), via hb1 (by go_grown) (Nat.le_refl _)⟩)
theorem alength_any (r : Rule) (d : Int) (poor bent : Bool) (w : World) (hr : RuleOk r) (h0 : 0 <= d) (h1 : d <= 40) :
 Calls Tryz.prog 240 #[ruleV r, .int .i64 d, .bool poor, .bool bent] w fun e w' => e = .returned (.int .i64 (S.length r d poor bent)) /\ Below w.heap.size w w' := by
 have b1 := basic_bd hr h0 h1
 have hd := hr.pden
 have hd2 := hr.bden
 have m1 := mul_bd b1.1 b1.2 (by have := hr.pnum; omega) hr.pnum.2
 have b2 : 0 <= S.up (S.basic r d) r.pnum r.pden /\ S.up (S.basic r d) r.pnum r.pden <= 40000000 := poorUp_bd hr true b1.1 b1.2
 have m2 := mul_bd b2.1 b2.2 (by have := hr.bnum; omega) hr.bnum.2
 have m3 := mul_bd b1.1 b1.2 (by have := hr.bnum; omega) hr.bnum.2
 cases poor <;> cases bent
 all_goals
  have H := lh (fun n => max_eq r n)
  unfold ruleV
  go_enter Tryz.func240, Tryz.ntmps240
  go_wp2_with (first
   | (go_at_call 262; refine (abasic_any r d _ hr h0 h1).mono ?_; rintro e w1 ⟨rfl, hb1⟩; obtain ⟨hc, hf⟩ := bcell hb1)
   | (go_at_call 263; refine (up_any _ _ _ _ ?_ ?_ ?_ ?_).mono ?_; (· omega); (· omega); (· omega); (· omega); rintro e w2 ⟨rfl, rfl⟩))
  all_goals (go_ret; exact ⟨ret_i (by simp only [S.length, S.poorUp, S.bentUp, <- H.out, if_true, if_false, Bool.false_eq_true]; omega), via hb1 (by go_grown) (Nat.le_refl _)⟩)
theorem rnumber_any (n : Int) (w : World) : Calls Tryz.prog 125 #[.int .i64 n] w fun e w' => e = .returned (.bool (S.num n)) /\ w = w' := by
 have H := lh (show S.num n = (decide (1 <= n) && decide (n <= 1000)) from rfl)
 go_enter Tryz.func125, Tryz.ntmps125
 go_wp2
 all_goals (go_ret; exact ⟨ret_b (by rw [H.out, Bool.eq_iff_iff]; simp; omega), rfl⟩)
set_option maxHeartbeats 1600000 in
theorem rvalid_any (r : Rule) (w : World) : Calls Tryz.prog 88 #[ruleV r] w fun e w' => e = .returned (.bool (S.rule r)) /\ Below w.heap.size w w' := by
 have H := lh (show S.rule r = (S.num r.num && S.num r.den && S.num r.pnum && S.num r.pden && S.num r.bnum && S.num r.bden && S.num r.lnum && S.num r.lden &&
  decide (r.pden <= r.pnum) && decide (r.lden <= r.lnum) && decide (r.bnum <= r.bden) && decide (0 <= r.least) && decide (r.least <= 1000)) from rfl)
 unfold ruleV
 go_enter Tryz.func88, Tryz.ntmps88
 go_wp2_with (go_at_call 125; refine (rnumber_any _ _).mono ?_; rintro e w1 ⟨rfl, rfl⟩)
 all_goals (go_ret; exact ⟨ret_b (by rw [H.out]; (try simp only [*, Bool.and_true, Bool.true_and, Bool.and_false, Bool.false_and]); (try simp); (try omega)), by go_grown⟩)
end Go.Proofs.YtmfpbafpnoomeaaGreat
