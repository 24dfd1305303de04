/- Contracts: slices.ContainsFunc over integers, anchor.within. -/
import Derived.Test.YtiebbklljckbdaaLeafA
import Derived.Test.YtiebbklljckbdaaIdxF
set_option linter.unusedVariables false
set_option linter.unusedSimpArgs false
namespace Go.Proofs.Ytiebbklljckbdaa
open Go.RowKit

/-- What a function value of one integer answers: p, and memory of its own at most. -/
def Asks (w : World) (F : Nat) (fst cap : Array Value) (p : Int → Bool) : Prop :=
  ∀ (x : Int) (w' : World), Below w.heap.size w w' → Calls Try.prog F (fst.push (.int .i64 x) ++ cap) w' fun e w'' => e = .returned (.bool (p x)) ∧ Below w'.heap.size w' w''

theorem indexf_any (F : Nat) (fst cap : Array Value) (p : Int → Bool) (A : Option Addr) (n c : Nat) (xs : List Int) (B : Nat) (w : World) (hn : xs.length = n) (hm : n ≤ 9223372036854775807) (hB : B ≤ w.heap.size)
    (hs : Cells w B A (i64s xs)) (hF : ∀ args w, Sem.run Try.prog (callFunc F args) w = .ok (.enter F args) w) (hf : Asks w F fst cap p) :
    Calls Try.prog 94 #[.slice A n c, .func (.func F) fst cap] w fun e w' => e = .returned (.int .i64 (idxf xs p)) ∧ Below w.heap.size w w' := by
  have HN := Lib.hid hn
  clear hn
  go_enter Try.func94, Try.ntmps94
  go_wp2
  go_loopw [8] (fun i wr => ∃ k : Nat, k ≤ n ∧ i = .int .i64 k ∧ (∀ j (h : j < xs.length), j < k → p xs[j] = false) ∧ Below w.heap.size w wr) (fun i _ => n - (intOf i).toNat)
  case atStart => exact ⟨0, Nat.zero_le _, rfl, fun j _ hj => absurd hj (by omega), Below.refl _ _⟩
  case round =>
    obtain ⟨k, hk, rfl, hno, hbr⟩ := hrel
    have HNO := Lib.hid hno
    clear hno
    by_cases hlt : k < n
    · have hkx : k < xs.length := by have := HN.out; omega
      have hs' := hs.below (hbr.mono hB)
      obtain ⟨b, o, rfl, _, hc⟩ := hs'.at_ (by simp; omega)
      have hck := hc k _ (i64s_get hkx)
      clear hc
      by_cases hx : p xs[k] = true
      · go_wp2_with (refine (hf _ _ hbr).mono ?_; rintro e w1 ⟨rfl, hb1⟩)
        go_ret
        exact ⟨ret_i (idxf_hit hkx hx HNO.out).symm, hbr.trans (hb1.mono hbr.size)⟩
      · have hx' : p xs[k] = false := by simpa using hx
        clear hx
        go_wp2_with (refine (hf _ _ hbr).mono ?_; rintro e w1 ⟨rfl, hb1⟩)
        go_roundw
        case rel =>
          refine ⟨k + 1, by omega, by go_num, fun j hj hjk => ?_, hbr.trans (hb1.mono hbr.size)⟩
          by_cases hjk' : j = k
          · subst hjk'; exact hx'
          · exact HNO.out j hj (by omega)
        case measure => simp [intOf]; omega
    · go_wp2
      go_ret
      exact ⟨ret_i (idxf_miss (fun j hj => HNO.out j hj (by have := HN.out; omega))).symm, hbr⟩
theorem containsf_any (F : Nat) (fst cap : Array Value) (p : Int → Bool) (A : Option Addr) (n c : Nat) (xs : List Int) (B : Nat) (w : World) (hn : xs.length = n) (hm : n ≤ 9223372036854775807) (hB : B ≤ w.heap.size)
    (hs : Cells w B A (i64s xs)) (hF : ∀ args w, Sem.run Try.prog (callFunc F args) w = .ok (.enter F args) w) (hf : Asks w F fst cap p) :
    Calls Try.prog 69 #[.slice A n c, .func (.func F) fst cap] w fun e w' => e = .returned (.bool (anyb xs p)) ∧ Below w.heap.size w w' := by
  have HN := Lib.hid hn
  have HF := Lib.hid hF
  have he : decide (0 ≤ idxf xs p) = anyb xs p := idxf_ge xs p
  clear hn hF
  go_enter Try.func69, Try.ntmps69
  go_wp2_with (go_at_call 94; refine (indexf_any F fst cap p _ _ _ xs B _ HN.out hm hB hs HF.out hf).mono ?_; rintro e w1 ⟨rfl, hb1⟩)
  go_ret
  exact ⟨rfl, hb1⟩
def numNot (n : Int) : Bool := !S.num n
theorem within1_any (n : Int) (w : World) : Calls Try.prog 70 #[.int .i64 n] w fun e w' => e = .returned (.bool (numNot n)) ∧ Below w.heap.size w w' := by
  by_cases h1 : n < 1
  · go_enter Try.func70, Try.ntmps70
    go_wp2
    go_ret
    exact ⟨ret_b (by simp [numNot, S.num]; omega), Below.refl _ _⟩
  · by_cases h2 : 1000 < n
    · go_enter Try.func70, Try.ntmps70
      go_wp2
      go_ret
      exact ⟨ret_b (by simp [numNot, S.num]; omega), Below.refl _ _⟩
    · go_enter Try.func70, Try.ntmps70
      go_wp2
      go_ret
      exact ⟨ret_b (by simp [numNot, S.num]; omega), Below.refl _ _⟩
theorem within_any (A : Option Addr) (n c : Nat) (xs : List Int) (B : Nat) (w : World) (hn : xs.length = n) (hm : n ≤ 9223372036854775807) (hB : B ≤ w.heap.size) (hs : Cells w B A (i64s xs)) :
    Calls Try.prog 39 #[.slice A n c] w fun e w' => e = .returned (.bool (!anyb xs numNot)) ∧ Below w.heap.size w w' := by
  have HN := Lib.hid hn
  clear hn
  have hf : Asks w 70 #[] #[] numNot := fun x w' _ => within1_any x w'
  go_enter Try.func39, Try.ntmps39
  go_wp2_with (go_at_call 69; refine (containsf_any 70 #[] #[] numNot _ _ _ xs B _ HN.out hm hB hs Try.call70 hf).mono ?_; rintro e w1 ⟨rfl, hb1⟩)
  go_ret
  exact ⟨rfl, hb1⟩
end Go.Proofs.Ytiebbklljckbdaa
