/- Contracts of anchor.Ends, joined. -/
import Derived.Test.YtiebbklljckbdaaEndsF
set_option linter.unusedVariables false
set_option linter.unusedSimpArgs false
namespace Go.Proofs.Ytiebbklljckbdaa
open Go.RowKit
theorem given_one {r : Rule} {m : Mem} {b : Bar} {xs : List Bx} (h : S.heads r m b = false) : S.given r m b xs = 1 := by simp [S.given, h]
theorem aends_no (r : Rule) (m : Mem) (A : Option Addr) (n c : Nat) (A' : Option Addr) (n' c' : Nat) (b : Bar) (D : Option Addr) (dn dc : Nat) (L : Option Addr) (k kc : Nat) (xs : List Bx) (B : Nat) (w : World) (hB : B ≤ w.heap.size)
    (hA : EndsAt w B A n A' n' m D dn b L k xs) (hg : S.given r m b xs ≠ 0) :
    Calls Try.prog 26 #[ruleV r, memV m A n c A' n' c', barV b D dn dc, .slice L k kc] w fun e w' => e = .returned (.tuple #[.int .i64 0, .int .i64 0, .int .i64 (S.given r m b xs)]) ∧ Below w.heap.size w w' := by
  cases h : S.heads r m b
  · rw [given_one h]; exact aends_bad r m A n c A' n' c' b D dn dc L k kc xs B w hB hA h
  · exact aends_err r m A n c A' n' c' b D dn dc L k kc xs B w hB hA h hg
theorem given_leg {r : Rule} {m : Mem} {b : Bar} {xs : List Bx} (h : S.given r m b xs = 0) : ∃ j : Nat, ∃ hj : j < xs.length, idxf xs S.isMain = j := by
  obtain ⟨j, hj, h1, _⟩ := idxf_some (given_zero h).2.2.2
  exact ⟨j, hj, h1⟩
end Go.Proofs.Ytiebbklljckbdaa
