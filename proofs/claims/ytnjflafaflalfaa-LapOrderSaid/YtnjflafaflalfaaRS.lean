/- Rows that a call hands back; the lengths of the legs (no walk). -/
import Derived.Test.YtnjflafaflalfaaRI
import Derived.Test.YtnjflafaflalfaaRP
set_option linter.unusedVariables false
set_option linter.unusedSimpArgs false
namespace Go.Proofs.Ytnjflafaflalfaa
open Go.RowKit
theorem elemInt : Elem Try.prog 58 3 (.int .i64 0) 1 8 := ⟨Try.underlying58, by kernel_rfl, rfl, by decide⟩
def S.legLens (b : Bar) : List Int := (S.legsOf b.code).map fun l => b.dims.getD l.1 0
def GivesRow (E size : Nat) (n : Nat) (xs : List Value) (err : Int) (w : World) (e : Ending) (w' : World) : Prop :=
  ∃ A c, e = .returned (.tuple #[.slice A n c, .int .i64 err]) ∧ w'.ownsRow w.heap.size E size (.slice A n c) n xs ∧ Below w.heap.size w w'
theorem bar_head {b : Bar} (h : S.bar b = true) : (b.dims.length : Int) = S.dimsOf b.code := by
  simp only [S.bar, S.barHead, Bool.and_eq_true, beq_iff_eq] at h
  exact h.1.2
end Go.Proofs.Ytnjflafaflalfaa
