/- Opening arguments: integers, bools, and a rule by value. -/
import Derived.Test.YtplaghmehbkcnaaAnchA
set_option linter.unusedVariables false
set_option linter.unusedSimpArgs false
namespace Go.Proofs.Ytplaghmehbkcnaa
open Go.ChangeShapes Go.WideShapes Go.ChangeAt Go.RowKit
section
variable {H : Type} {enc : TypeId × Value → H} {w : World} {base : Nat} {sp : Nat → Bool} {hd : Bool}
theorem own : ownKnob Try.prog.godebug = none := by kernel_rfl
theorem cellsInt : Try.prog.cellsOf 3 = 1 := by kernel_rfl
theorem cellsRule : Try.prog.cellsOf 34 = 9 := by kernel_rfl
/-- A number that fits an int. -/
def I64 (n : Int) : Prop := -9223372036854775808 ≤ n ∧ n ≤ 9223372036854775807
theorem opn_int {fuel : Nat} {cs : List Value} {y : Option (DataW H × List MemPlace)} (h : DataW.trod enc Try.prog w base sp hd fuel 3 cs = y) (hy : y.isSome = true) : ∃ n, cs = [.int .i64 n] ∧ I64 n := by
  obtain ⟨z, rfl⟩ := Option.isSome_iff_exists.1 hy
  obtain ⟨n, rfl, _, hw⟩ := DataW.trod_int Try.underlying3 h
  exact ⟨n, rfl, bounds_i64 hw⟩
theorem len9 {α : Type} {l : List α} (h : l.length = 9) : ∃ a b c d e f g i j, l = [a, b, c, d, e, f, g, i, j] := by
  match l, h with
  | [a, b, c, d, e, f, g, i, j], _ => exact ⟨a, b, c, d, e, f, g, i, j, rfl⟩
structure RuleI (r : Rule) : Prop where
  num : I64 r.num
  den : I64 r.den
  pnum : I64 r.pnum
  pden : I64 r.pden
  bnum : I64 r.bnum
  bden : I64 r.bden
  lnum : I64 r.lnum
  lden : I64 r.lden
  least : I64 r.least
theorem open_rule {fuel : Nat} {cs : List Value} {x : DataW H × List MemPlace} (h : DataW.trod enc Try.prog w base sp hd fuel 34 cs = some x) :
    ∃ r : Rule, cs = (ruleV r).cells.toList ∧ RuleI r := by
  obtain ⟨xs, n, _, _, hl, hxl, hg⟩ := DataW.trod_struct Try.underlying34 h
  rw [cellsRule] at hl
  obtain ⟨c0, c1, c2, c3, c4, c5, c6, c7, c8, rfl⟩ := len9 hl
  have hs : ∀ i, i < 9 → xs[i]?.isSome = true := fun i hi => by
    have : xs.length = 9 := hxl
    simp [this, hi]
  obtain ⟨n0, e0, b0⟩ := opn_int (hg 0 _ rfl) (hs 0 (by decide))
  obtain ⟨n1, e1, b1⟩ := opn_int (hg 1 _ rfl) (hs 1 (by decide))
  obtain ⟨n2, e2, b2⟩ := opn_int (hg 2 _ rfl) (hs 2 (by decide))
  obtain ⟨n3, e3, b3⟩ := opn_int (hg 3 _ rfl) (hs 3 (by decide))
  obtain ⟨n4, e4, b4⟩ := opn_int (hg 4 _ rfl) (hs 4 (by decide))
  obtain ⟨n5, e5, b5⟩ := opn_int (hg 5 _ rfl) (hs 5 (by decide))
  obtain ⟨n6, e6, b6⟩ := opn_int (hg 6 _ rfl) (hs 6 (by decide))
  obtain ⟨n7, e7, b7⟩ := opn_int (hg 7 _ rfl) (hs 7 (by decide))
  obtain ⟨n8, e8, b8⟩ := opn_int (hg 8 _ rfl) (hs 8 (by decide))
  simp [cellsInt] at e0 e1 e2 e3 e4 e5 e6 e7 e8
  subst e0 e1 e2 e3 e4 e5 e6 e7 e8
  exact ⟨⟨n0, n1, n2, n3, n4, n5, n6, n7, n8⟩, rfl, ⟨b0, b1, b2, b3, b4, b5, b6, b7, b8⟩⟩
/-- An argument that is a rule. -/
theorem arg_rule {cs : Array Value} {d : DataW H} {p : List MemPlace} (h : DataW.Trod enc Try.prog w base sp hd 34 (.agg cs) d p) :
    ∃ r : Rule, cs = (ruleV r).cells ∧ RuleI r := by
  obtain ⟨fuel, hf⟩ := h
  obtain ⟨r, hr, hi⟩ := open_rule hf
  refine ⟨r, ?_, hi⟩
  have : cs.toList = (ruleV r).cells.toList := hr
  exact Array.toList_inj.1 this
end
end Go.Proofs.Ytplaghmehbkcnaa
