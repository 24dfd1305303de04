/-
  No cell of these rows narrows 'for every input' (looked for: loops, veiled, ifaces, maps, wideKeys, modest, calm, conditions, laid).
  DERIVED. THE GIVEN ROWS OF THIS SEAT. 7 by the template 'for every input the law returns true; each argument reads behind the call as it read before'; 0 by the template 'total and deterministic' (their statements: YtnmolefblaahmaaGreatTotals.lean).
  GIVEN WITH THE SEED: the statements are not yours to turn. If you find one false, say at which input.
  Laid BY PROGRAM, IN A SANDBOX (cutbox-rows.mjs): the forced cells as the released guide's own fill.sh prints them over the translation b2cc5f36e7085099… (all of the seat's roots in one cut). By AI agents, Wed Nov 11 2026. No macro, syntax, notation, axiom, sorry.
-/
import Derived.Test.YtnmolefblaahmaaGreatChecked
import GoSem.Claim
import GoSem.ClaimJoined
import GoSem.ClaimMapViews
import Derived.JoinedTies
import Derived.KernelRfl
namespace Go.Proofs.YtnmolefblaahmaaGreat
/- THE CELL 'sum', in the pinned program and in every row, IS THE sha256 OF THE DUMP (.gsa) THAT YtnmolefblaahmaaGreatProg.lean LOADS. Nothing in Lean hashes anything: it is a label: what it is worth is what the hold of that sum in a sandbox is worth. -/
noncomputable def Tryz.pinned : Pinned := { name := "ytnmolefblaahmaagreat", sum := "b2cc5f36e70850995a7b7af62f7dedb61a186156d25d303a25ecc460835d437f", checked := Tryz.checked }
namespace Rows
def none {H : Type} : Left H := { results := [], args := [] }

/-- 'stirruplaw51.ClaimMakes': WHATEVER THE INPUT: true; the input reads as it did. -/
def claimMakesSpec : ChangeSpec := { name := "claimMakes", fn := fun _ => fun
  | [d] => { results := [.lit (.bool true)], args := [d] }
  | _ => none }
def claimMakesRow : OpenClaim := { program := "ytnmolefblaahmaagreat", sum := "b2cc5f36e70850995a7b7af62f7dedb61a186156d25d303a25ecc460835d437f", func := "stirrup/stirruplaw51.ClaimMakes", spec := "claimMakes", unfollowed := true, recurses := true, apart := false }
def ClaimMakesSaid : Prop := claimMakesRow.holds Tryz.pinned (OpenSpec.ofChange claimMakesSpec)

/-- ITS FALSE NEIGHBOUR: 'it returns false'. Refute it at one input. -/
def claimMakesWrong : ChangeSpec := { name := "claimMakes", fn := fun _ => fun
  | [d] => { results := [.lit (.bool false)], args := [d] }
  | _ => none }
def ClaimMakesWrongFalsely : Prop := claimMakesRow.holds Tryz.pinned (OpenSpec.ofChange claimMakesWrong)

/-- 'stirruplaw51.ClaimChecks': WHATEVER THE INPUT: true; the input reads as it did. -/
def claimChecksSpec : ChangeSpec := { name := "claimChecks", fn := fun _ => fun
  | [d1, d2] => { results := [.lit (.bool true)], args := [d1, d2] }
  | _ => none }
def claimChecksRow : OpenClaim := { program := "ytnmolefblaahmaagreat", sum := "b2cc5f36e70850995a7b7af62f7dedb61a186156d25d303a25ecc460835d437f", func := "stirrup/stirruplaw51.ClaimChecks", spec := "claimChecks", unfollowed := true, recurses := true, apart := false }
def ClaimChecksSaid : Prop := claimChecksRow.holds Tryz.pinned (OpenSpec.ofChange claimChecksSpec)

/-- ITS FALSE NEIGHBOUR: 'it returns false'. Refute it at one input. -/
def claimChecksWrong : ChangeSpec := { name := "claimChecks", fn := fun _ => fun
  | [d1, d2] => { results := [.lit (.bool false)], args := [d1, d2] }
  | _ => none }
def ClaimChecksWrongFalsely : Prop := claimChecksRow.holds Tryz.pinned (OpenSpec.ofChange claimChecksWrong)

/-- 'stirruplaw51.ClaimCodes': WHATEVER THE INPUT: true; the input reads as it did. -/
def claimCodesSpec : ChangeSpec := { name := "claimCodes", fn := fun _ => fun
  | [d1, d2] => { results := [.lit (.bool true)], args := [d1, d2] }
  | _ => none }
def claimCodesRow : OpenClaim := { program := "ytnmolefblaahmaagreat", sum := "b2cc5f36e70850995a7b7af62f7dedb61a186156d25d303a25ecc460835d437f", func := "stirrup/stirruplaw51.ClaimCodes", spec := "claimCodes", unfollowed := true, recurses := true, apart := false }
def ClaimCodesSaid : Prop := claimCodesRow.holds Tryz.pinned (OpenSpec.ofChange claimCodesSpec)

/-- ITS FALSE NEIGHBOUR: 'it returns false'. Refute it at one input. -/
def claimCodesWrong : ChangeSpec := { name := "claimCodes", fn := fun _ => fun
  | [d1, d2] => { results := [.lit (.bool false)], args := [d1, d2] }
  | _ => none }
def ClaimCodesWrongFalsely : Prop := claimCodesRow.holds Tryz.pinned (OpenSpec.ofChange claimCodesWrong)

/-- 'stirruplaw51.ClaimDecodes': WHATEVER THE INPUT: true; the input reads as it did. -/
def claimDecodesSpec : ChangeSpec := { name := "claimDecodes", fn := fun _ => fun
  | [d] => { results := [.lit (.bool true)], args := [d] }
  | _ => none }
def claimDecodesRow : OpenClaim := { program := "ytnmolefblaahmaagreat", sum := "b2cc5f36e70850995a7b7af62f7dedb61a186156d25d303a25ecc460835d437f", func := "stirrup/stirruplaw51.ClaimDecodes", spec := "claimDecodes", unfollowed := true, recurses := true, apart := false }
def ClaimDecodesSaid : Prop := claimDecodesRow.holds Tryz.pinned (OpenSpec.ofChange claimDecodesSpec)

/-- ITS FALSE NEIGHBOUR: 'it returns false'. Refute it at one input. -/
def claimDecodesWrong : ChangeSpec := { name := "claimDecodes", fn := fun _ => fun
  | [d] => { results := [.lit (.bool false)], args := [d] }
  | _ => none }
def ClaimDecodesWrongFalsely : Prop := claimDecodesRow.holds Tryz.pinned (OpenSpec.ofChange claimDecodesWrong)

/-- 'stirruplaw51.ClaimRight': WHATEVER THE INPUT: true; the input reads as it did. -/
def claimRightSpec : ChangeSpec := { name := "claimRight", fn := fun _ => fun
  | [d1, d2, d3, d4] => { results := [.lit (.bool true)], args := [d1, d2, d3, d4] }
  | _ => none }
def claimRightRow : OpenClaim := { program := "ytnmolefblaahmaagreat", sum := "b2cc5f36e70850995a7b7af62f7dedb61a186156d25d303a25ecc460835d437f", func := "stirrup/stirruplaw51.ClaimRight", spec := "claimRight", unfollowed := true, recurses := true, apart := false }
def ClaimRightSaid : Prop := claimRightRow.holds Tryz.pinned (OpenSpec.ofChange claimRightSpec)

/-- ITS FALSE NEIGHBOUR: 'it returns false'. Refute it at one input. -/
def claimRightWrong : ChangeSpec := { name := "claimRight", fn := fun _ => fun
  | [d1, d2, d3, d4] => { results := [.lit (.bool false)], args := [d1, d2, d3, d4] }
  | _ => none }
def ClaimRightWrongFalsely : Prop := claimRightRow.holds Tryz.pinned (OpenSpec.ofChange claimRightWrong)

/-- 'stirruplaw51.ClaimChanged': WHATEVER THE INPUT: true; the input reads as it did. -/
def claimChangedSpec : ChangeSpec := { name := "claimChanged", fn := fun _ => fun
  | [d1, d2, d3] => { results := [.lit (.bool true)], args := [d1, d2, d3] }
  | _ => none }
def claimChangedRow : OpenClaim := { program := "ytnmolefblaahmaagreat", sum := "b2cc5f36e70850995a7b7af62f7dedb61a186156d25d303a25ecc460835d437f", func := "stirrup/stirruplaw51.ClaimChanged", spec := "claimChanged", unfollowed := true, recurses := true, apart := false }
def ClaimChangedSaid : Prop := claimChangedRow.holds Tryz.pinned (OpenSpec.ofChange claimChangedSpec)

/-- ITS FALSE NEIGHBOUR: 'it returns false'. Refute it at one input. -/
def claimChangedWrong : ChangeSpec := { name := "claimChanged", fn := fun _ => fun
  | [d1, d2, d3] => { results := [.lit (.bool false)], args := [d1, d2, d3] }
  | _ => none }
def ClaimChangedWrongFalsely : Prop := claimChangedRow.holds Tryz.pinned (OpenSpec.ofChange claimChangedWrong)

/-- 'stirruplaw51.ClaimMoved': WHATEVER THE INPUT: true; the input reads as it did. -/
def claimMovedSpec : ChangeSpec := { name := "claimMoved", fn := fun _ => fun
  | [d1, d2] => { results := [.lit (.bool true)], args := [d1, d2] }
  | _ => none }
def claimMovedRow : OpenClaim := { program := "ytnmolefblaahmaagreat", sum := "b2cc5f36e70850995a7b7af62f7dedb61a186156d25d303a25ecc460835d437f", func := "stirrup/stirruplaw51.ClaimMoved", spec := "claimMoved", unfollowed := true, recurses := true, apart := false }
def ClaimMovedSaid : Prop := claimMovedRow.holds Tryz.pinned (OpenSpec.ofChange claimMovedSpec)

/-- ITS FALSE NEIGHBOUR: 'it returns false'. Refute it at one input. -/
def claimMovedWrong : ChangeSpec := { name := "claimMoved", fn := fun _ => fun
  | [d1, d2] => { results := [.lit (.bool false)], args := [d1, d2] }
  | _ => none }
def ClaimMovedWrongFalsely : Prop := claimMovedRow.holds Tryz.pinned (OpenSpec.ofChange claimMovedWrong)

/- THE SECOND FORM. 'bulk': how many values and letters a reading holds, each counted each time it is reached (what is shared counts as often as it is met; a slice's spare places count too). A statement '..UptoSaid' is the law's where the arguments, and the package variables that the reading takes, are together of bulk at most 1048576: NARROWER than '..Said'. Prove '..Said' where nothing that the law and all that it calls make is longer than what came in: it says more and counts as full. Else prove '..UptoSaid'. A law counts once. -/
mutual
def uptoBulk {H : Type} : DataW H → Nat
  | .lit (.string bytes) => bytes.length + 1
  | .lit _ => 1
  | .nil => 1
  | .ptr d => uptoBulk d + 1
  | .slice elems spare => uptoBulkAll elems + uptoBulkAll spare + 1
  | .agg parts => uptoBulkAll parts + 1
  | .iface _ d => uptoBulk d + 1
  | .map entries => uptoBulkEntries entries + 1
  | .held _ => 1
def uptoBulkAll {H : Type} : List (DataW H) → Nat
  | [] => 0
  | d :: r => uptoBulk d + uptoBulkAll r
def uptoBulkEntries {H : Type} : List (Lit × DataW H) → Nat
  | [] => 0
  | x :: r => uptoBulkEntry x + uptoBulkEntries r
def uptoBulkEntry {H : Type} : Lit × DataW H → Nat
  | (.string bytes, d) => bytes.length + uptoBulk d + 1
  | (_, d) => uptoBulk d + 1
 end
def uptoSmall : (H : Type) → List (DataW H) → Bool := fun _ ds => decide (uptoBulkAll ds ≤ 1048576)
def OpenSpec.upto (s : _root_.Go.ChangeSpec) : _root_.Go.OpenSpec := { _root_.Go.OpenSpec.ofChange s with cond := some uptoSmall }

/-- 'stirruplaw51.ClaimMakes', WHERE WHAT IT READS IS OF BULK AT MOST 1048576: true; the input reads as it did. -/
def claimMakesUptoRow : OpenClaim := { program := "ytnmolefblaahmaagreat", sum := "b2cc5f36e70850995a7b7af62f7dedb61a186156d25d303a25ecc460835d437f", func := "stirrup/stirruplaw51.ClaimMakes", spec := "claimMakes", unfollowed := true, recurses := true, apart := false, narrowed := true }
def ClaimMakesUptoSaid : Prop := claimMakesUptoRow.holds Tryz.pinned (OpenSpec.upto claimMakesSpec)

/-- 'stirruplaw51.ClaimChecks', WHERE WHAT IT READS IS OF BULK AT MOST 1048576: true; the input reads as it did. -/
def claimChecksUptoRow : OpenClaim := { program := "ytnmolefblaahmaagreat", sum := "b2cc5f36e70850995a7b7af62f7dedb61a186156d25d303a25ecc460835d437f", func := "stirrup/stirruplaw51.ClaimChecks", spec := "claimChecks", unfollowed := true, recurses := true, apart := false, narrowed := true }
def ClaimChecksUptoSaid : Prop := claimChecksUptoRow.holds Tryz.pinned (OpenSpec.upto claimChecksSpec)

/-- 'stirruplaw51.ClaimCodes', WHERE WHAT IT READS IS OF BULK AT MOST 1048576: true; the input reads as it did. -/
def claimCodesUptoRow : OpenClaim := { program := "ytnmolefblaahmaagreat", sum := "b2cc5f36e70850995a7b7af62f7dedb61a186156d25d303a25ecc460835d437f", func := "stirrup/stirruplaw51.ClaimCodes", spec := "claimCodes", unfollowed := true, recurses := true, apart := false, narrowed := true }
def ClaimCodesUptoSaid : Prop := claimCodesUptoRow.holds Tryz.pinned (OpenSpec.upto claimCodesSpec)

/-- 'stirruplaw51.ClaimDecodes', WHERE WHAT IT READS IS OF BULK AT MOST 1048576: true; the input reads as it did. -/
def claimDecodesUptoRow : OpenClaim := { program := "ytnmolefblaahmaagreat", sum := "b2cc5f36e70850995a7b7af62f7dedb61a186156d25d303a25ecc460835d437f", func := "stirrup/stirruplaw51.ClaimDecodes", spec := "claimDecodes", unfollowed := true, recurses := true, apart := false, narrowed := true }
def ClaimDecodesUptoSaid : Prop := claimDecodesUptoRow.holds Tryz.pinned (OpenSpec.upto claimDecodesSpec)

/-- 'stirruplaw51.ClaimRight', WHERE WHAT IT READS IS OF BULK AT MOST 1048576: true; the input reads as it did. -/
def claimRightUptoRow : OpenClaim := { program := "ytnmolefblaahmaagreat", sum := "b2cc5f36e70850995a7b7af62f7dedb61a186156d25d303a25ecc460835d437f", func := "stirrup/stirruplaw51.ClaimRight", spec := "claimRight", unfollowed := true, recurses := true, apart := false, narrowed := true }
def ClaimRightUptoSaid : Prop := claimRightUptoRow.holds Tryz.pinned (OpenSpec.upto claimRightSpec)

/-- 'stirruplaw51.ClaimChanged', WHERE WHAT IT READS IS OF BULK AT MOST 1048576: true; the input reads as it did. -/
def claimChangedUptoRow : OpenClaim := { program := "ytnmolefblaahmaagreat", sum := "b2cc5f36e70850995a7b7af62f7dedb61a186156d25d303a25ecc460835d437f", func := "stirrup/stirruplaw51.ClaimChanged", spec := "claimChanged", unfollowed := true, recurses := true, apart := false, narrowed := true }
def ClaimChangedUptoSaid : Prop := claimChangedUptoRow.holds Tryz.pinned (OpenSpec.upto claimChangedSpec)

/-- 'stirruplaw51.ClaimMoved', WHERE WHAT IT READS IS OF BULK AT MOST 1048576: true; the input reads as it did. -/
def claimMovedUptoRow : OpenClaim := { program := "ytnmolefblaahmaagreat", sum := "b2cc5f36e70850995a7b7af62f7dedb61a186156d25d303a25ecc460835d437f", func := "stirrup/stirruplaw51.ClaimMoved", spec := "claimMoved", unfollowed := true, recurses := true, apart := false, narrowed := true }
def ClaimMovedUptoSaid : Prop := claimMovedUptoRow.holds Tryz.pinned (OpenSpec.upto claimMovedSpec)

end Rows
end Go.Proofs.YtnmolefblaahmaaGreat
