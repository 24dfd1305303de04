/-
  No cell of these rows narrows 'for every input' (looked for: loops, veiled, ifaces, maps, wideKeys, modest, calm, conditions, laid).
  DERIVED. THE GIVEN ROWS OF THIS SEAT. 7 by the template 'for every input the law returns true; each argument reads behind the call as it read before'; 0 by the template 'total and deterministic' (their statements: YtiebbklljckbdaaTotals.lean).
  GIVEN WITH THE SEED: the statements are not yours to turn. If you find one false, say at which input.
  Laid BY PROGRAM, IN A SANDBOX (cutbox-rows.mjs): the forced cells as the released guide's own fill.sh prints them over the translation 4909124315f8e4bc… (all of the seat's roots in one cut). By AI agents, Wed Nov 11 2026. No macro, syntax, notation, axiom, sorry.
-/
import Derived.Test.YtiebbklljckbdaaChecked
import GoSem.Claim
import GoSem.ClaimJoined
import GoSem.ClaimMapViews
import Derived.JoinedTies
import Derived.KernelRfl
namespace Go.Proofs.Ytiebbklljckbdaa
/- THE CELL 'sum', in the pinned program and in every row, IS THE sha256 OF THE DUMP (.gsa) THAT YtiebbklljckbdaaProg.lean LOADS. Nothing in Lean hashes anything: it is a label: what it is worth is what the hold of that sum in a sandbox is worth. -/
noncomputable def Try.pinned : Pinned := { name := "ytiebbklljckbdaa", sum := "4909124315f8e4bca5090d54c333702c65919157c287d8233ee5fd412c0adbd6", checked := Try.checked }
namespace Rows
def none {H : Type} : Left H := { results := [], args := [] }

/-- 'stirruplaw24.AnchorLengths': WHATEVER THE INPUT: true; the input reads as it did. -/
def anchorLengthsSpec : ChangeSpec := { name := "anchorLengths", fn := fun _ => fun
  | [d1, d2, d3, d4] => { results := [.lit (.bool true)], args := [d1, d2, d3, d4] }
  | _ => none }
def anchorLengthsRow : OpenClaim := { program := "ytiebbklljckbdaa", sum := "4909124315f8e4bca5090d54c333702c65919157c287d8233ee5fd412c0adbd6", func := "stirrup/stirruplaw24.AnchorLengths", spec := "anchorLengths", unfollowed := true, recurses := true, apart := false }
def AnchorLengthsSaid : Prop := anchorLengthsRow.holds Try.pinned (OpenSpec.ofChange anchorLengthsSpec)

/-- ITS FALSE NEIGHBOUR: 'it returns false'. Refute it at one input. -/
def anchorLengthsWrong : ChangeSpec := { name := "anchorLengths", fn := fun _ => fun
  | [d1, d2, d3, d4] => { results := [.lit (.bool false)], args := [d1, d2, d3, d4] }
  | _ => none }
def AnchorLengthsWrongFalsely : Prop := anchorLengthsRow.holds Try.pinned (OpenSpec.ofChange anchorLengthsWrong)

/-- 'stirruplaw24.AnchorOrders': WHATEVER THE INPUT: true; the input reads as it did. -/
def anchorOrdersSpec : ChangeSpec := { name := "anchorOrders", fn := fun _ => fun
  | [d1, d2, d3] => { results := [.lit (.bool true)], args := [d1, d2, d3] }
  | _ => none }
def anchorOrdersRow : OpenClaim := { program := "ytiebbklljckbdaa", sum := "4909124315f8e4bca5090d54c333702c65919157c287d8233ee5fd412c0adbd6", func := "stirrup/stirruplaw24.AnchorOrders", spec := "anchorOrders", unfollowed := true, recurses := true, apart := false }
def AnchorOrdersSaid : Prop := anchorOrdersRow.holds Try.pinned (OpenSpec.ofChange anchorOrdersSpec)

/-- ITS FALSE NEIGHBOUR: 'it returns false'. Refute it at one input. -/
def anchorOrdersWrong : ChangeSpec := { name := "anchorOrders", fn := fun _ => fun
  | [d1, d2, d3] => { results := [.lit (.bool false)], args := [d1, d2, d3] }
  | _ => none }
def AnchorOrdersWrongFalsely : Prop := anchorOrdersRow.holds Try.pinned (OpenSpec.ofChange anchorOrdersWrong)

/-- 'stirruplaw24.AnchorFull': WHATEVER THE INPUT: true; the input reads as it did. -/
def anchorFullSpec : ChangeSpec := { name := "anchorFull", fn := fun _ => fun
  | [d1, d2, d3, d4] => { results := [.lit (.bool true)], args := [d1, d2, d3, d4] }
  | _ => none }
def anchorFullRow : OpenClaim := { program := "ytiebbklljckbdaa", sum := "4909124315f8e4bca5090d54c333702c65919157c287d8233ee5fd412c0adbd6", func := "stirrup/stirruplaw24.AnchorFull", spec := "anchorFull", unfollowed := true, recurses := true, apart := false }
def AnchorFullSaid : Prop := anchorFullRow.holds Try.pinned (OpenSpec.ofChange anchorFullSpec)

/-- ITS FALSE NEIGHBOUR: 'it returns false'. Refute it at one input. -/
def anchorFullWrong : ChangeSpec := { name := "anchorFull", fn := fun _ => fun
  | [d1, d2, d3, d4] => { results := [.lit (.bool false)], args := [d1, d2, d3, d4] }
  | _ => none }
def AnchorFullWrongFalsely : Prop := anchorFullRow.holds Try.pinned (OpenSpec.ofChange anchorFullWrong)

/-- 'stirruplaw24.AnchorShares': WHATEVER THE INPUT: true; the input reads as it did. -/
def anchorSharesSpec : ChangeSpec := { name := "anchorShares", fn := fun _ => fun
  | [d1, d2, d3, d4, d5] => { results := [.lit (.bool true)], args := [d1, d2, d3, d4, d5] }
  | _ => none }
def anchorSharesRow : OpenClaim := { program := "ytiebbklljckbdaa", sum := "4909124315f8e4bca5090d54c333702c65919157c287d8233ee5fd412c0adbd6", func := "stirrup/stirruplaw24.AnchorShares", spec := "anchorShares", unfollowed := true, recurses := true, apart := false }
def AnchorSharesSaid : Prop := anchorSharesRow.holds Try.pinned (OpenSpec.ofChange anchorSharesSpec)

/-- ITS FALSE NEIGHBOUR: 'it returns false'. Refute it at one input. -/
def anchorSharesWrong : ChangeSpec := { name := "anchorShares", fn := fun _ => fun
  | [d1, d2, d3, d4, d5] => { results := [.lit (.bool false)], args := [d1, d2, d3, d4, d5] }
  | _ => none }
def AnchorSharesWrongFalsely : Prop := anchorSharesRow.holds Try.pinned (OpenSpec.ofChange anchorSharesWrong)

/-- 'stirruplaw24.AnchorEnds': WHATEVER THE INPUT: true; the input reads as it did. -/
def anchorEndsSpec : ChangeSpec := { name := "anchorEnds", fn := fun _ => fun
  | [d1, d2, d3, d4] => { results := [.lit (.bool true)], args := [d1, d2, d3, d4] }
  | _ => none }
def anchorEndsRow : OpenClaim := { program := "ytiebbklljckbdaa", sum := "4909124315f8e4bca5090d54c333702c65919157c287d8233ee5fd412c0adbd6", func := "stirrup/stirruplaw24.AnchorEnds", spec := "anchorEnds", unfollowed := true, recurses := true, apart := false }
def AnchorEndsSaid : Prop := anchorEndsRow.holds Try.pinned (OpenSpec.ofChange anchorEndsSpec)

/-- ITS FALSE NEIGHBOUR: 'it returns false'. Refute it at one input. -/
def anchorEndsWrong : ChangeSpec := { name := "anchorEnds", fn := fun _ => fun
  | [d1, d2, d3, d4] => { results := [.lit (.bool false)], args := [d1, d2, d3, d4] }
  | _ => none }
def AnchorEndsWrongFalsely : Prop := anchorEndsRow.holds Try.pinned (OpenSpec.ofChange anchorEndsWrong)

/-- 'stirruplaw24.AnchorMoved': WHATEVER THE INPUT: true; the input reads as it did. -/
def anchorMovedSpec : ChangeSpec := { name := "anchorMoved", fn := fun _ => fun
  | [d1, d2, d3, d4, d5] => { results := [.lit (.bool true)], args := [d1, d2, d3, d4, d5] }
  | _ => none }
def anchorMovedRow : OpenClaim := { program := "ytiebbklljckbdaa", sum := "4909124315f8e4bca5090d54c333702c65919157c287d8233ee5fd412c0adbd6", func := "stirrup/stirruplaw24.AnchorMoved", spec := "anchorMoved", unfollowed := true, recurses := true, apart := false }
def AnchorMovedSaid : Prop := anchorMovedRow.holds Try.pinned (OpenSpec.ofChange anchorMovedSpec)

/-- ITS FALSE NEIGHBOUR: 'it returns false'. Refute it at one input. -/
def anchorMovedWrong : ChangeSpec := { name := "anchorMoved", fn := fun _ => fun
  | [d1, d2, d3, d4, d5] => { results := [.lit (.bool false)], args := [d1, d2, d3, d4, d5] }
  | _ => none }
def AnchorMovedWrongFalsely : Prop := anchorMovedRow.holds Try.pinned (OpenSpec.ofChange anchorMovedWrong)

/-- 'stirruplaw24.AnchorMirrored': WHATEVER THE INPUT: true; the input reads as it did. -/
def anchorMirroredSpec : ChangeSpec := { name := "anchorMirrored", fn := fun _ => fun
  | [d1, d2, d3, d4] => { results := [.lit (.bool true)], args := [d1, d2, d3, d4] }
  | _ => none }
def anchorMirroredRow : OpenClaim := { program := "ytiebbklljckbdaa", sum := "4909124315f8e4bca5090d54c333702c65919157c287d8233ee5fd412c0adbd6", func := "stirrup/stirruplaw24.AnchorMirrored", spec := "anchorMirrored", unfollowed := true, recurses := true, apart := false }
def AnchorMirroredSaid : Prop := anchorMirroredRow.holds Try.pinned (OpenSpec.ofChange anchorMirroredSpec)

/-- ITS FALSE NEIGHBOUR: 'it returns false'. Refute it at one input. -/
def anchorMirroredWrong : ChangeSpec := { name := "anchorMirrored", fn := fun _ => fun
  | [d1, d2, d3, d4] => { results := [.lit (.bool false)], args := [d1, d2, d3, d4] }
  | _ => none }
def AnchorMirroredWrongFalsely : Prop := anchorMirroredRow.holds Try.pinned (OpenSpec.ofChange anchorMirroredWrong)

/- THE SECOND FORM. 'bulk': how many values and letters a reading holds, each counted each time it is reached (what is shared counts as often as it is met; a slice's spare places count too). A statement '..UptoSaid' is the law's where the arguments, and the package variables that the reading takes, are together of bulk at most 1048576: NARROWER than '..Said'. Prove '..Said' where nothing that the law and all that it calls make is longer than what came in: it says more and counts as full. Else prove '..UptoSaid'. A law counts once. -/
mutual
def uptoBulk {H : Type} : DataW H → Nat
  | .lit (.string bytes) => bytes.length + 1
  | .lit _ => 1
  | .nil => 1
  | .ptr d => uptoBulk d + 1
  | .slice elems spare => uptoBulkAll elems + uptoBulkAll spare + 1
  | .agg parts => uptoBulkAll parts + 1
  | .iface _ d => uptoBulk d + 1
  | .map entries => uptoBulkEntries entries + 1
  | .held _ => 1
def uptoBulkAll {H : Type} : List (DataW H) → Nat
  | [] => 0
  | d :: r => uptoBulk d + uptoBulkAll r
def uptoBulkEntries {H : Type} : List (Lit × DataW H) → Nat
  | [] => 0
  | x :: r => uptoBulkEntry x + uptoBulkEntries r
def uptoBulkEntry {H : Type} : Lit × DataW H → Nat
  | (.string bytes, d) => bytes.length + uptoBulk d + 1
  | (_, d) => uptoBulk d + 1
 end
def uptoSmall : (H : Type) → List (DataW H) → Bool := fun _ ds => decide (uptoBulkAll ds ≤ 1048576)
def OpenSpec.upto (s : _root_.Go.ChangeSpec) : _root_.Go.OpenSpec := { _root_.Go.OpenSpec.ofChange s with cond := some uptoSmall }

/-- 'stirruplaw24.AnchorLengths', WHERE WHAT IT READS IS OF BULK AT MOST 1048576: true; the input reads as it did. -/
def anchorLengthsUptoRow : OpenClaim := { program := "ytiebbklljckbdaa", sum := "4909124315f8e4bca5090d54c333702c65919157c287d8233ee5fd412c0adbd6", func := "stirrup/stirruplaw24.AnchorLengths", spec := "anchorLengths", unfollowed := true, recurses := true, apart := false, narrowed := true }
def AnchorLengthsUptoSaid : Prop := anchorLengthsUptoRow.holds Try.pinned (OpenSpec.upto anchorLengthsSpec)

/-- 'stirruplaw24.AnchorOrders', WHERE WHAT IT READS IS OF BULK AT MOST 1048576: true; the input reads as it did. -/
def anchorOrdersUptoRow : OpenClaim := { program := "ytiebbklljckbdaa", sum := "4909124315f8e4bca5090d54c333702c65919157c287d8233ee5fd412c0adbd6", func := "stirrup/stirruplaw24.AnchorOrders", spec := "anchorOrders", unfollowed := true, recurses := true, apart := false, narrowed := true }
def AnchorOrdersUptoSaid : Prop := anchorOrdersUptoRow.holds Try.pinned (OpenSpec.upto anchorOrdersSpec)

/-- 'stirruplaw24.AnchorFull', WHERE WHAT IT READS IS OF BULK AT MOST 1048576: true; the input reads as it did. -/
def anchorFullUptoRow : OpenClaim := { program := "ytiebbklljckbdaa", sum := "4909124315f8e4bca5090d54c333702c65919157c287d8233ee5fd412c0adbd6", func := "stirrup/stirruplaw24.AnchorFull", spec := "anchorFull", unfollowed := true, recurses := true, apart := false, narrowed := true }
def AnchorFullUptoSaid : Prop := anchorFullUptoRow.holds Try.pinned (OpenSpec.upto anchorFullSpec)

/-- 'stirruplaw24.AnchorShares', WHERE WHAT IT READS IS OF BULK AT MOST 1048576: true; the input reads as it did. -/
def anchorSharesUptoRow : OpenClaim := { program := "ytiebbklljckbdaa", sum := "4909124315f8e4bca5090d54c333702c65919157c287d8233ee5fd412c0adbd6", func := "stirrup/stirruplaw24.AnchorShares", spec := "anchorShares", unfollowed := true, recurses := true, apart := false, narrowed := true }
def AnchorSharesUptoSaid : Prop := anchorSharesUptoRow.holds Try.pinned (OpenSpec.upto anchorSharesSpec)

/-- 'stirruplaw24.AnchorEnds', WHERE WHAT IT READS IS OF BULK AT MOST 1048576: true; the input reads as it did. -/
def anchorEndsUptoRow : OpenClaim := { program := "ytiebbklljckbdaa", sum := "4909124315f8e4bca5090d54c333702c65919157c287d8233ee5fd412c0adbd6", func := "stirrup/stirruplaw24.AnchorEnds", spec := "anchorEnds", unfollowed := true, recurses := true, apart := false, narrowed := true }
def AnchorEndsUptoSaid : Prop := anchorEndsUptoRow.holds Try.pinned (OpenSpec.upto anchorEndsSpec)

/-- 'stirruplaw24.AnchorMoved', WHERE WHAT IT READS IS OF BULK AT MOST 1048576: true; the input reads as it did. -/
def anchorMovedUptoRow : OpenClaim := { program := "ytiebbklljckbdaa", sum := "4909124315f8e4bca5090d54c333702c65919157c287d8233ee5fd412c0adbd6", func := "stirrup/stirruplaw24.AnchorMoved", spec := "anchorMoved", unfollowed := true, recurses := true, apart := false, narrowed := true }
def AnchorMovedUptoSaid : Prop := anchorMovedUptoRow.holds Try.pinned (OpenSpec.upto anchorMovedSpec)

/-- 'stirruplaw24.AnchorMirrored', WHERE WHAT IT READS IS OF BULK AT MOST 1048576: true; the input reads as it did. -/
def anchorMirroredUptoRow : OpenClaim := { program := "ytiebbklljckbdaa", sum := "4909124315f8e4bca5090d54c333702c65919157c287d8233ee5fd412c0adbd6", func := "stirrup/stirruplaw24.AnchorMirrored", spec := "anchorMirrored", unfollowed := true, recurses := true, apart := false, narrowed := true }
def AnchorMirroredUptoSaid : Prop := anchorMirroredUptoRow.holds Try.pinned (OpenSpec.upto anchorMirroredSpec)

end Rows
end Go.Proofs.Ytiebbklljckbdaa
