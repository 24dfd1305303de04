/-
  No cell of these rows narrows 'for every input' (looked for: loops, veiled, ifaces, maps, wideKeys, modest, calm, conditions, laid).
  DERIVED. THE GIVEN ROWS OF THIS SEAT. 9 by the template 'for every input the law returns true; each argument reads behind the call as it read before'; 0 by the template 'total and deterministic' (their statements: YtffkmgjmlahfpaaGreatTotals.lean).
  GIVEN WITH THE SEED: the statements are not yours to turn. If you find one false, say at which input.
  Laid BY PROGRAM, IN A SANDBOX (cutbox-rows.mjs): the forced cells as the released guide's own fill.sh prints them over the translation 0fe57491c658de7c… (all of the seat's roots in one cut). By AI agents, Wed Nov 11 2026. No macro, syntax, notation, axiom, sorry.
-/
import Derived.Test.YtffkmgjmlahfpaaGreatChecked
import GoSem.Claim
import GoSem.ClaimJoined
import GoSem.ClaimMapViews
import Derived.JoinedTies
import Derived.KernelRfl
namespace Go.Proofs.YtffkmgjmlahfpaaGreat
/- THE CELL 'sum', in the pinned program and in every row, IS THE sha256 OF THE DUMP (.gsa) THAT YtffkmgjmlahfpaaGreatProg.lean LOADS. Nothing in Lean hashes anything: it is a label: what it is worth is what the hold of that sum in a sandbox is worth. -/
noncomputable def Tryz.pinned : Pinned := { name := "ytffkmgjmlahfpaagreat", sum := "0fe57491c658de7c2d1a19660d946ce9e6c21ec3fdb2d9f74ab371f6f6a28b0f", checked := Tryz.checked }
namespace Rows
def none {H : Type} : Left H := { results := [], args := [] }

/-- 'stirruplaw25.LapFindings': WHATEVER THE INPUT: true; the input reads as it did. -/
def lapFindingsSpec : ChangeSpec := { name := "lapFindings", fn := fun _ => fun
  | [d] => { results := [.lit (.bool true)], args := [d] }
  | _ => none }
def lapFindingsRow : OpenClaim := { program := "ytffkmgjmlahfpaagreat", sum := "0fe57491c658de7c2d1a19660d946ce9e6c21ec3fdb2d9f74ab371f6f6a28b0f", func := "stirrup/stirruplaw25.LapFindings", spec := "lapFindings", unfollowed := true, recurses := true, apart := false }
def LapFindingsSaid : Prop := lapFindingsRow.holds Tryz.pinned (OpenSpec.ofChange lapFindingsSpec)

/-- ITS FALSE NEIGHBOUR: 'it returns false'. Refute it at one input. -/
def lapFindingsWrong : ChangeSpec := { name := "lapFindings", fn := fun _ => fun
  | [d] => { results := [.lit (.bool false)], args := [d] }
  | _ => none }
def LapFindingsWrongFalsely : Prop := lapFindingsRow.holds Tryz.pinned (OpenSpec.ofChange lapFindingsWrong)

/-- 'stirruplaw25.LapChecks': WHATEVER THE INPUT: true; the input reads as it did. -/
def lapChecksSpec : ChangeSpec := { name := "lapChecks", fn := fun _ => fun
  | [d1, d2] => { results := [.lit (.bool true)], args := [d1, d2] }
  | _ => none }
def lapChecksRow : OpenClaim := { program := "ytffkmgjmlahfpaagreat", sum := "0fe57491c658de7c2d1a19660d946ce9e6c21ec3fdb2d9f74ab371f6f6a28b0f", func := "stirrup/stirruplaw25.LapChecks", spec := "lapChecks", unfollowed := true, recurses := true, apart := false }
def LapChecksSaid : Prop := lapChecksRow.holds Tryz.pinned (OpenSpec.ofChange lapChecksSpec)

/-- ITS FALSE NEIGHBOUR: 'it returns false'. Refute it at one input. -/
def lapChecksWrong : ChangeSpec := { name := "lapChecks", fn := fun _ => fun
  | [d1, d2] => { results := [.lit (.bool false)], args := [d1, d2] }
  | _ => none }
def LapChecksWrongFalsely : Prop := lapChecksRow.holds Tryz.pinned (OpenSpec.ofChange lapChecksWrong)

/-- 'stirruplaw26.SupplyLonger': WHATEVER THE INPUT: true; the input reads as it did. -/
def supplyLongerSpec : ChangeSpec := { name := "supplyLonger", fn := fun _ => fun
  | [d1, d2, d3, d4, d5] => { results := [.lit (.bool true)], args := [d1, d2, d3, d4, d5] }
  | _ => none }
def supplyLongerRow : OpenClaim := { program := "ytffkmgjmlahfpaagreat", sum := "0fe57491c658de7c2d1a19660d946ce9e6c21ec3fdb2d9f74ab371f6f6a28b0f", func := "stirrup/stirruplaw26.SupplyLonger", spec := "supplyLonger", unfollowed := true, recurses := true, apart := false }
def SupplyLongerSaid : Prop := supplyLongerRow.holds Tryz.pinned (OpenSpec.ofChange supplyLongerSpec)

/-- ITS FALSE NEIGHBOUR: 'it returns false'. Refute it at one input. -/
def supplyLongerWrong : ChangeSpec := { name := "supplyLonger", fn := fun _ => fun
  | [d1, d2, d3, d4, d5] => { results := [.lit (.bool false)], args := [d1, d2, d3, d4, d5] }
  | _ => none }
def SupplyLongerWrongFalsely : Prop := supplyLongerRow.holds Tryz.pinned (OpenSpec.ofChange supplyLongerWrong)

/-- 'stirruplaw26.SupplySteps': WHATEVER THE INPUT: true; the input reads as it did. -/
def supplyStepsSpec : ChangeSpec := { name := "supplySteps", fn := fun _ => fun
  | [d1, d2] => { results := [.lit (.bool true)], args := [d1, d2] }
  | _ => none }
def supplyStepsRow : OpenClaim := { program := "ytffkmgjmlahfpaagreat", sum := "0fe57491c658de7c2d1a19660d946ce9e6c21ec3fdb2d9f74ab371f6f6a28b0f", func := "stirrup/stirruplaw26.SupplySteps", spec := "supplySteps", unfollowed := true, recurses := true, apart := false }
def SupplyStepsSaid : Prop := supplyStepsRow.holds Tryz.pinned (OpenSpec.ofChange supplyStepsSpec)

/-- ITS FALSE NEIGHBOUR: 'it returns false'. Refute it at one input. -/
def supplyStepsWrong : ChangeSpec := { name := "supplySteps", fn := fun _ => fun
  | [d1, d2] => { results := [.lit (.bool false)], args := [d1, d2] }
  | _ => none }
def SupplyStepsWrongFalsely : Prop := supplyStepsRow.holds Tryz.pinned (OpenSpec.ofChange supplyStepsWrong)

/-- 'stirruplaw26.SupplyPlaces': WHATEVER THE INPUT: true; the input reads as it did. -/
def supplyPlacesSpec : ChangeSpec := { name := "supplyPlaces", fn := fun _ => fun
  | [d1, d2, d3] => { results := [.lit (.bool true)], args := [d1, d2, d3] }
  | _ => none }
def supplyPlacesRow : OpenClaim := { program := "ytffkmgjmlahfpaagreat", sum := "0fe57491c658de7c2d1a19660d946ce9e6c21ec3fdb2d9f74ab371f6f6a28b0f", func := "stirrup/stirruplaw26.SupplyPlaces", spec := "supplyPlaces", unfollowed := true, recurses := true, apart := false }
def SupplyPlacesSaid : Prop := supplyPlacesRow.holds Tryz.pinned (OpenSpec.ofChange supplyPlacesSpec)

/-- ITS FALSE NEIGHBOUR: 'it returns false'. Refute it at one input. -/
def supplyPlacesWrong : ChangeSpec := { name := "supplyPlaces", fn := fun _ => fun
  | [d1, d2, d3] => { results := [.lit (.bool false)], args := [d1, d2, d3] }
  | _ => none }
def SupplyPlacesWrongFalsely : Prop := supplyPlacesRow.holds Tryz.pinned (OpenSpec.ofChange supplyPlacesWrong)

/-- 'stirruplaw26.SupplyLegs': WHATEVER THE INPUT: true; the input reads as it did. -/
def supplyLegsSpec : ChangeSpec := { name := "supplyLegs", fn := fun _ => fun
  | [d1, d2, d3] => { results := [.lit (.bool true)], args := [d1, d2, d3] }
  | _ => none }
def supplyLegsRow : OpenClaim := { program := "ytffkmgjmlahfpaagreat", sum := "0fe57491c658de7c2d1a19660d946ce9e6c21ec3fdb2d9f74ab371f6f6a28b0f", func := "stirrup/stirruplaw26.SupplyLegs", spec := "supplyLegs", unfollowed := true, recurses := true, apart := false }
def SupplyLegsSaid : Prop := supplyLegsRow.holds Tryz.pinned (OpenSpec.ofChange supplyLegsSpec)

/-- ITS FALSE NEIGHBOUR: 'it returns false'. Refute it at one input. -/
def supplyLegsWrong : ChangeSpec := { name := "supplyLegs", fn := fun _ => fun
  | [d1, d2, d3] => { results := [.lit (.bool false)], args := [d1, d2, d3] }
  | _ => none }
def SupplyLegsWrongFalsely : Prop := supplyLegsRow.holds Tryz.pinned (OpenSpec.ofChange supplyLegsWrong)

/-- 'stirruplaw26.SupplyBars': WHATEVER THE INPUT: true; the input reads as it did. -/
def supplyBarsSpec : ChangeSpec := { name := "supplyBars", fn := fun _ => fun
  | [d1, d2, d3] => { results := [.lit (.bool true)], args := [d1, d2, d3] }
  | _ => none }
def supplyBarsRow : OpenClaim := { program := "ytffkmgjmlahfpaagreat", sum := "0fe57491c658de7c2d1a19660d946ce9e6c21ec3fdb2d9f74ab371f6f6a28b0f", func := "stirrup/stirruplaw26.SupplyBars", spec := "supplyBars", unfollowed := true, recurses := true, apart := false }
def SupplyBarsSaid : Prop := supplyBarsRow.holds Tryz.pinned (OpenSpec.ofChange supplyBarsSpec)

/-- ITS FALSE NEIGHBOUR: 'it returns false'. Refute it at one input. -/
def supplyBarsWrong : ChangeSpec := { name := "supplyBars", fn := fun _ => fun
  | [d1, d2, d3] => { results := [.lit (.bool false)], args := [d1, d2, d3] }
  | _ => none }
def SupplyBarsWrongFalsely : Prop := supplyBarsRow.holds Tryz.pinned (OpenSpec.ofChange supplyBarsWrong)

/-- 'stirruplaw26.SupplyOther': WHATEVER THE INPUT: true; the input reads as it did. -/
def supplyOtherSpec : ChangeSpec := { name := "supplyOther", fn := fun _ => fun
  | [d] => { results := [.lit (.bool true)], args := [d] }
  | _ => none }
def supplyOtherRow : OpenClaim := { program := "ytffkmgjmlahfpaagreat", sum := "0fe57491c658de7c2d1a19660d946ce9e6c21ec3fdb2d9f74ab371f6f6a28b0f", func := "stirrup/stirruplaw26.SupplyOther", spec := "supplyOther", unfollowed := true, recurses := true, apart := false }
def SupplyOtherSaid : Prop := supplyOtherRow.holds Tryz.pinned (OpenSpec.ofChange supplyOtherSpec)

/-- ITS FALSE NEIGHBOUR: 'it returns false'. Refute it at one input. -/
def supplyOtherWrong : ChangeSpec := { name := "supplyOther", fn := fun _ => fun
  | [d] => { results := [.lit (.bool false)], args := [d] }
  | _ => none }
def SupplyOtherWrongFalsely : Prop := supplyOtherRow.holds Tryz.pinned (OpenSpec.ofChange supplyOtherWrong)

/-- 'stirruplaw26.SupplySums': WHATEVER THE INPUT: true; the input reads as it did. -/
def supplySumsSpec : ChangeSpec := { name := "supplySums", fn := fun _ => fun
  | [d1, d2, d3] => { results := [.lit (.bool true)], args := [d1, d2, d3] }
  | _ => none }
def supplySumsRow : OpenClaim := { program := "ytffkmgjmlahfpaagreat", sum := "0fe57491c658de7c2d1a19660d946ce9e6c21ec3fdb2d9f74ab371f6f6a28b0f", func := "stirrup/stirruplaw26.SupplySums", spec := "supplySums", unfollowed := true, recurses := true, apart := false }
def SupplySumsSaid : Prop := supplySumsRow.holds Tryz.pinned (OpenSpec.ofChange supplySumsSpec)

/-- ITS FALSE NEIGHBOUR: 'it returns false'. Refute it at one input. -/
def supplySumsWrong : ChangeSpec := { name := "supplySums", fn := fun _ => fun
  | [d1, d2, d3] => { results := [.lit (.bool false)], args := [d1, d2, d3] }
  | _ => none }
def SupplySumsWrongFalsely : Prop := supplySumsRow.holds Tryz.pinned (OpenSpec.ofChange supplySumsWrong)

/- THE SECOND FORM. 'bulk': how many values and letters a reading holds, each counted each time it is reached (what is shared counts as often as it is met; a slice's spare places count too). A statement '..UptoSaid' is the law's where the arguments, and the package variables that the reading takes, are together of bulk at most 1048576: NARROWER than '..Said'. Prove '..Said' where nothing that the law and all that it calls make is longer than what came in: it says more and counts as full. Else prove '..UptoSaid'. A law counts once. -/
mutual
def uptoBulk {H : Type} : DataW H → Nat
  | .lit (.string bytes) => bytes.length + 1
  | .lit _ => 1
  | .nil => 1
  | .ptr d => uptoBulk d + 1
  | .slice elems spare => uptoBulkAll elems + uptoBulkAll spare + 1
  | .agg parts => uptoBulkAll parts + 1
  | .iface _ d => uptoBulk d + 1
  | .map entries => uptoBulkEntries entries + 1
  | .held _ => 1
def uptoBulkAll {H : Type} : List (DataW H) → Nat
  | [] => 0
  | d :: r => uptoBulk d + uptoBulkAll r
def uptoBulkEntries {H : Type} : List (Lit × DataW H) → Nat
  | [] => 0
  | x :: r => uptoBulkEntry x + uptoBulkEntries r
def uptoBulkEntry {H : Type} : Lit × DataW H → Nat
  | (.string bytes, d) => bytes.length + uptoBulk d + 1
  | (_, d) => uptoBulk d + 1
 end
def uptoSmall : (H : Type) → List (DataW H) → Bool := fun _ ds => decide (uptoBulkAll ds ≤ 1048576)
def OpenSpec.upto (s : _root_.Go.ChangeSpec) : _root_.Go.OpenSpec := { _root_.Go.OpenSpec.ofChange s with cond := some uptoSmall }

/-- 'stirruplaw25.LapFindings', WHERE WHAT IT READS IS OF BULK AT MOST 1048576: true; the input reads as it did. -/
def lapFindingsUptoRow : OpenClaim := { program := "ytffkmgjmlahfpaagreat", sum := "0fe57491c658de7c2d1a19660d946ce9e6c21ec3fdb2d9f74ab371f6f6a28b0f", func := "stirrup/stirruplaw25.LapFindings", spec := "lapFindings", unfollowed := true, recurses := true, apart := false, narrowed := true }
def LapFindingsUptoSaid : Prop := lapFindingsUptoRow.holds Tryz.pinned (OpenSpec.upto lapFindingsSpec)

/-- 'stirruplaw25.LapChecks', WHERE WHAT IT READS IS OF BULK AT MOST 1048576: true; the input reads as it did. -/
def lapChecksUptoRow : OpenClaim := { program := "ytffkmgjmlahfpaagreat", sum := "0fe57491c658de7c2d1a19660d946ce9e6c21ec3fdb2d9f74ab371f6f6a28b0f", func := "stirrup/stirruplaw25.LapChecks", spec := "lapChecks", unfollowed := true, recurses := true, apart := false, narrowed := true }
def LapChecksUptoSaid : Prop := lapChecksUptoRow.holds Tryz.pinned (OpenSpec.upto lapChecksSpec)

/-- 'stirruplaw26.SupplyLonger', WHERE WHAT IT READS IS OF BULK AT MOST 1048576: true; the input reads as it did. -/
def supplyLongerUptoRow : OpenClaim := { program := "ytffkmgjmlahfpaagreat", sum := "0fe57491c658de7c2d1a19660d946ce9e6c21ec3fdb2d9f74ab371f6f6a28b0f", func := "stirrup/stirruplaw26.SupplyLonger", spec := "supplyLonger", unfollowed := true, recurses := true, apart := false, narrowed := true }
def SupplyLongerUptoSaid : Prop := supplyLongerUptoRow.holds Tryz.pinned (OpenSpec.upto supplyLongerSpec)

/-- 'stirruplaw26.SupplySteps', WHERE WHAT IT READS IS OF BULK AT MOST 1048576: true; the input reads as it did. -/
def supplyStepsUptoRow : OpenClaim := { program := "ytffkmgjmlahfpaagreat", sum := "0fe57491c658de7c2d1a19660d946ce9e6c21ec3fdb2d9f74ab371f6f6a28b0f", func := "stirrup/stirruplaw26.SupplySteps", spec := "supplySteps", unfollowed := true, recurses := true, apart := false, narrowed := true }
def SupplyStepsUptoSaid : Prop := supplyStepsUptoRow.holds Tryz.pinned (OpenSpec.upto supplyStepsSpec)

/-- 'stirruplaw26.SupplyPlaces', WHERE WHAT IT READS IS OF BULK AT MOST 1048576: true; the input reads as it did. -/
def supplyPlacesUptoRow : OpenClaim := { program := "ytffkmgjmlahfpaagreat", sum := "0fe57491c658de7c2d1a19660d946ce9e6c21ec3fdb2d9f74ab371f6f6a28b0f", func := "stirrup/stirruplaw26.SupplyPlaces", spec := "supplyPlaces", unfollowed := true, recurses := true, apart := false, narrowed := true }
def SupplyPlacesUptoSaid : Prop := supplyPlacesUptoRow.holds Tryz.pinned (OpenSpec.upto supplyPlacesSpec)

/-- 'stirruplaw26.SupplyLegs', WHERE WHAT IT READS IS OF BULK AT MOST 1048576: true; the input reads as it did. -/
def supplyLegsUptoRow : OpenClaim := { program := "ytffkmgjmlahfpaagreat", sum := "0fe57491c658de7c2d1a19660d946ce9e6c21ec3fdb2d9f74ab371f6f6a28b0f", func := "stirrup/stirruplaw26.SupplyLegs", spec := "supplyLegs", unfollowed := true, recurses := true, apart := false, narrowed := true }
def SupplyLegsUptoSaid : Prop := supplyLegsUptoRow.holds Tryz.pinned (OpenSpec.upto supplyLegsSpec)

/-- 'stirruplaw26.SupplyBars', WHERE WHAT IT READS IS OF BULK AT MOST 1048576: true; the input reads as it did. -/
def supplyBarsUptoRow : OpenClaim := { program := "ytffkmgjmlahfpaagreat", sum := "0fe57491c658de7c2d1a19660d946ce9e6c21ec3fdb2d9f74ab371f6f6a28b0f", func := "stirrup/stirruplaw26.SupplyBars", spec := "supplyBars", unfollowed := true, recurses := true, apart := false, narrowed := true }
def SupplyBarsUptoSaid : Prop := supplyBarsUptoRow.holds Tryz.pinned (OpenSpec.upto supplyBarsSpec)

/-- 'stirruplaw26.SupplyOther', WHERE WHAT IT READS IS OF BULK AT MOST 1048576: true; the input reads as it did. -/
def supplyOtherUptoRow : OpenClaim := { program := "ytffkmgjmlahfpaagreat", sum := "0fe57491c658de7c2d1a19660d946ce9e6c21ec3fdb2d9f74ab371f6f6a28b0f", func := "stirrup/stirruplaw26.SupplyOther", spec := "supplyOther", unfollowed := true, recurses := true, apart := false, narrowed := true }
def SupplyOtherUptoSaid : Prop := supplyOtherUptoRow.holds Tryz.pinned (OpenSpec.upto supplyOtherSpec)

/-- 'stirruplaw26.SupplySums', WHERE WHAT IT READS IS OF BULK AT MOST 1048576: true; the input reads as it did. -/
def supplySumsUptoRow : OpenClaim := { program := "ytffkmgjmlahfpaagreat", sum := "0fe57491c658de7c2d1a19660d946ce9e6c21ec3fdb2d9f74ab371f6f6a28b0f", func := "stirrup/stirruplaw26.SupplySums", spec := "supplySums", unfollowed := true, recurses := true, apart := false, narrowed := true }
def SupplySumsUptoSaid : Prop := supplySumsUptoRow.holds Tryz.pinned (OpenSpec.upto supplySumsSpec)

end Rows
end Go.Proofs.YtffkmgjmlahfpaaGreat
