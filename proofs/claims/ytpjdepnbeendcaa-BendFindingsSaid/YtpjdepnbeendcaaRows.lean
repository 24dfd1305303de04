/-
  No cell of these rows narrows 'for every input' (looked for: loops, veiled, ifaces, maps, wideKeys, modest, calm, conditions, laid).
  DERIVED. THE GIVEN ROWS OF THIS SEAT. 14 by the template 'for every input the law returns true; each argument reads behind the call as it read before'; 0 by the template 'total and deterministic' (their statements: YtpjdepnbeendcaaTotals.lean).
  GIVEN WITH THE SEED: the statements are not yours to turn. If you find one false, say at which input.
  Laid BY PROGRAM, IN A SANDBOX (cutbox-rows.mjs): the forced cells as the released guide's own fill.sh prints them over the translation 7d5835fb69ac063d… (all of the seat's roots in one cut). By AI agents, Wed Nov 11 2026. No macro, syntax, notation, axiom, sorry.
-/
import Derived.Test.YtpjdepnbeendcaaChecked
import GoSem.Claim
import GoSem.ClaimJoined
import GoSem.ClaimMapViews
import Derived.JoinedTies
import Derived.KernelRfl
namespace Go.Proofs.Ytpjdepnbeendcaa
/- THE CELL 'sum', in the pinned program and in every row, IS THE sha256 OF THE DUMP (.gsa) THAT YtpjdepnbeendcaaProg.lean LOADS. Nothing in Lean hashes anything: it is a label: what it is worth is what the hold of that sum in a sandbox is worth. -/
noncomputable def Try.pinned : Pinned := { name := "ytpjdepnbeendcaa", sum := "7d5835fb69ac063d18a2b97fc2438da2bf386cff01ba473cca7f7ae9cf2781fb", checked := Try.checked }
namespace Rows
def none {H : Type} : Left H := { results := [], args := [] }

/-- 'stirruplaw12.ShapeWalks': WHATEVER THE INPUT: true; the input reads as it did. -/
def shapeWalksSpec : ChangeSpec := { name := "shapeWalks", fn := fun _ => fun
  | [d] => { results := [.lit (.bool true)], args := [d] }
  | _ => none }
def shapeWalksRow : OpenClaim := { program := "ytpjdepnbeendcaa", sum := "7d5835fb69ac063d18a2b97fc2438da2bf386cff01ba473cca7f7ae9cf2781fb", func := "stirrup/stirruplaw12.ShapeWalks", spec := "shapeWalks", apart := false }
def ShapeWalksSaid : Prop := shapeWalksRow.holds Try.pinned (OpenSpec.ofChange shapeWalksSpec)

/-- ITS FALSE NEIGHBOUR: 'it returns false'. Refute it at one input. -/
def shapeWalksWrong : ChangeSpec := { name := "shapeWalks", fn := fun _ => fun
  | [d] => { results := [.lit (.bool false)], args := [d] }
  | _ => none }
def ShapeWalksWrongFalsely : Prop := shapeWalksRow.holds Try.pinned (OpenSpec.ofChange shapeWalksWrong)

/-- 'stirruplaw12.ShapeEnds': WHATEVER THE INPUT: true; the input reads as it did. -/
def shapeEndsSpec : ChangeSpec := { name := "shapeEnds", fn := fun _ => fun
  | [d] => { results := [.lit (.bool true)], args := [d] }
  | _ => none }
def shapeEndsRow : OpenClaim := { program := "ytpjdepnbeendcaa", sum := "7d5835fb69ac063d18a2b97fc2438da2bf386cff01ba473cca7f7ae9cf2781fb", func := "stirrup/stirruplaw12.ShapeEnds", spec := "shapeEnds", apart := false }
def ShapeEndsSaid : Prop := shapeEndsRow.holds Try.pinned (OpenSpec.ofChange shapeEndsSpec)

/-- ITS FALSE NEIGHBOUR: 'it returns false'. Refute it at one input. -/
def shapeEndsWrong : ChangeSpec := { name := "shapeEnds", fn := fun _ => fun
  | [d] => { results := [.lit (.bool false)], args := [d] }
  | _ => none }
def ShapeEndsWrongFalsely : Prop := shapeEndsRow.holds Try.pinned (OpenSpec.ofChange shapeEndsWrong)

/-- 'stirruplaw12.ShapeCodes': WHATEVER THE INPUT: true; the input reads as it did. -/
def shapeCodesSpec : ChangeSpec := { name := "shapeCodes", fn := fun _ => fun
  | [d] => { results := [.lit (.bool true)], args := [d] }
  | _ => none }
def shapeCodesRow : OpenClaim := { program := "ytpjdepnbeendcaa", sum := "7d5835fb69ac063d18a2b97fc2438da2bf386cff01ba473cca7f7ae9cf2781fb", func := "stirrup/stirruplaw12.ShapeCodes", spec := "shapeCodes", apart := false }
def ShapeCodesSaid : Prop := shapeCodesRow.holds Try.pinned (OpenSpec.ofChange shapeCodesSpec)

/-- ITS FALSE NEIGHBOUR: 'it returns false'. Refute it at one input. -/
def shapeCodesWrong : ChangeSpec := { name := "shapeCodes", fn := fun _ => fun
  | [d] => { results := [.lit (.bool false)], args := [d] }
  | _ => none }
def ShapeCodesWrongFalsely : Prop := shapeCodesRow.holds Try.pinned (OpenSpec.ofChange shapeCodesWrong)

/-- 'stirruplaw12.ShapeSames': WHATEVER THE INPUT: true; the input reads as it did. -/
def shapeSamesSpec : ChangeSpec := { name := "shapeSames", fn := fun _ => fun
  | [d1, d2] => { results := [.lit (.bool true)], args := [d1, d2] }
  | _ => none }
def shapeSamesRow : OpenClaim := { program := "ytpjdepnbeendcaa", sum := "7d5835fb69ac063d18a2b97fc2438da2bf386cff01ba473cca7f7ae9cf2781fb", func := "stirrup/stirruplaw12.ShapeSames", spec := "shapeSames", apart := false }
def ShapeSamesSaid : Prop := shapeSamesRow.holds Try.pinned (OpenSpec.ofChange shapeSamesSpec)

/-- ITS FALSE NEIGHBOUR: 'it returns false'. Refute it at one input. -/
def shapeSamesWrong : ChangeSpec := { name := "shapeSames", fn := fun _ => fun
  | [d1, d2] => { results := [.lit (.bool false)], args := [d1, d2] }
  | _ => none }
def ShapeSamesWrongFalsely : Prop := shapeSamesRow.holds Try.pinned (OpenSpec.ofChange shapeSamesWrong)

/-- 'stirruplaw12.ShapeScales': WHATEVER THE INPUT: true; the input reads as it did. -/
def shapeScalesSpec : ChangeSpec := { name := "shapeScales", fn := fun _ => fun
  | [d1, d2, d3, d4] => { results := [.lit (.bool true)], args := [d1, d2, d3, d4] }
  | _ => none }
def shapeScalesRow : OpenClaim := { program := "ytpjdepnbeendcaa", sum := "7d5835fb69ac063d18a2b97fc2438da2bf386cff01ba473cca7f7ae9cf2781fb", func := "stirrup/stirruplaw12.ShapeScales", spec := "shapeScales", apart := false }
def ShapeScalesSaid : Prop := shapeScalesRow.holds Try.pinned (OpenSpec.ofChange shapeScalesSpec)

/-- ITS FALSE NEIGHBOUR: 'it returns false'. Refute it at one input. -/
def shapeScalesWrong : ChangeSpec := { name := "shapeScales", fn := fun _ => fun
  | [d1, d2, d3, d4] => { results := [.lit (.bool false)], args := [d1, d2, d3, d4] }
  | _ => none }
def ShapeScalesWrongFalsely : Prop := shapeScalesRow.holds Try.pinned (OpenSpec.ofChange shapeScalesWrong)

/-- 'stirruplaw13.BendArcs': WHATEVER THE INPUT: true; the input reads as it did. -/
def bendArcsSpec : ChangeSpec := { name := "bendArcs", fn := fun _ => fun
  | [d] => { results := [.lit (.bool true)], args := [d] }
  | _ => none }
def bendArcsRow : OpenClaim := { program := "ytpjdepnbeendcaa", sum := "7d5835fb69ac063d18a2b97fc2438da2bf386cff01ba473cca7f7ae9cf2781fb", func := "stirrup/stirruplaw13.BendArcs", spec := "bendArcs", unfollowed := true, recurses := true, apart := false }
def BendArcsSaid : Prop := bendArcsRow.holds Try.pinned (OpenSpec.ofChange bendArcsSpec)

/-- ITS FALSE NEIGHBOUR: 'it returns false'. Refute it at one input. -/
def bendArcsWrong : ChangeSpec := { name := "bendArcs", fn := fun _ => fun
  | [d] => { results := [.lit (.bool false)], args := [d] }
  | _ => none }
def BendArcsWrongFalsely : Prop := bendArcsRow.holds Try.pinned (OpenSpec.ofChange bendArcsWrong)

/-- 'stirruplaw13.BendSpans': WHATEVER THE INPUT: true; the input reads as it did. -/
def bendSpansSpec : ChangeSpec := { name := "bendSpans", fn := fun _ => fun
  | [d] => { results := [.lit (.bool true)], args := [d] }
  | _ => none }
def bendSpansRow : OpenClaim := { program := "ytpjdepnbeendcaa", sum := "7d5835fb69ac063d18a2b97fc2438da2bf386cff01ba473cca7f7ae9cf2781fb", func := "stirrup/stirruplaw13.BendSpans", spec := "bendSpans", unfollowed := true, recurses := true, apart := false }
def BendSpansSaid : Prop := bendSpansRow.holds Try.pinned (OpenSpec.ofChange bendSpansSpec)

/-- ITS FALSE NEIGHBOUR: 'it returns false'. Refute it at one input. -/
def bendSpansWrong : ChangeSpec := { name := "bendSpans", fn := fun _ => fun
  | [d] => { results := [.lit (.bool false)], args := [d] }
  | _ => none }
def BendSpansWrongFalsely : Prop := bendSpansRow.holds Try.pinned (OpenSpec.ofChange bendSpansWrong)

/-- 'stirruplaw13.BendCuts': WHATEVER THE INPUT: true; the input reads as it did. -/
def bendCutsSpec : ChangeSpec := { name := "bendCuts", fn := fun _ => fun
  | [d] => { results := [.lit (.bool true)], args := [d] }
  | _ => none }
def bendCutsRow : OpenClaim := { program := "ytpjdepnbeendcaa", sum := "7d5835fb69ac063d18a2b97fc2438da2bf386cff01ba473cca7f7ae9cf2781fb", func := "stirrup/stirruplaw13.BendCuts", spec := "bendCuts", unfollowed := true, recurses := true, apart := false }
def BendCutsSaid : Prop := bendCutsRow.holds Try.pinned (OpenSpec.ofChange bendCutsSpec)

/-- ITS FALSE NEIGHBOUR: 'it returns false'. Refute it at one input. -/
def bendCutsWrong : ChangeSpec := { name := "bendCuts", fn := fun _ => fun
  | [d] => { results := [.lit (.bool false)], args := [d] }
  | _ => none }
def BendCutsWrongFalsely : Prop := bendCutsRow.holds Try.pinned (OpenSpec.ofChange bendCutsWrong)

/-- 'stirruplaw13.BendLengths': WHATEVER THE INPUT: true; the input reads as it did. -/
def bendLengthsSpec : ChangeSpec := { name := "bendLengths", fn := fun _ => fun
  | [d] => { results := [.lit (.bool true)], args := [d] }
  | _ => none }
def bendLengthsRow : OpenClaim := { program := "ytpjdepnbeendcaa", sum := "7d5835fb69ac063d18a2b97fc2438da2bf386cff01ba473cca7f7ae9cf2781fb", func := "stirrup/stirruplaw13.BendLengths", spec := "bendLengths", unfollowed := true, recurses := true, apart := false }
def BendLengthsSaid : Prop := bendLengthsRow.holds Try.pinned (OpenSpec.ofChange bendLengthsSpec)

/-- ITS FALSE NEIGHBOUR: 'it returns false'. Refute it at one input. -/
def bendLengthsWrong : ChangeSpec := { name := "bendLengths", fn := fun _ => fun
  | [d] => { results := [.lit (.bool false)], args := [d] }
  | _ => none }
def BendLengthsWrongFalsely : Prop := bendLengthsRow.holds Try.pinned (OpenSpec.ofChange bendLengthsWrong)

/-- 'stirruplaw12.ShapePaths': WHATEVER THE INPUT: true; the input reads as it did. -/
def shapePathsSpec : ChangeSpec := { name := "shapePaths", fn := fun _ => fun
  | [d] => { results := [.lit (.bool true)], args := [d] }
  | _ => none }
def shapePathsRow : OpenClaim := { program := "ytpjdepnbeendcaa", sum := "7d5835fb69ac063d18a2b97fc2438da2bf386cff01ba473cca7f7ae9cf2781fb", func := "stirrup/stirruplaw12.ShapePaths", spec := "shapePaths", unfollowed := true, recurses := true, apart := false }
def ShapePathsSaid : Prop := shapePathsRow.holds Try.pinned (OpenSpec.ofChange shapePathsSpec)

/-- ITS FALSE NEIGHBOUR: 'it returns false'. Refute it at one input. -/
def shapePathsWrong : ChangeSpec := { name := "shapePaths", fn := fun _ => fun
  | [d] => { results := [.lit (.bool false)], args := [d] }
  | _ => none }
def ShapePathsWrongFalsely : Prop := shapePathsRow.holds Try.pinned (OpenSpec.ofChange shapePathsWrong)

/-- 'stirruplaw12.ShapeBoxes': WHATEVER THE INPUT: true; the input reads as it did. -/
def shapeBoxesSpec : ChangeSpec := { name := "shapeBoxes", fn := fun _ => fun
  | [d] => { results := [.lit (.bool true)], args := [d] }
  | _ => none }
def shapeBoxesRow : OpenClaim := { program := "ytpjdepnbeendcaa", sum := "7d5835fb69ac063d18a2b97fc2438da2bf386cff01ba473cca7f7ae9cf2781fb", func := "stirrup/stirruplaw12.ShapeBoxes", spec := "shapeBoxes", unfollowed := true, recurses := true, apart := false }
def ShapeBoxesSaid : Prop := shapeBoxesRow.holds Try.pinned (OpenSpec.ofChange shapeBoxesSpec)

/-- ITS FALSE NEIGHBOUR: 'it returns false'. Refute it at one input. -/
def shapeBoxesWrong : ChangeSpec := { name := "shapeBoxes", fn := fun _ => fun
  | [d] => { results := [.lit (.bool false)], args := [d] }
  | _ => none }
def ShapeBoxesWrongFalsely : Prop := shapeBoxesRow.holds Try.pinned (OpenSpec.ofChange shapeBoxesWrong)

/-- 'stirruplaw13.BendLonger': WHATEVER THE INPUT: true; the input reads as it did. -/
def bendLongerSpec : ChangeSpec := { name := "bendLonger", fn := fun _ => fun
  | [d1, d2, d3] => { results := [.lit (.bool true)], args := [d1, d2, d3] }
  | _ => none }
def bendLongerRow : OpenClaim := { program := "ytpjdepnbeendcaa", sum := "7d5835fb69ac063d18a2b97fc2438da2bf386cff01ba473cca7f7ae9cf2781fb", func := "stirrup/stirruplaw13.BendLonger", spec := "bendLonger", unfollowed := true, recurses := true, apart := false }
def BendLongerSaid : Prop := bendLongerRow.holds Try.pinned (OpenSpec.ofChange bendLongerSpec)

/-- ITS FALSE NEIGHBOUR: 'it returns false'. Refute it at one input. -/
def bendLongerWrong : ChangeSpec := { name := "bendLonger", fn := fun _ => fun
  | [d1, d2, d3] => { results := [.lit (.bool false)], args := [d1, d2, d3] }
  | _ => none }
def BendLongerWrongFalsely : Prop := bendLongerRow.holds Try.pinned (OpenSpec.ofChange bendLongerWrong)

/-- 'stirruplaw13.BendChecks': WHATEVER THE INPUT: true; the input reads as it did. -/
def bendChecksSpec : ChangeSpec := { name := "bendChecks", fn := fun _ => fun
  | [d] => { results := [.lit (.bool true)], args := [d] }
  | _ => none }
def bendChecksRow : OpenClaim := { program := "ytpjdepnbeendcaa", sum := "7d5835fb69ac063d18a2b97fc2438da2bf386cff01ba473cca7f7ae9cf2781fb", func := "stirrup/stirruplaw13.BendChecks", spec := "bendChecks", unfollowed := true, recurses := true, apart := false }
def BendChecksSaid : Prop := bendChecksRow.holds Try.pinned (OpenSpec.ofChange bendChecksSpec)

/-- ITS FALSE NEIGHBOUR: 'it returns false'. Refute it at one input. -/
def bendChecksWrong : ChangeSpec := { name := "bendChecks", fn := fun _ => fun
  | [d] => { results := [.lit (.bool false)], args := [d] }
  | _ => none }
def BendChecksWrongFalsely : Prop := bendChecksRow.holds Try.pinned (OpenSpec.ofChange bendChecksWrong)

/-- 'stirruplaw13.BendFindings': WHATEVER THE INPUT: true; the input reads as it did. -/
def bendFindingsSpec : ChangeSpec := { name := "bendFindings", fn := fun _ => fun
  | [d] => { results := [.lit (.bool true)], args := [d] }
  | _ => none }
def bendFindingsRow : OpenClaim := { program := "ytpjdepnbeendcaa", sum := "7d5835fb69ac063d18a2b97fc2438da2bf386cff01ba473cca7f7ae9cf2781fb", func := "stirrup/stirruplaw13.BendFindings", spec := "bendFindings", unfollowed := true, recurses := true, apart := false }
def BendFindingsSaid : Prop := bendFindingsRow.holds Try.pinned (OpenSpec.ofChange bendFindingsSpec)

/-- ITS FALSE NEIGHBOUR: 'it returns false'. Refute it at one input. -/
def bendFindingsWrong : ChangeSpec := { name := "bendFindings", fn := fun _ => fun
  | [d] => { results := [.lit (.bool false)], args := [d] }
  | _ => none }
def BendFindingsWrongFalsely : Prop := bendFindingsRow.holds Try.pinned (OpenSpec.ofChange bendFindingsWrong)

/- THE SECOND FORM. 'bulk': how many values and letters a reading holds, each counted each time it is reached (what is shared counts as often as it is met; a slice's spare places count too). A statement '..UptoSaid' is the law's where the arguments, and the package variables that the reading takes, are together of bulk at most 1048576: NARROWER than '..Said'. Prove '..Said' where nothing that the law and all that it calls make is longer than what came in: it says more and counts as full. Else prove '..UptoSaid'. A law counts once. -/
mutual
def uptoBulk {H : Type} : DataW H → Nat
  | .lit (.string bytes) => bytes.length + 1
  | .lit _ => 1
  | .nil => 1
  | .ptr d => uptoBulk d + 1
  | .slice elems spare => uptoBulkAll elems + uptoBulkAll spare + 1
  | .agg parts => uptoBulkAll parts + 1
  | .iface _ d => uptoBulk d + 1
  | .map entries => uptoBulkEntries entries + 1
  | .held _ => 1
def uptoBulkAll {H : Type} : List (DataW H) → Nat
  | [] => 0
  | d :: r => uptoBulk d + uptoBulkAll r
def uptoBulkEntries {H : Type} : List (Lit × DataW H) → Nat
  | [] => 0
  | x :: r => uptoBulkEntry x + uptoBulkEntries r
def uptoBulkEntry {H : Type} : Lit × DataW H → Nat
  | (.string bytes, d) => bytes.length + uptoBulk d + 1
  | (_, d) => uptoBulk d + 1
 end
def uptoSmall : (H : Type) → List (DataW H) → Bool := fun _ ds => decide (uptoBulkAll ds ≤ 1048576)
def OpenSpec.upto (s : _root_.Go.ChangeSpec) : _root_.Go.OpenSpec := { _root_.Go.OpenSpec.ofChange s with cond := some uptoSmall }

/-- 'stirruplaw12.ShapeWalks', WHERE WHAT IT READS IS OF BULK AT MOST 1048576: true; the input reads as it did. -/
def shapeWalksUptoRow : OpenClaim := { program := "ytpjdepnbeendcaa", sum := "7d5835fb69ac063d18a2b97fc2438da2bf386cff01ba473cca7f7ae9cf2781fb", func := "stirrup/stirruplaw12.ShapeWalks", spec := "shapeWalks", apart := false, narrowed := true }
def ShapeWalksUptoSaid : Prop := shapeWalksUptoRow.holds Try.pinned (OpenSpec.upto shapeWalksSpec)

/-- 'stirruplaw12.ShapeEnds', WHERE WHAT IT READS IS OF BULK AT MOST 1048576: true; the input reads as it did. -/
def shapeEndsUptoRow : OpenClaim := { program := "ytpjdepnbeendcaa", sum := "7d5835fb69ac063d18a2b97fc2438da2bf386cff01ba473cca7f7ae9cf2781fb", func := "stirrup/stirruplaw12.ShapeEnds", spec := "shapeEnds", apart := false, narrowed := true }
def ShapeEndsUptoSaid : Prop := shapeEndsUptoRow.holds Try.pinned (OpenSpec.upto shapeEndsSpec)

/-- 'stirruplaw12.ShapeCodes', WHERE WHAT IT READS IS OF BULK AT MOST 1048576: true; the input reads as it did. -/
def shapeCodesUptoRow : OpenClaim := { program := "ytpjdepnbeendcaa", sum := "7d5835fb69ac063d18a2b97fc2438da2bf386cff01ba473cca7f7ae9cf2781fb", func := "stirrup/stirruplaw12.ShapeCodes", spec := "shapeCodes", apart := false, narrowed := true }
def ShapeCodesUptoSaid : Prop := shapeCodesUptoRow.holds Try.pinned (OpenSpec.upto shapeCodesSpec)

/-- 'stirruplaw12.ShapeSames', WHERE WHAT IT READS IS OF BULK AT MOST 1048576: true; the input reads as it did. -/
def shapeSamesUptoRow : OpenClaim := { program := "ytpjdepnbeendcaa", sum := "7d5835fb69ac063d18a2b97fc2438da2bf386cff01ba473cca7f7ae9cf2781fb", func := "stirrup/stirruplaw12.ShapeSames", spec := "shapeSames", apart := false, narrowed := true }
def ShapeSamesUptoSaid : Prop := shapeSamesUptoRow.holds Try.pinned (OpenSpec.upto shapeSamesSpec)

/-- 'stirruplaw12.ShapeScales', WHERE WHAT IT READS IS OF BULK AT MOST 1048576: true; the input reads as it did. -/
def shapeScalesUptoRow : OpenClaim := { program := "ytpjdepnbeendcaa", sum := "7d5835fb69ac063d18a2b97fc2438da2bf386cff01ba473cca7f7ae9cf2781fb", func := "stirrup/stirruplaw12.ShapeScales", spec := "shapeScales", apart := false, narrowed := true }
def ShapeScalesUptoSaid : Prop := shapeScalesUptoRow.holds Try.pinned (OpenSpec.upto shapeScalesSpec)

/-- 'stirruplaw13.BendArcs', WHERE WHAT IT READS IS OF BULK AT MOST 1048576: true; the input reads as it did. -/
def bendArcsUptoRow : OpenClaim := { program := "ytpjdepnbeendcaa", sum := "7d5835fb69ac063d18a2b97fc2438da2bf386cff01ba473cca7f7ae9cf2781fb", func := "stirrup/stirruplaw13.BendArcs", spec := "bendArcs", unfollowed := true, recurses := true, apart := false, narrowed := true }
def BendArcsUptoSaid : Prop := bendArcsUptoRow.holds Try.pinned (OpenSpec.upto bendArcsSpec)

/-- 'stirruplaw13.BendSpans', WHERE WHAT IT READS IS OF BULK AT MOST 1048576: true; the input reads as it did. -/
def bendSpansUptoRow : OpenClaim := { program := "ytpjdepnbeendcaa", sum := "7d5835fb69ac063d18a2b97fc2438da2bf386cff01ba473cca7f7ae9cf2781fb", func := "stirrup/stirruplaw13.BendSpans", spec := "bendSpans", unfollowed := true, recurses := true, apart := false, narrowed := true }
def BendSpansUptoSaid : Prop := bendSpansUptoRow.holds Try.pinned (OpenSpec.upto bendSpansSpec)

/-- 'stirruplaw13.BendCuts', WHERE WHAT IT READS IS OF BULK AT MOST 1048576: true; the input reads as it did. -/
def bendCutsUptoRow : OpenClaim := { program := "ytpjdepnbeendcaa", sum := "7d5835fb69ac063d18a2b97fc2438da2bf386cff01ba473cca7f7ae9cf2781fb", func := "stirrup/stirruplaw13.BendCuts", spec := "bendCuts", unfollowed := true, recurses := true, apart := false, narrowed := true }
def BendCutsUptoSaid : Prop := bendCutsUptoRow.holds Try.pinned (OpenSpec.upto bendCutsSpec)

/-- 'stirruplaw13.BendLengths', WHERE WHAT IT READS IS OF BULK AT MOST 1048576: true; the input reads as it did. -/
def bendLengthsUptoRow : OpenClaim := { program := "ytpjdepnbeendcaa", sum := "7d5835fb69ac063d18a2b97fc2438da2bf386cff01ba473cca7f7ae9cf2781fb", func := "stirrup/stirruplaw13.BendLengths", spec := "bendLengths", unfollowed := true, recurses := true, apart := false, narrowed := true }
def BendLengthsUptoSaid : Prop := bendLengthsUptoRow.holds Try.pinned (OpenSpec.upto bendLengthsSpec)

/-- 'stirruplaw12.ShapePaths', WHERE WHAT IT READS IS OF BULK AT MOST 1048576: true; the input reads as it did. -/
def shapePathsUptoRow : OpenClaim := { program := "ytpjdepnbeendcaa", sum := "7d5835fb69ac063d18a2b97fc2438da2bf386cff01ba473cca7f7ae9cf2781fb", func := "stirrup/stirruplaw12.ShapePaths", spec := "shapePaths", unfollowed := true, recurses := true, apart := false, narrowed := true }
def ShapePathsUptoSaid : Prop := shapePathsUptoRow.holds Try.pinned (OpenSpec.upto shapePathsSpec)

/-- 'stirruplaw12.ShapeBoxes', WHERE WHAT IT READS IS OF BULK AT MOST 1048576: true; the input reads as it did. -/
def shapeBoxesUptoRow : OpenClaim := { program := "ytpjdepnbeendcaa", sum := "7d5835fb69ac063d18a2b97fc2438da2bf386cff01ba473cca7f7ae9cf2781fb", func := "stirrup/stirruplaw12.ShapeBoxes", spec := "shapeBoxes", unfollowed := true, recurses := true, apart := false, narrowed := true }
def ShapeBoxesUptoSaid : Prop := shapeBoxesUptoRow.holds Try.pinned (OpenSpec.upto shapeBoxesSpec)

/-- 'stirruplaw13.BendLonger', WHERE WHAT IT READS IS OF BULK AT MOST 1048576: true; the input reads as it did. -/
def bendLongerUptoRow : OpenClaim := { program := "ytpjdepnbeendcaa", sum := "7d5835fb69ac063d18a2b97fc2438da2bf386cff01ba473cca7f7ae9cf2781fb", func := "stirrup/stirruplaw13.BendLonger", spec := "bendLonger", unfollowed := true, recurses := true, apart := false, narrowed := true }
def BendLongerUptoSaid : Prop := bendLongerUptoRow.holds Try.pinned (OpenSpec.upto bendLongerSpec)

/-- 'stirruplaw13.BendChecks', WHERE WHAT IT READS IS OF BULK AT MOST 1048576: true; the input reads as it did. -/
def bendChecksUptoRow : OpenClaim := { program := "ytpjdepnbeendcaa", sum := "7d5835fb69ac063d18a2b97fc2438da2bf386cff01ba473cca7f7ae9cf2781fb", func := "stirrup/stirruplaw13.BendChecks", spec := "bendChecks", unfollowed := true, recurses := true, apart := false, narrowed := true }
def BendChecksUptoSaid : Prop := bendChecksUptoRow.holds Try.pinned (OpenSpec.upto bendChecksSpec)

/-- 'stirruplaw13.BendFindings', WHERE WHAT IT READS IS OF BULK AT MOST 1048576: true; the input reads as it did. -/
def bendFindingsUptoRow : OpenClaim := { program := "ytpjdepnbeendcaa", sum := "7d5835fb69ac063d18a2b97fc2438da2bf386cff01ba473cca7f7ae9cf2781fb", func := "stirrup/stirruplaw13.BendFindings", spec := "bendFindings", unfollowed := true, recurses := true, apart := false, narrowed := true }
def BendFindingsUptoSaid : Prop := bendFindingsUptoRow.holds Try.pinned (OpenSpec.upto bendFindingsSpec)

end Rows
end Go.Proofs.Ytpjdepnbeendcaa
