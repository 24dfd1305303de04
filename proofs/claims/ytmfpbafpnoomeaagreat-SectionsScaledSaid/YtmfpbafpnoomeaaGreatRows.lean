/-
  No cell of these rows narrows 'for every input' (looked for: loops, veiled, ifaces, maps, wideKeys, modest, calm, conditions, laid).
  DERIVED. THE GIVEN ROWS OF THIS SEAT. 7 by the template 'for every input the law returns true; each argument reads behind the call as it read before'; 0 by the template 'total and deterministic' (their statements: YtmfpbafpnoomeaaGreatTotals.lean).
  GIVEN WITH THE SEED: the statements are not yours to turn. If you find one false, say at which input.
  Laid BY PROGRAM, IN A SANDBOX (cutbox-rows.mjs): the forced cells as the released guide's own fill.sh prints them over the translation 2c9c779dd85edcce… (all of the seat's roots in one cut). By AI agents, Wed Nov 11 2026. No macro, syntax, notation, axiom, sorry.
-/
import Derived.Test.YtmfpbafpnoomeaaGreatChecked
import GoSem.Claim
import GoSem.ClaimJoined
import GoSem.ClaimMapViews
import Derived.JoinedTies
import Derived.KernelRfl
namespace Go.Proofs.YtmfpbafpnoomeaaGreat
/- THE CELL 'sum', in the pinned program and in every row, IS THE sha256 OF THE DUMP (.gsa) THAT YtmfpbafpnoomeaaGreatProg.lean LOADS. Nothing in Lean hashes anything: it is a label: what it is worth is what the hold of that sum in a sandbox is worth. -/
noncomputable def Tryz.pinned : Pinned := { name := "ytmfpbafpnoomeaagreat", sum := "2c9c779dd85edcce48e047ce6ab9a185fbcc3df504c4ce3ec85f2ddd4490d7c2", checked := Tryz.checked }
namespace Rows
def none {H : Type} : Left H := { results := [], args := [] }

/-- 'stirruplaw27.SectionsSpans': WHATEVER THE INPUT: true; the input reads as it did. -/
def sectionsSpansSpec : ChangeSpec := { name := "sectionsSpans", fn := fun _ => fun
  | [d1, d2] => { results := [.lit (.bool true)], args := [d1, d2] }
  | _ => none }
def sectionsSpansRow : OpenClaim := { program := "ytmfpbafpnoomeaagreat", sum := "2c9c779dd85edcce48e047ce6ab9a185fbcc3df504c4ce3ec85f2ddd4490d7c2", func := "stirrup/stirruplaw27.SectionsSpans", spec := "sectionsSpans", unfollowed := true, recurses := true, apart := false }
def SectionsSpansSaid : Prop := sectionsSpansRow.holds Tryz.pinned (OpenSpec.ofChange sectionsSpansSpec)

/-- ITS FALSE NEIGHBOUR: 'it returns false'. Refute it at one input. -/
def sectionsSpansWrong : ChangeSpec := { name := "sectionsSpans", fn := fun _ => fun
  | [d1, d2] => { results := [.lit (.bool false)], args := [d1, d2] }
  | _ => none }
def SectionsSpansWrongFalsely : Prop := sectionsSpansRow.holds Tryz.pinned (OpenSpec.ofChange sectionsSpansWrong)

/-- 'stirruplaw27.SectionsSpares': WHATEVER THE INPUT: true; the input reads as it did. -/
def sectionsSparesSpec : ChangeSpec := { name := "sectionsSpares", fn := fun _ => fun
  | [d1, d2, d3] => { results := [.lit (.bool true)], args := [d1, d2, d3] }
  | _ => none }
def sectionsSparesRow : OpenClaim := { program := "ytmfpbafpnoomeaagreat", sum := "2c9c779dd85edcce48e047ce6ab9a185fbcc3df504c4ce3ec85f2ddd4490d7c2", func := "stirrup/stirruplaw27.SectionsSpares", spec := "sectionsSpares", unfollowed := true, recurses := true, apart := false }
def SectionsSparesSaid : Prop := sectionsSparesRow.holds Tryz.pinned (OpenSpec.ofChange sectionsSparesSpec)

/-- ITS FALSE NEIGHBOUR: 'it returns false'. Refute it at one input. -/
def sectionsSparesWrong : ChangeSpec := { name := "sectionsSpares", fn := fun _ => fun
  | [d1, d2, d3] => { results := [.lit (.bool false)], args := [d1, d2, d3] }
  | _ => none }
def SectionsSparesWrongFalsely : Prop := sectionsSparesRow.holds Tryz.pinned (OpenSpec.ofChange sectionsSparesWrong)

/-- 'stirruplaw27.SectionsChecks': WHATEVER THE INPUT: true; the input reads as it did. -/
def sectionsChecksSpec : ChangeSpec := { name := "sectionsChecks", fn := fun _ => fun
  | [d] => { results := [.lit (.bool true)], args := [d] }
  | _ => none }
def sectionsChecksRow : OpenClaim := { program := "ytmfpbafpnoomeaagreat", sum := "2c9c779dd85edcce48e047ce6ab9a185fbcc3df504c4ce3ec85f2ddd4490d7c2", func := "stirrup/stirruplaw27.SectionsChecks", spec := "sectionsChecks", unfollowed := true, recurses := true, apart := false }
def SectionsChecksSaid : Prop := sectionsChecksRow.holds Tryz.pinned (OpenSpec.ofChange sectionsChecksSpec)

/-- ITS FALSE NEIGHBOUR: 'it returns false'. Refute it at one input. -/
def sectionsChecksWrong : ChangeSpec := { name := "sectionsChecks", fn := fun _ => fun
  | [d] => { results := [.lit (.bool false)], args := [d] }
  | _ => none }
def SectionsChecksWrongFalsely : Prop := sectionsChecksRow.holds Tryz.pinned (OpenSpec.ofChange sectionsChecksWrong)

/-- 'stirruplaw27.SectionsFirst': WHATEVER THE INPUT: true; the input reads as it did. -/
def sectionsFirstSpec : ChangeSpec := { name := "sectionsFirst", fn := fun _ => fun
  | [d1, d2, d3] => { results := [.lit (.bool true)], args := [d1, d2, d3] }
  | _ => none }
def sectionsFirstRow : OpenClaim := { program := "ytmfpbafpnoomeaagreat", sum := "2c9c779dd85edcce48e047ce6ab9a185fbcc3df504c4ce3ec85f2ddd4490d7c2", func := "stirrup/stirruplaw27.SectionsFirst", spec := "sectionsFirst", unfollowed := true, recurses := true, apart := false }
def SectionsFirstSaid : Prop := sectionsFirstRow.holds Tryz.pinned (OpenSpec.ofChange sectionsFirstSpec)

/-- ITS FALSE NEIGHBOUR: 'it returns false'. Refute it at one input. -/
def sectionsFirstWrong : ChangeSpec := { name := "sectionsFirst", fn := fun _ => fun
  | [d1, d2, d3] => { results := [.lit (.bool false)], args := [d1, d2, d3] }
  | _ => none }
def SectionsFirstWrongFalsely : Prop := sectionsFirstRow.holds Tryz.pinned (OpenSpec.ofChange sectionsFirstWrong)

/-- 'stirruplaw27.SectionsAll': WHATEVER THE INPUT: true; the input reads as it did. -/
def sectionsAllSpec : ChangeSpec := { name := "sectionsAll", fn := fun _ => fun
  | [d1, d2, d3] => { results := [.lit (.bool true)], args := [d1, d2, d3] }
  | _ => none }
def sectionsAllRow : OpenClaim := { program := "ytmfpbafpnoomeaagreat", sum := "2c9c779dd85edcce48e047ce6ab9a185fbcc3df504c4ce3ec85f2ddd4490d7c2", func := "stirrup/stirruplaw27.SectionsAll", spec := "sectionsAll", unfollowed := true, recurses := true, apart := false }
def SectionsAllSaid : Prop := sectionsAllRow.holds Tryz.pinned (OpenSpec.ofChange sectionsAllSpec)

/-- ITS FALSE NEIGHBOUR: 'it returns false'. Refute it at one input. -/
def sectionsAllWrong : ChangeSpec := { name := "sectionsAll", fn := fun _ => fun
  | [d1, d2, d3] => { results := [.lit (.bool false)], args := [d1, d2, d3] }
  | _ => none }
def SectionsAllWrongFalsely : Prop := sectionsAllRow.holds Tryz.pinned (OpenSpec.ofChange sectionsAllWrong)

/-- 'stirruplaw27.SectionsLeast': WHATEVER THE INPUT: true; the input reads as it did. -/
def sectionsLeastSpec : ChangeSpec := { name := "sectionsLeast", fn := fun _ => fun
  | [d1, d2, d3] => { results := [.lit (.bool true)], args := [d1, d2, d3] }
  | _ => none }
def sectionsLeastRow : OpenClaim := { program := "ytmfpbafpnoomeaagreat", sum := "2c9c779dd85edcce48e047ce6ab9a185fbcc3df504c4ce3ec85f2ddd4490d7c2", func := "stirrup/stirruplaw27.SectionsLeast", spec := "sectionsLeast", unfollowed := true, recurses := true, apart := false }
def SectionsLeastSaid : Prop := sectionsLeastRow.holds Tryz.pinned (OpenSpec.ofChange sectionsLeastSpec)

/-- ITS FALSE NEIGHBOUR: 'it returns false'. Refute it at one input. -/
def sectionsLeastWrong : ChangeSpec := { name := "sectionsLeast", fn := fun _ => fun
  | [d1, d2, d3] => { results := [.lit (.bool false)], args := [d1, d2, d3] }
  | _ => none }
def SectionsLeastWrongFalsely : Prop := sectionsLeastRow.holds Tryz.pinned (OpenSpec.ofChange sectionsLeastWrong)

/-- 'stirruplaw27.SectionsScaled': WHATEVER THE INPUT: true; the input reads as it did. -/
def sectionsScaledSpec : ChangeSpec := { name := "sectionsScaled", fn := fun _ => fun
  | [d1, d2, d3, d4] => { results := [.lit (.bool true)], args := [d1, d2, d3, d4] }
  | _ => none }
def sectionsScaledRow : OpenClaim := { program := "ytmfpbafpnoomeaagreat", sum := "2c9c779dd85edcce48e047ce6ab9a185fbcc3df504c4ce3ec85f2ddd4490d7c2", func := "stirrup/stirruplaw27.SectionsScaled", spec := "sectionsScaled", unfollowed := true, recurses := true, apart := false }
def SectionsScaledSaid : Prop := sectionsScaledRow.holds Tryz.pinned (OpenSpec.ofChange sectionsScaledSpec)

/-- ITS FALSE NEIGHBOUR: 'it returns false'. Refute it at one input. -/
def sectionsScaledWrong : ChangeSpec := { name := "sectionsScaled", fn := fun _ => fun
  | [d1, d2, d3, d4] => { results := [.lit (.bool false)], args := [d1, d2, d3, d4] }
  | _ => none }
def SectionsScaledWrongFalsely : Prop := sectionsScaledRow.holds Tryz.pinned (OpenSpec.ofChange sectionsScaledWrong)

/- THE SECOND FORM. 'bulk': how many values and letters a reading holds, each counted each time it is reached (what is shared counts as often as it is met; a slice's spare places count too). A statement '..UptoSaid' is the law's where the arguments, and the package variables that the reading takes, are together of bulk at most 1048576: NARROWER than '..Said'. Prove '..Said' where nothing that the law and all that it calls make is longer than what came in: it says more and counts as full. Else prove '..UptoSaid'. A law counts once. -/
mutual
def uptoBulk {H : Type} : DataW H → Nat
  | .lit (.string bytes) => bytes.length + 1
  | .lit _ => 1
  | .nil => 1
  | .ptr d => uptoBulk d + 1
  | .slice elems spare => uptoBulkAll elems + uptoBulkAll spare + 1
  | .agg parts => uptoBulkAll parts + 1
  | .iface _ d => uptoBulk d + 1
  | .map entries => uptoBulkEntries entries + 1
  | .held _ => 1
def uptoBulkAll {H : Type} : List (DataW H) → Nat
  | [] => 0
  | d :: r => uptoBulk d + uptoBulkAll r
def uptoBulkEntries {H : Type} : List (Lit × DataW H) → Nat
  | [] => 0
  | x :: r => uptoBulkEntry x + uptoBulkEntries r
def uptoBulkEntry {H : Type} : Lit × DataW H → Nat
  | (.string bytes, d) => bytes.length + uptoBulk d + 1
  | (_, d) => uptoBulk d + 1
 end
def uptoSmall : (H : Type) → List (DataW H) → Bool := fun _ ds => decide (uptoBulkAll ds ≤ 1048576)
def OpenSpec.upto (s : _root_.Go.ChangeSpec) : _root_.Go.OpenSpec := { _root_.Go.OpenSpec.ofChange s with cond := some uptoSmall }

/-- 'stirruplaw27.SectionsSpans', WHERE WHAT IT READS IS OF BULK AT MOST 1048576: true; the input reads as it did. -/
def sectionsSpansUptoRow : OpenClaim := { program := "ytmfpbafpnoomeaagreat", sum := "2c9c779dd85edcce48e047ce6ab9a185fbcc3df504c4ce3ec85f2ddd4490d7c2", func := "stirrup/stirruplaw27.SectionsSpans", spec := "sectionsSpans", unfollowed := true, recurses := true, apart := false, narrowed := true }
def SectionsSpansUptoSaid : Prop := sectionsSpansUptoRow.holds Tryz.pinned (OpenSpec.upto sectionsSpansSpec)

/-- 'stirruplaw27.SectionsSpares', WHERE WHAT IT READS IS OF BULK AT MOST 1048576: true; the input reads as it did. -/
def sectionsSparesUptoRow : OpenClaim := { program := "ytmfpbafpnoomeaagreat", sum := "2c9c779dd85edcce48e047ce6ab9a185fbcc3df504c4ce3ec85f2ddd4490d7c2", func := "stirrup/stirruplaw27.SectionsSpares", spec := "sectionsSpares", unfollowed := true, recurses := true, apart := false, narrowed := true }
def SectionsSparesUptoSaid : Prop := sectionsSparesUptoRow.holds Tryz.pinned (OpenSpec.upto sectionsSparesSpec)

/-- 'stirruplaw27.SectionsChecks', WHERE WHAT IT READS IS OF BULK AT MOST 1048576: true; the input reads as it did. -/
def sectionsChecksUptoRow : OpenClaim := { program := "ytmfpbafpnoomeaagreat", sum := "2c9c779dd85edcce48e047ce6ab9a185fbcc3df504c4ce3ec85f2ddd4490d7c2", func := "stirrup/stirruplaw27.SectionsChecks", spec := "sectionsChecks", unfollowed := true, recurses := true, apart := false, narrowed := true }
def SectionsChecksUptoSaid : Prop := sectionsChecksUptoRow.holds Tryz.pinned (OpenSpec.upto sectionsChecksSpec)

/-- 'stirruplaw27.SectionsFirst', WHERE WHAT IT READS IS OF BULK AT MOST 1048576: true; the input reads as it did. -/
def sectionsFirstUptoRow : OpenClaim := { program := "ytmfpbafpnoomeaagreat", sum := "2c9c779dd85edcce48e047ce6ab9a185fbcc3df504c4ce3ec85f2ddd4490d7c2", func := "stirrup/stirruplaw27.SectionsFirst", spec := "sectionsFirst", unfollowed := true, recurses := true, apart := false, narrowed := true }
def SectionsFirstUptoSaid : Prop := sectionsFirstUptoRow.holds Tryz.pinned (OpenSpec.upto sectionsFirstSpec)

/-- 'stirruplaw27.SectionsAll', WHERE WHAT IT READS IS OF BULK AT MOST 1048576: true; the input reads as it did. -/
def sectionsAllUptoRow : OpenClaim := { program := "ytmfpbafpnoomeaagreat", sum := "2c9c779dd85edcce48e047ce6ab9a185fbcc3df504c4ce3ec85f2ddd4490d7c2", func := "stirrup/stirruplaw27.SectionsAll", spec := "sectionsAll", unfollowed := true, recurses := true, apart := false, narrowed := true }
def SectionsAllUptoSaid : Prop := sectionsAllUptoRow.holds Tryz.pinned (OpenSpec.upto sectionsAllSpec)

/-- 'stirruplaw27.SectionsLeast', WHERE WHAT IT READS IS OF BULK AT MOST 1048576: true; the input reads as it did. -/
def sectionsLeastUptoRow : OpenClaim := { program := "ytmfpbafpnoomeaagreat", sum := "2c9c779dd85edcce48e047ce6ab9a185fbcc3df504c4ce3ec85f2ddd4490d7c2", func := "stirrup/stirruplaw27.SectionsLeast", spec := "sectionsLeast", unfollowed := true, recurses := true, apart := false, narrowed := true }
def SectionsLeastUptoSaid : Prop := sectionsLeastUptoRow.holds Tryz.pinned (OpenSpec.upto sectionsLeastSpec)

/-- 'stirruplaw27.SectionsScaled', WHERE WHAT IT READS IS OF BULK AT MOST 1048576: true; the input reads as it did. -/
def sectionsScaledUptoRow : OpenClaim := { program := "ytmfpbafpnoomeaagreat", sum := "2c9c779dd85edcce48e047ce6ab9a185fbcc3df504c4ce3ec85f2ddd4490d7c2", func := "stirrup/stirruplaw27.SectionsScaled", spec := "sectionsScaled", unfollowed := true, recurses := true, apart := false, narrowed := true }
def SectionsScaledUptoSaid : Prop := sectionsScaledUptoRow.holds Tryz.pinned (OpenSpec.upto sectionsScaledSpec)

end Rows
end Go.Proofs.YtmfpbafpnoomeaaGreat
