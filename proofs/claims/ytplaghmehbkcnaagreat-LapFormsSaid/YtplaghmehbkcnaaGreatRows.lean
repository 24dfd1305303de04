/-
  No cell of these rows narrows 'for every input' (looked for: loops, veiled, ifaces, maps, wideKeys, modest, calm, conditions, laid).
  DERIVED. THE GIVEN ROWS OF THIS SEAT. 3 by the template 'for every input the law returns true; each argument reads behind the call as it read before'; 0 by the template 'total and deterministic' (their statements: YtplaghmehbkcnaaGreatTotals.lean).
  GIVEN WITH THE SEED: the statements are not yours to turn. If you find one false, say at which input.
  Laid BY PROGRAM, IN A SANDBOX (cutbox-rows.mjs): the forced cells as the released guide's own fill.sh prints them over the translation 5ef5378f1a24cc4f… (all of the seat's roots in one cut). By AI agents, Wed Nov 11 2026. No macro, syntax, notation, axiom, sorry.
-/
import Derived.Test.YtplaghmehbkcnaaGreatChecked
import GoSem.Claim
import GoSem.ClaimJoined
import GoSem.ClaimMapViews
import Derived.JoinedTies
import Derived.KernelRfl
namespace Go.Proofs.YtplaghmehbkcnaaGreat
/- THE CELL 'sum', in the pinned program and in every row, IS THE sha256 OF THE DUMP (.gsa) THAT YtplaghmehbkcnaaGreatProg.lean LOADS. Nothing in Lean hashes anything: it is a label: what it is worth is what the hold of that sum in a sandbox is worth. -/
noncomputable def Tryz.pinned : Pinned := { name := "ytplaghmehbkcnaagreat", sum := "5ef5378f1a24cc4fbe66ba7772a7a8ca7a6f17c64df2d27bd872edc923bf01ca", checked := Tryz.checked }
namespace Rows
def none {H : Type} : Left H := { results := [], args := [] }

/-- 'stirruplaw25.LapForms': WHATEVER THE INPUT: true; the input reads as it did. -/
def lapFormsSpec : ChangeSpec := { name := "lapForms", fn := fun _ => fun
  | [d1, d2, d3, d4, d5] => { results := [.lit (.bool true)], args := [d1, d2, d3, d4, d5] }
  | _ => none }
def lapFormsRow : OpenClaim := { program := "ytplaghmehbkcnaagreat", sum := "5ef5378f1a24cc4fbe66ba7772a7a8ca7a6f17c64df2d27bd872edc923bf01ca", func := "stirrup/stirruplaw25.LapForms", spec := "lapForms", unfollowed := true, recurses := true, apart := false }
def LapFormsSaid : Prop := lapFormsRow.holds Tryz.pinned (OpenSpec.ofChange lapFormsSpec)

/-- ITS FALSE NEIGHBOUR: 'it returns false'. Refute it at one input. -/
def lapFormsWrong : ChangeSpec := { name := "lapForms", fn := fun _ => fun
  | [d1, d2, d3, d4, d5] => { results := [.lit (.bool false)], args := [d1, d2, d3, d4, d5] }
  | _ => none }
def LapFormsWrongFalsely : Prop := lapFormsRow.holds Tryz.pinned (OpenSpec.ofChange lapFormsWrong)

/-- 'stirruplaw25.LapFindings': WHATEVER THE INPUT: true; the input reads as it did. -/
def lapFindingsSpec : ChangeSpec := { name := "lapFindings", fn := fun _ => fun
  | [d] => { results := [.lit (.bool true)], args := [d] }
  | _ => none }
def lapFindingsRow : OpenClaim := { program := "ytplaghmehbkcnaagreat", sum := "5ef5378f1a24cc4fbe66ba7772a7a8ca7a6f17c64df2d27bd872edc923bf01ca", func := "stirrup/stirruplaw25.LapFindings", spec := "lapFindings", unfollowed := true, recurses := true, apart := false }
def LapFindingsSaid : Prop := lapFindingsRow.holds Tryz.pinned (OpenSpec.ofChange lapFindingsSpec)

/-- ITS FALSE NEIGHBOUR: 'it returns false'. Refute it at one input. -/
def lapFindingsWrong : ChangeSpec := { name := "lapFindings", fn := fun _ => fun
  | [d] => { results := [.lit (.bool false)], args := [d] }
  | _ => none }
def LapFindingsWrongFalsely : Prop := lapFindingsRow.holds Tryz.pinned (OpenSpec.ofChange lapFindingsWrong)

/-- 'stirruplaw25.LapChecks': WHATEVER THE INPUT: true; the input reads as it did. -/
def lapChecksSpec : ChangeSpec := { name := "lapChecks", fn := fun _ => fun
  | [d1, d2] => { results := [.lit (.bool true)], args := [d1, d2] }
  | _ => none }
def lapChecksRow : OpenClaim := { program := "ytplaghmehbkcnaagreat", sum := "5ef5378f1a24cc4fbe66ba7772a7a8ca7a6f17c64df2d27bd872edc923bf01ca", func := "stirrup/stirruplaw25.LapChecks", spec := "lapChecks", unfollowed := true, recurses := true, apart := false }
def LapChecksSaid : Prop := lapChecksRow.holds Tryz.pinned (OpenSpec.ofChange lapChecksSpec)

/-- ITS FALSE NEIGHBOUR: 'it returns false'. Refute it at one input. -/
def lapChecksWrong : ChangeSpec := { name := "lapChecks", fn := fun _ => fun
  | [d1, d2] => { results := [.lit (.bool false)], args := [d1, d2] }
  | _ => none }
def LapChecksWrongFalsely : Prop := lapChecksRow.holds Tryz.pinned (OpenSpec.ofChange lapChecksWrong)

/- THE SECOND FORM. 'bulk': how many values and letters a reading holds, each counted each time it is reached (what is shared counts as often as it is met; a slice's spare places count too). A statement '..UptoSaid' is the law's where the arguments, and the package variables that the reading takes, are together of bulk at most 1048576: NARROWER than '..Said'. Prove '..Said' where nothing that the law and all that it calls make is longer than what came in: it says more and counts as full. Else prove '..UptoSaid'. A law counts once. -/
mutual
def uptoBulk {H : Type} : DataW H → Nat
  | .lit (.string bytes) => bytes.length + 1
  | .lit _ => 1
  | .nil => 1
  | .ptr d => uptoBulk d + 1
  | .slice elems spare => uptoBulkAll elems + uptoBulkAll spare + 1
  | .agg parts => uptoBulkAll parts + 1
  | .iface _ d => uptoBulk d + 1
  | .map entries => uptoBulkEntries entries + 1
  | .held _ => 1
def uptoBulkAll {H : Type} : List (DataW H) → Nat
  | [] => 0
  | d :: r => uptoBulk d + uptoBulkAll r
def uptoBulkEntries {H : Type} : List (Lit × DataW H) → Nat
  | [] => 0
  | x :: r => uptoBulkEntry x + uptoBulkEntries r
def uptoBulkEntry {H : Type} : Lit × DataW H → Nat
  | (.string bytes, d) => bytes.length + uptoBulk d + 1
  | (_, d) => uptoBulk d + 1
 end
def uptoSmall : (H : Type) → List (DataW H) → Bool := fun _ ds => decide (uptoBulkAll ds ≤ 1048576)
def OpenSpec.upto (s : _root_.Go.ChangeSpec) : _root_.Go.OpenSpec := { _root_.Go.OpenSpec.ofChange s with cond := some uptoSmall }

/-- 'stirruplaw25.LapForms', WHERE WHAT IT READS IS OF BULK AT MOST 1048576: true; the input reads as it did. -/
def lapFormsUptoRow : OpenClaim := { program := "ytplaghmehbkcnaagreat", sum := "5ef5378f1a24cc4fbe66ba7772a7a8ca7a6f17c64df2d27bd872edc923bf01ca", func := "stirrup/stirruplaw25.LapForms", spec := "lapForms", unfollowed := true, recurses := true, apart := false, narrowed := true }
def LapFormsUptoSaid : Prop := lapFormsUptoRow.holds Tryz.pinned (OpenSpec.upto lapFormsSpec)

/-- 'stirruplaw25.LapFindings', WHERE WHAT IT READS IS OF BULK AT MOST 1048576: true; the input reads as it did. -/
def lapFindingsUptoRow : OpenClaim := { program := "ytplaghmehbkcnaagreat", sum := "5ef5378f1a24cc4fbe66ba7772a7a8ca7a6f17c64df2d27bd872edc923bf01ca", func := "stirrup/stirruplaw25.LapFindings", spec := "lapFindings", unfollowed := true, recurses := true, apart := false, narrowed := true }
def LapFindingsUptoSaid : Prop := lapFindingsUptoRow.holds Tryz.pinned (OpenSpec.upto lapFindingsSpec)

/-- 'stirruplaw25.LapChecks', WHERE WHAT IT READS IS OF BULK AT MOST 1048576: true; the input reads as it did. -/
def lapChecksUptoRow : OpenClaim := { program := "ytplaghmehbkcnaagreat", sum := "5ef5378f1a24cc4fbe66ba7772a7a8ca7a6f17c64df2d27bd872edc923bf01ca", func := "stirrup/stirruplaw25.LapChecks", spec := "lapChecks", unfollowed := true, recurses := true, apart := false, narrowed := true }
def LapChecksUptoSaid : Prop := lapChecksUptoRow.holds Tryz.pinned (OpenSpec.upto lapChecksSpec)

end Rows
end Go.Proofs.YtplaghmehbkcnaaGreat
