/-
  No cell of these rows narrows 'for every input' (looked for: loops, veiled, ifaces, maps, wideKeys, modest, calm, conditions, laid).
  DERIVED. THE GIVEN ROWS OF THIS SEAT. 4 by the template 'for every input the law returns true; each argument reads behind the call as it read before'; 0 by the template 'total and deterministic' (their statements: YtplaghmehbkcnaaTotals.lean).
  GIVEN WITH THE SEED: the statements are not yours to turn. If you find one false, say at which input.
  Laid BY PROGRAM, IN A SANDBOX (cutbox-rows.mjs): the forced cells as the released guide's own fill.sh prints them over the translation 25c9a94abe4b2359… (all of the seat's roots in one cut). By AI agents, Wed Nov 11 2026. No macro, syntax, notation, axiom, sorry.
-/
import Derived.Test.YtplaghmehbkcnaaChecked
import GoSem.Claim
import GoSem.ClaimJoined
import GoSem.ClaimMapViews
import Derived.JoinedTies
import Derived.KernelRfl
namespace Go.Proofs.Ytplaghmehbkcnaa
/- THE CELL 'sum', in the pinned program and in every row, IS THE sha256 OF THE DUMP (.gsa) THAT YtplaghmehbkcnaaProg.lean LOADS. Nothing in Lean hashes anything: it is a label: what it is worth is what the hold of that sum in a sandbox is worth. -/
noncomputable def Try.pinned : Pinned := { name := "ytplaghmehbkcnaa", sum := "25c9a94abe4b2359a49163511f61acb7c006cf1bbecc034245af6573b915a6c2", checked := Try.checked }
namespace Rows
def none {H : Type} : Left H := { results := [], args := [] }

/-- 'stirruplaw25.LapStaggers': WHATEVER THE INPUT: true; the input reads as it did. -/
def lapStaggersSpec : ChangeSpec := { name := "lapStaggers", fn := fun _ => fun
  | [d1, d2, d3] => { results := [.lit (.bool true)], args := [d1, d2, d3] }
  | _ => none }
def lapStaggersRow : OpenClaim := { program := "ytplaghmehbkcnaa", sum := "25c9a94abe4b2359a49163511f61acb7c006cf1bbecc034245af6573b915a6c2", func := "stirrup/stirruplaw25.LapStaggers", spec := "lapStaggers", unfollowed := true, recurses := true, apart := false }
def LapStaggersSaid : Prop := lapStaggersRow.holds Try.pinned (OpenSpec.ofChange lapStaggersSpec)

/-- ITS FALSE NEIGHBOUR: 'it returns false'. Refute it at one input. -/
def lapStaggersWrong : ChangeSpec := { name := "lapStaggers", fn := fun _ => fun
  | [d1, d2, d3] => { results := [.lit (.bool false)], args := [d1, d2, d3] }
  | _ => none }
def LapStaggersWrongFalsely : Prop := lapStaggersRow.holds Try.pinned (OpenSpec.ofChange lapStaggersWrong)

/-- 'stirruplaw25.LapLengths': WHATEVER THE INPUT: true; the input reads as it did. -/
def lapLengthsSpec : ChangeSpec := { name := "lapLengths", fn := fun _ => fun
  | [d1, d2, d3, d4, d5] => { results := [.lit (.bool true)], args := [d1, d2, d3, d4, d5] }
  | _ => none }
def lapLengthsRow : OpenClaim := { program := "ytplaghmehbkcnaa", sum := "25c9a94abe4b2359a49163511f61acb7c006cf1bbecc034245af6573b915a6c2", func := "stirrup/stirruplaw25.LapLengths", spec := "lapLengths", unfollowed := true, recurses := true, apart := false }
def LapLengthsSaid : Prop := lapLengthsRow.holds Try.pinned (OpenSpec.ofChange lapLengthsSpec)

/-- ITS FALSE NEIGHBOUR: 'it returns false'. Refute it at one input. -/
def lapLengthsWrong : ChangeSpec := { name := "lapLengths", fn := fun _ => fun
  | [d1, d2, d3, d4, d5] => { results := [.lit (.bool false)], args := [d1, d2, d3, d4, d5] }
  | _ => none }
def LapLengthsWrongFalsely : Prop := lapLengthsRow.holds Try.pinned (OpenSpec.ofChange lapLengthsWrong)

/-- 'stirruplaw25.LapOrder': WHATEVER THE INPUT: true; the input reads as it did. -/
def lapOrderSpec : ChangeSpec := { name := "lapOrder", fn := fun _ => fun
  | [d1, d2, d3, d4] => { results := [.lit (.bool true)], args := [d1, d2, d3, d4] }
  | _ => none }
def lapOrderRow : OpenClaim := { program := "ytplaghmehbkcnaa", sum := "25c9a94abe4b2359a49163511f61acb7c006cf1bbecc034245af6573b915a6c2", func := "stirrup/stirruplaw25.LapOrder", spec := "lapOrder", unfollowed := true, recurses := true, apart := false }
def LapOrderSaid : Prop := lapOrderRow.holds Try.pinned (OpenSpec.ofChange lapOrderSpec)

/-- ITS FALSE NEIGHBOUR: 'it returns false'. Refute it at one input. -/
def lapOrderWrong : ChangeSpec := { name := "lapOrder", fn := fun _ => fun
  | [d1, d2, d3, d4] => { results := [.lit (.bool false)], args := [d1, d2, d3, d4] }
  | _ => none }
def LapOrderWrongFalsely : Prop := lapOrderRow.holds Try.pinned (OpenSpec.ofChange lapOrderWrong)

/-- 'stirruplaw25.LapChains': WHATEVER THE INPUT: true; the input reads as it did. -/
def lapChainsSpec : ChangeSpec := { name := "lapChains", fn := fun _ => fun
  | [d] => { results := [.lit (.bool true)], args := [d] }
  | _ => none }
def lapChainsRow : OpenClaim := { program := "ytplaghmehbkcnaa", sum := "25c9a94abe4b2359a49163511f61acb7c006cf1bbecc034245af6573b915a6c2", func := "stirrup/stirruplaw25.LapChains", spec := "lapChains", unfollowed := true, recurses := true, apart := false }
def LapChainsSaid : Prop := lapChainsRow.holds Try.pinned (OpenSpec.ofChange lapChainsSpec)

/-- ITS FALSE NEIGHBOUR: 'it returns false'. Refute it at one input. -/
def lapChainsWrong : ChangeSpec := { name := "lapChains", fn := fun _ => fun
  | [d] => { results := [.lit (.bool false)], args := [d] }
  | _ => none }
def LapChainsWrongFalsely : Prop := lapChainsRow.holds Try.pinned (OpenSpec.ofChange lapChainsWrong)

/- THE SECOND FORM. 'bulk': how many values and letters a reading holds, each counted each time it is reached (what is shared counts as often as it is met; a slice's spare places count too). A statement '..UptoSaid' is the law's where the arguments, and the package variables that the reading takes, are together of bulk at most 1048576: NARROWER than '..Said'. Prove '..Said' where nothing that the law and all that it calls make is longer than what came in: it says more and counts as full. Else prove '..UptoSaid'. A law counts once. -/
mutual
def uptoBulk {H : Type} : DataW H → Nat
  | .lit (.string bytes) => bytes.length + 1
  | .lit _ => 1
  | .nil => 1
  | .ptr d => uptoBulk d + 1
  | .slice elems spare => uptoBulkAll elems + uptoBulkAll spare + 1
  | .agg parts => uptoBulkAll parts + 1
  | .iface _ d => uptoBulk d + 1
  | .map entries => uptoBulkEntries entries + 1
  | .held _ => 1
def uptoBulkAll {H : Type} : List (DataW H) → Nat
  | [] => 0
  | d :: r => uptoBulk d + uptoBulkAll r
def uptoBulkEntries {H : Type} : List (Lit × DataW H) → Nat
  | [] => 0
  | x :: r => uptoBulkEntry x + uptoBulkEntries r
def uptoBulkEntry {H : Type} : Lit × DataW H → Nat
  | (.string bytes, d) => bytes.length + uptoBulk d + 1
  | (_, d) => uptoBulk d + 1
 end
def uptoSmall : (H : Type) → List (DataW H) → Bool := fun _ ds => decide (uptoBulkAll ds ≤ 1048576)
def OpenSpec.upto (s : _root_.Go.ChangeSpec) : _root_.Go.OpenSpec := { _root_.Go.OpenSpec.ofChange s with cond := some uptoSmall }

/-- 'stirruplaw25.LapStaggers', WHERE WHAT IT READS IS OF BULK AT MOST 1048576: true; the input reads as it did. -/
def lapStaggersUptoRow : OpenClaim := { program := "ytplaghmehbkcnaa", sum := "25c9a94abe4b2359a49163511f61acb7c006cf1bbecc034245af6573b915a6c2", func := "stirrup/stirruplaw25.LapStaggers", spec := "lapStaggers", unfollowed := true, recurses := true, apart := false, narrowed := true }
def LapStaggersUptoSaid : Prop := lapStaggersUptoRow.holds Try.pinned (OpenSpec.upto lapStaggersSpec)

/-- 'stirruplaw25.LapLengths', WHERE WHAT IT READS IS OF BULK AT MOST 1048576: true; the input reads as it did. -/
def lapLengthsUptoRow : OpenClaim := { program := "ytplaghmehbkcnaa", sum := "25c9a94abe4b2359a49163511f61acb7c006cf1bbecc034245af6573b915a6c2", func := "stirrup/stirruplaw25.LapLengths", spec := "lapLengths", unfollowed := true, recurses := true, apart := false, narrowed := true }
def LapLengthsUptoSaid : Prop := lapLengthsUptoRow.holds Try.pinned (OpenSpec.upto lapLengthsSpec)

/-- 'stirruplaw25.LapOrder', WHERE WHAT IT READS IS OF BULK AT MOST 1048576: true; the input reads as it did. -/
def lapOrderUptoRow : OpenClaim := { program := "ytplaghmehbkcnaa", sum := "25c9a94abe4b2359a49163511f61acb7c006cf1bbecc034245af6573b915a6c2", func := "stirrup/stirruplaw25.LapOrder", spec := "lapOrder", unfollowed := true, recurses := true, apart := false, narrowed := true }
def LapOrderUptoSaid : Prop := lapOrderUptoRow.holds Try.pinned (OpenSpec.upto lapOrderSpec)

/-- 'stirruplaw25.LapChains', WHERE WHAT IT READS IS OF BULK AT MOST 1048576: true; the input reads as it did. -/
def lapChainsUptoRow : OpenClaim := { program := "ytplaghmehbkcnaa", sum := "25c9a94abe4b2359a49163511f61acb7c006cf1bbecc034245af6573b915a6c2", func := "stirrup/stirruplaw25.LapChains", spec := "lapChains", unfollowed := true, recurses := true, apart := false, narrowed := true }
def LapChainsUptoSaid : Prop := lapChainsUptoRow.holds Try.pinned (OpenSpec.upto lapChainsSpec)

end Rows
end Go.Proofs.Ytplaghmehbkcnaa
