/- Small lemmas for the law LapForms. -/
import Derived.Test.YtplaghmehbkcnaaGreatOverN
import Derived.Test.YtplaghmehbkcnaaGreatZD
import Derived.Test.YtplaghmehbkcnaaGreatZE
import Derived.Test.YtplaghmehbkcnaaGreatZF
import Derived.Test.YtplaghmehbkcnaaGreatZC
set_option linter.unusedVariables false
set_option linter.unusedSimpArgs false
namespace Go.Proofs.YtplaghmehbkcnaaGreat
open Go.RowKit
theorem issize_any (d : Int) (w : World) : Calls Tryz.prog 11 #[.int .i64 d] w fun e w' => e = .returned (.bool (S.size d)) ∧ Below w.heap.size w w' := by
  have HS := Lib.hid (fun w => rsize_any d w)
  generalize S.size d = t at *
  go_enter Tryz.func11, Tryz.ntmps11
  go_wp2_with (go_at_call 39; refine (HS.out _).mono ?_; rintro e w1 ⟨rfl, hbw1⟩)
  go_ret
  exact ⟨rfl, (by repeat (first | exact Below.refl _ _ | assumption | refine ba_alloc ?_ _ | refine ba_drew ?_ | refine ba_drewN ?_ _ | refine ba_via (by assumption) ?_ | (refine ba_set ?_ ?_ _; rotate_left; (first | omega | (simp; omega) | simp))))⟩
theorem forms_set2 {w0 w : World} {b : Nat} {T : TypeId} {z0 z1 : Value} (h0 : Below w0.heap.size w0 w) (hl : w0.heap.size ≤ b) (hb : Blk w b T #[z0, z1]) (v0 v1 : Value) :
    ∃ W, ((w.setCell ⟨b, 0, none⟩ v0).setCell ⟨b, 1, none⟩ v1) = W ∧ Below w0.heap.size w0 W ∧ Blk W b T #[v0, v1] := by
  refine ⟨_, rfl, ba_set (ba_set h0 hl _) hl _, ?_⟩
  have := (hb.set 0 v0).set 1 v1
  simpa only [List.setIfInBounds_toArray, List.set_cons_zero, List.set_cons_succ] using this
theorem wpList_load_gdF {P : Program} {ops : Array Oper} {rest : List Oper} {op : Oper} {a : Act} {w : World} {Q : Exit → Act → World → Prop} (hw : Region.wanted op (yielded ops a.tmps) = true) (ty : TypeId) (x : Operand) (ho : op.op = .load ty x)
    (b o : Nat) (hx : a.eval x = .pointer (some ⟨b, o, none⟩)) (cs : List Value) (d : TypeDesc) (hc : w.rangeAt b o cs)
    (hu : P.underlying ty = some d) (hd : d.isRow = true) (hi : (P.info? ty).map (·.size) = some cs.length)
    (h : wpList P ops Q rest (a.put op.dst (.agg cs.toArray)) w) : wpList P ops Q (op :: rest) a w := by
  unfold wpList
  rw [if_pos hw]
  exact .inl (wp_load_mid ty x ho b o hx cs d hc hu hd hi h)
end Go.Proofs.YtplaghmehbkcnaaGreat
