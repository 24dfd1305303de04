/- Contracts: solid.Member, solid.Hull. -/
import Derived.Test.YtnjflafaflalfaaRX
set_option linter.unusedVariables false
set_option linter.unusedSimpArgs false
namespace Go.Proofs.Ytnjflafaflalfaa
open Go.RowKit
set_option maxHeartbeats 2000000 in
theorem smember_any (m : Mem) (A : Option Addr) (n c : Nat) (A' : Option Addr) (n' c' : Nat) (B : Nat) (w : World) (hB : B ≤ w.heap.size) (hA : SolAt w B A n A' n' m.boxes m.holes) (hk : m.name.size ≤ 9223372036854775807) :
    Calls Try.prog 27 #[memV m A n c A' n' c'] w fun e w' => e = .returned (.bool (S.member m)) ∧ Below w.heap.size w w' := by
  have HA := Lib.hid hA
  have H := Lib.hid (show S.member m = (S.isName m.name && S.solid m.boxes m.holes && S.within m.cover 0 200 && S.within m.aggr 1 100 && S.within m.poker 1 200) from rfl)
  have HN := Lib.hid (fun w => isname_any m.name w hk)
  have HS := Lib.hid (fun (W : World) (hw : B ≤ W.heap.size) (h : SolAt W B A n A' n' m.boxes m.holes) => svalid_any A n c A' n' c' m.boxes m.holes B W hw h)
  have H1 := Lib.hid (fun w => member1_any m.cover 0 200 w)
  have H2 := Lib.hid (fun w => member1_any m.aggr 1 100 w)
  have H3 := Lib.hid (fun w => member1_any m.poker 1 200 w)
  have hF := Try.call36
  clear hA
  generalize S.isName m.name = t0 at *
  generalize S.solid m.boxes m.holes = t1 at *
  generalize S.within m.cover 0 200 = t2 at *
  generalize S.within m.aggr 1 100 = t3 at *
  generalize S.within m.poker 1 200 = t4 at *
  unfold memV
  cases t0 <;> cases t1 <;> cases t2 <;> cases t3
  all_goals (
    go_enter Try.func27, Try.ntmps27
    go_wp2_with (first
      | (go_at_call 37; (with_reducible refine (HN.out _).mono ?_); rintro e w' ⟨rfl, rfl⟩)
      | (go_at_call 38; (with_reducible refine (HS.out _ (size_via hB bel) (SolAt.at_ HA.out hB bel)).mono ?_); rintro e w1 ⟨rfl, hbw1⟩; obtain ⟨hcw1, hfw1⟩ := bcell hbw1; have hzw1_0 : w.heap.size < w1.heap.size := lt_via hbw1 (by first | omega | (simp; done) | (simp; omega)))
      | (go_at_call 36; (with_reducible refine (H1.out _).mono ?_); rintro e w' ⟨rfl, rfl⟩)
      | (go_at_call 36; (with_reducible refine (H2.out _).mono ?_); rintro e w' ⟨rfl, rfl⟩)
      | (go_at_call 36; (with_reducible refine (H3.out _).mono ?_); rintro e w' ⟨rfl, rfl⟩))
    go_ret
    exact ⟨ret_b (by rw [H.out]; simp), bel⟩)
end Go.Proofs.Ytnjflafaflalfaa
