/- Contracts: Main and MainLeg of the reference for layer 24. -/
import Derived.Test.YtffkmgjmlahfpaaGreatBoxB
set_option linter.unusedVariables false
set_option linter.unusedSimpArgs false
namespace Go.Proofs.YtffkmgjmlahfpaaGreat
open Go.RowKit
def S.isMainB (b : Bx) : Bool := decide (b.lo.x < b.hi.x) && decide (b.lo.y = b.hi.y) && decide (b.lo.z = b.hi.z)
theorem Main_any (b : Bx) (w : World) :
    Calls Tryz.prog 158 #[boxV b] w fun e w' => e = .returned (.bool (S.isMainB b)) ∧ Below w.heap.size w w' := by
  have H := Lib.hid (show S.isMainB b = (decide (b.lo.x < b.hi.x) && decide (b.lo.y = b.hi.y) && decide (b.lo.z = b.hi.z)) from rfl)
  unfold boxV
  go_enter Tryz.func158, Tryz.ntmps158
  go_wp2
  all_goals (go_ret; exact ⟨ret_b (by rw [H.out, Bool.eq_iff_iff]; all_goals (first | (simp at *; done) | (simp at *; omega))), (by repeat (first | exact Below.refl _ _ | assumption | refine ba_alloc ?_ _ | refine ba_drew ?_ | refine ba_drewN ?_ _ | refine ba_via (by assumption) ?_ | (refine ba_set ?_ ?_ _; rotate_left; (first | omega | (simp; omega) | simp))))⟩)
theorem mainleg_any (A : Option Addr) (n c : Nat) (xs : List Bx) (B : Nat) (w : World) (hn : xs.length = n) (hm : n ≤ 9223372036854775807) (hB : B ≤ w.heap.size) (hs : Cells w B A (xs.flatMap boxC)) :
    Calls Tryz.prog 96 #[.slice A n c] w fun e w' => e = .returned (.int .i64 (idxf xs S.isMainB)) ∧ Below w.heap.size w w' := by
  have HN := Lib.hid hn
  clear hn
  go_enter Tryz.func96, Tryz.ntmps96
  go_wp2
  go_loopw [3] (fun i wr => ∃ k : Nat, k ≤ n ∧ i = .int .i64 k ∧ Hid (∀ j (h : j < xs.length), j < k → S.isMainB xs[j] = false) ∧ Below w.heap.size w wr) (fun i _ => n - (intOf i).toNat)
  case atStart => exact ⟨0, Nat.zero_le _, rfl, Lib.hid fun j _ hj => absurd hj (by omega), Below.refl _ _⟩
  case round =>
    obtain ⟨k, hk, rfl, HNO, hbr⟩ := hrel
    by_cases hlt : k < n
    · have hki : (k : Int) < (n : Int) := by omega
      have hkx : k < xs.length := by have := HN.out; omega
      have hs' := hs.below (hbr.mono hB)
      obtain ⟨b, o, rfl, _, _⟩ := hs'.at_ (by rw [flat_len boxC 6 boxC_len]; omega)
      obtain ⟨c0, c1, c2, c3, c4, c5⟩ := hs'.boxes (List.getElem?_eq_getElem hkx)
      have HT := Lib.hid (Main_any xs[k])
      have HX := Lib.hid (fun hx => idxf_hit (p := S.isMainB) hkx hx HNO.out)
      generalize hq : S.isMainB xs[k] = q at *
      have HQ := Lib.hid hq
      clear hq
      cases q
      · go_wp2_with (go_at_call 158; (with_reducible refine (HT.out _).mono ?_); rintro e w1 ⟨rfl, hbw1⟩; obtain ⟨hcw1, hfw1⟩ := bcell hbw1)
        go_roundw
        case rel =>
          refine ⟨k + 1, by omega, by go_num, Lib.hid fun j hj hjk => ?_, ba_via hbw1 hbr⟩
          by_cases hjk' : j = k
          · subst hjk'; exact HQ.out
          · exact HNO.out j hj (by omega)
        case measure => simp [intOf]; omega
      · go_wp2_with (go_at_call 158; (with_reducible refine (HT.out _).mono ?_); rintro e w1 ⟨rfl, hbw1⟩; obtain ⟨hcw1, hfw1⟩ := bcell hbw1)
        go_ret
        exact ⟨ret_i (HX.out trivial).symm, ba_via hbw1 hbr⟩
    · have HX := Lib.hid (idxf_miss (p := S.isMainB) (xs := xs) fun j hj => HNO.out j hj (by have := HN.out; omega))
      go_wp2
      go_ret
      exact ⟨ret_i HX.out.symm, hbr⟩
end Go.Proofs.YtffkmgjmlahfpaaGreat
