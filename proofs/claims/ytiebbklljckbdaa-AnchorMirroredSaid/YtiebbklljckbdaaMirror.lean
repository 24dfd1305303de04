/- Contract: the law's mirror of a list of boxes. -/
import Derived.Test.YtiebbklljckbdaaSpecMove
set_option linter.unusedVariables false
set_option linter.unusedSimpArgs false
namespace Go.Proofs.Ytiebbklljckbdaa
open Go.RowKit
theorem blk_get {w : World} {g : Nat} {t : TypeId} {cs : Array Value} (h : Blk w g t cs) {j : Nat} {u : Value} (hu : cs.toList[j]? = some u) : w.cell? ⟨g, j, none⟩ = some u := (h.cell j).trans (by simpa using hu)
theorem flat_snoc {xs : List Bx} {k : Nat} (f : Bx → Bx) (hk : k < xs.length) : ((xs.take (k + 1)).map f).flatMap boxC = ((xs.take k).map f).flatMap boxC ++ boxC (f xs[k]) := by
  rw [List.take_succ_eq_append_getElem hk, List.map_append, List.flatMap_append]; simp
set_option maxRecDepth 100000 in
set_option maxHeartbeats 2000000 in
theorem mirror_any (A : Option Addr) (n c : Nat) (xs : List Bx) (B : Nat) (w : World) (hB : B ≤ w.heap.size) (hs : Cells w B A (xs.flatMap boxC)) (hn : xs.length = n) (hm : n ≤ 1000) (hok : ∀ x, x ∈ xs → S.boxOk x = true) :
    Calls Try.prog 34 #[.slice A n c] w fun e w' => ∃ A' c', e = .returned (.slice A' n c') ∧ w'.ownsRow w.heap.size 52 6 (.slice A' n c') n ((xs.map S.mirX).flatMap boxC) ∧ Below w.heap.size w w' := by
  have HN := Lib.hid hn
  have HOK := Lib.hid hok
  clear hn hok
  go_enter Try.func34, Try.ntmps34
  go_wp2
  go_loopw [3, 8] (fun v i wr => ∃ (k : Nat) (A3 : Option Addr) (c3 : Nat), k ≤ n ∧ i = .int .i64 k ∧ v = .slice A3 k c3 ∧ Row w wr none w.heap.size 52 6 (.slice A3 k c3) k (((xs.take k).map S.mirX).flatMap boxC) ∧ Exc [] w wr) (fun _ i _ => n - (intOf i).toNat)
  case atStart => exact ⟨0, none, 0, Nat.zero_le _, rfl, rfl, Row.none_ _ _ _ _, Exc.refl _ _⟩
  case round =>
    obtain ⟨k, A3, c3, hk, rfl, rfl, hR, hX⟩ := hrel
    have hbx : Below w.heap.size w wr := hX.below (Nat.le_refl _) (by simp)
    by_cases hlt : k < n
    · have hki : (k : Int) < (n : Int) := by omega
      have hkx : k < xs.length := by have := HN.out; omega
      have hs' := hs.below (hbx.mono hB)
      obtain ⟨b, o, rfl, hbl, _⟩ := hs'.at_ (by rw [flat_len boxC 6 boxC_len]; omega)
      obtain ⟨c0, c1, c2, c3', c4, c5⟩ := hs'.boxes (List.getElem?_eq_getElem hkx)
      have HT := Lib.hid (flat_snoc S.mirX hkx)
      have hbd := boxOk_iff.1 (HOK.out _ (List.getElem_mem hkx))
      have hb2 : b < wr.heap.size := by have := hbx.size; omega
      generalize xs[k] = X at *
      have e1 : IntKind.i64.wrap (-X.hi.x) = -X.hi.x := IntWalk.i64_in _ (by omega)
      have e2 : IntKind.i64.wrap (-X.lo.x) = -X.lo.x := IntWalk.i64_in _ (by omega)
      go_wp2_with (at_builtin; refine wpList_push rfl (.tmp 24) (.tmp 26) _ rfl elemBx ((hR.alloc (.cells #[.int .i64 (-X.hi.x), .int .i64 X.lo.y, .int .i64 X.lo.z, .int .i64 (-X.lo.x), .int .i64 X.hi.y, .int .i64 X.hi.z] 52)).alloc (.cells #[.int .i64 (-X.hi.x), .int .i64 X.lo.y, .int .i64 X.lo.z, .int .i64 (-X.lo.x), .int .i64 X.hi.y, .int .i64 X.hi.z] 52)) ((hX.alloc (.cells #[.int .i64 (-X.hi.x), .int .i64 X.lo.y, .int .i64 X.lo.z, .int .i64 (-X.lo.x), .int .i64 X.hi.y, .int .i64 X.hi.z] 52)).alloc (.cells #[.int .i64 (-X.hi.x), .int .i64 X.lo.y, .int .i64 X.lo.z, .int .i64 (-X.lo.x), .int .i64 X.hi.y, .int .i64 X.hi.z] 52)) (by simp) (Nat.le_refl _) rfl (wr.heap.size + 1) 1 1 [.int .i64 (-X.hi.x), .int .i64 X.lo.y, .int .i64 X.lo.z, .int .i64 (-X.lo.x), .int .i64 X.hi.y, .int .i64 X.hi.z] rfl rfl ?_ (by simp [Value.oneCell']) (by unfold maxLen; omega) (by omega) ?_; (· intro j u hu; exact blk_get (by simpa using Blk.new (wr.alloc (.cells #[.int .i64 (-X.hi.x), .int .i64 X.lo.y, .int .i64 X.lo.z, .int .i64 (-X.lo.x), .int .i64 X.hi.y, .int .i64 X.hi.z] 52)) 52 #[.int .i64 (-X.hi.x), .int .i64 X.lo.y, .int .i64 X.lo.z, .int .i64 (-X.lo.x), .int .i64 X.hi.y, .int .i64 X.hi.z]) hu); intro v' w' hR' hX' hO')
      obtain ⟨A5, c5, rfl, _, _, _⟩ := own_form hR'.own
      go_roundw
      case rel => exact ⟨k + 1, A5, c5, by omega, by go_num, rfl, by rw [HT.out]; exact hR', hX'⟩
      case measure => simp [intOf]; omega
    · have he : k = n := by omega
      have ht : xs.take k = xs := List.take_of_length_le (by have := HN.out; omega)
      have HE := Lib.hid he
      have HT := Lib.hid ht
      clear he ht
      go_wp2
      go_ret
      refine ⟨A3, c3, by rw [HE.out]; rfl, ?_, hbx⟩
      have := hR.own
      rw [HT.out] at this
      rwa [HE.out] at this
end Go.Proofs.Ytiebbklljckbdaa
