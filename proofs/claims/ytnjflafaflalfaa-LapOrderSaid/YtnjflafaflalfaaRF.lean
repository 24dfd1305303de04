/- Contracts: sizes, slices.Index and Contains over integers. -/
import Derived.Test.YtnjflafaflalfaaRows
import Derived.Test.YtnjflafaflalfaaRB
import Derived.Test.YtnjflafaflalfaaRA
set_option linter.unusedVariables false
set_option linter.unusedSimpArgs false
namespace Go.Proofs.Ytnjflafaflalfaa
open Go.RowKit

theorem sizes_any (w : World) :
    Calls Try.prog 49 #[] w fun e w' => e = .returned (.slice (some ⟨w.heap.size, 0, none⟩) 9 9) ∧ w.alloc (.cells (i64s S.sizes).toArray 3) = w' := by
  go_enter Try.func49, Try.ntmps49
  go_wp2
  go_ret
  exact ⟨rfl, rfl⟩
def idx (xs : List Int) (x : Int) : Int := match xs.findIdx? (· == x) with | some k => k | none => -1
theorem idx_hit {xs : List Int} {x : Int} {k : Nat} (hk : k < xs.length) (hx : xs[k] = x) (hno : ∀ j, j < k → xs[j]? ≠ some x) : idx xs x = k := by
  have : xs.findIdx? (· == x) = some k := by
    rw [List.findIdx?_eq_some_iff_getElem]
    refine ⟨hk, by simp [hx], fun j hj => ?_⟩
    have := hno j hj
    have hl : j < xs.length := by omega
    rw [List.getElem?_eq_getElem hl] at this
    simpa using this
  simp [idx, this]
theorem idx_miss {xs : List Int} {x : Int} (hno : ∀ j, j < xs.length → xs[j]? ≠ some x) : idx xs x = -1 := by
  have : xs.findIdx? (· == x) = none := by
    rw [List.findIdx?_eq_none_iff]
    intro y hy
    obtain ⟨j, hj, rfl⟩ := List.mem_iff_getElem.1 hy
    have := hno j hj
    rw [List.getElem?_eq_getElem hj] at this
    simpa using this
  simp [idx, this]
theorem index_any (A : Option Addr) (n c : Nat) (x : Int) (xs : List Int) (B : Nat) (w : World) (hn : xs.length = n) (hm : n ≤ 9223372036854775807) (hs : Cells w B A (i64s xs)) :
    Calls Try.prog 70 #[.slice A n c, .int .i64 x] w fun e w' => e = .returned (.int .i64 (idx xs x)) ∧ w = w' := by
  have HN := Lib.hid hn
  clear hn
  go_enter Try.func70, Try.ntmps70
  go_wp2
  go_loop [8] (fun i => ∃ k : Nat, k ≤ n ∧ i = .int .i64 k ∧ ∀ j, j < k → xs[j]? ≠ some x) (fun i => n - (intOf i).toNat)
  case atStart => exact ⟨0, Nat.zero_le _, rfl, fun j hj => absurd hj (by omega)⟩
  case round =>
    obtain ⟨k, hk, rfl, hno⟩ := hrel
    have HNO := Lib.hid hno
    clear hno
    by_cases hlt : k < n
    · have hkx : k < xs.length := by have := HN.out; omega
      obtain ⟨b, o, rfl, _, hc⟩ := hs.at_ (by simp; omega)
      have hck := hc k _ (i64s_get hkx)
      clear hc
      by_cases hx : xs[k] = x
      · have hb : (x == xs[k]) = true := by simp [hx]
        go_wp2
        go_ret
        exact ⟨ret_i (idx_hit hkx hx HNO.out).symm, rfl⟩
      · have hb : (x == xs[k]) = false := by simp; exact fun h => hx h.symm
        have HX := Lib.hid hx
        clear hx
        go_wp2
        go_round
        case rel =>
          refine ⟨k + 1, by omega, by go_num, fun j hj => ?_⟩
          by_cases hjk : j = k
          · subst hjk; rw [List.getElem?_eq_getElem hkx]; simpa using HX.out
          · exact HNO.out j (by omega)
        case measure => simp [intOf]; omega
    · go_wp2
      go_ret
      exact ⟨ret_i (idx_miss (fun j hj => HNO.out j (by have := HN.out; omega))).symm, rfl⟩
theorem idx_ge (xs : List Int) (x : Int) : decide (0 ≤ idx xs x) = S.has xs x := by
  unfold idx S.has
  split
  · rename_i k hk
    have : x ∈ xs := by
      obtain ⟨h1, h2, _⟩ := List.findIdx?_eq_some_iff_getElem.1 hk
      simp at h2
      exact h2 ▸ List.getElem_mem h1
    simp [this]
  · rename_i hk
    rw [List.findIdx?_eq_none_iff] at hk
    have : x ∉ xs := fun h => by have := hk x h; simp at this
    simp [this]
theorem contains_any (A : Option Addr) (n c : Nat) (x : Int) (xs : List Int) (B : Nat) (w : World) (hn : xs.length = n) (hm : n ≤ 9223372036854775807) (hs : Cells w B A (i64s xs)) :
    Calls Try.prog 48 #[.slice A n c, .int .i64 x] w fun e w' => e = .returned (.bool (S.has xs x)) ∧ w = w' := by
  have HN := Lib.hid hn
  clear hn
  have e := idx_ge xs x
  go_enter Try.func48, Try.ntmps48
  go_wp2_with (go_at_call 70; refine (index_any _ _ _ x xs B _ HN.out hm hs).mono ?_; rintro e w' ⟨rfl, rfl⟩)
  go_ret
  exact ⟨rfl, rfl⟩
theorem ssize_any (d : Int) (w : World) :
    Calls Try.prog 33 #[.int .i64 d] w fun e w' => e = .returned (.bool (S.size d)) ∧ Below w.heap.size w w' := by
  have hs := Cells.new w (i64s S.sizes).toArray 3 (0, 0)
  go_enter Try.func33, Try.ntmps33
  go_wp2_with (first
    | (go_at_call 49; refine (sizes_any _).mono ?_; rintro e w' ⟨rfl, rfl⟩)
    | (go_at_call 48; refine (contains_any _ 9 _ d S.sizes _ _ rfl (by omega) (by simpa using hs)).mono ?_; rintro e w' ⟨rfl, rfl⟩))
  go_ret
  exact ⟨rfl, by go_grown⟩
end Go.Proofs.Ytnjflafaflalfaa
