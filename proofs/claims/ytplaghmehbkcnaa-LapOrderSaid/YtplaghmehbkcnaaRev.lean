/- Contract: slices.Reverse over spans (the kit's contract at a struct, laid here). -/
import Derived.Test.YtplaghmehbkcnaaCloneS
import Derived.Test.YtplaghmehbkcnaaSpecStag
import Derived.Shelf.SlicesQ.Reverse
import Derived.Ground.SlgnProg
set_option linter.unusedVariables false
set_option linter.unusedSimpArgs false
namespace Go.Proofs
open Go.Shelf Go.Lib
shelf_lay_g SlLaysE0.n35 Slgn 35 at Try 19 as Try.reverseSp
end Go.Proofs
namespace Go.Proofs.Ytplaghmehbkcnaa
open Go.RowKit
instance spRevI : Inhabited Sp := ⟨⟨0, 0⟩⟩
theorem spC_one (s : Sp) : ∀ v ∈ spC s, v.oneCell' = true := by
  intro v hv
  simp at hv
  rcases hv with rfl | rfl <;> rfl
theorem flatK_spans (l : List Sp) : (Sort.flatK spC 2 l.toArray).toList = l.flatMap spC := by
  apply List.ext_getElem?
  intro t
  by_cases ht : t < l.length * 2
  · have h1 : t / 2 < l.length := by omega
    have h2 := flat_get spC 2 spC_len l (t / 2) h1 (t % 2) (by omega)
    rw [show t / 2 * 2 + t % 2 = t by omega] at h2
    rw [h2]
    have h3 : t < (Sort.flatK spC 2 l.toArray).size := by simpa using ht
    have h4 := Sort.get_flatK spC 2 l.toArray t (by simpa using ht)
    rw [getElem!_pos (Sort.flatK spC 2 l.toArray) t h3] at h4
    rw [Array.getElem?_toList, Array.getElem?_eq_getElem h3, h4]
    have h5 : l.toArray[t / 2]! = l[t / 2] := by rw [getElem!_pos l.toArray (t / 2) (by simpa using h1)]; simp
    rw [h5]
    have h6 : t % 2 < (spC l[t / 2]).length := by rw [spC_len]; omega
    rw [getElem!_pos (spC l[t / 2]) (t % 2) h6, List.getElem?_eq_getElem h6]
  · rw [List.getElem?_eq_none (by simp; omega), List.getElem?_eq_none (by rw [flat_len spC 2 spC_len]; omega)]
theorem revs_any (A : Option Addr) (n c : Nat) (l : List Sp) (B : Nat) (w : World) (hB : B ≤ w.heap.size) (hn : l.length = n) (hm : n ≤ 1000000) (ho : w.ownsRow B 29 2 (.slice A n c) n (l.flatMap spC)) :
    Calls Try.prog 19 #[.slice A n c] w fun e w' => e = .returned (.tuple #[]) ∧ w'.ownsRow B 29 2 (.slice A n c) n (l.reverse.flatMap spC) ∧ Below B w w' := by
  by_cases h0 : n = 0
  · subst h0
    have hl : l = [] := List.length_eq_zero_iff.1 hn
    subst hl
    refine (AnyQ.slices_Reverse_empty Try.reverseSp A c w).mono ?_
    rintro e w' ⟨rfl, rfl⟩
    exact ⟨rfl, ho, Below.refl _ _⟩
  · obtain ⟨hlen, ho2⟩ := ho
    rcases ho2 with ⟨_, h⟩ | ⟨g, cap, cur, hv, hbg, hg, hnc, hcm, hcs, htake⟩
    · exact absurd h h0
    · injection hv with hA _ hc
      subst hA hc
      have hH : Sort.HoldsK spC 2 w g 0 l.toArray := by
        intro j hj
        have hj2 : j < l.length * 2 := by simpa using hj
        have hjl : j < (Sort.flatK spC 2 l.toArray).size := by simpa using hj2
        refine ⟨?_, frozen_of_row w g _ cur _ hg⟩
        rw [Nat.zero_add, cell_of_row w g j cur _ (0, 0) hg]
        have h1 : cur[j]? = (Sort.flatK spC 2 l.toArray)[j]? := by
          have h2 : cur.toList[j]? = (l.flatMap spC)[j]? := by
            rw [← htake, List.getElem?_take, if_pos (by omega)]
          rw [← flatK_spans] at h2
          simpa using h2
        rw [h1, getElem!_pos (Sort.flatK spC 2 l.toArray) j hjl, Array.getElem?_eq_getElem hjl]
        rfl
      have hK := AnyQ.slices_Reverse Try.reverseSp 2 Try.isAgg29 Try.sizeOf29 spC spC_len spC_one g 0 c l.toArray w hH (by simp; omega)
      rw [show l.toArray.size = n by simpa using hn] at hK
      refine hK.mono ?_
      rintro e w' ⟨rfl, k, rfl⟩
      have hsz : (Sort.putCells id 0 (Sort.flatK spC 2 l.toArray.reverse) cur).size = cur.size := by simp [Sort.putCells]
      refine ⟨rfl, ⟨by simpa [flat_len spC 2 spC_len] using hlen, .inr ⟨g, c, Sort.putCells id 0 (Sort.flatK spC 2 l.toArray.reverse) cur, rfl, hbg, ?_, hnc, hcm, by rw [hsz]; exact hcs, ?_⟩⟩, ?_⟩
      · simp [Sort.putRowK, Sort.putRow, Sort.mapBlock, Sort.ahead, Array.getElem?_modify, hg, Sort.onCells]
      · rw [show l.toArray.reverse = l.reverse.toArray by simp, ← flatK_spans l.reverse]
        apply List.ext_getElem?
        intro t
        by_cases ht : t < n * 2
        · have h1 : t < (Sort.flatK spC 2 l.reverse.toArray).size := by simp [hn]; omega
          have h2 : n * 2 ≤ cur.size := by rw [hcs]; omega
          have h3 : t < cur.size := by omega
          rw [List.getElem?_take, if_pos ht, Array.getElem?_toList, Array.getElem?_toList]
          simp only [Sort.putCells, Array.getElem?_mapIdx, Array.getElem?_eq_getElem h3, Option.map_some]
          rw [if_pos ⟨by omega, by omega⟩, Array.getElem?_eq_getElem h1, Nat.sub_zero, getElem!_pos (Sort.flatK spC 2 l.reverse.toArray) t h1]
          rfl
        · rw [List.getElem?_take, if_neg ht, List.getElem?_eq_none (by simp [hn]; omega)]
      · refine ⟨rfl, rfl, rfl, by simp [Sort.putRowK, Sort.putRow, Sort.mapBlock, Sort.ahead], fun k hk => ?_⟩
        have hne : ¬ g = k := by omega
        simp [Sort.putRowK, Sort.putRow, Sort.mapBlock, Sort.ahead, Array.getElem?_modify, hne]
end Go.Proofs.Ytplaghmehbkcnaa
