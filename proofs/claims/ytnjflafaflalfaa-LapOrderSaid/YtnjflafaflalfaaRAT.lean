/- The front of a list in memory. Contracts: slices.Clone over spans. The plain law for LapOrder: what staggering does not depend on (no program in sight). DERIVED: THE SHELF's CONTRACTS AT THIS DUMP, IN -/
import Derived.Lib.SliceRun
import Derived.Shelf.Sort.Plain
import Derived.Shelf.Slices.CompactI
import Derived.Shelf.Slices.In.SortNone
import Derived.Ground.NamesProg
import Derived.Ground.Names2Prog
import Derived.Shelf.SlicesQ.Reverse
import Derived.Ground.SlgnProg
import Derived.Test.YtnjflafaflalfaaProg
import Derived.Test.YtnjflafaflalfaaRE
import Derived.Test.YtnjflafaflalfaaRAO
import Derived.Test.YtnjflafaflalfaaRP
set_option linter.unusedVariables false
set_option linter.unusedSimpArgs false
namespace Go.Proofs.Ytnjflafaflalfaa
open Go.RowKit
theorem Cells.fore {w : World} {B : Nat} {A : Option Addr} {xs ys : List Value} (h : Cells w B A (xs ++ ys)) : Cells w B A xs := by
  rcases Nat.eq_zero_or_pos xs.length with h0 | h0
  · exact .inl (List.length_eq_zero_iff.1 h0)
  · obtain ⟨b, o, he, hb, hc⟩ := h.at_ (by simp; omega)
    exact .inr ⟨b, o, he, hb, fun j v hv => hc j v (by
      obtain ⟨hj, _⟩ := List.getElem?_eq_some_iff.1 hv
      rw [List.getElem?_append_left hj]; exact hv)⟩
theorem Cells.upto {α : Type} {w : World} {B : Nat} {A : Option Addr} {enc : α → List Value} {l : List α} (h : Cells w B A (l.flatMap enc)) (k : Nat) : Cells w B A ((l.take k).flatMap enc) := by
  rw [← List.take_append_drop k l, List.flatMap_append] at h
  exact h.fore
end Go.Proofs.Ytnjflafaflalfaa
namespace Go.Proofs.Ytnjflafaflalfaa
open Go.RowKit
theorem elemSp : Elem Try.prog 22 27 (.agg #[.int .i64 0, .int .i64 0]) 2 16 := ⟨Try.underlying22, by kernel_rfl, rfl, by decide⟩
def GivesSp (n : Nat) (xs : List Sp) (w : World) (e : Ending) (w' : World) : Prop :=
  ∃ A c, e = .returned (.slice A n c) ∧ n ≤ c ∧ c ≤ maxLen ∧ w'.ownsRow w.heap.size 27 2 (.slice A n c) n (xs.flatMap spC) ∧ Below w.heap.size w w'
theorem clones_any (A : Option Addr) (n c : Nat) (l : List Sp) (B : Nat) (w : World) (hB : B ≤ w.heap.size) (hn : l.length = n) (h2 : n ≤ 1000000) (hx : Cells w B A (l.flatMap spC)) :
    Calls Try.prog 9 #[.slice A n c] w (GivesSp n l w) := by
  obtain ⟨i0, hi, hz0, hz1, hz2⟩ := info_parts elemSp.info
  have q22 : ∀ (w : World) (a : Option Addr) (n c n' c' : Nat), (binOp .eql 22 (.slice a n c) (.slice none n' c')).run Try.prog w = .ok (.bool a.isNone) w := fun w a n c n' c' => Lib.run_eql_slice_nil w _ _ a n c n' c' Try.underlying22
  have HX := Lib.hid hx
  have HN := Lib.hid hn
  cases A with
  | none =>
    have hl : l = [] := by
      rcases hx with h | ⟨b, o, h, _⟩
      · cases l with
        | nil => rfl
        | cons a l => simp at h
      · cases h
    subst hl
    obtain rfl : n = 0 := by simpa using hn.symm
    clear hx hn
    go_enter Try.func9, Try.ntmps9
    go_wp2
    go_ret
    exact ⟨none, 0, rfl, Nat.le_refl _, Nat.zero_le _, World.ownsRow_nil _ _ _ _, bel⟩
  | some a =>
    clear hx hn
    go_enter Try.func9, Try.ntmps9
    go_wp2_with (at_builtin; refine wpList_append_own_at _ rfl _ _ 22 rfl w.heap.size 27 i0 (.agg #[.int .i64 0, .int .i64 0]) 2 16 Try.underlying22 hi hz0 hz1 hz2 rfl (by decide) _ _ _ rfl (World.ownsRow_made w #[] 0 (Nat.le_refl _) (Nat.zero_le _) rfl) a n c (l.flatMap spC) rfl ?qc1 ?qc2 ?qc3 ?qc4 ?qc5 ?qc6 ?_)
    case qc1 => rw [flat_len spC 2 spC_len, HN.out]
    case qc2 =>
      intro j u hj
      have hlen : 0 < (l.flatMap spC).length := by
        rcases Nat.eq_zero_or_pos (l.flatMap spC).length with h | h
        · rw [List.length_eq_zero_iff.1 h] at hj; simp at hj
        · exact h
      obtain ⟨b, o, he, _, _⟩ := HX.out.at_ hlen
      have hx2 := HX.out
      rw [he] at hx2
      have he2 : a = ⟨b, o, none⟩ := Option.some.inj he
      have e : (Addr.add ⟨b, o, none⟩ j) = ⟨b, o + j, none⟩ := by unfold Addr.add; split <;> simp_all
      rw [he2, e]
      exact (hx2.alloc hB _).get hj
    case qc3 => intro u hu; obtain ⟨s, _, hs⟩ := List.mem_flatMap.1 hu; simp at hs; rcases hs with rfl | rfl <;> rfl
    case qc4 => unfold maxLen; omega
    case qc5 => omega
    case qc6 => simp
    intro v' w1 hown hgrow hnil hat
    have hbel : Below w.heap.size w w1 := ((Below.refl _ w).alloc (Nat.le_refl _) _).grown hgrow (by simp) (by intro k hk; simp [Value.ownBlock] at hk; omega)
    obtain ⟨A5, c5, rfl, hc1, hc2, _⟩ := own_form hown (by unfold maxLen; omega)
    go_wp2
    go_ret
    exact ⟨A5, c5, rfl, hc1, hc2, by simpa using hown, hbel⟩
end Go.Proofs.Ytnjflafaflalfaa
namespace Go.Proofs.Ytnjflafaflalfaa
def Apart (num den : Int) (l : List Sp) : Prop := ∀ (i j : Nat) (hi : i < l.length) (hj : j < i), S.nearS num den l[i] (l[j]'(by omega)) = false
theorem stag_bd (l : List Sp) (num den : Int) : -1 ≤ S.stag l num den ∧ S.stag l num den < l.length := by
  unfold S.stag idxf
  split
  · rename_i k hk
    obtain ⟨h1, _⟩ := List.findIdx?_eq_some_iff_getElem.1 hk
    simp at h1
    omega
  · omega
theorem stag_apart {l : List Sp} {num den : Int} : S.stag l num den < 0 ↔ Apart num den l := by
  constructor
  · intro h i j hi hj
    cases hn : S.nearS num den l[i] (l[j]'(by omega)) with
    | false => rfl
    | true =>
      exfalso
      have hp := stagP_yes hi hj hn
      unfold S.stag idxf at h
      split at h
      · omega
      · rename_i hk
        rw [List.findIdx?_eq_none_iff] at hk
        have := hk i (by simpa using hi)
        rw [hp] at this
        cases this
  · intro h
    rw [stag_miss (fun i hi => stagP_no hi (fun j hj => h i j hi hj))]
    decide
theorem stag_at {l : List Sp} {num den : Int} {k : Nat} (h : S.stag l num den = (k : Int)) : ∃ hk : k < l.length, S.stagP l num den k = true ∧ ∀ j, j < k → S.stagP l num den j = false := by
  unfold S.stag idxf at h
  split at h
  · rename_i k' hk
    obtain ⟨h1, h2, h3⟩ := List.findIdx?_eq_some_iff_getElem.1 hk
    obtain rfl : k' = k := by omega
    simp only [List.length_range] at h1
    refine ⟨h1, by simpa using h2, fun j hj => ?_⟩
    have := h3 j hj
    simpa using this
  · omega
theorem near_sym (num den : Int) (a b : Sp) : S.nearS num den a b = S.nearS num den b a := by
  have h1 : S.dist a b = S.dist b a := by unfold S.dist; split <;> split <;> omega
  have h2 : S.wide a b = S.wide b a := by unfold S.wide; split <;> split <;> omega
  unfold S.nearS
  rw [h1, h2]
theorem apart_reverse {num den : Int} {l : List Sp} : Apart num den l.reverse ↔ Apart num den l := by
  have key : ∀ l : List Sp, Apart num den l → Apart num den l.reverse := by
    intro l h i j hi hj
    have hl : l.reverse.length = l.length := List.length_reverse
    rw [List.getElem_reverse, List.getElem_reverse, near_sym]
    exact h (l.length - 1 - j) (l.length - 1 - i) (by omega) (by omega)
  exact ⟨fun h => by simpa using key _ h, key l⟩
theorem stag_reverse (l : List Sp) (num den : Int) : S.stag l.reverse num den < 0 ↔ S.stag l num den < 0 := by
  rw [stag_apart, stag_apart, apart_reverse]
theorem stag_before {l : List Sp} {num den : Int} {k : Nat} (h : S.stag l num den = (k : Int)) : S.stag (l.take k) num den < 0 := by
  obtain ⟨hk, _, hno⟩ := stag_at h
  rw [stag_apart]
  intro i j hi hj
  have hi' : i < k := by simp at hi; omega
  have h1 := hno i hi'
  rw [stagP_eq (by omega), List.any_eq_false] at h1
  have := h1 (l[j]'(by omega)) (by rw [List.mem_take_iff_getElem]; exact ⟨j, by omega, rfl⟩)
  simpa using this
theorem stag_with {l : List Sp} {num den : Int} {k : Nat} (h : S.stag l num den = (k : Int)) : ¬ S.stag (l.take (k + 1)) num den < 0 := by
  obtain ⟨hk, hp, _⟩ := stag_at h
  rw [stag_apart]
  intro ha
  rw [stagP_eq hk, List.any_eq_true] at hp
  obtain ⟨x, hx, hn⟩ := hp
  rw [List.mem_take_iff_getElem] at hx
  obtain ⟨j, hj, rfl⟩ := hx
  have hl : (l.take (k + 1)).length = k + 1 := by simp; omega
  have := ha k j (by omega) (by omega)
  simp only [List.getElem_take] at this
  rw [hn] at this
  cases this
theorem stag_less {l : List Sp} {num small den : Int} (hok : anyb l S.spanNot = false) (hs : small ≤ num) (h0 : 0 ≤ small) (h : S.stag l num den < 0) : S.stag l small den < 0 := by
  rw [stag_apart] at h ⊢
  intro i j hi hj
  have h1 := h i j hi hj
  have ha := span_ok hok hi
  have hb := span_ok hok (show j < l.length by omega)
  simp only [S.spanOk, Bool.and_eq_true, decide_eq_true_eq] at ha hb
  have hw : 0 ≤ S.wide l[i] (l[j]'(by omega)) := by unfold S.wide; split <;> omega
  simp only [S.nearS, decide_eq_false_iff_not] at h1 ⊢
  have := Int.mul_le_mul_of_nonneg_right (show 2 * small ≤ 2 * num by omega) hw
  omega
theorem stag_twice {l : List Sp} {num den : Int} {s : Sp} (h0 : l[0]? = some s) (hs : s.lo < s.hi) (hn : 1 ≤ num) : ¬ S.stag (l ++ [s]) num den < 0 := by
  rw [stag_apart]
  intro h
  obtain ⟨hl, hs0⟩ := List.getElem?_eq_some_iff.1 h0
  have h1 := h l.length 0 (by simp) (by omega)
  have e1 : (l ++ [s])[l.length]'(by simp) = s := by simp
  have e2 : (l ++ [s])[0]'(by simp) = s := by rw [List.getElem_append_left hl]; exact hs0
  rw [e1, e2] at h1
  have hd : S.dist s s = 0 := by unfold S.dist; split <;> omega
  have hw : S.wide s s = s.hi - s.lo := by unfold S.wide; split <;> omega
  unfold S.nearS at h1
  rw [hd, hw, Int.zero_mul, decide_eq_false_iff_not] at h1
  have := Int.mul_pos (show 0 < 2 * num by omega) (show 0 < s.hi - s.lo by omega)
  omega
theorem take_ok {l : List Sp} (h : anyb l S.spanNot = false) (k : Nat) : anyb (l.take k) S.spanNot = false := by
  unfold anyb at h ⊢
  rw [List.any_eq_false] at h ⊢
  exact fun x hx => h x (List.mem_of_mem_take hx)
theorem reverse_ok {l : List Sp} (h : anyb l S.spanNot = false) : anyb l.reverse S.spanNot = false := by
  unfold anyb at h ⊢
  rw [List.any_eq_false] at h ⊢
  exact fun x hx => h x (List.mem_reverse.1 hx)
theorem snoc_ok {l : List Sp} {s : Sp} (h : anyb l S.spanNot = false) (h0 : l[0]? = some s) : anyb (l ++ [s]) S.spanNot = false := by
  unfold anyb at h ⊢
  rw [List.any_eq_false] at h ⊢
  intro x hx
  rcases List.mem_append.1 hx with hx | hx
  · exact h x hx
  · rw [List.mem_singleton] at hx
    subst hx
    exact h _ (List.mem_of_getElem? h0)
end Go.Proofs.Ytnjflafaflalfaa
namespace Go.Proofs
open Go.Shelf
def Try.reverseSp_ren : Go.Shelf.Ren := ⟨fun | 35 => 10 | n => n, fun | 22 => 22 | 23 => 27 | 3 => 3 | 4 => 4 | 0 => 0 | n => n, fun | n => n⟩
theorem Try.reverseSp : Go.Proofs.SlLaysE0.n35 Try.prog Try.reverseSp_ren := {
  mixed := by kernel_rfl
  f35 := ⟨Try.f10.name, by decide, Try.func10.trans (congrArg some (by kernel_rfl))⟩
  t0 := Try.underlying0
  a0 := Try.isAgg0
  z0 := Try.sizeOf0
  v0 := Try.zeroValue0
  t3 := Try.underlying3
  a3 := Try.isAgg3
  z3 := Try.sizeOf3
  v3 := Try.zeroValue3
  t4 := Try.underlying4
  a4 := Try.isAgg4
  z4 := Try.sizeOf4
  v4 := Try.zeroValue4
  t22 := Try.underlying22
  a22 := Try.isAgg22
  z22 := Try.sizeOf22
  v22 := Try.zeroValue22 }
end Go.Proofs
namespace Go.Proofs.Ytnjflafaflalfaa
open Go.RowKit
theorem spC_one (s : Sp) : ∀ v ∈ spC s, v.oneCell' = true := by
  intro v hv
  simp at hv
  rcases hv with rfl | rfl <;> rfl
instance spRevI : Inhabited Sp := ⟨⟨0, 0⟩⟩
theorem flatK_spans (l : List Sp) : (Sort.flatK spC 2 l.toArray).toList = l.flatMap spC := by
  apply List.ext_getElem?
  intro t
  by_cases ht : t < l.length * 2
  · have h1 : t / 2 < l.length := by omega
    have h2 := flat_get spC 2 spC_len l (t / 2) h1 (t % 2) (by omega)
    rw [show t / 2 * 2 + t % 2 = t by omega] at h2
    rw [h2]
    have h3 : t < (Sort.flatK spC 2 l.toArray).size := by simpa using ht
    have h4 := Sort.get_flatK spC 2 l.toArray t (by simpa using ht)
    rw [getElem!_pos (Sort.flatK spC 2 l.toArray) t h3] at h4
    rw [Array.getElem?_toList, Array.getElem?_eq_getElem h3, h4]
    have h5 : l.toArray[t / 2]! = l[t / 2] := by rw [getElem!_pos l.toArray (t / 2) (by simpa using h1)]; simp
    rw [h5]
    have h6 : t % 2 < (spC l[t / 2]).length := by rw [spC_len]; omega
    rw [getElem!_pos (spC l[t / 2]) (t % 2) h6, List.getElem?_eq_getElem h6]
  · rw [List.getElem?_eq_none (by simp; omega), List.getElem?_eq_none (by rw [flat_len spC 2 spC_len]; omega)]
theorem revs_any (A : Option Addr) (n c : Nat) (l : List Sp) (B : Nat) (w : World) (hB : B ≤ w.heap.size) (hn : l.length = n) (hm : n ≤ 1000000) (ho : w.ownsRow B 27 2 (.slice A n c) n (l.flatMap spC)) :
    Calls Try.prog 10 #[.slice A n c] w fun e w' => e = .returned (.tuple #[]) ∧ w'.ownsRow B 27 2 (.slice A n c) n (l.reverse.flatMap spC) ∧ Below B w w' := by
  by_cases h0 : n = 0
  · subst h0
    have hl : l = [] := List.length_eq_zero_iff.1 hn
    subst hl
    refine (AnyQ.slices_Reverse_empty Try.reverseSp A c w).mono ?_
    rintro e w' ⟨rfl, rfl⟩
    exact ⟨rfl, ho, Below.refl _ _⟩
  · obtain ⟨hlen, ho2⟩ := ho
    rcases ho2 with ⟨_, h⟩ | ⟨g, cap, cur, hv, hbg, hg, hnc, hcm, hcs, htake⟩
    · exact absurd h h0
    · injection hv with hA _ hc
      subst hA hc
      have hH : Sort.HoldsK spC 2 w g 0 l.toArray := by
        intro j hj
        have hj2 : j < l.length * 2 := by simpa using hj
        have hjl : j < (Sort.flatK spC 2 l.toArray).size := by simpa using hj2
        refine ⟨?_, frozen_of_row w g _ cur _ hg⟩
        rw [Nat.zero_add, cell_of_row w g j cur _ (0, 0) hg]
        have h1 : cur[j]? = (Sort.flatK spC 2 l.toArray)[j]? := by
          have h2 : cur.toList[j]? = (l.flatMap spC)[j]? := by
            rw [← htake, List.getElem?_take, if_pos (by omega)]
          rw [← flatK_spans] at h2
          simpa using h2
        rw [h1, getElem!_pos (Sort.flatK spC 2 l.toArray) j hjl, Array.getElem?_eq_getElem hjl]
        rfl
      have hK := AnyQ.slices_Reverse Try.reverseSp 2 Try.isAgg27 Try.sizeOf27 spC spC_len spC_one g 0 c l.toArray w hH (by simp; omega)
      rw [show l.toArray.size = n by simpa using hn] at hK
      refine hK.mono ?_
      rintro e w' ⟨rfl, k, rfl⟩
      have hsz : (Sort.putCells id 0 (Sort.flatK spC 2 l.toArray.reverse) cur).size = cur.size := by simp [Sort.putCells]
      refine ⟨rfl, ⟨by simpa [flat_len spC 2 spC_len] using hlen, .inr ⟨g, c, Sort.putCells id 0 (Sort.flatK spC 2 l.toArray.reverse) cur, rfl, hbg, ?_, hnc, hcm, by rw [hsz]; exact hcs, ?_⟩⟩, ?_⟩
      · simp [Sort.putRowK, Sort.putRow, Sort.mapBlock, Sort.ahead, Array.getElem?_modify, hg, Sort.onCells]
      · rw [show l.toArray.reverse = l.reverse.toArray by simp, ← flatK_spans l.reverse]
        apply List.ext_getElem?
        intro t
        by_cases ht : t < n * 2
        · have h1 : t < (Sort.flatK spC 2 l.reverse.toArray).size := by simp [hn]; omega
          have h2 : n * 2 ≤ cur.size := by rw [hcs]; omega
          have h3 : t < cur.size := by omega
          rw [List.getElem?_take, if_pos ht, Array.getElem?_toList, Array.getElem?_toList]
          simp only [Sort.putCells, Array.getElem?_mapIdx, Array.getElem?_eq_getElem h3, Option.map_some]
          rw [if_pos ⟨by omega, by omega⟩, Array.getElem?_eq_getElem h1, Nat.sub_zero, getElem!_pos (Sort.flatK spC 2 l.reverse.toArray) t h1]
          rfl
        · rw [List.getElem?_take, if_neg ht, List.getElem?_eq_none (by simp [hn]; omega)]
      · refine ⟨rfl, rfl, rfl, by simp [Sort.putRowK, Sort.putRow, Sort.mapBlock, Sort.ahead], fun k hk => ?_⟩
        have hne : ¬ g = k := by omega
        simp [Sort.putRowK, Sort.putRow, Sort.mapBlock, Sort.ahead, Array.getElem?_modify, hne]
end Go.Proofs.Ytnjflafaflalfaa
