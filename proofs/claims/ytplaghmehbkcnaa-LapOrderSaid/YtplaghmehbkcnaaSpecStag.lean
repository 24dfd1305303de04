/- The plain law for LapOrder: what staggering does not depend on (no program in sight). -/
import Derived.Test.YtplaghmehbkcnaaStag
set_option linter.unusedVariables false
set_option linter.unusedSimpArgs false
namespace Go.Proofs.Ytplaghmehbkcnaa
/-- No span is too near to one before it. -/
def Apart (num den : Int) (l : List Sp) : Prop := ∀ (i j : Nat) (hi : i < l.length) (hj : j < i), S.nearS num den l[i] (l[j]'(by omega)) = false
theorem stag_bd (l : List Sp) (num den : Int) : -1 ≤ S.stag l num den ∧ S.stag l num den < l.length := by
  unfold S.stag idxf
  split
  · rename_i k hk
    obtain ⟨h1, _⟩ := List.findIdx?_eq_some_iff_getElem.1 hk
    simp at h1
    omega
  · omega
theorem stag_apart {l : List Sp} {num den : Int} : S.stag l num den < 0 ↔ Apart num den l := by
  constructor
  · intro h i j hi hj
    cases hn : S.nearS num den l[i] (l[j]'(by omega)) with
    | false => rfl
    | true =>
      exfalso
      have hp := stagP_yes hi hj hn
      unfold S.stag idxf at h
      split at h
      · omega
      · rename_i hk
        rw [List.findIdx?_eq_none_iff] at hk
        have := hk i (by simpa using hi)
        rw [hp] at this
        cases this
  · intro h
    rw [stag_miss (fun i hi => stagP_no hi (fun j hj => h i j hi hj))]
    decide
theorem stag_at {l : List Sp} {num den : Int} {k : Nat} (h : S.stag l num den = (k : Int)) : ∃ hk : k < l.length, S.stagP l num den k = true ∧ ∀ j, j < k → S.stagP l num den j = false := by
  unfold S.stag idxf at h
  split at h
  · rename_i k' hk
    obtain ⟨h1, h2, h3⟩ := List.findIdx?_eq_some_iff_getElem.1 hk
    obtain rfl : k' = k := by omega
    simp only [List.length_range] at h1
    refine ⟨h1, by simpa using h2, fun j hj => ?_⟩
    have := h3 j hj
    simpa using this
  · omega
theorem near_sym (num den : Int) (a b : Sp) : S.nearS num den a b = S.nearS num den b a := by
  have h1 : S.dist a b = S.dist b a := by unfold S.dist; split <;> split <;> omega
  have h2 : S.wide a b = S.wide b a := by unfold S.wide; split <;> split <;> omega
  unfold S.nearS
  rw [h1, h2]
theorem apart_reverse {num den : Int} {l : List Sp} : Apart num den l.reverse ↔ Apart num den l := by
  have key : ∀ l : List Sp, Apart num den l → Apart num den l.reverse := by
    intro l h i j hi hj
    have hl : l.reverse.length = l.length := List.length_reverse
    rw [List.getElem_reverse, List.getElem_reverse, near_sym]
    exact h (l.length - 1 - j) (l.length - 1 - i) (by omega) (by omega)
  exact ⟨fun h => by simpa using key _ h, key l⟩
theorem stag_reverse (l : List Sp) (num den : Int) : S.stag l.reverse num den < 0 ↔ S.stag l num den < 0 := by
  rw [stag_apart, stag_apart, apart_reverse]
theorem stag_before {l : List Sp} {num den : Int} {k : Nat} (h : S.stag l num den = (k : Int)) : S.stag (l.take k) num den < 0 := by
  obtain ⟨hk, _, hno⟩ := stag_at h
  rw [stag_apart]
  intro i j hi hj
  have hi' : i < k := by simp at hi; omega
  have h1 := hno i hi'
  rw [stagP_eq (by omega), List.any_eq_false] at h1
  have := h1 (l[j]'(by omega)) (by rw [List.mem_take_iff_getElem]; exact ⟨j, by omega, rfl⟩)
  simpa using this
theorem stag_with {l : List Sp} {num den : Int} {k : Nat} (h : S.stag l num den = (k : Int)) : ¬ S.stag (l.take (k + 1)) num den < 0 := by
  obtain ⟨hk, hp, _⟩ := stag_at h
  rw [stag_apart]
  intro ha
  rw [stagP_eq hk, List.any_eq_true] at hp
  obtain ⟨x, hx, hn⟩ := hp
  rw [List.mem_take_iff_getElem] at hx
  obtain ⟨j, hj, rfl⟩ := hx
  have hl : (l.take (k + 1)).length = k + 1 := by simp; omega
  have := ha k j (by omega) (by omega)
  simp only [List.getElem_take] at this
  rw [hn] at this
  cases this
theorem stag_less {l : List Sp} {num small den : Int} (hok : anyb l S.spanNot = false) (hs : small ≤ num) (h0 : 0 ≤ small) (h : S.stag l num den < 0) : S.stag l small den < 0 := by
  rw [stag_apart] at h ⊢
  intro i j hi hj
  have h1 := h i j hi hj
  have ha := span_ok hok hi
  have hb := span_ok hok (show j < l.length by omega)
  simp only [S.spanOk, Bool.and_eq_true, decide_eq_true_eq] at ha hb
  have hw : 0 ≤ S.wide l[i] (l[j]'(by omega)) := by unfold S.wide; split <;> omega
  simp only [S.nearS, decide_eq_false_iff_not] at h1 ⊢
  have := Int.mul_le_mul_of_nonneg_right (show 2 * small ≤ 2 * num by omega) hw
  omega
theorem stag_twice {l : List Sp} {num den : Int} {s : Sp} (h0 : l[0]? = some s) (hs : s.lo < s.hi) (hn : 1 ≤ num) : ¬ S.stag (l ++ [s]) num den < 0 := by
  rw [stag_apart]
  intro h
  obtain ⟨hl, hs0⟩ := List.getElem?_eq_some_iff.1 h0
  have h1 := h l.length 0 (by simp) (by omega)
  have e1 : (l ++ [s])[l.length]'(by simp) = s := by simp
  have e2 : (l ++ [s])[0]'(by simp) = s := by rw [List.getElem_append_left hl]; exact hs0
  rw [e1, e2] at h1
  have hd : S.dist s s = 0 := by unfold S.dist; split <;> omega
  have hw : S.wide s s = s.hi - s.lo := by unfold S.wide; split <;> omega
  unfold S.nearS at h1
  rw [hd, hw, Int.zero_mul, decide_eq_false_iff_not] at h1
  have := Int.mul_pos (show 0 < 2 * num by omega) (show 0 < s.hi - s.lo by omega)
  omega
/-- What stagT is where all is in order. -/
theorem take_ok {l : List Sp} (h : anyb l S.spanNot = false) (k : Nat) : anyb (l.take k) S.spanNot = false := by
  unfold anyb at h ⊢
  rw [List.any_eq_false] at h ⊢
  exact fun x hx => h x (List.mem_of_mem_take hx)
theorem reverse_ok {l : List Sp} (h : anyb l S.spanNot = false) : anyb l.reverse S.spanNot = false := by
  unfold anyb at h ⊢
  rw [List.any_eq_false] at h ⊢
  exact fun x hx => h x (List.mem_reverse.1 hx)
theorem snoc_ok {l : List Sp} {s : Sp} (h : anyb l S.spanNot = false) (h0 : l[0]? = some s) : anyb (l ++ [s]) S.spanNot = false := by
  unfold anyb at h ⊢
  rw [List.any_eq_false] at h ⊢
  intro x hx
  rcases List.mem_append.1 hx with hx | hx
  · exact h x hx
  · rw [List.mem_singleton] at hx
    subst hx
    exact h _ (List.mem_of_getElem? h0)
end Go.Proofs.Ytplaghmehbkcnaa
