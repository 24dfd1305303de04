/- A bar with a longer dimension: its legs, lengths and findings (no program in sight). -/
import Derived.Test.YtpjdepnbeendcaaCheck
set_option linter.unusedVariables false
set_option linter.unusedSimpArgs false
namespace Go.Proofs.Ytpjdepnbeendcaa
namespace S
/-- Dimension i is longer by more. -/
def longer (b : Bar) (i : Nat) (more : Int) : Bar := ⟨b.mark, b.size, b.count, b.code, b.dims.set i (b.dims.getD i 0 + more)⟩
end S
theorem longer_getD (l : List Int) (i : Nat) (m : Int) (hm : 0 ≤ m) (j : Nat) : l.getD j 0 ≤ (l.set i (l.getD i 0 + m)).getD j 0 := by
  simp only [List.getD_eq_getElem?_getD, List.getElem?_set]
  split
  · rename_i h
    subst h
    split
    · simp only [Option.getD_some]; omega
    · rename_i h
      rw [List.getElem?_eq_none (by omega)]
      exact Int.le_refl _
  · exact Int.le_refl _
theorem longer_lens (b : Bar) (i : Nat) (m : Int) (hm : 0 ≤ m) {j : Nat} {n n' : Int} (h : (S.legLens b)[j]? = some n) (h' : (S.legLens (S.longer b i m))[j]? = some n') : n ≤ n' := by
  unfold S.legLens at h h'
  simp only [S.longer, List.getElem?_map] at h h'
  cases hl : (S.legsOf b.code)[j]? with
  | none => rw [hl] at h; simp at h
  | some l =>
    rw [hl] at h h'
    simp only [Option.map_some, Option.some.injEq] at h h'
    rw [← h, ← h']
    exact longer_getD _ _ _ hm _
theorem kindL_mono {r d : Int} {L i : Nat} {n n' : Int} (h : n ≤ n') : (S.kindL r d L i n').length ≤ (S.kindL r d L i n).length := by
  by_cases he : i = 0 ∨ i + 1 = L
  · by_cases h1 : n' < r + 5 * d
    · have h2 : n < r + 5 * d := by omega
      simp [S.kindL, S.kind, he, h1, h2]
    · simp [S.kindL, S.kind, he, h1]
  · by_cases h1 : n' < 2 * r
    · have h2 : n < 2 * r := by omega
      simp [S.kindL, S.kind, he, h1, h2]
    · simp [S.kindL, S.kind, he, h1]
theorem kindsTo_mono {r d : Int} {l l' : List Int} (hl : l.length = l'.length) (h : ∀ (j : Nat) (n n' : Int), l[j]? = some n → l'[j]? = some n' → n ≤ n') : ∀ m, (S.kindsTo r d l' m).length ≤ (S.kindsTo r d l m).length := by
  intro m
  induction m with
  | zero => simp [S.kindsTo]
  | succ m ih =>
    simp only [S.kindsTo, List.length_append]
    by_cases hm : m < l.length
    · have hm' : m < l'.length := by omega
      rw [List.getElem?_eq_getElem hm, List.getElem?_eq_getElem hm']
      have := kindL_mono (r := r) (d := d) (L := l.length) (i := m) (h m _ _ (List.getElem?_eq_getElem hm) (List.getElem?_eq_getElem hm'))
      simp only [hl] at this ⊢
      omega
    · rw [List.getElem?_eq_none (by omega), List.getElem?_eq_none (by omega)]
      simp only [List.length_nil]
      omega
theorem finds_mono (b : Bar) (i : Nat) (m : Int) (hm : 0 ≤ m) : (S.finds (S.longer b i m)).length ≤ (S.finds b).length := by
  have hc : (S.longer b i m).code = b.code := rfl
  have hz : (S.longer b i m).size = b.size := rfl
  unfold S.finds
  rw [hc, hz]
  split
  · exact Nat.le_refl _
  · exact kindsTo_mono (by simp [S.legLens, S.longer]) (fun j n n' h h' => longer_lens b i m hm h h') _
theorem legSum_longer (b : Bar) (h : S.bar b = true) (i : Nat) (hi : i < b.dims.length) (m : Int) (hm : 0 ≤ m) : S.legSum b + m ≤ S.legSum (S.longer b i m) := by
  obtain ⟨mk, sz, ct, cd, ds⟩ := b
  rcases bar_codes h with ⟨hc, a, e, h1, h2⟩ | ⟨hc, a, a2, e, h1, h2, h3⟩ | ⟨hc, a, a2, a3, e, h1, h2, h3, h4⟩ | ⟨hc, a, a2, a3, a4, a5, e, h1, h2, h3, h4, h5, h6⟩
  · simp only [] at hc e
    subst hc e
    have : i = 0 := by simp at hi; omega
    subst this
    simp [S.legSum, S.legLens, S.longer, S.legsOf, S.sum]
  · simp only [] at hc e
    subst hc e
    have : i = 0 ∨ i = 1 := by simp at hi; omega
    rcases this with rfl | rfl <;> simp [S.legSum, S.legLens, S.longer, S.legsOf, S.sum] <;> omega
  · simp only [] at hc e
    have : i = 0 ∨ i = 1 ∨ i = 2 := by subst e; simp at hi; omega
    rcases hc with hc | hc | hc | hc | hc <;> subst hc e <;> rcases this with rfl | rfl | rfl <;> simp [S.legSum, S.legLens, S.longer, S.legsOf, S.sum] <;> omega
  · simp only [] at hc e
    subst hc e
    have : i = 0 ∨ i = 1 ∨ i = 2 ∨ i = 3 ∨ i = 4 := by simp at hi; omega
    rcases this with rfl | rfl | rfl | rfl | rfl <;> simp [S.legSum, S.legLens, S.longer, S.legsOf, S.sum] <;> omega
theorem dev_longer (b : Bar) (i : Nat) (m : Int) : S.devLo (S.longer b i m) - S.devLo b = 1000 * (S.legSum (S.longer b i m) - S.legSum b) ∧ S.devHi (S.longer b i m) - S.devHi b = 1000 * (S.legSum (S.longer b i m) - S.legSum b) := by
  have e1 : S.bends (S.longer b i m) = S.bends b := rfl
  have e2 : (S.longer b i m).size = b.size := rfl
  unfold S.devLo S.devHi
  rw [e1, e2]
  omega
end Go.Proofs.Ytpjdepnbeendcaa
