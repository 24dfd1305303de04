/- How the legs of a path turn, and how long they are together (no program in sight). -/
import Derived.Test.YtnjflafaflalfaaRT
set_option linter.unusedVariables false
set_option linter.unusedSimpArgs false
namespace Go.Proofs.Ytnjflafaflalfaa
namespace S
def axis (way : Nat) : Int := if way = 120 then 1 else if way = 88 then 1 else if way = 121 then 2 else if way = 89 then 2 else if way = 122 then 3 else 0
end S
theorem dimsOf_codes {c : Int} (h : S.dimsOf c ≠ 0) : c = 0 ∨ c = 11 ∨ c = 21 ∨ c = 26 ∨ c = 31 ∨ c = 41 ∨ c = 51 ∨ c = 98 := by
  unfold S.dimsOf at h
  repeat' (split at h <;> try omega)
theorem lst1 {α : Type} {l : List α} (h : l.length = 1) : ∃ a, l = [a] := by match l, h with | [a], _ => exact ⟨a, rfl⟩
theorem lst2 {α : Type} {l : List α} (h : l.length = 2) : ∃ a b, l = [a, b] := by match l, h with | [a, b], _ => exact ⟨a, b, rfl⟩
theorem lst3 {α : Type} {l : List α} (h : l.length = 3) : ∃ a b c, l = [a, b, c] := by match l, h with | [a, b, c], _ => exact ⟨a, b, c, rfl⟩
theorem lst5 {α : Type} {l : List α} (h : l.length = 5) : ∃ a b c d e, l = [a, b, c, d, e] := by match l, h with | [a, b, c, d, e], _ => exact ⟨a, b, c, d, e, rfl⟩
theorem bar_codes {b : Bar} (h : S.bar b = true) :
    (b.code = 0 ∧ ∃ a, b.dims = [a] ∧ 1 ≤ a ∧ a ≤ 262144) ∨ (b.code = 11 ∧ ∃ a c, b.dims = [a, c] ∧ 1 ≤ a ∧ 1 ≤ c ∧ a + c ≤ 262144) ∨
    ((b.code = 21 ∨ b.code = 26 ∨ b.code = 31 ∨ b.code = 51 ∨ b.code = 98) ∧ ∃ a c d, b.dims = [a, c, d] ∧ 1 ≤ a ∧ 1 ≤ c ∧ 1 ≤ d ∧ a + c + d ≤ 262144) ∨
    (b.code = 41 ∧ ∃ a c d e f, b.dims = [a, c, d, e, f] ∧ 1 ≤ a ∧ 1 ≤ c ∧ 1 ≤ d ∧ 1 ≤ e ∧ 1 ≤ f ∧ a + c + d + e + f ≤ 262144) := by
  have hl := bar_head h
  have h0 : S.dimsOf b.code ≠ 0 := by
    intro h1
    simp [S.bar, S.barHead, h1] at h
  have hd : S.dimsOk b.dims = true := by simp only [S.bar, Bool.and_eq_true] at h; exact h.2
  obtain ⟨h1, h2⟩ := dimsOk_iff.1 hd
  rcases dimsOf_codes h0 with c | c | c | c | c | c | c | c
  · rw [c, show S.dimsOf 0 = 1 from rfl] at hl
    obtain ⟨a, e⟩ := lst1 (show b.dims.length = 1 by omega)
    rw [e] at h1 h2
    have := h1 a (by simp)
    simp [S.sum] at h2
    exact .inl ⟨c, a, e, by omega, by omega⟩
  · rw [c, show S.dimsOf 11 = 2 from rfl] at hl
    obtain ⟨a, a2, e⟩ := lst2 (show b.dims.length = 2 by omega)
    rw [e] at h1 h2
    have g1 := h1 a (by simp)
    have g2 := h1 a2 (by simp)
    simp [S.sum] at h2
    exact .inr (.inl ⟨c, a, a2, e, by omega, by omega, by omega⟩)
  case' inr.inr.inr.inr.inr.inl =>
    rw [c, show S.dimsOf 41 = 5 from rfl] at hl
    obtain ⟨a, a2, a3, a4, a5, e⟩ := lst5 (show b.dims.length = 5 by omega)
    rw [e] at h1 h2
    have g1 := h1 a (by simp)
    have g2 := h1 a2 (by simp)
    have g3 := h1 a3 (by simp)
    have g4 := h1 a4 (by simp)
    have g5 := h1 a5 (by simp)
    simp [S.sum] at h2
    exact .inr (.inr (.inr ⟨c, a, a2, a3, a4, a5, e, by omega, by omega, by omega, by omega, by omega, by omega⟩))
  all_goals
    have hl3 : S.dimsOf b.code = 3 := by rw [c]; rfl
    obtain ⟨a, a2, a3, e⟩ := lst3 (show b.dims.length = 3 by omega)
    rw [e] at h1 h2
    have g1 := h1 a (by simp)
    have g2 := h1 a2 (by simp)
    have g3 := h1 a3 (by simp)
    simp [S.sum] at h2
    exact .inr (.inr (.inl ⟨by omega, a, a2, a3, e, by omega, by omega, by omega, by omega⟩))
theorem legs_sum {b : Bar} (h : S.bar b = true) : S.sum (S.legLens b) ≤ 524288 ∧ 1 ≤ (S.legsOf b.code).length := by
  rcases bar_codes h with ⟨c, a, e, h1, h2⟩ | ⟨c, a, a2, e, h1, h2, h3⟩ | ⟨c, a, a2, a3, e, h1, h2, h3, h4⟩ | ⟨c, a, a2, a3, a4, a5, e, h1, h2, h3, h4, h5, h6⟩
  · simp [S.legLens, c, e, S.legsOf, S.sum]; omega
  · simp [S.legLens, c, e, S.legsOf, S.sum]; omega
  · rcases c with c | c | c | c | c <;> (simp [S.legLens, c, e, S.legsOf, S.sum]; omega)
  · simp [S.legLens, c, e, S.legsOf, S.sum]; omega
theorem lens_pos {b : Bar} (h : S.bar b = true) : ∀ x, x ∈ S.legLens b → 1 ≤ x := by
  intro x hx
  have hd : S.dimsOk b.dims = true := by simp only [S.bar, Bool.and_eq_true] at h; exact h.2
  have hl := bar_head h
  simp only [S.legLens, List.mem_map] at hx
  obtain ⟨l, hm, rfl⟩ := hx
  obtain ⟨j, hj, rfl⟩ := List.mem_iff_getElem.1 hm
  have h1 := legs_dim b.code hj
  have h2 : (S.legsOf b.code)[j].1 < b.dims.length := by omega
  rw [List.getD_eq_getElem?_getD, List.getElem?_eq_getElem h2]
  exact (dim_bd hd h2).1
end Go.Proofs.Ytnjflafaflalfaa
