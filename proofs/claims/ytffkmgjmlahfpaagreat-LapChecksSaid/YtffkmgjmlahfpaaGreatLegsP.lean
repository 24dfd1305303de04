/- The legs of a laid bar as boxes; its main leg among them (no walk). -/
import Derived.Test.YtffkmgjmlahfpaaGreatRHull12
import Derived.Test.YtffkmgjmlahfpaaGreatRMainLeg
import Derived.Test.YtffkmgjmlahfpaaGreatMainA
set_option linter.unusedVariables false
set_option linter.unusedSimpArgs false
namespace Go.Proofs.YtffkmgjmlahfpaaGreat
open Go.RowKit
def S.legB (p q : Pt) : Bx := S.join (S.ptBox p) (S.ptBox q)
def S.ptD (l : List Pt) (k : Nat) : Pt := (l[k]?).getD ⟨0, 0, 0⟩
def S.legsTo (l : List Pt) (m : Nat) : List Bx := (List.range m).map fun k => S.legB (S.ptD l k) (S.ptD l (k + 1))
def S.legsL (l : List Pt) : List Bx := S.legsTo l (l.length - 1)
theorem legsTo_len (l : List Pt) (m : Nat) : (S.legsTo l m).length = m := by simp [S.legsTo]
theorem legsTo_snoc (l : List Pt) (m : Nat) : S.legsTo l (m + 1) = S.legsTo l m ++ [S.legB (S.ptD l m) (S.ptD l (m + 1))] := by simp [S.legsTo, List.range_succ]
theorem hull_two (p q : Pt) : S.hull (S.ptBox p) [S.ptBox p, S.ptBox q] = S.legB p q := by
  show S.join (S.join (S.ptBox p) (S.ptBox p)) (S.ptBox q) = _
  rw [join_self]
  rfl
theorem mnmx_eq (p q : Int) : (if q < p then q else p) = (if p < q then q else p) ↔ p = q := by
  split <;> split <;> omega
theorem mnmx_lt (p q : Int) : (if q < p then q else p) < (if p < q then q else p) ↔ p ≠ q := by
  split <;> split <;> omega
theorem isMainB_iff {b : Bx} : S.isMainB b = true ↔ b.lo.x < b.hi.x ∧ b.lo.y = b.hi.y ∧ b.lo.z = b.hi.z := by simp [S.isMainB, and_assoc]
theorem isMain_iff2 {p q : Pt} : S.isMain p q = true ↔ p.x ≠ q.x ∧ p.y = q.y ∧ p.z = q.z := by simp [S.isMain, and_assoc]
theorem legB_main (p q : Pt) : S.isMainB (S.legB p q) = S.isMain p q := by
  rw [Bool.eq_iff_iff, isMainB_iff, isMain_iff2]
  show (if q.x < p.x then q.x else p.x) < (if p.x < q.x then q.x else p.x) ∧ (if q.y < p.y then q.y else p.y) = (if p.y < q.y then q.y else p.y) ∧ (if q.z < p.z then q.z else p.z) = (if p.z < q.z then q.z else p.z) ↔ _
  rw [mnmx_lt, mnmx_eq, mnmx_eq]
theorem legB_box {p q : Pt} (h : S.isMain p q = true) : S.legB p q = S.legBx p q := by
  simp only [S.isMain, Bool.and_eq_true, decide_eq_true_eq, bne_iff_ne] at h
  obtain ⟨⟨h1, h2⟩, h3⟩ := h
  obtain ⟨px, py, pz⟩ := p
  obtain ⟨qx, qy, qz⟩ := q
  simp only [] at h1 h2 h3
  subst h2 h3
  simp only [S.legB, S.join, S.ptBox, S.legBx, S.lmn, S.lmx, Bx.mk.injEq, Pt.mk.injEq]
  simp
  exact ⟨rfl, rfl⟩
theorem mainTo_leg {l : List Pt} : ∀ {m : Nat}, m < l.length → (S.mainTo l m = none → ∀ k, k < m → S.isMainB (S.legB (S.ptD l k) (S.ptD l (k + 1))) = false) ∧
    (∀ b, S.mainTo l m = some b → ∃ j, j < m ∧ S.legB (S.ptD l j) (S.ptD l (j + 1)) = b ∧ S.isMainB b = true ∧ ∀ k, k < j → S.isMainB (S.legB (S.ptD l k) (S.ptD l (k + 1))) = false) := by
  intro m
  induction m with
  | zero => intro _; exact ⟨fun _ k hk => absurd hk (by omega), fun b h => by simp [S.mainTo] at h⟩
  | succ m ih =>
    intro hm
    obtain ⟨ih1, ih2⟩ := ih (by omega)
    have hp : l[m]? = some (S.ptD l m) := by simp [S.ptD, List.getElem?_eq_getElem (show m < l.length by omega)]
    have hq : l[m + 1]? = some (S.ptD l (m + 1)) := by simp [S.ptD, List.getElem?_eq_getElem hm]
    cases hc : S.mainTo l m with
    | some b =>
      have hs := mainTo_stay hc (m + 1) (by omega)
      refine ⟨fun h => (by rw [hs] at h; cases h), fun b' h => ?_⟩
      rw [hs] at h
      injection h with h
      subst h
      obtain ⟨j, h1, h2⟩ := ih2 b hc
      exact ⟨j, by omega, h2⟩
    | none =>
      have hs := mainTo_succ hc hp hq
      have hno := ih1 hc
      by_cases hx : S.isMain (S.ptD l m) (S.ptD l (m + 1)) = true
      · rw [if_pos hx] at hs
        refine ⟨fun h => (by rw [hs] at h; cases h), fun b h => ?_⟩
        rw [hs] at h
        injection h with h
        subst h
        exact ⟨m, by omega, legB_box hx, by rw [← legB_box hx, legB_main]; exact hx, hno⟩
      · rw [if_neg hx] at hs
        refine ⟨fun _ k hk => ?_, fun b h => by rw [hs] at h; cases h⟩
        by_cases hkm : k = m
        · subst hkm; rw [legB_main]; simpa using hx
        · exact hno k (by omega)
theorem legsL_get {l : List Pt} {k : Nat} (hk : k < l.length - 1) : (S.legsL l)[k]? = some (S.legB (S.ptD l k) (S.ptD l (k + 1))) := by
  unfold S.legsL S.legsTo
  rw [List.getElem?_map, List.getElem?_range hk]
  rfl
theorem main_none {l : List Pt} (hl : 0 < l.length) (h : S.mainLeg l = none) : idxf (S.legsL l) S.isMainB = -1 := by
  have h1 := (mainTo_leg (l := l) (m := l.length - 1) (by omega)).1 h
  refine idxf_miss (fun j hj => ?_)
  have hj' : j < l.length - 1 := by simpa [S.legsL, legsTo_len] using hj
  have := legsL_get hj'
  rw [List.getElem?_eq_getElem hj] at this
  injection this with this
  rw [this]
  exact h1 j hj'
theorem main_some {l : List Pt} {b : Bx} (hl : 0 < l.length) (h : S.mainLeg l = some b) : ∃ j : Nat, idxf (S.legsL l) S.isMainB = (j : Int) ∧ (S.legsL l)[j]? = some b ∧ j < l.length - 1 := by
  obtain ⟨j, hj, h1, h2, h3⟩ := (mainTo_leg (l := l) (m := l.length - 1) (by omega)).2 b h
  have hg := legsL_get hj
  obtain ⟨hj', he⟩ := List.getElem?_eq_some_iff.1 hg
  refine ⟨j, idxf_hit hj' (by rw [he, h1]; exact h2) (fun k hk hkj => ?_), by rw [hg, h1], hj⟩
  have hk' : k < l.length - 1 := by omega
  have := legsL_get hk'
  rw [List.getElem?_eq_getElem hk] at this
  injection this with this
  rw [this]
  exact h3 k hkj
end Go.Proofs.YtffkmgjmlahfpaaGreat
