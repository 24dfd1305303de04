/- Points of a bar: steps, bounds (no walk). -/
import Derived.Test.YtnjflafaflalfaaRS
import Derived.Test.YtnjflafaflalfaaRM
set_option linter.unusedVariables false
set_option linter.unusedSimpArgs false
namespace Go.Proofs.Ytnjflafaflalfaa
open Go.RowKit
theorem elemPt : Elem Try.prog 107 70 (.agg #[.int .i64 0, .int .i64 0, .int .i64 0]) 3 24 := ⟨Try.underlying107, by kernel_rfl, rfl, by decide⟩
namespace S
def step (p : Pt) (way : Nat) (n : Int) : Pt :=
  if way = 120 then ⟨p.x + n, p.y, p.z⟩ else if way = 88 then ⟨p.x - n, p.y, p.z⟩ else if way = 121 then ⟨p.x, p.y + n, p.z⟩ else if way = 89 then ⟨p.x, p.y - n, p.z⟩ else if way = 122 then ⟨p.x, p.y, p.z + n⟩ else p
def ptAt (b : Bar) : Nat → Pt
  | 0 => ⟨0, 0, 0⟩
  | k + 1 => match (legsOf b.code)[k]? with
    | some l => step (ptAt b k) l.2 (b.dims.getD l.1 0)
    | none => ptAt b k
def pathTo (b : Bar) (m : Nat) : List Pt := (List.range m).map (ptAt b)
def path (b : Bar) : List Pt := pathTo b ((legsOf b.code).length + 1)
end S
theorem pathTo_snoc (b : Bar) (m : Nat) : S.pathTo b (m + 1) = S.pathTo b m ++ [S.ptAt b m] := by simp [S.pathTo, List.range_succ]
theorem ptAt_succ (b : Bar) {k : Nat} (hk : k < (S.legsOf b.code).length) (hj : (S.legsOf b.code)[k].1 < b.dims.length) :
    S.ptAt b (k + 1) = S.step (S.ptAt b k) (S.legsOf b.code)[k].2 b.dims[(S.legsOf b.code)[k].1] := by
  simp [S.ptAt, List.getElem?_eq_getElem hk, List.getD_eq_getElem?_getD, List.getElem?_eq_getElem hj]
theorem legs_way (code : Int) {k : Nat} (hk : k < (S.legsOf code).length) : (S.legsOf code)[k].2 = 120 ∨ (S.legsOf code)[k].2 = 88 ∨ (S.legsOf code)[k].2 = 121 ∨ (S.legsOf code)[k].2 = 89 ∨ (S.legsOf code)[k].2 = 122 := by
  have h : ∀ x, x ∈ S.legsOf code → x.2 = 120 ∨ x.2 = 88 ∨ x.2 = 121 ∨ x.2 = 89 ∨ x.2 = 122 := by
    unfold S.legsOf
    repeat' (split <;> try decide)
  exact h _ (List.getElem_mem hk)
def Within (p : Pt) (R : Int) : Prop := -R ≤ p.x ∧ p.x ≤ R ∧ -R ≤ p.y ∧ p.y ≤ R ∧ -R ≤ p.z ∧ p.z ≤ R
theorem dim_bd {l : List Int} (h : S.dimsOk l = true) {j : Nat} (hj : j < l.length) : 1 ≤ l[j] ∧ l[j] ≤ 262144 := by
  obtain ⟨h1, h2⟩ := dimsOk_iff.1 h
  have h3 := h1 _ (List.getElem_mem hj)
  have h4 := sum_take_le h1 (j + 1)
  have h5 := sum_nonneg (l := l.take j) (fun x hx => h1 x (List.mem_of_mem_take hx))
  rw [List.take_succ_eq_append_getElem hj, sum_snoc] at h4
  omega
theorem ptAt_bd (b : Bar) (h : S.dimsOk b.dims = true) (hd : ∀ k (hk : k < (S.legsOf b.code).length), (S.legsOf b.code)[k].1 < b.dims.length) : ∀ k, Within (S.ptAt b k) (262144 * (k : Int)) := by
  intro k
  induction k with
  | zero => simp [Within, S.ptAt]
  | succ k ih =>
    by_cases hk : k < (S.legsOf b.code).length
    · rw [ptAt_succ b hk (hd k hk)]
      have hb := dim_bd h (hd k hk)
      unfold Within at ih ⊢
      unfold S.step
      repeat' (split <;> try (simp only []; omega))
      all_goals omega
    · have : S.ptAt b (k + 1) = S.ptAt b k := by simp [S.ptAt, List.getElem?_eq_none (Nat.le_of_not_lt hk)]
      rw [this]
      unfold Within at ih ⊢
      omega
end Go.Proofs.Ytnjflafaflalfaa
