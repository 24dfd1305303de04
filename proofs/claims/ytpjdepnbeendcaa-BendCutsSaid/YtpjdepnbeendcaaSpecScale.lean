/- Bars that are scaled, marked, or counted otherwise (no program in sight). -/
import Derived.Test.YtpjdepnbeendcaaClone
set_option linter.unusedVariables false
set_option linter.unusedSimpArgs false
namespace Go.Proofs.Ytpjdepnbeendcaa
namespace S
def remark (b : Bar) (mk : ByteArray) (ct : Int) : Bar := ⟨mk, b.size, ct, b.code, b.dims⟩
def scaled (b : Bar) (k : Int) : Bar := ⟨b.mark, b.size, b.count, b.code, b.dims.map (· * k)⟩
def mul (k : Int) (p : Pt) : Pt := ⟨k * p.x, k * p.y, k * p.z⟩
end S
theorem ptAt_congr (a b : Bar) (hc : a.code = b.code) (hd : a.dims = b.dims) (k : Nat) : S.ptAt a k = S.ptAt b k := by
  induction k with
  | zero => rfl
  | succ k ih => simp only [S.ptAt, ih, hc, hd]
theorem path_congr (a b : Bar) (hc : a.code = b.code) (hd : a.dims = b.dims) : S.path a = S.path b := by
  unfold S.path S.pathTo
  rw [hc]
  exact List.map_congr_left fun k _ => ptAt_congr a b hc hd k
theorem bar_remark (b : Bar) (h : S.bar b = true) (mk : ByteArray) (ct : Int) (h1 : 1 ≤ ct) (h2 : ct ≤ 1000) : S.bar (S.remark b mk ct) = S.isName mk := by
  simp only [S.bar, S.barHead, S.remark, Bool.and_eq_true, Bool.not_eq_true', decide_eq_true_eq] at h ⊢
  obtain ⟨⟨⟨⟨⟨⟨a1, a2⟩, a3⟩, a4⟩, a5⟩, a6⟩, a7⟩ := h
  simp [a1, a3, a6, a7, h1, h2]
theorem step_mul (k : Int) (p : Pt) (way : Nat) (n : Int) : S.step (S.mul k p) way (n * k) = S.mul k (S.step p way n) := by
  unfold S.step S.mul
  rw [Int.mul_comm n k]
  repeat' (split <;> try (simp only [Int.mul_add, Int.mul_sub]))
theorem ptAt_scaled (b : Bar) (k : Int) (m : Nat) : S.ptAt (S.scaled b k) m = S.mul k (S.ptAt b m) := by
  induction m with
  | zero => simp [S.ptAt, S.mul]
  | succ m ih =>
    simp only [S.ptAt, S.scaled] at ih ⊢
    split
    · rename_i l hl
      rw [ih]
      have : (b.dims.map (· * k)).getD l.1 0 = b.dims.getD l.1 0 * k := by
        simp only [List.getD_eq_getElem?_getD, List.getElem?_map]
        cases b.dims[l.1]? <;> simp
      rw [this, step_mul]
    · exact ih
/-- The first j members are multiplied already. -/
def S.mulTo (l : List Int) (k : Int) (j : Nat) : List Int := (l.take j).map (· * k) ++ l.drop j
theorem mulTo_zero (l : List Int) (k : Int) : S.mulTo l k 0 = l := by simp [S.mulTo]
theorem mulTo_full {l : List Int} {j : Nat} (k : Int) (h : l.length ≤ j) : S.mulTo l k j = l.map (· * k) := by simp [S.mulTo, List.take_of_length_le h, List.drop_eq_nil_of_le h]
theorem mulTo_get {l : List Int} {j : Nat} (k : Int) (h : j < l.length) : (S.mulTo l k j)[j]? = some l[j] := by
  unfold S.mulTo
  have hl : ((l.take j).map (· * k)).length = j := by simp; omega
  rw [List.getElem?_append_right (by omega), hl, Nat.sub_self, List.getElem?_drop, Nat.add_zero, List.getElem?_eq_getElem h]
theorem mulTo_set {l : List Int} {j : Nat} (k : Int) (h : j < l.length) : (S.mulTo l k j).set j (l[j] * k) = S.mulTo l k (j + 1) := by
  unfold S.mulTo
  have hl : ((l.take j).map (· * k)).length = j := by simp; omega
  rw [List.set_append_right _ _ (by omega), hl, Nat.sub_self, List.drop_eq_getElem_cons h, List.take_succ_eq_append_getElem h, List.set_cons_zero, List.map_append, List.append_assoc]
  rfl
theorem scaled_one (b : Bar) : S.scaled b 1 = b := by simp [S.scaled]
end Go.Proofs.Ytpjdepnbeendcaa
