/- Bars as plain data: legs, dimensions, what is valid (no program in sight). -/
import Derived.Test.YtnmolefblaahmaaGreatMA
set_option linter.unusedVariables false
set_option linter.unusedSimpArgs false
namespace Go.Proofs.YtnmolefblaahmaaGreat
structure Bar where
 mark : ByteArray
 size : Int
 count : Int
 code : Int
 dims : List Int
namespace S
def legsOf (code : Int) : List (Nat × Nat) :=
 if code = 0 then [(0, 120)] else if code = 11 then [(0, 120), (1, 121)] else if code = 21 then [(0, 89), (1, 120), (2, 121)]
 else if code = 26 then [(0, 120), (1, 121), (2, 120)] else if code = 31 then [(0, 120), (1, 121), (2, 122)]
 else if code = 41 then [(0, 120), (1, 121), (2, 120), (3, 89), (4, 120)]
 else if code = 51 then [(2, 89), (0, 120), (1, 121), (0, 88), (1, 89), (2, 120)]
 else if code = 98 then [(0, 122), (1, 89), (2, 120), (1, 121), (0, 122)] else []
def dimsOf (code : Int) : Int :=
 if code = 0 then 1 else if code = 11 then 2 else if code = 21 then 3 else if code = 26 then 3 else if code = 31 then 3 else if code = 41 then 5 else if code = 51 then 3 else if code = 98 then 3 else 0
def dimsErr (code : Int) : Int := if dimsOf code = 0 then 11 else 0
def maxd (l : List (Nat × Nat)) : Int := l.foldl (fun m x => max m (x.1 : Int)) (-1)
def sum (l : List Int) : Int := l.foldl (· + ·) 0
def dimsOk (l : List Int) : Bool := l.all (fun n => decide (1 ≤ n)) && decide (sum l ≤ 262144)
def barHead (b : Bar) : Bool := !(dimsOf b.code == 0) && isName b.mark && size b.size && decide (1 ≤ b.count) && decide (b.count ≤ 1000) && ((b.dims.length : Int) == dimsOf b.code)
def bar (b : Bar) : Bool := barHead b && dimsOk b.dims
end S
theorem maxd_legs (code : Int) : S.maxd (S.legsOf code) + 1 = S.dimsOf code := by
 unfold S.legsOf S.dimsOf
 repeat' (split <;> try rfl)
theorem maxd_snoc (l : List (Nat × Nat)) (x : Nat × Nat) : S.maxd (l ++ [x]) = max (S.maxd l) (x.1 : Int) := by simp [S.maxd, List.foldl_append]
theorem maxd_bd (l : List (Nat × Nat)) : -1 ≤ S.maxd l := by
 have h : ∀ (l : List (Nat × Nat)) (m : Int), m ≤ l.foldl (fun m x => max m (x.1 : Int)) m := by
  intro l
  induction l with
  | nil => intro m; exact Int.le_refl _
  | cons x l ih => intro m; exact Int.le_trans (Int.le_max_left _ _) (ih _)
 exact h l (-1)
theorem dimsOf_bd (code : Int) : 0 ≤ S.dimsOf code ∧ S.dimsOf code ≤ 5 := by
 unfold S.dimsOf
 repeat' (split <;> try omega)
theorem legs_len (code : Int) : (S.legsOf code).length ≤ 6 := by
 unfold S.legsOf
 repeat' (split <;> try decide)
theorem legs_dim (code : Int) {k : Nat} (hk : k < (S.legsOf code).length) : ((S.legsOf code)[k].1 : Int) < S.dimsOf code := by
 have h : ∀ x, x ∈ S.legsOf code → (x.1 : Int) < S.dimsOf code := by
  unfold S.legsOf S.dimsOf
  repeat' (split <;> try decide)
 exact h _ (List.getElem_mem hk)
theorem sum_snoc (l : List Int) (x : Int) : S.sum (l ++ [x]) = S.sum l + x := by simp [S.sum, List.foldl_append]
end Go.Proofs.YtnmolefblaahmaaGreat
