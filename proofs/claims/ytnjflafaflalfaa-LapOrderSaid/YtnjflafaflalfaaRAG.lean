/- The plain functions (no program in sight). -/
import Derived.Test.YtnjflafaflalfaaRA
set_option linter.unusedVariables false
set_option linter.unusedSimpArgs false
namespace Go.Proofs.Ytnjflafaflalfaa
structure Rule where
  num : Int
  den : Int
  pnum : Int
  pden : Int
  bnum : Int
  bden : Int
  lnum : Int
  lden : Int
  least : Int
namespace S
def num (n : Int) : Bool := decide (1 ≤ n) && decide (n ≤ 1000)
def up (n p q : Int) : Int := (n * p + q - 1) / q
def rule (r : Rule) : Bool := num r.num && num r.den && num r.pnum && num r.pden && num r.bnum && num r.bden && num r.lnum && num r.lden &&
  decide (r.pden ≤ r.pnum) && decide (r.lden ≤ r.lnum) && decide (r.bnum ≤ r.bden) && decide (0 ≤ r.least) && decide (r.least ≤ 1000)
def basic (r : Rule) (d : Int) : Int := if up d r.num r.den < r.least then r.least else up d r.num r.den
def poorUp (r : Rule) (poor : Bool) (n : Int) : Int := if poor then up n r.pnum r.pden else n
def bentUp (r : Rule) (bent : Bool) (n : Int) : Int := if bent then up n r.bnum r.bden else n
def atLeast (r : Rule) (n : Int) : Int := if n < r.least then r.least else n
def length (r : Rule) (d : Int) (poor bent : Bool) : Int := atLeast r (bentUp r bent (poorUp r poor (basic r d)))
def sized (r : Rule) (d : Int) : Int := if rule r = true then (if size d = true then 0 else 2) else 1
end S
structure RuleOk (r : Rule) : Prop where
  num : 1 ≤ r.num ∧ r.num ≤ 1000
  den : 1 ≤ r.den ∧ r.den ≤ 1000
  pnum : 1 ≤ r.pnum ∧ r.pnum ≤ 1000
  pden : 1 ≤ r.pden ∧ r.pden ≤ 1000
  bnum : 1 ≤ r.bnum ∧ r.bnum ≤ 1000
  bden : 1 ≤ r.bden ∧ r.bden ≤ 1000
  lnum : 1 ≤ r.lnum ∧ r.lnum ≤ 1000
  lden : 1 ≤ r.lden ∧ r.lden ≤ 1000
  poor : r.pden ≤ r.pnum
  lap : r.lden ≤ r.lnum
  bend : r.bnum ≤ r.bden
  least : 0 ≤ r.least ∧ r.least ≤ 1000
theorem rule_ok {r : Rule} (h : S.rule r = true) : RuleOk r := by
  simp only [S.rule, S.num, Bool.and_eq_true, decide_eq_true_eq] at h
  obtain ⟨⟨⟨⟨⟨⟨⟨⟨⟨⟨⟨⟨h1, h2⟩, h3⟩, h4⟩, h5⟩, h6⟩, h7⟩, h8⟩, h9⟩, h10⟩, h11⟩, h12⟩, h13⟩ := h
  exact ⟨h1, h2, h3, h4, h5, h6, h7, h8, h9, h10, h11, ⟨h12, h13⟩⟩
theorem mul_bd {a b A B : Int} (ha : 0 ≤ a) (hA : a ≤ A) (hb : 0 ≤ b) (hB : b ≤ B) : 0 ≤ a * b ∧ a * b ≤ A * B :=
  ⟨Int.mul_nonneg ha hb, Int.mul_le_mul hA hB hb (by omega)⟩
theorem up_bd {n p q A : Int} (hn : 0 ≤ n) (hA : n ≤ A) (hp : 1 ≤ p) (hp' : p ≤ 1000) (hq : 1 ≤ q) : 0 ≤ S.up n p q ∧ S.up n p q ≤ 1000 * A := by
  unfold S.up
  have h1 := mul_bd hn hA (by omega : 0 ≤ p) hp'
  refine ⟨Int.ediv_nonneg (by omega) (by omega), ?_⟩
  have h2 : (n * p + q - 1) / q ≤ n * p := by
    rcases Int.lt_or_eq_of_le h1.1 with h | h
    · have : n * p + q - 1 < (n * p + 1) * q := by
        have := Int.mul_le_mul_of_nonneg_left hq (show 0 ≤ n * p by omega)
        rw [Int.add_mul]; omega
      have := Int.ediv_lt_of_lt_mul (by omega) this
      omega
    · rw [← h, Int.zero_add, Int.ediv_eq_zero_of_lt (by omega) (by omega)]
      exact Int.le_refl 0
  have := Int.mul_comm A 1000
  omega
theorem basic_bd {r : Rule} {d : Int} (hr : RuleOk r) (hd : 0 ≤ d) (hd' : d ≤ 40) : 0 ≤ S.basic r d ∧ S.basic r d ≤ 40000 := by
  have h := up_bd (p := r.num) (q := r.den) hd hd' hr.num.1 hr.num.2 hr.den.1
  have h2 := hr.least
  unfold S.basic
  split <;> omega
theorem poorUp_bd {r : Rule} {n : Int} (hr : RuleOk r) (b : Bool) (hn : 0 ≤ n) (hn' : n ≤ 40000) : 0 ≤ S.poorUp r b n ∧ S.poorUp r b n ≤ 40000000 := by
  have h := up_bd (p := r.pnum) (q := r.pden) hn hn' hr.pnum.1 hr.pnum.2 hr.pden.1
  unfold S.poorUp
  split <;> omega
theorem bentUp_bd {r : Rule} {n : Int} (hr : RuleOk r) (b : Bool) (hn : 0 ≤ n) (hn' : n ≤ 40000000) : 0 ≤ S.bentUp r b n ∧ S.bentUp r b n ≤ 40000000000 := by
  have h := up_bd (p := r.bnum) (q := r.bden) hn hn' hr.bnum.1 hr.bnum.2 hr.bden.1
  unfold S.bentUp
  split <;> omega
end Go.Proofs.Ytnjflafaflalfaa
