/- How anchorage lengths are ordered (no program in sight). -/
import Derived.Test.YtplaghmehbkcnaaSpec
set_option linter.unusedVariables false
set_option linter.unusedSimpArgs false
namespace Go.Proofs.Ytplaghmehbkcnaa
theorem up_mono {n m p q : Int} (h : n ≤ m) (hp : 0 ≤ p) (hq : 1 ≤ q) : S.up n p q ≤ S.up m p q := by
  unfold S.up
  have := Int.mul_le_mul_of_nonneg_right h hp
  exact Int.ediv_le_ediv (by omega) (by omega)
theorem up_ge {n p q : Int} (hn : 0 ≤ n) (hpq : q ≤ p) (hq : 1 ≤ q) : n ≤ S.up n p q := by
  unfold S.up
  have := Int.mul_le_mul_of_nonneg_left hpq hn
  exact (Int.le_ediv_iff_mul_le (by omega)).2 (by omega)
theorem up_le {n p q : Int} (hn : 0 ≤ n) (hpq : p ≤ q) (hq : 1 ≤ q) : S.up n p q ≤ n := by
  unfold S.up
  have := Int.mul_le_mul_of_nonneg_left hpq hn
  have h : (n * p + q - 1) / q < n + 1 := Int.ediv_lt_of_lt_mul (by omega) (by rw [Int.add_mul]; omega)
  omega
theorem up_mul {n p q : Int} (hq : 1 ≤ q) : n * p ≤ S.up n p q * q := by
  unfold S.up
  have h := Int.mul_ediv_add_emod (n * p + q - 1) q
  have h2 := Int.emod_lt_of_pos (n * p + q - 1) (show 0 < q by omega)
  have h3 := Int.mul_comm q ((n * p + q - 1) / q)
  omega
theorem least_mono {r : Rule} {n m : Int} (h : n ≤ m) : S.atLeast r n ≤ S.atLeast r m := by unfold S.atLeast; split <;> split <;> omega
theorem basic_mono {r : Rule} {d e : Int} (hr : RuleOk r) (h : d ≤ e) : S.basic r d ≤ S.basic r e := by
  have := up_mono h (show 0 ≤ r.num by have := hr.num; omega) hr.den.1
  unfold S.basic
  split <;> split <;> omega
theorem basic_nonneg {r : Rule} {d : Int} (hr : RuleOk r) : 0 ≤ S.basic r d := by
  have := hr.least
  unfold S.basic
  split <;> omega
theorem poorUp_mono {r : Rule} {n m : Int} (hr : RuleOk r) (p : Bool) (h : n ≤ m) : S.poorUp r p n ≤ S.poorUp r p m := by
  have := up_mono h (show 0 ≤ r.pnum by have := hr.pnum; omega) hr.pden.1
  unfold S.poorUp
  split <;> omega
theorem poorUp_ge {r : Rule} {n : Int} (hr : RuleOk r) (p : Bool) (h : 0 ≤ n) : n ≤ S.poorUp r p n := by
  have := up_ge h hr.poor hr.pden.1
  unfold S.poorUp
  split <;> omega
theorem bentUp_mono {r : Rule} {n m : Int} (hr : RuleOk r) (p : Bool) (h : n ≤ m) : S.bentUp r p n ≤ S.bentUp r p m := by
  have := up_mono h (show 0 ≤ r.bnum by have := hr.bnum; omega) hr.bden.1
  unfold S.bentUp
  split <;> omega
theorem length_least {r : Rule} {d : Int} {p b : Bool} : r.least ≤ S.length r d p b := by unfold S.length S.atLeast; split <;> omega
theorem length_wider {r : Rule} {d e : Int} {p b : Bool} (hr : RuleOk r) (h : d ≤ e) : S.length r d p b ≤ S.length r e p b :=
  least_mono (bentUp_mono hr b (poorUp_mono hr p (basic_mono hr h)))
theorem length_poor {r : Rule} {d : Int} {p b : Bool} (hr : RuleOk r) : S.length r d p b ≤ S.length r d true b := by
  refine least_mono (bentUp_mono hr b ?_)
  cases p
  · exact poorUp_ge hr true (basic_nonneg hr)
  · exact Int.le_refl _
theorem length_bent {r : Rule} {d : Int} {p b : Bool} (hr : RuleOk r) : S.length r d p true ≤ S.length r d p b := by
  refine least_mono ?_
  cases b
  · have h0 : 0 ≤ S.poorUp r p (S.basic r d) := Int.le_trans (basic_nonneg hr) (poorUp_ge hr p (basic_nonneg hr))
    have := up_le h0 hr.bend hr.bden.1
    simpa [S.bentUp] using this
  · exact Int.le_refl _
theorem length_plain {r : Rule} {d : Int} : S.length r d false false = S.basic r d := by
  have : ¬ S.basic r d < r.least := by unfold S.basic; split <;> omega
  simp [S.length, S.bentUp, S.poorUp, S.atLeast, this]
theorem basic_mul {r : Rule} {d : Int} (hr : RuleOk r) : r.num * d ≤ S.basic r d * r.den := by
  have h := up_mul (n := d) (p := r.num) (q := r.den) hr.den.1
  have hc := Int.mul_comm d r.num
  unfold S.basic
  split
  · rename_i hlt
    have := Int.mul_le_mul_of_nonneg_right (Int.le_of_lt hlt) (show 0 ≤ r.den by have := hr.den; omega)
    omega
  · omega
end Go.Proofs.Ytplaghmehbkcnaa
