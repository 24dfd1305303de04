/- Spans; contracts: lap.place, up, Stagger. -/
import Derived.Test.YtffkmgjmlahfpaaGreatIdxF
import Derived.Test.YtffkmgjmlahfpaaGreatFlat
import Derived.Test.YtffkmgjmlahfpaaGreatLeafI
set_option linter.unusedVariables false
set_option linter.unusedSimpArgs false
namespace Go.Proofs.YtffkmgjmlahfpaaGreat
open Go.RowKit
structure Sp where
  lo : Int
  hi : Int
abbrev spC (s : Sp) : List Value := [.int .i64 s.lo, .int .i64 s.hi]
abbrev spV (s : Sp) : Value := .agg #[.int .i64 s.lo, .int .i64 s.hi]
theorem spC_len (s : Sp) : (spC s).length = 2 := rfl
namespace S
def place (n : Int) : Bool := decide (-1048576 ≤ n) && decide (n ≤ 1048576)
def spanOk (s : Sp) : Bool := decide (s.lo ≤ s.hi) && place s.lo && place s.hi
def spanNot (s : Sp) : Bool := !spanOk s
def dist (a b : Sp) : Int := if a.lo + a.hi - b.lo - b.hi < b.lo + b.hi - a.lo - a.hi then b.lo + b.hi - a.lo - a.hi else a.lo + a.hi - b.lo - b.hi
def wide (a b : Sp) : Int := if a.hi - a.lo < b.hi - b.lo then b.hi - b.lo else a.hi - a.lo
/-- Whether two spans are too near. -/
def nearS (num den : Int) (a b : Sp) : Bool := decide (dist a b * den < 2 * num * wide a b)
def stagP (l : List Sp) (num den : Int) (i : Nat) : Bool := match l[i]? with | some a => (l.take i).any (nearS num den a) | none => false
/-- The first span that is too near to one before it, or -1. -/
def stag (l : List Sp) (num den : Int) : Int := idxf (List.range l.length) (stagP l num den)
def stagNum (num den : Int) : Bool := decide (num < 1) || decide (1000 < num) || decide (den < 1) || decide (1000 < den)
def stagErr (l : List Sp) (num den : Int) : Int := if anyb l spanNot = true then 1 else if stagNum num den = true then 2 else if 1000 < l.length then 4 else 0
def stagIx (l : List Sp) (num den : Int) : Int := if stagErr l num den = 0 then stag l num den else 0
def stagIs (l : List Sp) (num den : Int) : Bool := decide (stagErr l num den = 0) && decide (stag l num den < 0)
end S
theorem lplace_any (n : Int) (w : World) : Calls Tryz.prog 70 #[.int .i64 n] w fun e w' => e = .returned (.bool (S.place n)) ∧ w = w' := by
  have H := Lib.hid (show S.place n = (decide (-1048576 ≤ n) && decide (n ≤ 1048576)) from rfl)
  go_enter Tryz.func70, Tryz.ntmps70
  go_wp2
  all_goals (go_ret; refine ⟨ret_b ?_, rfl⟩; rw [H.out, Bool.eq_iff_iff]; simp; omega)
theorem lup_any (n d : Int) (h0 : 0 ≤ n) (h1 : n ≤ 1000000000000000) (h2 : 1 ≤ d) (h3 : d ≤ 1000000) (w : World) : Calls Tryz.prog 110 #[.int .i64 n, .int .i64 d] w fun e w' => e = .returned (.int .i64 ((n + d - 1) / d)) ∧ w = w' := by
  have e1 : IntKind.i64.wrap (n + d) = n + d := IntWalk.i64_in _ (by omega)
  have e2 : IntKind.i64.wrap (n + d - 1) = n + d - 1 := IntWalk.i64_in _ (by omega)
  have hq : (n + d - 1).tdiv d = (n + d - 1) / d := Int.tdiv_eq_ediv_of_nonneg (by omega)
  have hb : 0 ≤ (n + d - 1) / d ∧ (n + d - 1) / d ≤ n + d - 1 := ⟨Int.ediv_nonneg (by omega) (by omega), Int.ediv_le_self _ (by omega)⟩
  have e3 : IntKind.i64.wrap ((n + d - 1).tdiv d) = (n + d - 1) / d := by rw [hq]; exact IntWalk.i64_in _ (by omega)
  have hd : d ≠ 0 := by omega
  go_enter Tryz.func110, Tryz.ntmps110
  go_wp2
  go_ret
  exact ⟨by simp [e3, hq], rfl⟩
theorem near_walk {a b : Sp} (ha : S.spanOk a = true) (hb : S.spanOk b = true) {num den : Int} (hn : 1 ≤ num ∧ num ≤ 1000) (hd : 1 ≤ den ∧ den ≤ 1000) :
    ∃ x1 x2 d1 y1 y2 d2 M p q v1 v2 W z : Int, IntKind.i64.wrap (a.lo + a.hi) = x1 ∧ IntKind.i64.wrap (x1 - b.lo) = x2 ∧ IntKind.i64.wrap (x2 - b.hi) = d1 ∧ IntKind.i64.wrap (b.lo + b.hi) = y1 ∧ IntKind.i64.wrap (y1 - a.lo) = y2 ∧ IntKind.i64.wrap (y2 - a.hi) = d2 ∧ (if d1 < d2 then d2 else d1) = M ∧ IntKind.i64.wrap (M * den) = p ∧ IntKind.i64.wrap (2 * num) = q ∧ IntKind.i64.wrap (a.hi - a.lo) = v1 ∧ IntKind.i64.wrap (b.hi - b.lo) = v2 ∧ (if v1 < v2 then v2 else v1) = W ∧ IntKind.i64.wrap (q * W) = z ∧ decide (p < z) = S.nearS num den a b := by
  simp only [S.spanOk, S.place, Bool.and_eq_true, decide_eq_true_eq] at ha hb
  have hM : 0 ≤ S.dist a b ∧ S.dist a b ≤ 8388608 := by unfold S.dist; split <;> omega
  have hW : 0 ≤ S.wide a b ∧ S.wide a b ≤ 8388608 := by unfold S.wide; split <;> omega
  have hp : 0 ≤ S.dist a b * den ∧ S.dist a b * den ≤ 8388608 * 1000 := ⟨Int.mul_nonneg hM.1 (by omega), Int.mul_le_mul hM.2 hd.2 (by omega) (by omega)⟩
  have hz : 0 ≤ 2 * num * S.wide a b ∧ 2 * num * S.wide a b ≤ 2000 * 8388608 := ⟨Int.mul_nonneg (by omega) hW.1, Int.mul_le_mul (by omega) hW.2 hW.1 (by omega)⟩
  exact ⟨a.lo + a.hi, a.lo + a.hi - b.lo, a.lo + a.hi - b.lo - b.hi, b.lo + b.hi, b.lo + b.hi - a.lo, b.lo + b.hi - a.lo - a.hi, S.dist a b, S.dist a b * den, 2 * num, a.hi - a.lo, b.hi - b.lo, S.wide a b, 2 * num * S.wide a b,
    IntWalk.i64_in _ (by omega), IntWalk.i64_in _ (by omega), IntWalk.i64_in _ (by omega), IntWalk.i64_in _ (by omega), IntWalk.i64_in _ (by omega), IntWalk.i64_in _ (by omega), rfl, IntWalk.i64_in _ (by omega), IntWalk.i64_in _ (by omega), IntWalk.i64_in _ (by omega), IntWalk.i64_in _ (by omega), rfl, IntWalk.i64_in _ (by omega), rfl⟩
theorem span_ok {l : List Sp} (h : anyb l S.spanNot = false) {k : Nat} (hk : k < l.length) : S.spanOk l[k] = true := by
  unfold anyb at h
  rw [List.any_eq_false] at h
  have := h _ (List.getElem_mem hk)
  simpa [S.spanNot] using this
theorem span_bad {l : List Sp} {k : Nat} (hk : k < l.length) (h : S.spanOk l[k] = false) : anyb l S.spanNot = true := by
  unfold anyb
  rw [List.any_eq_true]
  exact ⟨_, List.getElem_mem hk, by simp [S.spanNot, h]⟩
theorem span_all {l : List Sp} (h : ∀ k (hk : k < l.length), S.spanOk l[k] = true) : anyb l S.spanNot = false := by
  unfold anyb
  rw [List.any_eq_false]
  intro x hx
  obtain ⟨j, hj, rfl⟩ := List.mem_iff_getElem.1 hx
  simp [S.spanNot, h j hj]
theorem stagP_eq {l : List Sp} {num den : Int} {i : Nat} (hi : i < l.length) : S.stagP l num den i = (l.take i).any (S.nearS num den l[i]) := by
  unfold S.stagP
  rw [List.getElem?_eq_getElem hi]
theorem stagP_yes {l : List Sp} {num den : Int} {i j : Nat} (hi : i < l.length) (hj : j < i) (h : S.nearS num den l[i] (l[j]'(by omega)) = true) : S.stagP l num den i = true := by
  rw [stagP_eq hi, List.any_eq_true]
  refine ⟨l[j]'(by omega), ?_, h⟩
  rw [List.mem_take_iff_getElem]
  exact ⟨j, by omega, rfl⟩
theorem stagP_no {l : List Sp} {num den : Int} {i : Nat} (hi : i < l.length) (h : ∀ j (hj : j < i), S.nearS num den l[i] (l[j]'(by omega)) = false) : S.stagP l num den i = false := by
  rw [stagP_eq hi, List.any_eq_false]
  intro x hx
  rw [List.mem_take_iff_getElem] at hx
  obtain ⟨j, hj, rfl⟩ := hx
  simp [h j (by omega)]
theorem stag_hit {l : List Sp} {num den : Int} {i : Nat} (hi : i < l.length) (h : S.stagP l num den i = true) (hno : ∀ j, j < i → S.stagP l num den j = false) : S.stag l num den = i := by
  unfold S.stag
  exact idxf_hit (k := i) (by simpa using hi) (by simpa using h) (fun j hj hji => by simpa using hno j hji)
theorem stag_miss {l : List Sp} {num den : Int} (hno : ∀ j, j < l.length → S.stagP l num den j = false) : S.stag l num den = -1 := by
  unfold S.stag
  exact idxf_miss (fun j hj => by simpa using hno j (by simpa using hj))
end Go.Proofs.YtffkmgjmlahfpaaGreat
