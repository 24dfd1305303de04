/- Plain: laid bars and chains of a detail without their addresses. The supply of any detail: what supply.At answers. Plain: longer anchorage lengths never supply more. Plain: the bars that supply a plac -/
import Derived.Test.YtnmolefblaahmaaGreatMY
import Derived.Test.YtnmolefblaahmaaGreatMZ
set_option linter.unusedVariables false
set_option linter.unusedSimpArgs false
namespace Go.Proofs.YtnmolefblaahmaaGreat
open Go.RowKit
structure RodsOf (x : Dt) (n : Nat) (rs : List Rod) : Prop where
 len : rs.length = n
 ok : ∀ (i : Nat) (hi : i < rs.length), RodOk x i rs[i]
def S.spanL (x : Dt) (rs : List Rod) (l : List Int) : Int × Int × Bool :=
 match rs[(l.headD 0).toNat]?, rs[(l.getLastD 0).toNat]? with
 | some a, some b => S.spanOf x a b
 | _, _ => (0, 0, false)
def S.schOf (x : Dt) (rs : List Rod) (l : List Int) : SCh := ⟨none, 0, l, (S.spanL x rs l).1, (S.spanL x rs l).2.1, (S.spanL x rs l).2.2, S.steelArea (S.sizeI rs (minBy (S.sizeI rs) l))⟩
def ChIn (C : List (List Int)) (n : Nat) : Prop := ∀ l, l ∈ C → 0 < l.length ∧ l.length ≤ 2001 ∧ ∀ i, i ∈ l → 0 ≤ i ∧ i < (n : Int)
def S.nOf (x : Dt) : Nat := (S.mains (bars x.bs) x.rs).length
def S.cOf (x : Dt) : List (List Int) := S.chains x.js (S.nOf x)
structure LookOk (x : Dt) (ds : List Dm) : Prop where
 mem : S.member x.m = true
 laid : S.laid (bars x.bs) x.rs = true
 dems : S.dems ds = true
 rule : S.rule x.rule = true
 j1000 : x.jn ≤ 1000
 n2000 : S.nOf x ≤ 2000
 c2000 : (S.cOf x).length ≤ 2000
 cin : ChIn (S.cOf x) (S.nOf x)
 good : LapsGood x.js (S.nOf x) (S.rankOf (S.mains (bars x.bs) x.rs))
section
variable {x : Dt} {ds : List Dm} {w : World}
end
structure Harder (r r' : Rule) : Prop where
 num : r.num ≤ r'.num
 den : r'.den = r.den
 pnum : r'.pnum = r.pnum
 pden : r'.pden = r.pden
 bnum : r'.bnum = r.bnum
 bden : r'.bden = r.bden
 least : r.least ≤ r'.least
def S.kept (x : Dt) (rs : List Rod) (C : List (List Int)) (z : Bx) (p : Int) : List SCh := (C.map (S.schOf x rs)).filter (S.supAt z p rs)
structure UpTo (E : List Int) (last : Int) (U : List Int) : Prop where
 asc : U.Pairwise (· < ·)
 mem : ∀ e, e ∈ U ↔ (e ∈ E ∧ e ≤ last)
structure Prt where
 lo : Int
 hi : Int
 there : Int
 wants : Int
structure PartsOk (L : List Prt) : Prop where
 le : ∀ i (h : i < L.length), L[i].lo ≤ L[i].hi
 next : ∀ i (h : i + 1 < L.length), L[i].hi + 1 = L[i + 1].lo
 last : ∀ i (h : i < L.length), i + 1 = L.length → L[i].hi = 1048576
 first : ∀ i (h : i < L.length), -1048576 ≤ L[i].lo ∧ L[i].hi ≤ 1048576
structure SpInv (L : List Prt) (k : Nat) (out : List Sp) : Prop where
 cov : ∀ p, (∃ s, s ∈ out ∧ s.lo ≤ p ∧ p ≤ s.hi) ↔ ∃ i, i < k ∧ ∃ h : i < L.length, L[i].there < L[i].wants ∧ L[i].lo ≤ p ∧ p ≤ L[i].hi
 good : ∀ s, s ∈ out → s.lo ≤ s.hi ∧ -1048576 ≤ s.lo ∧ s.hi ≤ 1048576
 sep : out.Pairwise (fun a b => a.hi + 1 < b.lo)
 end_ : ∀ s, s ∈ out → ∀ h : k < L.length, s.hi < L[k].lo
def S.be (n : Int) : Nat → List Nat
 | 0 => []
 | k + 1 => (n / 256 ^ k % 256).toNat :: S.be n k
def S.sumB (s : Nat) (l : List Nat) : Nat := l.foldl (fun s x => (31 * s + x + 1) % 4294967296) s
def S.valB (l : List Nat) : Nat := l.foldl (fun n x => n * 256 + x) 0
def S.rdB (sg : Bool) (l : List Nat) : Int := if l.length = 8 then IntKind.i64.wrap (S.valB l) else if sg && decide (128 ≤ l.headD 0) then (S.valB l : Int) - 256 ^ l.length else S.valB l
theorem be_len (n : Int) : ∀ k, (S.be n k).length = k := by
 intro k
 induction k with
 | zero => rfl
 | succ k ih => show (S.be n k).length + 1 = k + 1; rw [ih]
theorem be_lt (n : Int) : ∀ k, ∀ x, x ∈ S.be n k → x < 256 := by
 intro k
 induction k with
 | zero => intro x h; cases h
 | succ k ih =>
  intro x h
  rcases List.mem_cons.1 h with rfl | h
  ·have h1 := Int.emod_nonneg (n / 256 ^ k) (show (256 : Int) ≠ 0 by decide)
   have h2 := Int.emod_lt_of_pos (n / 256 ^ k) (show (0 : Int) < 256 by decide)
   omega
  ·exact ih x h
theorem val_from (l : List Nat) : ∀ s, l.foldl (fun n x => n * 256 + x) s = s * 256 ^ l.length + S.valB l := by
 induction l with
 | nil => intro s; simp [S.valB]
 | cons a t ih =>
  intro s
  unfold S.valB
  rw [List.foldl_cons, List.foldl_cons, ih, ih (0 * 256 + a), List.length_cons, Nat.pow_succ, Nat.zero_mul, Nat.zero_add, Nat.add_mul]
  have : s * 256 * 256 ^ t.length = s * (256 ^ t.length * 256) := by rw [Nat.mul_assoc, Nat.mul_comm 256]
  omega
theorem val_cons (a : Nat) (t : List Nat) : S.valB (a :: t) = a * 256 ^ t.length + S.valB t := by
 have := val_from t a
 unfold S.valB
 rw [List.foldl_cons, Nat.zero_mul, Nat.zero_add]
 exact this
theorem val_snoc (l : List Nat) (a : Nat) : S.valB (l ++ [a]) = S.valB l * 256 + a := by
 unfold S.valB
 rw [List.foldl_append]
 rfl
theorem val_lt : ∀ (l : List Nat), (∀ x, x ∈ l → x < 256) → S.valB l < 256 ^ l.length := by
 intro l
 induction l with
 | nil => intro _; decide
 | cons a t ih =>
  intro h
  have h1 := h a List.mem_cons_self
  have h2 := ih (fun x hx => h x (List.mem_cons_of_mem _ hx))
  rw [val_cons, List.length_cons, Nat.pow_succ]
  have h3 : a * 256 ^ t.length ≤ 255 * 256 ^ t.length := Nat.mul_le_mul_right _ (by omega)
  omega
theorem val_be (n : Int) : ∀ k, (S.valB (S.be n k) : Int) = n % 256 ^ k := by
 intro k
 induction k with
 | zero => show (0 : Int) = n % 1; omega
 | succ k ih =>
  show (S.valB ((n / 256 ^ k % 256).toNat :: S.be n k) : Int) = _
  rw [val_cons, be_len, Int.natCast_add, Int.natCast_mul, ih, Int.natCast_pow]
  have h1 := Int.emod_nonneg (n / 256 ^ k) (show (256 : Int) ≠ 0 by decide)
  rw [Int.toNat_of_nonneg h1]
  have hp : (0 : Int) < 256 ^ k := Int.pow_pos (by decide)
  have e1 : (256 : Int) ^ (k + 1) = 256 ^ k * 256 := rfl
  show n / 256 ^ k % 256 * (256 : Int) ^ k + n % 256 ^ k = n % 256 ^ (k + 1)
  rw [e1, Int.mul_comm (n / 256 ^ k % 256)]
  have e2 := Int.mul_ediv_add_emod n (256 ^ k)
  have e3 := Int.mul_ediv_add_emod (n / 256 ^ k) 256
  have h2 := Int.emod_nonneg n (show (256 : Int) ^ k ≠ 0 by omega)
  have h3 := Int.emod_lt_of_pos n hp
  have h4 := Int.emod_lt_of_pos (n / 256 ^ k) (show (0 : Int) < 256 by decide)
  refine ((Int.emod_emod_of_dvd n (Int.dvd_refl _)).symm.trans ?_).symm
  rw [show n % (256 ^ k * 256) = (256 ^ k * (n / 256 ^ k % 256) + n % 256 ^ k) % (256 ^ k * 256) from ?_]
  ·rw [Int.emod_emod_of_dvd _ (Int.dvd_refl _)]
   refine Int.emod_eq_of_lt (Int.add_nonneg (Int.mul_nonneg (by omega) h1) h2) ?_
   have h5 : (256 : Int) ^ k * (n / 256 ^ k % 256) ≤ 256 ^ k * 255 := Int.mul_le_mul_of_nonneg_left (by omega) (by omega)
   omega
  ·have e4 : n = 256 ^ k * (n / 256 ^ k % 256) + n % 256 ^ k + 256 ^ k * 256 * (n / 256 ^ k / 256) := by
    conv => lhs; rw [← e2, ← e3]
    rw [Int.mul_add, Int.mul_assoc]
    omega
   conv => lhs; rw [e4]
   rw [Int.add_mul_emod_self_left]
theorem rd_be {n : Int} {k : Nat} (hk : k = 2 ∨ k = 4 ∨ k = 6 ∨ k = 8) (h1 : -(256 ^ k / 2) ≤ n) (h2 : n < 256 ^ k / 2) : S.rdB true (S.be n k) = n := by
 have hv := val_be n k
 have hl := be_len n k
 unfold S.rdB
 rw [hl]
 rcases hk with rfl | rfl | rfl | rfl
 ·rw [if_neg (by decide)]
  have hh : (S.be n 2).headD 0 = (n / 256 ^ 1 % 256).toNat := rfl
  rw [hh]
  simp only [Bool.true_and, decide_eq_true_eq]
  split <;> omega
 ·rw [if_neg (by decide)]
  have hh : (S.be n 4).headD 0 = (n / 256 ^ 3 % 256).toNat := rfl
  rw [hh]
  simp only [Bool.true_and, decide_eq_true_eq]
  split <;> omega
 ·rw [if_neg (by decide)]
  have hh : (S.be n 6).headD 0 = (n / 256 ^ 5 % 256).toNat := rfl
  rw [hh]
  simp only [Bool.true_and, decide_eq_true_eq]
  split <;> omega
 ·rw [if_pos rfl, hv]
  have h3 : IntKind.i64.wrap (n % 256 ^ 8) = IntKind.i64.wrap n := by
   rw [IntKind.wrap_i64, IntKind.wrap_i64]
   omega
  rw [h3]
  exact IntWalk.i64_in _ (by omega)
theorem rd_be0 {n : Int} (h1 : 0 ≤ n) (h2 : n < 4294967296) : S.rdB false (S.be n 4) = n := by
 have hv := val_be n 4
 unfold S.rdB
 rw [be_len, if_neg (by decide)]
 simp only [Bool.false_and]
 rw [if_neg (by decide), hv]
 omega
theorem sum_lt : ∀ (l : List Nat) (s : Nat), s < 4294967296 → S.sumB s l < 4294967296 := by
 intro l
 induction l with
 | nil => intro s h; exact h
 | cons a t ih => intro s h; exact ih _ (Nat.mod_lt _ (by decide))
theorem sum_inj : ∀ (l : List Nat) (s s' : Nat), s < 4294967296 → s' < 4294967296 → s ≠ s' → S.sumB s l ≠ S.sumB s' l := by
 intro l
 induction l with
 | nil => intro s s' _ _ h; exact h
 | cons a t ih =>
  intro s s' h h' hn
  refine ih _ _ (Nat.mod_lt _ (by decide)) (Nat.mod_lt _ (by decide)) ?_
  intro he
  have he' : (31 * s + a + 1) % 4294967296 = (31 * s' + a + 1) % 4294967296 := he
  omega
theorem sum_set : ∀ (l : List Nat) (i y : Nat) (s : Nat) (hi : i < l.length), s < 4294967296 → l[i] < 256 → y < 256 → y ≠ l[i] → S.sumB s (l.set i y) ≠ S.sumB s l := by
 intro l
 induction l with
 | nil => intro i y s hi; cases hi
 | cons a t ih =>
  intro i y s hi hs hx hy hn
  cases i with
  | zero =>
   show S.sumB ((31 * s + y + 1) % 4294967296) t ≠ S.sumB ((31 * s + a + 1) % 4294967296) t
   have hx' : a < 256 := hx
   have hn' : y ≠ a := hn
   exact sum_inj t _ _ (Nat.mod_lt _ (by decide)) (Nat.mod_lt _ (by decide)) (by omega)
  | succ i =>
   show S.sumB ((31 * s + a + 1) % 4294967296) (t.set i y) ≠ S.sumB ((31 * s + a + 1) % 4294967296) t
   exact ih i y _ (by simpa using hi) (Nat.mod_lt _ (by decide)) hx hy hn
theorem val_set : ∀ (l : List Nat) (i y : Nat) (hi : i < l.length), (∀ x, x ∈ l → x < 256) → y < 256 → y ≠ l[i] → S.valB (l.set i y) ≠ S.valB l := by
 intro l
 induction l with
 | nil => intro i y hi; cases hi
 | cons a t ih =>
  intro i y hi hl hy hn
  have ht : ∀ x, x ∈ t → x < 256 := fun x hx => hl x (List.mem_cons_of_mem _ hx)
  cases i with
  | zero =>
   show S.valB (y :: t) ≠ S.valB (a :: t)
   rw [val_cons, val_cons]
   have hn' : y ≠ a := hn
   have hp : 0 < 256 ^ t.length := Nat.pow_pos (by decide)
   intro he
   exact hn' (Nat.eq_of_mul_eq_mul_right hp (by omega))
  | succ i =>
   show S.valB (a :: t.set i y) ≠ S.valB (a :: t)
   rw [val_cons, val_cons, List.length_set]
   have := ih i y (by simpa using hi) ht hy hn
   omega
end Go.Proofs.YtnmolefblaahmaaGreat
