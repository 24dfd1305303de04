/- Lemmas. -/
import Derived.Test.YtmfpbafpnoomeaaGreatMA
set_option linter.unusedVariables false
set_option linter.unusedSimpArgs false
namespace Go.Proofs.YtmfpbafpnoomeaaGreat
open Go.RowKit
namespace S
def letter (c : Int) : Bool := decide (97 <= c) && decide (c <= 122) || decide (65 <= c) && decide (c <= 90)
def digit (c : Int) : Bool := decide (48 <= c) && decide (c <= 57)
def wordc (c : Int) : Bool := letter c || digit c || c == 95
def wordl : List UInt8 -> Nat
 | [] => 0
 | c :: l => if wordc c.toNat then wordl l + 1 else 0
def isName (s : ByteArray) : Bool := !(s.size == 0) && decide (s.size <= 20) && letter ((s.data.toList.headD 0).toNat) && wordl s.data.toList == s.size
end S
theorem letter_any (c : Int) (w : World) (h0 : 0 <= c) (h1 : c <= 255) : Calls Tryz.prog 132 #[.int .u8 c] w fun e w' => e = .returned (.bool (S.letter c)) /\ w = w' := by
 have H := lh (show S.letter c = (decide (97 <= c) && decide (c <= 122) || decide (65 <= c) && decide (c <= 90)) from rfl)
 go_enter Tryz.func132, Tryz.ntmps132
 go_wp2
 all_goals (go_ret; exact ⟨ret_b (by rw [H.out, Bool.eq_iff_iff]; simp; omega), rfl⟩)
theorem digit_any (c : Int) (w : World) (h0 : 0 <= c) (h1 : c <= 255) : Calls Tryz.prog 185 #[.int .u8 c] w fun e w' => e = .returned (.bool (S.digit c)) /\ w = w' := by
 have H := lh (show S.digit c = (decide (48 <= c) && decide (c <= 57)) from rfl)
 go_enter Tryz.func185, Tryz.ntmps185
 go_wp2
 all_goals (go_ret; exact ⟨ret_b (by rw [H.out, Bool.eq_iff_iff]; simp; omega), rfl⟩)
theorem wordl_stop {l : List UInt8} {k : Nat} (h : ∀ j c, j < k -> l[j]? = some c -> S.wordc c.toNat = true) (hk : k <= l.length) (hs : k = l.length ∨ ∃ c, l[k]? = some c /\ S.wordc c.toNat = false) : S.wordl l = k := by
 induction l generalizing k with
 | nil => simp at hk; subst hk; rfl
 | cons x l ih =>
  cases k with
  | zero =>
   rcases hs with hs | ⟨c, hc, hf⟩
   ·simp at hs
   ·simp at hc; subst hc; simp [S.wordl, hf]
  | succ k =>
   have hx := h 0 x (by omega) rfl
   have := ih (k := k) (fun j c hj hc => h (j + 1) c (by omega) (by simpa using hc)) (by simpa using hk) (by simpa using hs)
   simp [S.wordl, hx, this]
theorem byte_bd (c : UInt8) : (0 : Int) <= (c.toNat : Int) /\ (c.toNat : Int) <= 255 := by have := c.toNat_lt; omega
theorem wordl_more {l : List UInt8} {k : Nat} {c : UInt8} (h : ∀ j c, j < k -> l[j]? = some c -> S.wordc c.toNat = true) (hc : l[k]? = some c) (hw : S.wordc c.toNat = true) :
 ∀ j c, j < k + 1 -> l[j]? = some c -> S.wordc c.toNat = true := fun j c' hj hc' => by
 by_cases hjk : j = k
 ·subst hjk
  rw [hc] at hc'
  injection hc' with hc'
  exact hc' ▸ hw
 ·exact h j c' (by omega) hc'
set_option maxHeartbeats 1000000 in
theorem word_any (s : ByteArray) (w : World) (hs : s.size <= 9223372036854775807) : Calls Tryz.prog 133 #[.string s] w fun e w' => e = .returned (.int .i64 (S.wordl s.data.toList : Nat)) /\ w = w' := by
 go_enter Tryz.func133, Tryz.ntmps133
 go_wp2
 go_loop [3] (fun i => ∃ k : Nat, k <= s.size /\ i = .int .i64 k /\ Hid (∀ j c, j < k -> s.data.toList[j]? = some c -> S.wordc c.toNat = true)) (fun i => s.size - (intOf i).toNat)
 case atStart => exact ⟨0, Nat.zero_le _, rfl, lh fun j c hj => absurd hj (by omega)⟩
 case round =>
  obtain ⟨k, hk, rfl, HNO⟩ := hrel
  by_cases hlt : k < s.size
  ·have hb := byte_bd s[k]
   have hget : s.data.toList[k]? = some s[k] := by simp [hlt]; rfl
   have HG := lh hget
   clear hget
   cases hl : S.letter s[k].toNat <;> cases hd : S.digit s[k].toNat <;> cases hu : ((s[k].toNat : Int) == 95)
   all_goals
    go_wp2_with (first
     | (go_at_call 132; (with_reducible refine (letter_any _ _ hb.1 hb.2).mono ?_); rintro e w' ⟨rfl, rfl⟩)
     | (go_at_call 185; (with_reducible refine (digit_any _ _ hb.1 hb.2).mono ?_); rintro e w' ⟨rfl, rfl⟩))
    first
     | (go_ret
        exact ⟨ret_i (by rw [wordl_stop (k := k) HNO.out (by simp; omega) (.inr ⟨_, HG.out, by simp [S.wordc, hl, hd, hu]⟩)]), rfl⟩)
     | (go_round
        case rel => exact ⟨k + 1, by omega, by go_num, lh (wordl_more HNO.out HG.out (by simp [S.wordc, hl, hd, hu]))⟩
        case measure => simp [intOf]; omega)
  ·go_wp2
   go_ret
   exact ⟨ret_i (by rw [wordl_stop (k := k) HNO.out (by simp; omega) (.inl (by simp; omega))]), rfl⟩
theorem wordl_le (l : List UInt8) : S.wordl l <= l.length := by
 induction l with
 | nil => simp [S.wordl]
 | cons c l ih => unfold S.wordl; split <;> simp <;> omega
set_option maxHeartbeats 1000000 in
theorem isname_any (s : ByteArray) (w : World) (hs : s.size <= 9223372036854775807) : Calls Tryz.prog 93 #[.string s] w fun e w' => e = .returned (.bool (S.isName s)) /\ w = w' := by
 have H := lh (show S.isName s = (!(s.size == 0) && decide (s.size <= 20) && S.letter ((s.data.toList.headD 0).toNat) && S.wordl s.data.toList == s.size) from rfl)
 have hwl := wordl_le s.data.toList
 rw [show s.data.toList.length = s.size from rfl] at hwl
 by_cases h0 : s.size = 0
 ·have he : s.toList = [] := by rw [Go.ByteArray.toList_eq]; exact List.eq_nil_of_length_eq_zero h0
  have he2 : s.toList.isEmpty = true := by rw [he]; rfl
  have hz : ((s.size : Int) == 0) = true := beq_iff_eq.2 (by omega)
  have H0 := lh h0
  clear h0
  go_enter Tryz.func93, Tryz.ntmps93
  go_wp2
  go_ret
  exact ⟨ret_b (by rw [H.out, H0.out]; simp), rfl⟩
 ·have hlt : 0 < s.size := by omega
  have he2 : s.toList.isEmpty = false := by
   rw [Go.ByteArray.toList_eq]
   cases hl : s.data.toList with
   | nil => exact absurd (congrArg List.length hl) h0
   | cons x l => rfl
  have hz : ((s.size : Int) == 0) = false := beq_eq_false_iff_ne.2 (by omega)
  have hb := byte_bd s[0]
  have hh : s.data.toList.headD 0 = s[0] := by
   have hg : s.data.toList[0]? = some s[0] := by simp [hlt]; rfl
   cases hl : s.data.toList with
   | nil => rw [hl] at hg; simp at hg
   | cons x l => rw [hl] at hg; simp at hg; simpa using hg
  have HH := lh hh
  have H0 := lh h0
  clear h0 hh
  by_cases h20 : s.size <= 20
  ·have h20' : decide ((s.size : Int) <= 20) = true := by simp; omega
   have h20'' : decide ((20 : Int) < s.size) = false := by simp; omega
   cases hl : S.letter s[0].toNat
   ·go_enter Tryz.func93, Tryz.ntmps93
    go_wp2_with (go_at_call 132; (with_reducible refine (letter_any _ _ hb.1 hb.2).mono ?_); rintro e w' ⟨rfl, rfl⟩)
    go_ret
    exact ⟨ret_b (by rw [H.out, HH.out, hl]; simp), rfl⟩
   ·cases hw : (S.wordl s.data.toList == s.size)
    ·have hw2 : (((S.wordl s.data.toList : Nat) : Int) == (s.size : Int)) = false := by simp at hw ⊢; omega
     go_enter Tryz.func93, Tryz.ntmps93
     go_wp2_with (first
      | (go_at_call 132; (with_reducible refine (letter_any _ _ hb.1 hb.2).mono ?_); rintro e w' ⟨rfl, rfl⟩)
      | (go_at_call 133; (with_reducible refine (word_any s _ hs).mono ?_); rintro e w' ⟨rfl, rfl⟩))
     go_ret
     exact ⟨ret_b (by rw [H.out, HH.out, hl, hw]; simp), rfl⟩
    ·have hw2 : (((S.wordl s.data.toList : Nat) : Int) == (s.size : Int)) = true := by simp at hw ⊢; omega
     go_enter Tryz.func93, Tryz.ntmps93
     go_wp2_with (first
      | (go_at_call 132; (with_reducible refine (letter_any _ _ hb.1 hb.2).mono ?_); rintro e w' ⟨rfl, rfl⟩)
      | (go_at_call 133; (with_reducible refine (word_any s _ hs).mono ?_); rintro e w' ⟨rfl, rfl⟩))
     go_ret
     exact ⟨ret_b (by rw [H.out, HH.out, hl, hw]; simp [H0.out, h20]), rfl⟩
  ·have h20' : decide ((s.size : Int) <= 20) = false := by simp; omega
   have h20'' : decide ((20 : Int) < s.size) = true := by simp; omega
   go_enter Tryz.func93, Tryz.ntmps93
   go_wp2
   go_ret
   exact ⟨ret_b (by rw [H.out]; simp [h20]), rfl⟩
end Go.Proofs.YtmfpbafpnoomeaaGreat
namespace Go.Proofs.YtmfpbafpnoomeaaGreat
structure Bar where
 mark : ByteArray
 size : Int
 count : Int
 code : Int
 dims : List Int
namespace S
def legsOf (code : Int) : List (Nat × Nat) :=
 if code = 0 then [(0, 120)] else if code = 11 then [(0, 120), (1, 121)] else if code = 21 then [(0, 89), (1, 120), (2, 121)]
 else if code = 26 then [(0, 120), (1, 121), (2, 120)] else if code = 31 then [(0, 120), (1, 121), (2, 122)]
 else if code = 41 then [(0, 120), (1, 121), (2, 120), (3, 89), (4, 120)]
 else if code = 51 then [(2, 89), (0, 120), (1, 121), (0, 88), (1, 89), (2, 120)]
 else if code = 98 then [(0, 122), (1, 89), (2, 120), (1, 121), (0, 122)] else []
def dimsOf (code : Int) : Int :=
 if code = 0 then 1 else if code = 11 then 2 else if code = 21 then 3 else if code = 26 then 3 else if code = 31 then 3 else if code = 41 then 5 else if code = 51 then 3 else if code = 98 then 3 else 0
def dimsErr (code : Int) : Int := if dimsOf code = 0 then 11 else 0
def maxd (l : List (Nat × Nat)) : Int := l.foldl (fun m x => max m (x.1 : Int)) (-1)
def sum (l : List Int) : Int := l.foldl (· + ·) 0
def dimsOk (l : List Int) : Bool := l.all (fun n => decide (1 <= n)) && decide (sum l <= 262144)
def barHead (b : Bar) : Bool := !(dimsOf b.code == 0) && isName b.mark && size b.size && decide (1 <= b.count) && decide (b.count <= 1000) && ((b.dims.length : Int) == dimsOf b.code)
def bar (b : Bar) : Bool := barHead b && dimsOk b.dims
end S
theorem maxd_legs (code : Int) : S.maxd (S.legsOf code) + 1 = S.dimsOf code := by
 unfold S.legsOf S.dimsOf
 repeat' (split <;> try rfl)
theorem maxd_snoc (l : List (Nat × Nat)) (x : Nat × Nat) : S.maxd (l ++ [x]) = max (S.maxd l) (x.1 : Int) := by simp [S.maxd, List.foldl_append]
theorem maxd_bd (l : List (Nat × Nat)) : -1 <= S.maxd l := by
 have h : ∀ (l : List (Nat × Nat)) (m : Int), m <= l.foldl (fun m x => max m (x.1 : Int)) m := by
  intro l
  induction l with
  | nil => intro m; exact Int.le_refl _
  | cons x l ih => intro m; exact Int.le_trans (Int.le_max_left _ _) (ih _)
 exact h l (-1)
theorem dimsOf_bd (code : Int) : 0 <= S.dimsOf code /\ S.dimsOf code <= 5 := by
 unfold S.dimsOf
 repeat' (split <;> try omega)
theorem legs_len (code : Int) : (S.legsOf code).length <= 6 := by
 unfold S.legsOf
 repeat' (split <;> try decide)
theorem legs_dim (code : Int) {k : Nat} (hk : k < (S.legsOf code).length) : ((S.legsOf code)[k].1 : Int) < S.dimsOf code := by
 have h : ∀ x, x ∈ S.legsOf code -> (x.1 : Int) < S.dimsOf code := by
  unfold S.legsOf S.dimsOf
  repeat' (split <;> try decide)
 exact h _ (List.getElem_mem hk)
theorem sum_snoc (l : List Int) (x : Int) : S.sum (l ++ [x]) = S.sum l + x := by simp [S.sum, List.foldl_append]
end Go.Proofs.YtmfpbafpnoomeaaGreat
