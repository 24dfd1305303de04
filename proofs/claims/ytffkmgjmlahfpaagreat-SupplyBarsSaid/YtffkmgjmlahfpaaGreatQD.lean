/- Contracts: shape.legs, shape.Dims. Bars as arguments: where they lie; contract of Short. Contracts: shape.Valid. Rows that a call hands back; the lengths of the legs (no walk). Points of a bar: steps, bounds (no walk). How the legs of a path turn, and how long they are together (no program in sight). Contracts: frame.axis, Valid, unit, cross, columns. Legs of a bar: where they lie, their lengths. -/
import Derived.Test.YtffkmgjmlahfpaaGreatQC
import Derived.Test.YtffkmgjmlahfpaaGreatQA
import Derived.Test.YtffkmgjmlahfpaaGreatRows
import Derived.Test.YtffkmgjmlahfpaaGreatQB
set_option linter.unusedVariables false
set_option linter.unusedSimpArgs false
namespace Go.Proofs.YtffkmgjmlahfpaaGreat
open Go.RowKit
abbrev legC (x : Nat × Nat) : List Value := [.int .i64 x.1, .int .u8 x.2]
/-- A call hands back a slice of its own with these rows. -/
def GivesLegs (l : List (Nat × Nat)) (w : World) (e : Ending) (w' : World) : Prop :=
  ∃ A, e = .returned (.slice A l.length l.length) ∧ Cells w' w'.heap.size A (l.flatMap legC) ∧ Below w.heap.size w w' ∧ ∀ ad, A = some ad → w.heap.size ≤ ad.block
set_option maxHeartbeats 1000000 in
theorem legs_any (code : Int) (w : World) : Calls Tryz.prog 248 #[.int .i64 code] w (GivesLegs (S.legsOf code) w) := by
  by_cases h0 : code = 0
  · subst h0
    go_enter Tryz.func248, Tryz.ntmps248
    go_wp2
    go_ret
    exact ⟨_, rfl, Cells.newRow w _ _ _, (by repeat (first | exact Below.refl _ _ | assumption | refine ba_alloc ?_ _ | refine ba_drew ?_ | refine ba_drewN ?_ _ | refine ba_via (by assumption) ?_ | (refine ba_set ?_ ?_ _; rotate_left; (first | omega | (simp; omega) | simp)))), fun ad h => by injection h with h; rw [← h]; exact Nat.le_refl _⟩
  by_cases h11 : code = 11
  · subst h11
    go_enter Tryz.func248, Tryz.ntmps248
    go_wp2
    go_ret
    exact ⟨_, rfl, Cells.newRow w _ _ _, (by repeat (first | exact Below.refl _ _ | assumption | refine ba_alloc ?_ _ | refine ba_drew ?_ | refine ba_drewN ?_ _ | refine ba_via (by assumption) ?_ | (refine ba_set ?_ ?_ _; rotate_left; (first | omega | (simp; omega) | simp)))), fun ad h => by injection h with h; rw [← h]; exact Nat.le_refl _⟩
  by_cases h21 : code = 21
  · subst h21
    go_enter Tryz.func248, Tryz.ntmps248
    go_wp2
    go_ret
    exact ⟨_, rfl, Cells.newRow w _ _ _, (by repeat (first | exact Below.refl _ _ | assumption | refine ba_alloc ?_ _ | refine ba_drew ?_ | refine ba_drewN ?_ _ | refine ba_via (by assumption) ?_ | (refine ba_set ?_ ?_ _; rotate_left; (first | omega | (simp; omega) | simp)))), fun ad h => by injection h with h; rw [← h]; exact Nat.le_refl _⟩
  by_cases h26 : code = 26
  · subst h26
    go_enter Tryz.func248, Tryz.ntmps248
    go_wp2
    go_ret
    exact ⟨_, rfl, Cells.newRow w _ _ _, (by repeat (first | exact Below.refl _ _ | assumption | refine ba_alloc ?_ _ | refine ba_drew ?_ | refine ba_drewN ?_ _ | refine ba_via (by assumption) ?_ | (refine ba_set ?_ ?_ _; rotate_left; (first | omega | (simp; omega) | simp)))), fun ad h => by injection h with h; rw [← h]; exact Nat.le_refl _⟩
  by_cases h31 : code = 31
  · subst h31
    go_enter Tryz.func248, Tryz.ntmps248
    go_wp2
    go_ret
    exact ⟨_, rfl, Cells.newRow w _ _ _, (by repeat (first | exact Below.refl _ _ | assumption | refine ba_alloc ?_ _ | refine ba_drew ?_ | refine ba_drewN ?_ _ | refine ba_via (by assumption) ?_ | (refine ba_set ?_ ?_ _; rotate_left; (first | omega | (simp; omega) | simp)))), fun ad h => by injection h with h; rw [← h]; exact Nat.le_refl _⟩
  by_cases h41 : code = 41
  · subst h41
    go_enter Tryz.func248, Tryz.ntmps248
    go_wp2
    go_ret
    exact ⟨_, rfl, Cells.newRow w _ _ _, (by repeat (first | exact Below.refl _ _ | assumption | refine ba_alloc ?_ _ | refine ba_drew ?_ | refine ba_drewN ?_ _ | refine ba_via (by assumption) ?_ | (refine ba_set ?_ ?_ _; rotate_left; (first | omega | (simp; omega) | simp)))), fun ad h => by injection h with h; rw [← h]; exact Nat.le_refl _⟩
  by_cases h51 : code = 51
  · subst h51
    go_enter Tryz.func248, Tryz.ntmps248
    go_wp2
    go_ret
    exact ⟨_, rfl, Cells.newRow w _ _ _, (by repeat (first | exact Below.refl _ _ | assumption | refine ba_alloc ?_ _ | refine ba_drew ?_ | refine ba_drewN ?_ _ | refine ba_via (by assumption) ?_ | (refine ba_set ?_ ?_ _; rotate_left; (first | omega | (simp; omega) | simp)))), fun ad h => by injection h with h; rw [← h]; exact Nat.le_refl _⟩
  by_cases h98 : code = 98
  · subst h98
    go_enter Tryz.func248, Tryz.ntmps248
    go_wp2
    go_ret
    exact ⟨_, rfl, Cells.newRow w _ _ _, (by repeat (first | exact Below.refl _ _ | assumption | refine ba_alloc ?_ _ | refine ba_drew ?_ | refine ba_drewN ?_ _ | refine ba_via (by assumption) ?_ | (refine ba_set ?_ ?_ _; rotate_left; (first | omega | (simp; omega) | simp)))), fun ad h => by injection h with h; rw [← h]; exact Nat.le_refl _⟩
  have b0 : (code == 0) = false := beq_eq_false_iff_ne.2 h0
  have b11 : (code == 11) = false := beq_eq_false_iff_ne.2 h11
  have b21 : (code == 21) = false := beq_eq_false_iff_ne.2 h21
  have b26 : (code == 26) = false := beq_eq_false_iff_ne.2 h26
  have b31 : (code == 31) = false := beq_eq_false_iff_ne.2 h31
  have b41 : (code == 41) = false := beq_eq_false_iff_ne.2 h41
  have b51 : (code == 51) = false := beq_eq_false_iff_ne.2 h51
  have b98 : (code == 98) = false := beq_eq_false_iff_ne.2 h98
  have e : S.legsOf code = [] := by simp only [S.legsOf, if_neg h0, if_neg h11, if_neg h21, if_neg h26, if_neg h31, if_neg h41, if_neg h51, if_neg h98]
  have E := Lib.hid e
  clear e h0 h11 h21 h26 h31 h41 h51 h98
  go_enter Tryz.func248, Tryz.ntmps248
  go_wp2
  go_ret
  refine ⟨none, ?_, ?_, (by repeat (first | exact Below.refl _ _ | assumption | refine ba_alloc ?_ _ | refine ba_drew ?_ | refine ba_drewN ?_ _ | refine ba_via (by assumption) ?_ | (refine ba_set ?_ ?_ _; rotate_left; (first | omega | (simp; omega) | simp)))), fun ad h => by cases h⟩
  · rw [E.out]; rfl
  · rw [E.out]; exact Cells.nil
theorem legC_len (a : Nat × Nat) : (legC a).length = 2 := rfl
set_option maxHeartbeats 1000000 in
theorem dims_any (code : Int) (w : World) : Calls Tryz.prog 259 #[.int .i64 code] w fun e w' => e = .returned (.tuple #[.int .i64 (S.dimsOf code), .int .i64 (S.dimsErr code)]) ∧ Below w.heap.size w w' := by
  have hM := maxd_legs code
  have HM := Lib.hid hM
  have hl6 := legs_len code
  clear hM
  go_enter Tryz.func259, Tryz.ntmps259
  go_wp2_with (go_at_call 248; (with_reducible refine (legs_any code _).mono ?_); rintro e w1 ⟨A, rfl, hs, hb1, _⟩)
  go_loopw [4, 10] (fun m i wr => ∃ k : Nat, k ≤ (S.legsOf code).length ∧ i = .int .i64 k ∧ m = .int .i64 (S.maxd ((S.legsOf code).take k)) ∧ Below w1.heap.size w1 wr) (fun _ i _ => (S.legsOf code).length - (intOf i).toNat)
  case atStart => exact ⟨0, Nat.zero_le _, rfl, rfl, Below.refl _ _⟩
  case round =>
    obtain ⟨k, hk, rfl, rfl, hbr⟩ := hrel
    by_cases hlt : k < (S.legsOf code).length
    · have hs' := hs.below hbr
      obtain ⟨b, o, rfl, hbl, _⟩ := hs'.at_ (by rw [flat_len legC 2 legC_len]; omega)
      have c0 := hs'.row0 legC_len hlt rfl
      have c1 := hs'.rowj legC_len hlt 1 rfl
      have ht := maxd_snoc ((S.legsOf code).take k) (S.legsOf code)[k]
      rw [← List.take_succ_eq_append_getElem hlt] at ht
      have HT := Lib.hid ht
      have hb0 := maxd_bd ((S.legsOf code).take k)
      clear ht
      go_wp2
      go_roundw
      case rel => exact ⟨k + 1, by omega, by go_num, vint (by rw [HT.out]; split <;> omega), (by repeat (first | exact Below.refl _ _ | assumption | refine ba_alloc ?_ _ | refine ba_drew ?_ | refine ba_drewN ?_ _ | refine ba_via (by assumption) ?_ | (refine ba_set ?_ ?_ _; rotate_left; (first | omega | (simp; omega) | simp))))⟩
      case measure => simp [intOf]; omega
    · have e : (S.legsOf code).take k = S.legsOf code := List.take_of_length_le (by omega)
      rw [e]
      clear e
      by_cases hd : S.dimsOf code = 0
      · have h1 : S.maxd (S.legsOf code) < 0 := by have := HM.out; omega
        have HD := Lib.hid hd
        clear hd
        go_wp2
        go_ret2
        exact ⟨ret_2 HD.out.symm (show 11 = S.dimsErr code by simp [S.dimsErr, HD.out]), (by repeat (first | exact Below.refl _ _ | assumption | refine ba_alloc ?_ _ | refine ba_drew ?_ | refine ba_drewN ?_ _ | refine ba_via (by assumption) ?_ | (refine ba_set ?_ ?_ _; rotate_left; (first | omega | (simp; omega) | simp))))⟩
      · have h1 : ¬ S.maxd (S.legsOf code) < 0 := by have := HM.out; have := (dimsOf_bd code).1; omega
        have h2 : S.maxd (S.legsOf code) ≤ 4 := by have := HM.out; have := (dimsOf_bd code).2; omega
        have HD := Lib.hid hd
        clear hd
        go_wp2
        go_ret2
        exact ⟨ret_2 HM.out (show 0 = S.dimsErr code by simp [S.dimsErr, HD.out]), (by repeat (first | exact Below.refl _ _ | assumption | refine ba_alloc ?_ _ | refine ba_drew ?_ | refine ba_drewN ?_ _ | refine ba_via (by assumption) ?_ | (refine ba_set ?_ ?_ _; rotate_left; (first | omega | (simp; omega) | simp))))⟩
end Go.Proofs.YtffkmgjmlahfpaaGreat
set_option linter.unusedVariables false
set_option linter.unusedSimpArgs false
namespace Go.Proofs.YtffkmgjmlahfpaaGreat
open Go.RowKit
abbrev barV (b : Bar) (A : Option Addr) (n c : Nat) : Value := .agg #[.string b.mark, .int .i64 b.size, .int .i64 b.count, .int .i64 b.code, .slice A n c]
/-- A bar's dimensions lie in memory, below block B. -/
structure BarAt (w : World) (B : Nat) (A : Option Addr) (n : Nat) (b : Bar) : Prop where
  len : b.dims.length = n
  max : n ≤ 9223372036854775807
  mark : b.mark.size ≤ 9223372036854775807
  cells : Cells w B A (i64s b.dims)
theorem BarAt.below {w w' : World} {B : Nat} {A : Option Addr} {n : Nat} {b : Bar} (h : BarAt w B A n b) (hb : Below B w w') : BarAt w' B A n b := ⟨h.len, h.max, h.mark, h.cells.below hb⟩
theorem BarAt.mono {w : World} {B B' : Nat} {A : Option Addr} {n : Nat} {b : Bar} (h : BarAt w B A n b) (hb : B ≤ B') : BarAt w B' A n b := ⟨h.len, h.max, h.mark, h.cells.mono hb⟩
def S.short (b : Bar) : Bool := decide (b.dims.length ≤ 8) && decide (b.mark.size ≤ 60)
theorem short_any (b : Bar) (A : Option Addr) (n c : Nat) (w : World) (hn : b.dims.length = n) (hm : n ≤ 9223372036854775807) (hk : b.mark.size ≤ 9223372036854775807) :
    Calls Tryz.prog 111 #[barV b A n c] w fun e w' => e = .returned (.bool (S.short b)) ∧ Below w.heap.size w w' := by
  have H := Lib.hid (show S.short b = (decide (n ≤ 8) && decide (b.mark.size ≤ 60)) by simp [S.short, hn])
  clear hn
  unfold barV
  go_enter Tryz.func111, Tryz.ntmps111
  go_wp2
  all_goals (go_ret; exact ⟨ret_b (by rw [H.out, Bool.eq_iff_iff]; simp; omega), (by repeat (first | exact Below.refl _ _ | assumption | refine ba_alloc ?_ _ | refine ba_drew ?_ | refine ba_drewN ?_ _ | refine ba_via (by assumption) ?_ | (refine ba_set ?_ ?_ _; rotate_left; (first | omega | (simp; omega) | simp))))⟩)
end Go.Proofs.YtffkmgjmlahfpaaGreat
set_option linter.unusedVariables false
set_option linter.unusedSimpArgs false
namespace Go.Proofs.YtffkmgjmlahfpaaGreat
open Go.RowKit
theorem sum_nonneg {l : List Int} (h : ∀ x, x ∈ l → 1 ≤ x) : 0 ≤ S.sum l := by
  have : ∀ (l : List Int) (m : Int), (∀ x, x ∈ l → 1 ≤ x) → m ≤ l.foldl (· + ·) m := by
    intro l
    induction l with
    | nil => intro m _; exact Int.le_refl _
    | cons x l ih =>
      intro m h
      have h1 := h x (by simp)
      exact Int.le_trans (by omega) (ih (m + x) (fun y hy => h y (by simp [hy])))
  exact this l 0 h
theorem foldl_add (l : List Int) (m : Int) : l.foldl (· + ·) m = m + l.foldl (· + ·) 0 := by
  induction l generalizing m with
  | nil => simp
  | cons x l ih => simp only [List.foldl_cons]; rw [ih (m + x), ih (0 + x)]; omega
theorem sum_append (a b : List Int) : S.sum (a ++ b) = S.sum a + S.sum b := by
  unfold S.sum
  rw [List.foldl_append, foldl_add]
theorem sum_take_le {l : List Int} (h : ∀ x, x ∈ l → 1 ≤ x) (k : Nat) : S.sum (l.take k) ≤ S.sum l := by
  have e := sum_append (l.take k) (l.drop k)
  rw [List.take_append_drop] at e
  have := sum_nonneg (l := l.drop k) (fun x hx => h x (List.mem_of_mem_drop hx))
  omega
theorem dimsOk_iff {l : List Int} : S.dimsOk l = true ↔ (∀ x, x ∈ l → 1 ≤ x) ∧ S.sum l ≤ 262144 := by simp [S.dimsOk]
theorem dims_no {l : List Int} {k : Nat} (hk : k < l.length) (h : l[k] < 1 ∨ 262144 - S.sum (l.take k) < l[k]) : S.dimsOk l = false := by
  cases hb : S.dimsOk l with
  | false => rfl
  | true =>
    obtain ⟨h1, h2⟩ := dimsOk_iff.1 hb
    have h3 := h1 _ (List.getElem_mem hk)
    have h4 := sum_take_le h1 (k + 1)
    rw [List.take_succ_eq_append_getElem hk, sum_snoc] at h4
    omega
theorem dims_yes {l : List Int} (h : ∀ j (hj : j < l.length), 1 ≤ l[j]) (hs : S.sum l ≤ 262144) : S.dimsOk l = true :=
  dimsOk_iff.2 ⟨fun x hx => by obtain ⟨j, hj, rfl⟩ := List.mem_iff_getElem.1 hx; exact h j hj, hs⟩
theorem dimsErr_zero {c : Int} (h : S.dimsErr c = 0) : (S.dimsOf c == 0) = false := by
  unfold S.dimsErr at h
  split at h
  · omega
  · simpa using ‹_›
theorem dimsErr_no {c : Int} (h : S.dimsErr c ≠ 0) : S.dimsErr c = 11 ∧ S.dimsOf c = 0 := by
  unfold S.dimsErr at h ⊢
  split at h
  · exact ⟨by simp [*], by assumption⟩
  · exact absurd rfl h
set_option maxHeartbeats 1000000 in
theorem valid_no0 (b : Bar) (A : Option Addr) (n c : Nat) (w : World) (hn : b.dims.length = n) (hmk : b.mark.size ≤ 9223372036854775807)  (f : S.dimsErr b.code ≠ 0) :
    Calls Tryz.prog 215 #[barV b A n c] w fun e w' => e = .returned (.bool (S.bar b)) ∧ Below w.heap.size w w' := by
  obtain ⟨f1, f2⟩ := dimsErr_no f
  have H := Lib.hid (show S.bar b = false by simp [S.bar, S.barHead, f2])
  clear f f2 hn
  unfold barV
  go_enter Tryz.func215, Tryz.ntmps215
  go_wp2_with (first
      | (go_at_call 259; (with_reducible refine (dims_any b.code _).mono ?_); rintro e w1 ⟨rfl, hbw1⟩; obtain ⟨hcw1, hfw1⟩ := bcell hbw1; have hzw1_0 : w.heap.size < w1.heap.size := lt_via hbw1 (by first | omega | (simp; done) | (simp; omega)))
      | (go_at_call 166; (with_reducible refine (isname_any b.mark _ hmk).mono ?_); rintro e w' ⟨rfl, rfl⟩)
      | (go_at_call 160; (with_reducible refine (ssize_any b.size _).mono ?_); rintro e w2 ⟨rfl, hbw2⟩; obtain ⟨hcw2, hfw2⟩ := bcell hbw2; have hzw2_0 : w.heap.size < w2.heap.size := lt_via hbw2 (by first | omega | (simp; done) | (simp; omega))))
  go_ret
  exact ⟨ret_b H.out.symm, (by repeat (first | exact Below.refl _ _ | assumption | refine ba_alloc ?_ _ | refine ba_drew ?_ | refine ba_drewN ?_ _ | refine ba_via (by assumption) ?_ | (refine ba_set ?_ ?_ _; rotate_left; (first | omega | (simp; omega) | simp))))⟩
set_option maxHeartbeats 1000000 in
theorem valid_no1 (b : Bar) (A : Option Addr) (n c : Nat) (w : World) (hn : b.dims.length = n) (hmk : b.mark.size ≤ 9223372036854775807) (g0 : S.dimsErr b.code = 0) (f : S.isName b.mark = false) :
    Calls Tryz.prog 215 #[barV b A n c] w fun e w' => e = .returned (.bool (S.bar b)) ∧ Below w.heap.size w w' := by
  have H := Lib.hid (show S.bar b = false by simp [S.bar, S.barHead, f])
  clear hn
  unfold barV
  go_enter Tryz.func215, Tryz.ntmps215
  go_wp2_with (first
      | (go_at_call 259; (with_reducible refine (dims_any b.code _).mono ?_); rintro e w1 ⟨rfl, hbw1⟩; obtain ⟨hcw1, hfw1⟩ := bcell hbw1; have hzw1_0 : w.heap.size < w1.heap.size := lt_via hbw1 (by first | omega | (simp; done) | (simp; omega)))
      | (go_at_call 166; (with_reducible refine (isname_any b.mark _ hmk).mono ?_); rintro e w' ⟨rfl, rfl⟩)
      | (go_at_call 160; (with_reducible refine (ssize_any b.size _).mono ?_); rintro e w2 ⟨rfl, hbw2⟩; obtain ⟨hcw2, hfw2⟩ := bcell hbw2; have hzw2_0 : w.heap.size < w2.heap.size := lt_via hbw2 (by first | omega | (simp; done) | (simp; omega))))
  go_ret
  exact ⟨ret_b H.out.symm, (by repeat (first | exact Below.refl _ _ | assumption | refine ba_alloc ?_ _ | refine ba_drew ?_ | refine ba_drewN ?_ _ | refine ba_via (by assumption) ?_ | (refine ba_set ?_ ?_ _; rotate_left; (first | omega | (simp; omega) | simp))))⟩
set_option maxHeartbeats 1000000 in
theorem valid_no2 (b : Bar) (A : Option Addr) (n c : Nat) (w : World) (hn : b.dims.length = n) (hmk : b.mark.size ≤ 9223372036854775807) (g0 : S.dimsErr b.code = 0) (g1 : S.isName b.mark = true) (f : S.size b.size = false) :
    Calls Tryz.prog 215 #[barV b A n c] w fun e w' => e = .returned (.bool (S.bar b)) ∧ Below w.heap.size w w' := by
  have H := Lib.hid (show S.bar b = false by simp [S.bar, S.barHead, f])
  clear hn
  unfold barV
  go_enter Tryz.func215, Tryz.ntmps215
  go_wp2_with (first
      | (go_at_call 259; (with_reducible refine (dims_any b.code _).mono ?_); rintro e w1 ⟨rfl, hbw1⟩; obtain ⟨hcw1, hfw1⟩ := bcell hbw1; have hzw1_0 : w.heap.size < w1.heap.size := lt_via hbw1 (by first | omega | (simp; done) | (simp; omega)))
      | (go_at_call 166; (with_reducible refine (isname_any b.mark _ hmk).mono ?_); rintro e w' ⟨rfl, rfl⟩)
      | (go_at_call 160; (with_reducible refine (ssize_any b.size _).mono ?_); rintro e w2 ⟨rfl, hbw2⟩; obtain ⟨hcw2, hfw2⟩ := bcell hbw2; have hzw2_0 : w.heap.size < w2.heap.size := lt_via hbw2 (by first | omega | (simp; done) | (simp; omega))))
  go_ret
  exact ⟨ret_b H.out.symm, (by repeat (first | exact Below.refl _ _ | assumption | refine ba_alloc ?_ _ | refine ba_drew ?_ | refine ba_drewN ?_ _ | refine ba_via (by assumption) ?_ | (refine ba_set ?_ ?_ _; rotate_left; (first | omega | (simp; omega) | simp))))⟩
set_option maxHeartbeats 1000000 in
theorem valid_no3 (b : Bar) (A : Option Addr) (n c : Nat) (w : World) (hn : b.dims.length = n) (hmk : b.mark.size ≤ 9223372036854775807) (g0 : S.dimsErr b.code = 0) (g1 : S.isName b.mark = true) (g2 : S.size b.size = true) (f : b.count < 1) :
    Calls Tryz.prog 215 #[barV b A n c] w fun e w' => e = .returned (.bool (S.bar b)) ∧ Below w.heap.size w w' := by
  have H := Lib.hid (show S.bar b = false by
    have hd : decide (1 ≤ b.count) = false := by simp; omega
    simp [S.bar, S.barHead, hd])
  clear hn
  unfold barV
  go_enter Tryz.func215, Tryz.ntmps215
  go_wp2_with (first
      | (go_at_call 259; (with_reducible refine (dims_any b.code _).mono ?_); rintro e w1 ⟨rfl, hbw1⟩; obtain ⟨hcw1, hfw1⟩ := bcell hbw1; have hzw1_0 : w.heap.size < w1.heap.size := lt_via hbw1 (by first | omega | (simp; done) | (simp; omega)))
      | (go_at_call 166; (with_reducible refine (isname_any b.mark _ hmk).mono ?_); rintro e w' ⟨rfl, rfl⟩)
      | (go_at_call 160; (with_reducible refine (ssize_any b.size _).mono ?_); rintro e w2 ⟨rfl, hbw2⟩; obtain ⟨hcw2, hfw2⟩ := bcell hbw2; have hzw2_0 : w.heap.size < w2.heap.size := lt_via hbw2 (by first | omega | (simp; done) | (simp; omega))))
  go_ret
  exact ⟨ret_b H.out.symm, (by repeat (first | exact Below.refl _ _ | assumption | refine ba_alloc ?_ _ | refine ba_drew ?_ | refine ba_drewN ?_ _ | refine ba_via (by assumption) ?_ | (refine ba_set ?_ ?_ _; rotate_left; (first | omega | (simp; omega) | simp))))⟩
set_option maxHeartbeats 1000000 in
theorem valid_no4 (b : Bar) (A : Option Addr) (n c : Nat) (w : World) (hn : b.dims.length = n) (hmk : b.mark.size ≤ 9223372036854775807) (g0 : S.dimsErr b.code = 0) (g1 : S.isName b.mark = true) (g2 : S.size b.size = true) (g3 : 1 ≤ b.count) (f : 1000 < b.count) :
    Calls Tryz.prog 215 #[barV b A n c] w fun e w' => e = .returned (.bool (S.bar b)) ∧ Below w.heap.size w w' := by
  have H := Lib.hid (show S.bar b = false by
    have hd : decide (b.count ≤ 1000) = false := by simp; omega
    simp [S.bar, S.barHead, hd])
  clear hn
  unfold barV
  go_enter Tryz.func215, Tryz.ntmps215
  go_wp2_with (first
      | (go_at_call 259; (with_reducible refine (dims_any b.code _).mono ?_); rintro e w1 ⟨rfl, hbw1⟩; obtain ⟨hcw1, hfw1⟩ := bcell hbw1; have hzw1_0 : w.heap.size < w1.heap.size := lt_via hbw1 (by first | omega | (simp; done) | (simp; omega)))
      | (go_at_call 166; (with_reducible refine (isname_any b.mark _ hmk).mono ?_); rintro e w' ⟨rfl, rfl⟩)
      | (go_at_call 160; (with_reducible refine (ssize_any b.size _).mono ?_); rintro e w2 ⟨rfl, hbw2⟩; obtain ⟨hcw2, hfw2⟩ := bcell hbw2; have hzw2_0 : w.heap.size < w2.heap.size := lt_via hbw2 (by first | omega | (simp; done) | (simp; omega))))
  go_ret
  exact ⟨ret_b H.out.symm, (by repeat (first | exact Below.refl _ _ | assumption | refine ba_alloc ?_ _ | refine ba_drew ?_ | refine ba_drewN ?_ _ | refine ba_via (by assumption) ?_ | (refine ba_set ?_ ?_ _; rotate_left; (first | omega | (simp; omega) | simp))))⟩
set_option maxHeartbeats 1000000 in
theorem valid_no5 (b : Bar) (A : Option Addr) (n c : Nat) (w : World) (hn : b.dims.length = n) (hmk : b.mark.size ≤ 9223372036854775807) (g0 : S.dimsErr b.code = 0) (g1 : S.isName b.mark = true) (g2 : S.size b.size = true) (g3 : 1 ≤ b.count) (g4 : b.count ≤ 1000) (f : ((n : Int) == S.dimsOf b.code) = false) :
    Calls Tryz.prog 215 #[barV b A n c] w fun e w' => e = .returned (.bool (S.bar b)) ∧ Below w.heap.size w w' := by
  have f' : ((n : Int) != S.dimsOf b.code) = true := by simp [bne, f]
  have H := Lib.hid (show S.bar b = false by unfold S.bar S.barHead; rw [hn, f]; simp)
  clear hn
  unfold barV
  go_enter Tryz.func215, Tryz.ntmps215
  go_wp2_with (first
      | (go_at_call 259; (with_reducible refine (dims_any b.code _).mono ?_); rintro e w1 ⟨rfl, hbw1⟩; obtain ⟨hcw1, hfw1⟩ := bcell hbw1; have hzw1_0 : w.heap.size < w1.heap.size := lt_via hbw1 (by first | omega | (simp; done) | (simp; omega)))
      | (go_at_call 166; (with_reducible refine (isname_any b.mark _ hmk).mono ?_); rintro e w' ⟨rfl, rfl⟩)
      | (go_at_call 160; (with_reducible refine (ssize_any b.size _).mono ?_); rintro e w2 ⟨rfl, hbw2⟩; obtain ⟨hcw2, hfw2⟩ := bcell hbw2; have hzw2_0 : w.heap.size < w2.heap.size := lt_via hbw2 (by first | omega | (simp; done) | (simp; omega))))
  go_ret
  exact ⟨ret_b H.out.symm, (by repeat (first | exact Below.refl _ _ | assumption | refine ba_alloc ?_ _ | refine ba_drew ?_ | refine ba_drewN ?_ _ | refine ba_via (by assumption) ?_ | (refine ba_set ?_ ?_ _; rotate_left; (first | omega | (simp; omega) | simp))))⟩
set_option maxHeartbeats 2000000 in
theorem valid_in (b : Bar) (A : Option Addr) (n c : Nat) (B : Nat) (w : World) (hB : B ≤ w.heap.size) (hA : BarAt w B A n b) (hh : S.barHead b = true) :
    Calls Tryz.prog 215 #[barV b A n c] w fun e w' => e = .returned (.bool (S.bar b)) ∧ Below w.heap.size w w' := by
  have hmk := hA.mark
  have hm := hA.max
  have hs := hA.cells
  have HN := Lib.hid hA.len
  have HK := Lib.hid (show S.bar b = S.dimsOk b.dims by simp [S.bar, hh])
  have hh' := hh
  unfold S.barHead at hh'
  rw [hA.len] at hh'
  simp only [Bool.and_eq_true, decide_eq_true_eq, Bool.not_eq_true'] at hh'
  obtain ⟨⟨⟨⟨⟨h0, h1⟩, h2⟩, h3⟩, h4⟩, h5⟩ := hh'
  have h0' : S.dimsErr b.code = 0 := by unfold S.dimsErr; rw [if_neg (by simpa using h0)]
  have h5' : ((n : Int) != S.dimsOf b.code) = false := by simp [bne, h5]
  clear h0 hh hA
  unfold barV
  go_enter Tryz.func215, Tryz.ntmps215
  go_wp2_with (first
      | (go_at_call 259; (with_reducible refine (dims_any b.code _).mono ?_); rintro e w1 ⟨rfl, hbw1⟩; obtain ⟨hcw1, hfw1⟩ := bcell hbw1; have hzw1_0 : w.heap.size < w1.heap.size := lt_via hbw1 (by first | omega | (simp; done) | (simp; omega)))
      | (go_at_call 166; (with_reducible refine (isname_any b.mark _ hmk).mono ?_); rintro e w' ⟨rfl, rfl⟩)
      | (go_at_call 160; (with_reducible refine (ssize_any b.size _).mono ?_); rintro e w2 ⟨rfl, hbw2⟩; obtain ⟨hcw2, hfw2⟩ := bcell hbw2; have hzw2_0 : w.heap.size < w2.heap.size := lt_via hbw2 (by first | omega | (simp; done) | (simp; omega))))
  have hbw : Below w.heap.size w w2 := (by repeat (first | exact Below.refl _ _ | assumption | refine ba_alloc ?_ _ | refine ba_drew ?_ | refine ba_drewN ?_ _ | refine ba_via (by assumption) ?_ | (refine ba_set ?_ ?_ _; rotate_left; (first | omega | (simp; omega) | simp))))
  have hs2 := hs.below (hbw.mono hB)
  go_loop [5, 48] (fun r i => ∃ k : Nat, k ≤ n ∧ i = .int .i64 k ∧ r = .int .i64 (262144 - S.sum (b.dims.take k)) ∧ 0 ≤ S.sum (b.dims.take k) ∧ S.sum (b.dims.take k) ≤ 262144 ∧ Hid (∀ j (hj : j < b.dims.length), j < k → 1 ≤ b.dims[j])) (fun _ i => n - (intOf i).toNat)
  case atStart => exact ⟨0, Nat.zero_le _, rfl, rfl, by simp [S.sum], by simp [S.sum], Lib.hid fun j hj hk => absurd hk (by omega)⟩
  case round =>
    obtain ⟨k, hk, rfl, rfl, hs0, hs1, HNO⟩ := hrel
    by_cases hlt : k < n
    · have hkx : k < b.dims.length := by have := HN.out; omega
      obtain ⟨bb, o, rfl, _, hc⟩ := hs2.at_ (by simp; omega)
      have hck := hc k _ (i64s_get hkx)
      clear hc
      by_cases hbad : b.dims[k] < 1 ∨ 262144 - S.sum (b.dims.take k) < b.dims[k]
      · have HB := Lib.hid (dims_no hkx hbad)
        rcases hbad with h1 | h1
        all_goals
          go_wp2
          go_ret
          exact ⟨ret_b (by rw [HK.out, HB.out]), hbw⟩
      · obtain ⟨hb1', hb2'⟩ : 1 ≤ b.dims[k] ∧ b.dims[k] ≤ 262144 - S.sum (b.dims.take k) := by omega
        have ht := sum_snoc (b.dims.take k) b.dims[k]
        rw [← List.take_succ_eq_append_getElem hkx] at ht
        have HT := Lib.hid ht
        clear ht hbad
        go_wp2
        go_round
        case rel =>
          refine ⟨k + 1, by omega, by go_num, vint (by rw [HT.out]; omega), by rw [HT.out]; omega, by rw [HT.out]; omega, Lib.hid fun j hj hjk => ?_⟩
          by_cases hjk' : j = k
          · subst hjk'; omega
          · exact HNO.out j hj (by omega)
        case measure => simp [intOf]; omega
    · have he : b.dims.take k = b.dims := List.take_of_length_le (by have := HN.out; omega)
      rw [he] at hs1
      go_wp2
      go_ret
      exact ⟨ret_b (by rw [HK.out, dims_yes (fun j hj => HNO.out j hj (by have := HN.out; omega)) hs1]), hbw⟩
theorem valid_any (b : Bar) (A : Option Addr) (n c : Nat) (B : Nat) (w : World) (hB : B ≤ w.heap.size) (hA : BarAt w B A n b) :
    Calls Tryz.prog 215 #[barV b A n c] w fun e w' => e = .returned (.bool (S.bar b)) ∧ Below w.heap.size w w' := by
  by_cases g0 : S.dimsErr b.code = 0
  · cases g1 : S.isName b.mark
    · exact valid_no1 b A n c w hA.len hA.mark g0 g1
    · cases g2 : S.size b.size
      · exact valid_no2 b A n c w hA.len hA.mark g0 g1 g2
      · by_cases g3 : 1 ≤ b.count
        · by_cases g4 : b.count ≤ 1000
          · cases g5 : ((n : Int) == S.dimsOf b.code)
            · exact valid_no5 b A n c w hA.len hA.mark g0 g1 g2 g3 g4 g5
            · refine valid_in b A n c B w hB hA ?_
              have h0 := dimsErr_zero g0
              unfold S.barHead
              rw [hA.len, h0, g1, g2, g5]
              simp [g3, g4]
          · exact valid_no4 b A n c w hA.len hA.mark g0 g1 g2 g3 (by omega)
        · exact valid_no3 b A n c w hA.len hA.mark g0 g1 g2 (by omega)
  · exact valid_no0 b A n c w hA.len hA.mark g0
end Go.Proofs.YtffkmgjmlahfpaaGreat
set_option linter.unusedVariables false
set_option linter.unusedSimpArgs false
namespace Go.Proofs.YtffkmgjmlahfpaaGreat
open Go.RowKit
theorem elemInt : Elem Tryz.prog 58 3 (.int .i64 0) 1 8 := ⟨Tryz.underlying58, by kernel_rfl, rfl, by decide⟩
/-- The lengths of the legs of a bar. -/
def S.legLens (b : Bar) : List Int := (S.legsOf b.code).map fun l => b.dims.getD l.1 0
/-- A call hands back a slice of its own, and an error. -/
def GivesRow (E size : Nat) (n : Nat) (xs : List Value) (err : Int) (w : World) (e : Ending) (w' : World) : Prop :=
  ∃ A c, e = .returned (.tuple #[.slice A n c, .int .i64 err]) ∧ w'.ownsRow w.heap.size E size (.slice A n c) n xs ∧ Below w.heap.size w w'
theorem bar_head {b : Bar} (h : S.bar b = true) : (b.dims.length : Int) = S.dimsOf b.code := by
  simp only [S.bar, S.barHead, Bool.and_eq_true, beq_iff_eq] at h
  exact h.1.2
end Go.Proofs.YtffkmgjmlahfpaaGreat
set_option linter.unusedVariables false
set_option linter.unusedSimpArgs false
namespace Go.Proofs.YtffkmgjmlahfpaaGreat
open Go.RowKit
theorem elemPt : Elem Tryz.prog 221 87 (.agg #[.int .i64 0, .int .i64 0, .int .i64 0]) 3 24 := ⟨Tryz.underlying221, by kernel_rfl, rfl, by decide⟩
namespace S
/-- A step along an axis, by the letter of the way. -/
def step (p : Pt) (way : Nat) (n : Int) : Pt :=
  if way = 120 then ⟨p.x + n, p.y, p.z⟩ else if way = 88 then ⟨p.x - n, p.y, p.z⟩ else if way = 121 then ⟨p.x, p.y + n, p.z⟩ else if way = 89 then ⟨p.x, p.y - n, p.z⟩ else if way = 122 then ⟨p.x, p.y, p.z + n⟩ else p
/-- The point behind k legs. -/
def ptAt (b : Bar) : Nat → Pt
  | 0 => ⟨0, 0, 0⟩
  | k + 1 => match (legsOf b.code)[k]? with
    | some l => step (ptAt b k) l.2 (b.dims.getD l.1 0)
    | none => ptAt b k
def pathTo (b : Bar) (m : Nat) : List Pt := (List.range m).map (ptAt b)
def path (b : Bar) : List Pt := pathTo b ((legsOf b.code).length + 1)
end S
theorem pathTo_snoc (b : Bar) (m : Nat) : S.pathTo b (m + 1) = S.pathTo b m ++ [S.ptAt b m] := by simp [S.pathTo, List.range_succ]
theorem ptAt_succ (b : Bar) {k : Nat} (hk : k < (S.legsOf b.code).length) (hj : (S.legsOf b.code)[k].1 < b.dims.length) :
    S.ptAt b (k + 1) = S.step (S.ptAt b k) (S.legsOf b.code)[k].2 b.dims[(S.legsOf b.code)[k].1] := by
  simp [S.ptAt, List.getElem?_eq_getElem hk, List.getD_eq_getElem?_getD, List.getElem?_eq_getElem hj]
theorem legs_way (code : Int) {k : Nat} (hk : k < (S.legsOf code).length) : (S.legsOf code)[k].2 = 120 ∨ (S.legsOf code)[k].2 = 88 ∨ (S.legsOf code)[k].2 = 121 ∨ (S.legsOf code)[k].2 = 89 ∨ (S.legsOf code)[k].2 = 122 := by
  have h : ∀ x, x ∈ S.legsOf code → x.2 = 120 ∨ x.2 = 88 ∨ x.2 = 121 ∨ x.2 = 89 ∨ x.2 = 122 := by
    unfold S.legsOf
    repeat' (split <;> try decide)
  exact h _ (List.getElem_mem hk)
/-- All coordinates lie within R. -/
def Within (p : Pt) (R : Int) : Prop := -R ≤ p.x ∧ p.x ≤ R ∧ -R ≤ p.y ∧ p.y ≤ R ∧ -R ≤ p.z ∧ p.z ≤ R
theorem dim_bd {l : List Int} (h : S.dimsOk l = true) {j : Nat} (hj : j < l.length) : 1 ≤ l[j] ∧ l[j] ≤ 262144 := by
  obtain ⟨h1, h2⟩ := dimsOk_iff.1 h
  have h3 := h1 _ (List.getElem_mem hj)
  have h4 := sum_take_le h1 (j + 1)
  have h5 := sum_nonneg (l := l.take j) (fun x hx => h1 x (List.mem_of_mem_take hx))
  rw [List.take_succ_eq_append_getElem hj, sum_snoc] at h4
  omega
theorem ptAt_bd (b : Bar) (h : S.dimsOk b.dims = true) (hd : ∀ k (hk : k < (S.legsOf b.code).length), (S.legsOf b.code)[k].1 < b.dims.length) : ∀ k, Within (S.ptAt b k) (262144 * (k : Int)) := by
  intro k
  induction k with
  | zero => simp [Within, S.ptAt]
  | succ k ih =>
    by_cases hk : k < (S.legsOf b.code).length
    · rw [ptAt_succ b hk (hd k hk)]
      have hb := dim_bd h (hd k hk)
      unfold Within at ih ⊢
      unfold S.step
      repeat' (split <;> try (simp only []; omega))
      all_goals omega
    · have : S.ptAt b (k + 1) = S.ptAt b k := by simp [S.ptAt, List.getElem?_eq_none (Nat.le_of_not_lt hk)]
      rw [this]
      unfold Within at ih ⊢
      omega
end Go.Proofs.YtffkmgjmlahfpaaGreat
set_option linter.unusedVariables false
set_option linter.unusedSimpArgs false
namespace Go.Proofs.YtffkmgjmlahfpaaGreat
namespace S
def axis (way : Nat) : Int := if way = 120 then 1 else if way = 88 then 1 else if way = 121 then 2 else if way = 89 then 2 else if way = 122 then 3 else 0
end S
theorem dimsOf_codes {c : Int} (h : S.dimsOf c ≠ 0) : c = 0 ∨ c = 11 ∨ c = 21 ∨ c = 26 ∨ c = 31 ∨ c = 41 ∨ c = 51 ∨ c = 98 := by
  unfold S.dimsOf at h
  repeat' (split at h <;> try omega)
theorem lst1 {α : Type} {l : List α} (h : l.length = 1) : ∃ a, l = [a] := by match l, h with | [a], _ => exact ⟨a, rfl⟩
theorem lst2 {α : Type} {l : List α} (h : l.length = 2) : ∃ a b, l = [a, b] := by match l, h with | [a, b], _ => exact ⟨a, b, rfl⟩
theorem lst3 {α : Type} {l : List α} (h : l.length = 3) : ∃ a b c, l = [a, b, c] := by match l, h with | [a, b, c], _ => exact ⟨a, b, c, rfl⟩
theorem lst5 {α : Type} {l : List α} (h : l.length = 5) : ∃ a b c d e, l = [a, b, c, d, e] := by match l, h with | [a, b, c, d, e], _ => exact ⟨a, b, c, d, e, rfl⟩
/-- The dimensions of a bar that is valid, by its code. -/
theorem bar_codes {b : Bar} (h : S.bar b = true) :
    (b.code = 0 ∧ ∃ a, b.dims = [a] ∧ 1 ≤ a ∧ a ≤ 262144) ∨ (b.code = 11 ∧ ∃ a c, b.dims = [a, c] ∧ 1 ≤ a ∧ 1 ≤ c ∧ a + c ≤ 262144) ∨
    ((b.code = 21 ∨ b.code = 26 ∨ b.code = 31 ∨ b.code = 51 ∨ b.code = 98) ∧ ∃ a c d, b.dims = [a, c, d] ∧ 1 ≤ a ∧ 1 ≤ c ∧ 1 ≤ d ∧ a + c + d ≤ 262144) ∨
    (b.code = 41 ∧ ∃ a c d e f, b.dims = [a, c, d, e, f] ∧ 1 ≤ a ∧ 1 ≤ c ∧ 1 ≤ d ∧ 1 ≤ e ∧ 1 ≤ f ∧ a + c + d + e + f ≤ 262144) := by
  have hl := bar_head h
  have h0 : S.dimsOf b.code ≠ 0 := by
    intro h1
    simp [S.bar, S.barHead, h1] at h
  have hd : S.dimsOk b.dims = true := by simp only [S.bar, Bool.and_eq_true] at h; exact h.2
  obtain ⟨h1, h2⟩ := dimsOk_iff.1 hd
  rcases dimsOf_codes h0 with c | c | c | c | c | c | c | c
  · rw [c, show S.dimsOf 0 = 1 from rfl] at hl
    obtain ⟨a, e⟩ := lst1 (show b.dims.length = 1 by omega)
    rw [e] at h1 h2
    have := h1 a (by simp)
    simp [S.sum] at h2
    exact .inl ⟨c, a, e, by omega, by omega⟩
  · rw [c, show S.dimsOf 11 = 2 from rfl] at hl
    obtain ⟨a, a2, e⟩ := lst2 (show b.dims.length = 2 by omega)
    rw [e] at h1 h2
    have g1 := h1 a (by simp)
    have g2 := h1 a2 (by simp)
    simp [S.sum] at h2
    exact .inr (.inl ⟨c, a, a2, e, by omega, by omega, by omega⟩)
  case' inr.inr.inr.inr.inr.inl =>
    rw [c, show S.dimsOf 41 = 5 from rfl] at hl
    obtain ⟨a, a2, a3, a4, a5, e⟩ := lst5 (show b.dims.length = 5 by omega)
    rw [e] at h1 h2
    have g1 := h1 a (by simp)
    have g2 := h1 a2 (by simp)
    have g3 := h1 a3 (by simp)
    have g4 := h1 a4 (by simp)
    have g5 := h1 a5 (by simp)
    simp [S.sum] at h2
    exact .inr (.inr (.inr ⟨c, a, a2, a3, a4, a5, e, by omega, by omega, by omega, by omega, by omega, by omega⟩))
  all_goals
    have hl3 : S.dimsOf b.code = 3 := by rw [c]; rfl
    obtain ⟨a, a2, a3, e⟩ := lst3 (show b.dims.length = 3 by omega)
    rw [e] at h1 h2
    have g1 := h1 a (by simp)
    have g2 := h1 a2 (by simp)
    have g3 := h1 a3 (by simp)
    simp [S.sum] at h2
    exact .inr (.inr (.inl ⟨by omega, a, a2, a3, e, by omega, by omega, by omega, by omega⟩))
theorem legs_sum {b : Bar} (h : S.bar b = true) : S.sum (S.legLens b) ≤ 524288 ∧ 1 ≤ (S.legsOf b.code).length := by
  rcases bar_codes h with ⟨c, a, e, h1, h2⟩ | ⟨c, a, a2, e, h1, h2, h3⟩ | ⟨c, a, a2, a3, e, h1, h2, h3, h4⟩ | ⟨c, a, a2, a3, a4, a5, e, h1, h2, h3, h4, h5, h6⟩
  · simp [S.legLens, c, e, S.legsOf, S.sum]; omega
  · simp [S.legLens, c, e, S.legsOf, S.sum]; omega
  · rcases c with c | c | c | c | c <;> (simp [S.legLens, c, e, S.legsOf, S.sum]; omega)
  · simp [S.legLens, c, e, S.legsOf, S.sum]; omega
theorem lens_pos {b : Bar} (h : S.bar b = true) : ∀ x, x ∈ S.legLens b → 1 ≤ x := by
  intro x hx
  have hd : S.dimsOk b.dims = true := by simp only [S.bar, Bool.and_eq_true] at h; exact h.2
  have hl := bar_head h
  simp only [S.legLens, List.mem_map] at hx
  obtain ⟨l, hm, rfl⟩ := hx
  obtain ⟨j, hj, rfl⟩ := List.mem_iff_getElem.1 hm
  have h1 := legs_dim b.code hj
  have h2 : (S.legsOf b.code)[j].1 < b.dims.length := by omega
  rw [List.getD_eq_getElem?_getD, List.getElem?_eq_getElem h2]
  exact (dim_bd hd h2).1
end Go.Proofs.YtffkmgjmlahfpaaGreat
set_option linter.unusedVariables false
set_option linter.unusedSimpArgs false
namespace Go.Proofs.YtffkmgjmlahfpaaGreat
open Go.RowKit
namespace S
def isAxis (n : Int) : Bool := (n != 0) && decide (-3 ≤ n) && decide (n ≤ 3)
def turn (x y : Int) : Bool := isAxis x && isAxis y && (x != y) && (x != -y)
def one (n k : Int) : Int := if n = k then 1 else if n = -k then -1 else 0
def unit (n : Int) : Pt := ⟨one n 1, one n 2, one n 3⟩
def cross (a b : Pt) : Pt := ⟨a.y * b.z - a.z * b.y, a.z * b.x - a.x * b.z, a.x * b.y - a.y * b.x⟩
def image (x y : Int) (p : Pt) : Pt :=
  let a := unit x; let b := unit y; let c := cross (unit x) (unit y)
  ⟨a.x * p.x + b.x * p.y + c.x * p.z, a.y * p.x + b.y * p.y + c.y * p.z, a.z * p.x + b.z * p.y + c.z * p.z⟩
def plus (p s : Pt) (k : Int) : Pt := ⟨p.x + k * s.x, p.y + k * s.y, p.z + k * s.z⟩
def placed (x y : Int) (at_ p : Pt) : Pt := let q := image x y p; ⟨at_.x + q.x, at_.y + q.y, at_.z + q.z⟩
def near1 (p : Pt) (m : Int) : Bool := decide (-m ≤ p.x) && decide (p.x ≤ m) && decide (-m ≤ p.y) && decide (p.y ≤ m) && decide (-m ≤ p.z) && decide (p.z ≤ m)
end S
abbrev ptV (p : Pt) : Value := .agg #[.int .i64 p.x, .int .i64 p.y, .int .i64 p.z]
abbrev turnV (x y : Int) : Value := .agg #[.int .i64 x, .int .i64 y]
theorem axis_any (n : Int) (w : World) : Calls Tryz.prog 271 #[.int .i64 n] w fun e w' => e = .returned (.bool (S.isAxis n)) ∧ w = w' := by
  have H := Lib.hid (show S.isAxis n = ((n != 0) && decide (-3 ≤ n) && decide (n ≤ 3)) from rfl)
  generalize hu : (n != 0) = u at H
  have hu' := Lib.hid hu
  go_enter Tryz.func271, Tryz.ntmps271
  go_wp2
  all_goals (go_ret; refine ⟨ret_b ?_, rfl⟩; rw [H.out]; have := hu'.out; simp_all; try omega)
theorem fvalid_any (x y : Int) (w : World) : Calls Tryz.prog 242 #[turnV x y] w fun e w' => e = .returned (.bool (S.turn x y)) ∧ Below w.heap.size w w' := by
  have H := Lib.hid (show S.turn x y = (S.isAxis x && S.isAxis y && (x != y) && (x != -y)) from rfl)
  have HX := Lib.hid (fun w => axis_any x w)
  have HY := Lib.hid (fun w => axis_any y w)
  unfold turnV
  by_cases hb : S.isAxis y = true
  · have hy : -3 ≤ y ∧ y ≤ 3 := by
      simp only [S.isAxis, Bool.and_eq_true, decide_eq_true_eq] at hb
      omega
    rw [hb] at HY H
    clear hb
    generalize S.isAxis x = a at *
    cases a
    all_goals (
      go_enter Tryz.func242, Tryz.ntmps242
      go_wp2_with (first
        | (go_at_call 271; (with_reducible refine (HX.out _).mono ?_); rintro e w' ⟨rfl, rfl⟩)
        | (go_at_call 271; (with_reducible refine (HY.out _).mono ?_); rintro e w' ⟨rfl, rfl⟩))
      all_goals (go_ret; refine ⟨ret_b ?_, (by repeat (first | exact Below.refl _ _ | assumption | refine ba_alloc ?_ _ | refine ba_drew ?_ | refine ba_drewN ?_ _ | refine ba_via (by assumption) ?_ | (refine ba_set ?_ ?_ _; rotate_left; (first | omega | (simp; omega) | simp))))⟩; rw [H.out]; simp_all))
  · have hb' : S.isAxis y = false := by simpa using hb
    rw [hb'] at HY H
    clear hb hb'
    generalize S.isAxis x = a at *
    cases a
    all_goals (
      go_enter Tryz.func242, Tryz.ntmps242
      go_wp2_with (first
        | (go_at_call 271; (with_reducible refine (HX.out _).mono ?_); rintro e w' ⟨rfl, rfl⟩)
        | (go_at_call 271; (with_reducible refine (HY.out _).mono ?_); rintro e w' ⟨rfl, rfl⟩))
      all_goals (go_ret; refine ⟨ret_b ?_, (by repeat (first | exact Below.refl _ _ | assumption | refine ba_alloc ?_ _ | refine ba_drew ?_ | refine ba_drewN ?_ _ | refine ba_via (by assumption) ?_ | (refine ba_set ?_ ?_ _; rotate_left; (first | omega | (simp; omega) | simp))))⟩; rw [H.out]; simp_all))
theorem unit_any (n : Int) (h : S.isAxis n = true) (w : World) : Calls Tryz.prog 278 #[.int .i64 n] w fun e w' => e = .returned (ptV (S.unit n)) ∧ Below w.heap.size w w' := by
  have h' : n = 1 ∨ n = 2 ∨ n = 3 ∨ n = -1 ∨ n = -2 ∨ n = -3 := by
    simp only [S.isAxis, Bool.and_eq_true, decide_eq_true_eq, bne_iff_ne] at h
    omega
  have u1 : S.unit 1 = ⟨1, 0, 0⟩ := rfl
  have u2 : S.unit 2 = ⟨0, 1, 0⟩ := rfl
  have u3 : S.unit 3 = ⟨0, 0, 1⟩ := rfl
  have u4 : S.unit (-1) = ⟨-1, 0, 0⟩ := rfl
  have u5 : S.unit (-2) = ⟨0, -1, 0⟩ := rfl
  have u6 : S.unit (-3) = ⟨0, 0, -1⟩ := rfl
  rcases h' with rfl | rfl | rfl | rfl | rfl | rfl
  all_goals (
    go_enter Tryz.func278, Tryz.ntmps278
    go_wp2
    (first | rw [u1] | rw [u2] | rw [u3] | rw [u4] | rw [u5] | rw [u6])
    (first
      | exact bodyPost_ret (v := ptV ⟨1, 0, 0⟩) (by simp [results, Tryz.results278, go_sem, *]) rfl ⟨rfl, (by repeat (first | exact Below.refl _ _ | assumption | refine ba_alloc ?_ _ | refine ba_drew ?_ | refine ba_drewN ?_ _ | refine ba_via (by assumption) ?_ | (refine ba_set ?_ ?_ _; rotate_left; (first | omega | (simp; omega) | simp))))⟩
      | exact bodyPost_ret (v := ptV ⟨0, 1, 0⟩) (by simp [results, Tryz.results278, go_sem, *]) rfl ⟨rfl, (by repeat (first | exact Below.refl _ _ | assumption | refine ba_alloc ?_ _ | refine ba_drew ?_ | refine ba_drewN ?_ _ | refine ba_via (by assumption) ?_ | (refine ba_set ?_ ?_ _; rotate_left; (first | omega | (simp; omega) | simp))))⟩
      | exact bodyPost_ret (v := ptV ⟨0, 0, 1⟩) (by simp [results, Tryz.results278, go_sem, *]) rfl ⟨rfl, (by repeat (first | exact Below.refl _ _ | assumption | refine ba_alloc ?_ _ | refine ba_drew ?_ | refine ba_drewN ?_ _ | refine ba_via (by assumption) ?_ | (refine ba_set ?_ ?_ _; rotate_left; (first | omega | (simp; omega) | simp))))⟩
      | exact bodyPost_ret (v := ptV ⟨-1, 0, 0⟩) (by simp [results, Tryz.results278, go_sem, *]) rfl ⟨rfl, (by repeat (first | exact Below.refl _ _ | assumption | refine ba_alloc ?_ _ | refine ba_drew ?_ | refine ba_drewN ?_ _ | refine ba_via (by assumption) ?_ | (refine ba_set ?_ ?_ _; rotate_left; (first | omega | (simp; omega) | simp))))⟩
      | exact bodyPost_ret (v := ptV ⟨0, -1, 0⟩) (by simp [results, Tryz.results278, go_sem, *]) rfl ⟨rfl, (by repeat (first | exact Below.refl _ _ | assumption | refine ba_alloc ?_ _ | refine ba_drew ?_ | refine ba_drewN ?_ _ | refine ba_via (by assumption) ?_ | (refine ba_set ?_ ?_ _; rotate_left; (first | omega | (simp; omega) | simp))))⟩
      | exact bodyPost_ret (v := ptV ⟨0, 0, -1⟩) (by simp [results, Tryz.results278, go_sem, *]) rfl ⟨rfl, (by repeat (first | exact Below.refl _ _ | assumption | refine ba_alloc ?_ _ | refine ba_drew ?_ | refine ba_drewN ?_ _ | refine ba_via (by assumption) ?_ | (refine ba_set ?_ ?_ _; rotate_left; (first | omega | (simp; omega) | simp))))⟩))
theorem cross_any (a b : Pt) (ha : S.near1 a 1 = true) (hb : S.near1 b 1 = true) (w : World) : Calls Tryz.prog 279 #[ptV a, ptV b] w fun e w' => e = .returned (ptV (S.cross a b)) ∧ Below w.heap.size w w' := by
  simp only [S.near1, Bool.and_eq_true, decide_eq_true_eq] at ha hb
  have hm : ∀ u v : Int, -1 ≤ u ∧ u ≤ 1 → -1 ≤ v ∧ v ≤ 1 → -1 ≤ u * v ∧ u * v ≤ 1 := fun u v hu hv => by
    have h1 : u = -1 ∨ u = 0 ∨ u = 1 := by omega
    rcases h1 with rfl | rfl | rfl <;> omega
  have p0 := hm a.y b.z (by omega) (by omega)
  have p1 := hm a.z b.y (by omega) (by omega)
  have p2 := hm a.z b.x (by omega) (by omega)
  have p3 := hm a.x b.z (by omega) (by omega)
  have p4 := hm a.x b.y (by omega) (by omega)
  have p5 := hm a.y b.x (by omega) (by omega)
  clear hm
  have x0 : (S.cross a b).x = a.y * b.z - a.z * b.y := rfl
  have x1 : (S.cross a b).y = a.z * b.x - a.x * b.z := rfl
  have x2 : (S.cross a b).z = a.x * b.y - a.y * b.x := rfl
  unfold ptV
  go_enter Tryz.func279, Tryz.ntmps279
  go_wp2
  exact bodyPost_ret (v := .agg #[.int .i64 (S.cross a b).x, .int .i64 (S.cross a b).y, .int .i64 (S.cross a b).z]) (by simp [results, Tryz.results279, go_sem, *]) rfl ⟨rfl, (by repeat (first | exact Below.refl _ _ | assumption | refine ba_alloc ?_ _ | refine ba_drew ?_ | refine ba_drewN ?_ _ | refine ba_via (by assumption) ?_ | (refine ba_set ?_ ?_ _; rotate_left; (first | omega | (simp; omega) | simp))))⟩
end Go.Proofs.YtffkmgjmlahfpaaGreat
set_option linter.unusedVariables false
set_option linter.unusedSimpArgs false
namespace Go.Proofs.YtffkmgjmlahfpaaGreat
open Go.RowKit
theorem BarAt.at_ {w w' : World} {B : Nat} {A : Option Addr} {n : Nat} {b : Bar} (h : BarAt w B A n b) (hB : B ≤ w.heap.size) (hb : Below w.heap.size w w') : BarAt w' B A n b := h.below (hb.mono hB)
theorem Cells.pts {w : World} {B bb o : Nat} {l : List Pt} (h : Cells w B (some ⟨bb, o, none⟩) (l.flatMap ptC)) {k : Nat} {p : Pt} (hk : l[k]? = some p) :
    w.cell? ⟨bb, o + k * 3, none⟩ = some (.int .i64 p.x) ∧ w.cell? ⟨bb, o + k * 3 + 1, none⟩ = some (.int .i64 p.y) ∧ w.cell? ⟨bb, o + k * 3 + 2, none⟩ = some (.int .i64 p.z) := by
  obtain ⟨hk', rfl⟩ := List.getElem?_eq_some_iff.1 hk
  exact ⟨h.row0 ptC_len hk' rfl, h.rowj ptC_len hk' 1 rfl, h.rowj ptC_len hk' 2 rfl⟩
end Go.Proofs.YtffkmgjmlahfpaaGreat
