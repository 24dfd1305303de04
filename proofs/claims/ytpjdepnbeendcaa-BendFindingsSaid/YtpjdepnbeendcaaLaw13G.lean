/- The walk of BendFindings. -/
import Derived.Test.YtpjdepnbeendcaaFindA
import Derived.Test.YtpjdepnbeendcaaLaw13B
set_option linter.unusedVariables false
set_option linter.unusedSimpArgs false
namespace Go.Proofs.Ytpjdepnbeendcaa
open Go.RowKit
/-- Whether one of the inner legs up to k is too short. -/
def S.inn (R : Int) (l : List Int) (k : Nat) : Bool := ((l.drop 1).take k).any fun x => decide (x < 2 * R)
theorem inn_zero (R : Int) (l : List Int) : S.inn R l 0 = false := by simp [S.inn]
theorem inn_succ (R : Int) (l : List Int) {k : Nat} {q : Int} (h : l[k + 1]? = some q) : S.inn R l (k + 1) = (S.inn R l k || decide (q < 2 * R)) := by
  have hd : (l.drop 1)[k]? = some q := by rw [List.getElem?_drop, Nat.add_comm]; exact h
  obtain ⟨hk, e⟩ := List.getElem?_eq_some_iff.1 hd
  unfold S.inn
  rw [List.take_succ_eq_append_getElem hk, List.any_append, e]
  simp only [List.any_cons, List.any_nil, Bool.or_false]
theorem inn_iff (R : Int) (l : List Int) (k : Nat) : S.inn R l k = true ↔ ∃ (j : Nat) (n : Int), j < k ∧ l[j + 1]? = some n ∧ n < 2 * R := by
  unfold S.inn
  rw [List.any_eq_true]
  constructor
  · rintro ⟨x, hx, he⟩
    obtain ⟨j, hj, rfl⟩ := List.mem_iff_getElem.1 hx
    have h1 : j < k := by simp at hj; omega
    have := List.getElem?_eq_getElem hj
    rw [List.getElem?_take_of_lt h1, List.getElem?_drop, Nat.add_comm] at this
    exact ⟨j, _, h1, this, by simpa using he⟩
  · rintro ⟨j, n, h1, h2, h3⟩
    refine ⟨n, ?_, by simpa using h3⟩
    refine List.mem_of_getElem? (i := j) ?_
    rw [List.getElem?_take_of_lt h1, List.getElem?_drop, Nat.add_comm]
    exact h2
theorem has_inner (b : Bar) (h : ¬(S.legsOf b.code).length = 1) (h0 : 1 ≤ (S.legsOf b.code).length) : anyb (S.finds b) (S.isK 2) = S.inn (S.radius b.size) (S.legLens b) ((S.legsOf b.code).length - 2) := by
  rw [Bool.eq_iff_iff, finds_has b h 2 (by omega), inn_iff]
  constructor
  · rintro ⟨j, n, h1, h2, h3⟩
    obtain ⟨h4, h5⟩ := kind_two.1 h3
    obtain ⟨i, rfl⟩ : ∃ i, j = i + 1 := ⟨j - 1, by omega⟩
    exact ⟨i, n, by omega, h2, h5⟩
  · rintro ⟨j, n, h1, h2, h3⟩
    exact ⟨j + 1, n, by omega, h2, kind_two.2 ⟨by omega, h3⟩⟩
theorem has_end (b : Bar) (h : ¬(S.legsOf b.code).length = 1) (h0 : 1 ≤ (S.legsOf b.code).length) {l0 lz : Int} (e0 : (S.legLens b)[0]? = some l0) (ez : (S.legLens b)[(S.legsOf b.code).length - 1]? = some lz) :
    anyb (S.finds b) (S.isK 1) = decide ((if lz < l0 then lz else l0) < S.radius b.size + 5 * b.size) := by
  rw [Bool.eq_iff_iff, finds_has b h 1 (by omega), decide_eq_true_eq]
  constructor
  · rintro ⟨j, n, h1, h2, h3⟩
    obtain ⟨h4, h5⟩ := kind_one.1 h3
    rcases h4 with rfl | h4
    · rw [e0] at h2
      injection h2 with h2
      split <;> omega
    · have : j = (S.legsOf b.code).length - 1 := by omega
      subst this
      rw [ez] at h2
      injection h2 with h2
      split <;> omega
  · intro h1
    split at h1
    · exact ⟨_, lz, by omega, ez, kind_one.2 ⟨.inr (by omega), h1⟩⟩
    · exact ⟨0, l0, by omega, e0, kind_one.2 ⟨.inl rfl, h1⟩⟩
set_option maxRecDepth 100000 in
theorem findings_no (b : Bar) (A : Option Addr) (n c : Nat) (B : Nat) (w : World) (hB : B ≤ w.heap.size) (hA : BarAt w B A n b) (hr : S.right b = false) :
    Calls Try.prog 16 #[barV b A n c] w fun e w' => e = .returned (.bool true) ∧ Below w.heap.size w w' := by
  have HA := Lib.hid hA
  clear hA
  unfold barV
  go_enter Try.func16, Try.ntmps16
  go_wp2_with (first
    | (go_at_call 33; (with_reducible refine (awake13_any _).mono ?_); rintro e w1 ⟨rfl, hbw1⟩; obtain ⟨hcw1, hfw1⟩ := bcell hbw1; have hzw1_0 : w.heap.size < w1.heap.size := lt_via hbw1 (by first | omega | (simp; done) | (simp; omega)))
    | (go_at_call 39; (with_reducible refine (right_any b A n c B _ (le_via hB (by repeat (first | exact Below.refl _ _ | assumption | refine ba_alloc ?_ _ | refine ba_drew ?_ | refine ba_drewN ?_ _ | refine ba_via (by assumption) ?_ | (refine ba_set ?_ ?_ _; rotate_left; (first | omega | (simp; omega) | simp))))) (BarAt.at_ HA.out hB (by repeat (first | exact Below.refl _ _ | assumption | refine ba_alloc ?_ _ | refine ba_drew ?_ | refine ba_drewN ?_ _ | refine ba_via (by assumption) ?_ | (refine ba_set ?_ ?_ _; rotate_left; (first | omega | (simp; omega) | simp)))))).mono ?_); rintro e w2 ⟨rfl, hbw2⟩; obtain ⟨hcw2, hfw2⟩ := bcell hbw2; have hzw2_0 : w.heap.size < w2.heap.size := lt_via hbw2 (by first | omega | (simp; done) | (simp; omega))))
  go_ret
  exact ⟨rfl, (by repeat (first | exact Below.refl _ _ | assumption | refine ba_alloc ?_ _ | refine ba_drew ?_ | refine ba_drewN ?_ _ | refine ba_via (by assumption) ?_ | (refine ba_set ?_ ?_ _; rotate_left; (first | omega | (simp; omega) | simp))))⟩
set_option maxRecDepth 100000 in
set_option maxHeartbeats 4000000 in
theorem findings_one (b : Bar) (A : Option Addr) (n c : Nat) (B : Nat) (w : World) (hB : B ≤ w.heap.size) (hA : BarAt w B A n b) (hr : S.right b = true) (h1 : (S.legsOf b.code).length = 1) :
    Calls Try.prog 16 #[barV b A n c] w fun e w' => e = .returned (.bool true) ∧ Below w.heap.size w w' := by
  have h := right_bar hr
  have HA := Lib.hid hA
  have HC := Lib.hid (fun (B : Nat) (w : World) (hB : B ≤ w.heap.size) (hA : BarAt w B A n b) => check_one b A n c B w hB hA h h1)
  have HF := Lib.hid (show S.finds b = [] by simp [S.finds, h1])
  have hbn : S.bends b = 0 := by simp [S.bends, h1]
  have HN := Lib.hid (fun (B : Nat) (w : World) (hB : B ≤ w.heap.size) (hA : BarAt w B A n b) => hbn ▸ bends_yes b A n c B w hB hA h)
  have HR := Lib.hid (fun w => sbend_yes b.size w (bar_size h))
  rw [HF.out] at HC
  clear hA hbn
  unfold barV
  go_enter Try.func16, Try.ntmps16
  go_wp2_with (first
    | (go_at_call 33; (with_reducible refine (awake13_any _).mono ?_); rintro e w1 ⟨rfl, hbw1⟩; obtain ⟨hcw1, hfw1⟩ := bcell hbw1; have hzw1_0 : w.heap.size < w1.heap.size := lt_via hbw1 (by first | omega | (simp; done) | (simp; omega)))
    | (go_at_call 39; (with_reducible refine (right_any b A n c B _ (le_via hB (by repeat (first | exact Below.refl _ _ | assumption | refine ba_alloc ?_ _ | refine ba_drew ?_ | refine ba_drewN ?_ _ | refine ba_via (by assumption) ?_ | (refine ba_set ?_ ?_ _; rotate_left; (first | omega | (simp; omega) | simp))))) (BarAt.at_ HA.out hB (by repeat (first | exact Below.refl _ _ | assumption | refine ba_alloc ?_ _ | refine ba_drew ?_ | refine ba_drewN ?_ _ | refine ba_via (by assumption) ?_ | (refine ba_set ?_ ?_ _; rotate_left; (first | omega | (simp; omega) | simp)))))).mono ?_); rintro e w2 ⟨rfl, hbw2⟩; obtain ⟨hcw2, hfw2⟩ := bcell hbw2; have hzw2_0 : w.heap.size < w2.heap.size := lt_via hbw2 (by first | omega | (simp; done) | (simp; omega)))
    | (go_at_call 57; (with_reducible refine (HC.out B _ (le_via hB (by repeat (first | exact Below.refl _ _ | assumption | refine ba_alloc ?_ _ | refine ba_drew ?_ | refine ba_drewN ?_ _ | refine ba_via (by assumption) ?_ | (refine ba_set ?_ ?_ _; rotate_left; (first | omega | (simp; omega) | simp))))) (BarAt.at_ HA.out hB (by repeat (first | exact Below.refl _ _ | assumption | refine ba_alloc ?_ _ | refine ba_drew ?_ | refine ba_drewN ?_ _ | refine ba_via (by assumption) ?_ | (refine ba_set ?_ ?_ _; rotate_left; (first | omega | (simp; omega) | simp)))))).mono ?_); rintro e w3 ⟨Aw3, cw3, rfl, how3, hbw3⟩; obtain ⟨hcw3, hfw3⟩ := bcell hbw3; have hzw3_0 : w.heap.size < w3.heap.size := lt_via hbw3 (by first | omega | (simp; done) | (simp; omega)))
    | (go_at_call 41; (with_reducible refine (HN.out B _ (le_via hB (by repeat (first | exact Below.refl _ _ | assumption | refine ba_alloc ?_ _ | refine ba_drew ?_ | refine ba_drewN ?_ _ | refine ba_via (by assumption) ?_ | (refine ba_set ?_ ?_ _; rotate_left; (first | omega | (simp; omega) | simp))))) (BarAt.at_ HA.out hB (by repeat (first | exact Below.refl _ _ | assumption | refine ba_alloc ?_ _ | refine ba_drew ?_ | refine ba_drewN ?_ _ | refine ba_via (by assumption) ?_ | (refine ba_set ?_ ?_ _; rotate_left; (first | omega | (simp; omega) | simp)))))).mono ?_); rintro e w4 ⟨rfl, hbw4⟩; obtain ⟨hcw4, hfw4⟩ := bcell hbw4; have hzw4_0 : w.heap.size < w4.heap.size := lt_via hbw4 (by first | omega | (simp; done) | (simp; omega)); have hyw4_0 : w3.heap.size < w4.heap.size := lt_via hbw4 (by first | omega | (simp; done) | (simp; omega)))
    | (go_at_call 40; (with_reducible refine (HR.out _).mono ?_); rintro e w5 ⟨rfl, hbw5⟩; obtain ⟨hcw5, hfw5⟩ := bcell hbw5; have hzw5_0 : w.heap.size < w5.heap.size := lt_via hbw5 (by first | omega | (simp; done) | (simp; omega)); have hyw5_0 : w3.heap.size < w5.heap.size := lt_via hbw5 (by first | omega | (simp; done) | (simp; omega)))
    | (go_at_call 19; (with_reducible refine (legs_yesL b A n c B _ 1 h1 (le_via hB (by repeat (first | exact Below.refl _ _ | assumption | refine ba_alloc ?_ _ | refine ba_drew ?_ | refine ba_drewN ?_ _ | refine ba_via (by assumption) ?_ | (refine ba_set ?_ ?_ _; rotate_left; (first | omega | (simp; omega) | simp))))) (BarAt.at_ HA.out hB (by repeat (first | exact Below.refl _ _ | assumption | refine ba_alloc ?_ _ | refine ba_drew ?_ | refine ba_drewN ?_ _ | refine ba_via (by assumption) ?_ | (refine ba_set ?_ ?_ _; rotate_left; (first | omega | (simp; omega) | simp))))) h).mono ?_); rintro e w6 ⟨Aw6, cw6, rfl, how6, hbw6⟩; obtain ⟨hcw6, hfw6⟩ := bcell hbw6; have hzw6_0 : w.heap.size < w6.heap.size := lt_via hbw6 (by first | omega | (simp; done) | (simp; omega)); have hyw6_0 : w3.heap.size < w6.heap.size := lt_via hbw6 (by first | omega | (simp; done) | (simp; omega))))
  go_ret
  exact ⟨rfl, (by repeat (first | exact Below.refl _ _ | assumption | refine ba_alloc ?_ _ | refine ba_drew ?_ | refine ba_drewN ?_ _ | refine ba_via (by assumption) ?_ | (refine ba_set ?_ ?_ _; rotate_left; (first | omega | (simp; omega) | simp))))⟩
set_option maxRecDepth 100000 in
set_option maxHeartbeats 8000000 in
theorem findings_many (b : Bar) (A : Option Addr) (n c : Nat) (B : Nat) (w : World) (hB : B ≤ w.heap.size) (hA : BarAt w B A n b) (hr : S.right b = true) (h1 : ¬(S.legsOf b.code).length = 1) :
    Calls Try.prog 16 #[barV b A n c] w fun e w' => e = .returned (.bool true) ∧ Below w.heap.size w w' := by
  have h := right_bar hr
  have HA := Lib.hid hA
  have hl1 := (legs_sum h).2
  have hl6 := legs_len b.code
  have hac := arc_bd (bar_size h)
  have hsz := size_bd (bar_size h)
  have hfl : (S.finds b).length ≤ (S.legsOf b.code).length := by
    unfold S.finds
    rw [if_neg h1]
    exact kindsTo_le _ _ _ _
  obtain ⟨l0, g1, e0, p1, p2, y1⟩ := lens_get b h (k := 0) (by omega)
  obtain ⟨lz, gz, ez, p3, p4, y2⟩ := lens_get b h (k := (S.legsOf b.code).length - 1) (by omega)
  have HE := Lib.hid (has_end b h1 hl1 e0 ez)
  have HI := Lib.hid (has_inner b h1 hl1)
  have HO := Lib.hid (finds_in b)
  have HLL := Lib.hid (show (S.legLens b).length = (S.legsOf b.code).length by simp [S.legLens])
  have HG := Lib.hid (show ∀ k, k < (S.legsOf b.code).length → ∃ n, (i64s (S.legLens b))[k]? = some (.int .i64 n) ∧ (S.legLens b)[k]? = some n ∧ 1 ≤ n ∧ n ≤ 262144 from fun k hk => by obtain ⟨n, a1, a2, a3, a4, _⟩ := lens_get b h hk; exact ⟨n, a1, a2, a3, a4⟩)
  have hbn : S.bends b = ((S.legsOf b.code).length : Int) - 1 := rfl
  have HC := Lib.hid (fun (B : Nat) (w : World) (hB : B ≤ w.heap.size) (hA : BarAt w B A n b) => check_yes b A n c B w hB hA h)
  have HN := Lib.hid (fun (B : Nat) (w : World) (hB : B ≤ w.heap.size) (hA : BarAt w B A n b) => hbn ▸ bends_yes b A n c B w hB hA h)
  have HR := Lib.hid (fun w => sbend_yes b.size w (bar_size h))
  clear hA hbn e0 ez y1 y2
  generalize S.radius b.size = R at *
  generalize S.finds b = Ks at *
  generalize hm : Ks.length = m at *
  have HM := Lib.hid hm
  clear hm
  generalize hL : (S.legsOf b.code).length = L at *
  have HL := Lib.hid hL
  clear hL
  have e1 : IntKind.i64.wrap ((L : Int) - 1) = ((L - 1 : Nat) : Int) := by rw [IntWalk.i64_in _ (by omega)]; omega
  have e1' : (L : Int) - 1 = ((L - 1 : Nat) : Int) := by omega
  have e2 : (((L - 1 : Nat) : Int) == 0) = false := by simp; omega
  have e3 : decide ((L : Int) < (m : Int)) = false := by simp; omega
  have e4 : ((L - 1 : Nat) : Int) < (L : Int) := by omega
  have e5 : (0 : Int) < (L : Int) := by omega
  have e6 : IntKind.i64.wrap (5 * b.size) = 5 * b.size := IntWalk.i64_in _ (by omega)
  have e7 : IntKind.i64.wrap (R + 5 * b.size) = R + 5 * b.size := IntWalk.i64_in _ (by omega)
  have e8 : IntKind.i64.wrap (2 * R) = 2 * R := IntWalk.i64_in _ (by omega)
  have hF60 := Try.call60
  rw [e1'] at HN
  unfold barV
  go_enter Try.func16, Try.ntmps16
  go_wp2_with (first
    | (go_at_call 33; (with_reducible refine (awake13_any _).mono ?_); rintro e w1 ⟨rfl, hbw1⟩; obtain ⟨hcw1, hfw1⟩ := bcell hbw1; have hzw1_0 : w.heap.size < w1.heap.size := lt_via hbw1 (by first | omega | (simp; done) | (simp; omega)))
    | (go_at_call 39; (with_reducible refine (right_any b A n c B _ (le_via hB (by repeat (first | exact Below.refl _ _ | assumption | refine ba_alloc ?_ _ | refine ba_drew ?_ | refine ba_drewN ?_ _ | refine ba_via (by assumption) ?_ | (refine ba_set ?_ ?_ _; rotate_left; (first | omega | (simp; omega) | simp))))) (BarAt.at_ HA.out hB (by repeat (first | exact Below.refl _ _ | assumption | refine ba_alloc ?_ _ | refine ba_drew ?_ | refine ba_drewN ?_ _ | refine ba_via (by assumption) ?_ | (refine ba_set ?_ ?_ _; rotate_left; (first | omega | (simp; omega) | simp)))))).mono ?_); rintro e w2 ⟨rfl, hbw2⟩; obtain ⟨hcw2, hfw2⟩ := bcell hbw2; have hzw2_0 : w.heap.size < w2.heap.size := lt_via hbw2 (by first | omega | (simp; done) | (simp; omega)))
    | ((go_at_call 57; (with_reducible refine (HC.out B _ (le_via hB (by repeat (first | exact Below.refl _ _ | assumption | refine ba_alloc ?_ _ | refine ba_drew ?_ | refine ba_drewN ?_ _ | refine ba_via (by assumption) ?_ | (refine ba_set ?_ ?_ _; rotate_left; (first | omega | (simp; omega) | simp))))) (BarAt.at_ HA.out hB (by repeat (first | exact Below.refl _ _ | assumption | refine ba_alloc ?_ _ | refine ba_drew ?_ | refine ba_drewN ?_ _ | refine ba_via (by assumption) ?_ | (refine ba_set ?_ ?_ _; rotate_left; (first | omega | (simp; omega) | simp)))))).mono ?_); rintro e w3 ⟨Aw3, cw3, rfl, how3, hbw3⟩; obtain ⟨hcw3, hfw3⟩ := bcell hbw3; have hzw3_0 : w.heap.size < w3.heap.size := lt_via hbw3 (by first | omega | (simp; done) | (simp; omega)))
       obtain ⟨hs3, _, _⟩ := own_cells how3 (by unfold maxLen; omega))
    | (go_at_call 41; (with_reducible refine (HN.out B _ (le_via hB (by repeat (first | exact Below.refl _ _ | assumption | refine ba_alloc ?_ _ | refine ba_drew ?_ | refine ba_drewN ?_ _ | refine ba_via (by assumption) ?_ | (refine ba_set ?_ ?_ _; rotate_left; (first | omega | (simp; omega) | simp))))) (BarAt.at_ HA.out hB (by repeat (first | exact Below.refl _ _ | assumption | refine ba_alloc ?_ _ | refine ba_drew ?_ | refine ba_drewN ?_ _ | refine ba_via (by assumption) ?_ | (refine ba_set ?_ ?_ _; rotate_left; (first | omega | (simp; omega) | simp)))))).mono ?_); rintro e w4 ⟨rfl, hbw4⟩; obtain ⟨hcw4, hfw4⟩ := bcell hbw4; have hzw4_0 : w.heap.size < w4.heap.size := lt_via hbw4 (by first | omega | (simp; done) | (simp; omega)); have hyw4_0 : w3.heap.size < w4.heap.size := lt_via hbw4 (by first | omega | (simp; done) | (simp; omega)))
    | (go_at_call 40; (with_reducible refine (HR.out _).mono ?_); rintro e w5 ⟨rfl, hbw5⟩; obtain ⟨hcw5, hfw5⟩ := bcell hbw5; have hzw5_0 : w.heap.size < w5.heap.size := lt_via hbw5 (by first | omega | (simp; done) | (simp; omega)); have hyw5_0 : w3.heap.size < w5.heap.size := lt_via hbw5 (by first | omega | (simp; done) | (simp; omega)))
    | ((go_at_call 19; (with_reducible refine (legs_yesL b A n c B _ L HL.out (le_via hB (by repeat (first | exact Below.refl _ _ | assumption | refine ba_alloc ?_ _ | refine ba_drew ?_ | refine ba_drewN ?_ _ | refine ba_via (by assumption) ?_ | (refine ba_set ?_ ?_ _; rotate_left; (first | omega | (simp; omega) | simp))))) (BarAt.at_ HA.out hB (by repeat (first | exact Below.refl _ _ | assumption | refine ba_alloc ?_ _ | refine ba_drew ?_ | refine ba_drewN ?_ _ | refine ba_via (by assumption) ?_ | (refine ba_set ?_ ?_ _; rotate_left; (first | omega | (simp; omega) | simp))))) h).mono ?_); rintro e w6 ⟨Aw6, cw6, rfl, how6, hbw6⟩; obtain ⟨hcw6, hfw6⟩ := bcell hbw6; have hzw6_0 : w.heap.size < w6.heap.size := lt_via hbw6 (by first | omega | (simp; done) | (simp; omega)); have hyw6_0 : w3.heap.size < w6.heap.size := lt_via hbw6 (by first | omega | (simp; done) | (simp; omega)))
       obtain ⟨hs6, _, _⟩ := own_cells how6
       obtain ⟨b6, o6, rfl, hb6, _⟩ := hs6.at_ (by simp; have := HLL.out; omega)
       have c0 := hs6.get g1
       have cz := hs6.get gz
       simp only [Nat.add_zero] at c0))
  have hSb : Blk w6 w3.heap.size 73 #[.slice Aw3 m cw3] := (((Blk.new w3 _ _).via hbw4).via hbw5).via hbw6
  have hBb : Blk w6 w.heap.size 24 #[.string b.mark, .int .i64 b.size, .int .i64 b.count, .int .i64 b.code, .slice A n c] := (((((((Blk.new w _ _).via hbw1).via hbw2).via hbw3).alloc _).via hbw4).via hbw5).via hbw6
  have hb36 : Below w3.heap.size w3 w6 := (by repeat (first | exact Below.refl _ _ | assumption | refine ba_alloc ?_ _ | refine ba_drew ?_ | refine ba_drewN ?_ _ | refine ba_via (by assumption) ?_ | (refine ba_set ?_ ?_ _; rotate_left; (first | omega | (simp; omega) | simp))))
  have hw3 : w.heap.size ≤ w3.heap.size := ((by repeat (first | exact Below.refl _ _ | assumption | refine ba_alloc ?_ _ | refine ba_drew ?_ | refine ba_drewN ?_ _ | refine ba_via (by assumption) ?_ | (refine ba_set ?_ ?_ _; rotate_left; (first | omega | (simp; omega) | simp)))) : Below w.heap.size w w3).size
  have hf3 := hs3.below hb36
  have d0 := hBb.cell 0
  have d1 := hBb.cell 1
  have s0 := hSb.cell 0
  simp only [List.getElem?_toArray, List.getElem?_cons_zero, List.getElem?_cons_succ] at d0 d1 s0
  have hBl := hBb.lt
  have hSl := hSb.lt
  have hW6 : Below w.heap.size w w6 := (by repeat (first | exact Below.refl _ _ | assumption | refine ba_alloc ?_ _ | refine ba_drew ?_ | refine ba_drewN ?_ _ | refine ba_via (by assumption) ?_ | (refine ba_set ?_ ?_ _; rotate_left; (first | omega | (simp; omega) | simp))))
  clear hcw1 hfw1 hcw2 hfw2 hcw3 hfw3 hcw4 hfw4 hcw5 hfw5 hcw6 hfw6 how3 how6 hs3 hbw1 hbw2 hbw3 hbw4 hbw5 hbw6
  refine wp_region_grow (by kernel_rfl) (by kernel_rfl) ?_
  repeat (go_big_quiet_step (fail))
  all_goals (refine wpQuiet_nil ?_; intro wg hbwg; obtain ⟨hcwg, hfwg⟩ := bcell hbwg)
  have hgB : w.heap.size < wg.heap.size := lt_via hbwg hBl
  have hgS : w3.heap.size < wg.heap.size := lt_via hbwg hSl
  have hWg : Below w.heap.size w wg := ba_via hbwg hW6
  have hsg := hs6.below hbwg
  have hfg := hf3.below (hbwg.mono hb36.size)
  have hSg := hSb.via hbwg
  have hBg := hBb.via hbwg
  generalize hsE : decide ((if lz < l0 then lz else l0) < R + 5 * b.size) = sE at *
  clear hsE
  go_wp2
  all_goals (
    clear hcwg hfwg
    go_loop [12, 90] (fun v i => ∃ k : Nat, k ≤ L - 2 ∧ i = .int .i64 k ∧ v = .bool (S.inn R (S.legLens b) k)) (fun _ i => L - (intOf i).toNat)
    case atStart => exact ⟨0, Nat.zero_le _, rfl, by rw [inn_zero]⟩
    case round =>
      obtain ⟨k, hk, rfl, rfl⟩ := hrel
      by_cases hlt : k < L - 2
      · obtain ⟨q, a1, a2, a3, a4⟩ := HG.out (k + 1) (by have := HL.out; omega)
        have hck := hsg.get a1
        have HS := Lib.hid (inn_succ R (S.legLens b) a2)
        clear a1 a2
        generalize S.inn R (S.legLens b) k = t at *
        have hck2 : wg.cell? ⟨b6, o6 + 1 + k, none⟩ = some (.int .i64 q) := by rw [← hck]; congr 2; omega
        cases t
        all_goals (
          go_wp2
          go_round
          case rel => exact ⟨k + 1, by omega, by go_num, by rw [HS.out]; simp⟩
          case measure => simp [intOf]; omega)
      · have hek : k = L - 2 := by omega
        subst hek
        rw [← HI.out]
        have HK1 := Lib.hid (fun (x : Int) (W : World) (hb : Below wg.heap.size wg W) => hask_any b.mark x Ks Aw3 m cw3 w3.heap.size w3.heap.size W (Nat.le_trans (Nat.le_of_lt hgS) hb.size) HM.out (by omega) (hfg.below (hb.mono (Nat.le_of_lt hgS))) ((hb.cell (p := ⟨w3.heap.size, 0, none⟩) hgS).trans ((hSg.cell 0).trans rfl)) (Nat.lt_of_lt_of_le hgS hb.size))
        have H1 := Lib.hid (HK1.out 1)
        have H2 := Lib.hid (HK1.out 2)
        rw [HE.out] at H1
        have ho := HO.out
        have hsg0 : wg.cell? ⟨w3.heap.size, 0, none⟩ = some (.slice Aw3 m cw3) := (hSg.cell 0).trans rfl
        have hbg0 : wg.cell? ⟨w.heap.size, 0, none⟩ = some (.string b.mark) := (hBg.cell 0).trans rfl
        clear HK1 HE
        generalize anyb Ks (S.isK 2) = sI at *
        go_wp2_with (first
          | (go_at_call 60; (refine (H1.out _ (Below.refl _ _)).mono ?_); rintro e w7 ⟨rfl, hb7⟩; have s7 : w7.cell? ⟨w3.heap.size, 0, none⟩ = some (.slice Aw3 m cw3) := (hb7.cell (p := ⟨w3.heap.size, 0, none⟩) hgS).trans hsg0)
          | (go_at_call 60; (refine (H2.out _ hb7).mono ?_); rintro e w8 ⟨rfl, hb8⟩; have s8 : w8.cell? ⟨w3.heap.size, 0, none⟩ = some (.slice Aw3 m cw3) := (hb8.cell (p := ⟨w3.heap.size, 0, none⟩) (Nat.lt_of_lt_of_le hgS hb7.size)).trans s7))
        have hb78 : Below wg.heap.size wg w8 := hb7.trans (hb8.mono hb7.size)
        have hg8 : w.heap.size < w8.heap.size := Nat.lt_of_lt_of_le hgB hb78.size
        have hB8 : w8.cell? ⟨w.heap.size, 0, none⟩ = some (.string b.mark) := (hb78.cell (p := ⟨w.heap.size, 0, none⟩) hgB).trans hbg0
        have hf : AsksF b.mark w8 63 #[] #[.pointer (some ⟨w.heap.size, 0, none⟩)] S.outside := fun q w' hb =>
          outside_any b.mark q w.heap.size w' ((hb.cell (p := ⟨w.heap.size, 0, none⟩) hg8).trans hB8) (Nat.lt_of_lt_of_le hg8 hb.size)
        have HF8 := Lib.hid hf
        have hf8 := hfg.below (hb78.mono (Nat.le_of_lt hgS))
        have hz8 : w3.heap.size ≤ w8.heap.size := Nat.le_trans (Nat.le_of_lt hgS) hb78.size
        clear hf
        go_wp2_with (go_at_call 61; (refine (containsfF_any 63 #[] #[.pointer (some ⟨w.heap.size, 0, none⟩)] S.outside Aw3 m cw3 Ks b.mark w3.heap.size _ HM.out (by omega) hz8 hf8 Try.call63 HF8.out).mono ?_); rintro e w9 ⟨rfl, hb9⟩)
        go_ret
        exact ⟨rfl, ba_via hb9 (ba_via hb78 hWg)⟩)
theorem findings_walk (b : Bar) (A : Option Addr) (n c : Nat) (w : World) (hA : BarAt w w.heap.size A n b) :
    Calls Try.prog 16 #[barV b A n c] w fun e w' => e = .returned (.bool true) ∧ Below w.heap.size w w' := by
  cases h : S.right b
  · exact findings_no b A n c _ w (Nat.le_refl _) hA h
  · by_cases h1 : (S.legsOf b.code).length = 1
    · exact findings_one b A n c _ w (Nat.le_refl _) hA h h1
    · exact findings_many b A n c _ w (Nat.le_refl _) hA h h1
end Go.Proofs.Ytpjdepnbeendcaa
