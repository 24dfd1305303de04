/- Contracts: steel.Area and the reference's; (supply.rod).leg; cmp.Compare, slices.MinFunc over rods. The front of a list in memory. -/
import Derived.Test.YtffkmgjmlahfpaaGreatQO
import Derived.Test.YtffkmgjmlahfpaaGreatQA
set_option linter.unusedVariables false
set_option linter.unusedSimpArgs false
namespace Go.Proofs.YtffkmgjmlahfpaaGreat
open Go.RowKit
def S.steelArea (d : Int) : Int := (7854 * d * d + 50) / 100
/-- What a function value without arguments answers: v, and memory of its own at most. -/
def Tells (w : World) (F : Nat) (fst cap : Array Value) (v : Int) : Prop :=
  ∀ (w' : World), Below w.heap.size w w' → Calls Tryz.prog F (fst ++ cap) w' fun e w'' => e = .returned (.int .i64 v) ∧ Below w'.heap.size w' w''
theorem steel_sized (F : Nat) (fst cap : Array Value) (d v : Int) (w : World) (h : S.size d = true) (hF : ∀ args w, Sem.run Tryz.prog (callFunc F args) w = .ok (.enter F args) w) (hf : Tells w F fst cap v) :
    Calls Tryz.prog 99 #[.int .i64 d, .func (.func F) fst cap] w fun e w' => e = .returned (.tuple #[.int .i64 v, .int .i64 0]) ∧ Below w.heap.size w w' := by
  go_enter Tryz.func99, Tryz.ntmps99
  go_wp2_with (first
    | (go_at_call 160; (with_reducible refine (ssize_any d _).mono ?_); rintro e w1 ⟨rfl, hbw1⟩; obtain ⟨hcw1, hfw1⟩ := bcell hbw1)
    | (refine (hf _ hbw1).mono ?_; rintro e w2 ⟨rfl, hbw2⟩))
  go_ret2
  exact ⟨rfl, (by repeat (first | exact Below.refl _ _ | assumption | refine ba_alloc ?_ _ | refine ba_drew ?_ | refine ba_drewN ?_ _ | refine ba_via (by assumption) ?_ | (refine ba_set ?_ ?_ _; rotate_left; (first | omega | (simp; omega) | simp))))⟩
theorem sarea_any (d : Int) (w : World) (h : S.size d = true) :
    Calls Tryz.prog 101 #[.int .i64 d] w fun e w' => e = .returned (.int .i64 (S.steelArea d)) ∧ w = w' := by
  rcases size_cases h with rfl | rfl | rfl | rfl | rfl | rfl | rfl | rfl | rfl
  all_goals (
    go_enter Tryz.func101, Tryz.ntmps101
    go_wp2
    go_ret
    exact ⟨rfl, rfl⟩)
theorem sarea1_any (d : Int) (g : Nat) (w : World) (hc : w.cell? ⟨g, 0, none⟩ = some (.int .i64 d)) (h : S.size d = true) :
    Calls Tryz.prog 100 #[.pointer (some ⟨g, 0, none⟩)] w fun e w' => e = .returned (.int .i64 (S.steelArea d)) ∧ Below w.heap.size w w' := by
  go_enter Tryz.func100, Tryz.ntmps100
  go_wp2_with (go_at_call 101; (with_reducible refine (sarea_any d _ h).mono ?_); rintro e w' ⟨rfl, rfl⟩)
  go_ret
  exact ⟨rfl, Below.refl _ _⟩
theorem steelArea_any (d : Int) (w : World) (h : S.size d = true) :
    Calls Tryz.prog 46 #[.int .i64 d] w fun e w' => e = .returned (.tuple #[.int .i64 (S.steelArea d), .int .i64 0]) ∧ Below w.heap.size w w' := by
  have hf : Tells (w.alloc (.cells #[.int .i64 d] 3)) 100 #[] #[.pointer (some ⟨w.heap.size, 0, none⟩)] (S.steelArea d) := fun w' hb =>
    sarea1_any d w.heap.size w' ((hb.cell (p := ⟨w.heap.size, 0, none⟩) (by simp)).trans (by simp)) h
  go_enter Tryz.func46, Tryz.ntmps46
  go_wp2_with (go_at_call 99; (with_reducible refine (steel_sized _ _ _ d (S.steelArea d) _ h Tryz.call100 hf).mono ?_); rintro e w1 ⟨rfl, hbw1⟩; obtain ⟨hcw1, hfw1⟩ := bcell hbw1; have hzw1_0 : w.heap.size < w1.heap.size := lt_via hbw1 (by first | omega | (simp; done) | (simp; omega)))
  go_ret2
  exact ⟨rfl, (by repeat (first | exact Below.refl _ _ | assumption | refine ba_alloc ?_ _ | refine ba_drew ?_ | refine ba_drewN ?_ _ | refine ba_via (by assumption) ?_ | (refine ba_set ?_ ?_ _; rotate_left; (first | omega | (simp; omega) | simp))))⟩
/-- The main leg of a laid bar that has one. -/
abbrev rodV (r : Rod) : Value := .agg #[.string r.bar.b.mark, .int .i64 r.bar.b.size, .int .i64 r.bar.b.count, .int .i64 r.bar.b.code, .slice r.bar.A r.bar.n r.bar.c, .slice r.A r.legs.length r.c, .int .i64 r.main]
theorem rleg_any (r : Rod) (k : Nat) (b : Bx) (B : Nat) (w : World) (hB : B ≤ w.heap.size) (hk : r.legs[k]? = some b) (hm : r.main = k) (hs : Cells w B r.A (r.legs.flatMap boxC)) :
    Calls Tryz.prog 90 #[rodV r] w fun e w' => e = .returned (boxV b) ∧ Below w.heap.size w w' := by
  unfold rodV boxV
  rw [hm]
  clear hm
  obtain ⟨hkx, hkb⟩ := List.getElem?_eq_some_iff.1 hk
  obtain ⟨g, o, hA, hg, hx⟩ := hs.at_ (by rw [flat_len boxC 6 boxC_len]; omega)
  clear hx
  rw [hA] at hs ⊢
  obtain ⟨c0, c1, c2, c3, c4, c5⟩ := hs.boxes hk
  have hkl : (k : Int) < r.legs.length := by omega
  clear hs hk hkb hkx hA
  have hgl : g < w.heap.size := by omega
  have hgl1 : g < w.heap.size + 1 := by omega
  go_enter Tryz.func90, Tryz.ntmps90
  go_wp2
  exact bodyPost_ret (v := .agg #[.int .i64 b.lo.x, .int .i64 b.lo.y, .int .i64 b.lo.z, .int .i64 b.hi.x, .int .i64 b.hi.y, .int .i64 b.hi.z]) (by simp [results, Tryz.results90, go_sem, *]) rfl ⟨rfl, (by repeat (first | exact Below.refl _ _ | assumption | refine ba_alloc ?_ _ | refine ba_drew ?_ | refine ba_drewN ?_ _ | refine ba_via (by assumption) ?_ | (refine ba_set ?_ ?_ _; rotate_left; (first | omega | (simp; omega) | simp))))⟩
def cmpI (a b : Int) : Int := if a < b then -1 else if b < a then 1 else 0
theorem cmpI_neg (a b : Int) : decide (cmpI a b < 0) = decide (a < b) := by
  unfold cmpI
  split
  · rename_i h; simp [h]
  · rename_i h
    split <;> simp [h]
theorem isNaN_any (a : Int) (w : World) :
    Calls Tryz.prog 214 #[.int .i64 a] w fun e w' => e = .returned (.bool false) ∧ w = w' := by
  go_enter Tryz.func214, Tryz.ntmps214
  go_wp2
  go_ret
  exact ⟨rfl, rfl⟩
theorem cmp_any (a b : Int) (w : World) :
    Calls Tryz.prog 154 #[.int .i64 a, .int .i64 b] w fun e w' => e = .returned (.int .i64 (cmpI a b)) ∧ Below w.heap.size w w' := by
  have H := Lib.hid (show cmpI a b = (if a < b then -1 else if b < a then 1 else 0) from rfl)
  by_cases h1 : a < b
  · go_enter Tryz.func154, Tryz.ntmps154
    go_wp2_with (first | (go_at_call 214; (with_reducible refine (isNaN_any _ _).mono ?_); rintro e w' ⟨rfl, rfl⟩))
    go_ret
    exact ⟨ret_i (by rw [H.out, if_pos (by omega)]), Below.refl _ _⟩
  · by_cases h2 : b < a
    · go_enter Tryz.func154, Tryz.ntmps154
      go_wp2_with (first | (go_at_call 214; (with_reducible refine (isNaN_any _ _).mono ?_); rintro e w' ⟨rfl, rfl⟩))
      go_ret
      exact ⟨ret_i (by rw [H.out, if_neg (by omega), if_pos (by omega)]), Below.refl _ _⟩
    · go_enter Tryz.func154, Tryz.ntmps154
      go_wp2_with (first | (go_at_call 214; (with_reducible refine (isNaN_any _ _).mono ?_); rintro e w' ⟨rfl, rfl⟩))
      go_ret
      exact ⟨ret_i (by rw [H.out, if_neg (by omega), if_neg (by omega)]), Below.refl _ _⟩
end Go.Proofs.YtffkmgjmlahfpaaGreat
set_option linter.unusedVariables false
set_option linter.unusedSimpArgs false
namespace Go.Proofs.YtffkmgjmlahfpaaGreat
open Go.RowKit
theorem Cells.fore {w : World} {B : Nat} {A : Option Addr} {xs ys : List Value} (h : Cells w B A (xs ++ ys)) : Cells w B A xs := by
  rcases Nat.eq_zero_or_pos xs.length with h0 | h0
  · exact .inl (List.length_eq_zero_iff.1 h0)
  · obtain ⟨b, o, he, hb, hc⟩ := h.at_ (by simp; omega)
    exact .inr ⟨b, o, he, hb, fun j v hv => hc j v (by
      obtain ⟨hj, _⟩ := List.getElem?_eq_some_iff.1 hv
      rw [List.getElem?_append_left hj]; exact hv)⟩
theorem Cells.upto {α : Type} {w : World} {B : Nat} {A : Option Addr} {enc : α → List Value} {l : List α} (h : Cells w B A (l.flatMap enc)) (k : Nat) : Cells w B A ((l.take k).flatMap enc) := by
  rw [← List.take_append_drop k l, List.flatMap_append] at h
  exact h.fore
end Go.Proofs.YtffkmgjmlahfpaaGreat
