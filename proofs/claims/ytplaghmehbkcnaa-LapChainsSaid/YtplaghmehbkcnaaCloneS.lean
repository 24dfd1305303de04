/- Contracts: slices.Clone over spans. -/
import Derived.Test.YtplaghmehbkcnaaStag
import Derived.Test.YtplaghmehbkcnaaRow
import Derived.Lib.SliceRun
set_option linter.unusedVariables false
set_option linter.unusedSimpArgs false
namespace Go.Proofs.Ytplaghmehbkcnaa
open Go.RowKit
theorem Cells.fore {w : World} {B : Nat} {A : Option Addr} {xs ys : List Value} (h : Cells w B A (xs ++ ys)) : Cells w B A xs := by
  rcases Nat.eq_zero_or_pos xs.length with h0 | h0
  · exact .inl (List.length_eq_zero_iff.1 h0)
  · obtain ⟨b, o, he, hb, hc⟩ := h.at_ (by simp; omega)
    exact .inr ⟨b, o, he, hb, fun j v hv => hc j v (by
      obtain ⟨hj, _⟩ := List.getElem?_eq_some_iff.1 hv
      rw [List.getElem?_append_left hj]; exact hv)⟩
theorem Cells.upto {α : Type} {w : World} {B : Nat} {A : Option Addr} {enc : α → List Value} {l : List α} (h : Cells w B A (l.flatMap enc)) (k : Nat) : Cells w B A ((l.take k).flatMap enc) := by
  rw [← List.take_append_drop k l, List.flatMap_append] at h
  exact h.fore
theorem elemSp : Elem Try.prog 22 29 (.agg #[.int .i64 0, .int .i64 0]) 2 16 := ⟨Try.underlying22, by kernel_rfl, rfl, by decide⟩
/-- A call hands back a slice of spans of its own. -/
def GivesSp (n : Nat) (xs : List Sp) (w : World) (e : Ending) (w' : World) : Prop :=
  ∃ A c, e = .returned (.slice A n c) ∧ n ≤ c ∧ c ≤ maxLen ∧ w'.ownsRow w.heap.size 29 2 (.slice A n c) n (xs.flatMap spC) ∧ Below w.heap.size w w'
theorem clones_any (A : Option Addr) (n c : Nat) (l : List Sp) (B : Nat) (w : World) (hB : B ≤ w.heap.size) (hn : l.length = n) (h2 : n ≤ 1000000) (hx : Cells w B A (l.flatMap spC)) :
    Calls Try.prog 18 #[.slice A n c] w (GivesSp n l w) := by
  obtain ⟨i0, hi, hz0, hz1, hz2⟩ := info_parts elemSp.info
  have q22 : ∀ (w : World) (a : Option Addr) (n c n' c' : Nat), (binOp .eql 22 (.slice a n c) (.slice none n' c')).run Try.prog w = .ok (.bool a.isNone) w := fun w a n c n' c' => Lib.run_eql_slice_nil w _ _ a n c n' c' Try.underlying22
  have HX := Lib.hid hx
  have HN := Lib.hid hn
  cases A with
  | none =>
    have hl : l = [] := by
      rcases hx with h | ⟨b, o, h, _⟩
      · cases l with
        | nil => rfl
        | cons a l => simp at h
      · cases h
    subst hl
    obtain rfl : n = 0 := by simpa using hn.symm
    clear hx hn
    go_enter Try.func18, Try.ntmps18
    go_wp2
    go_ret
    exact ⟨none, 0, rfl, Nat.le_refl _, Nat.zero_le _, World.ownsRow_nil _ _ _ _, (by repeat (first | exact Below.refl _ _ | assumption | refine ba_alloc ?_ _ | refine ba_drew ?_ | refine ba_drewN ?_ _ | refine ba_via (by assumption) ?_ | (refine ba_set ?_ ?_ _; rotate_left; (first | omega | (simp; omega) | simp))))⟩
  | some a =>
    clear hx hn
    go_enter Try.func18, Try.ntmps18
    go_wp2_with (at_builtin; refine wpList_append_own_at _ rfl _ _ 22 rfl w.heap.size 29 i0 (.agg #[.int .i64 0, .int .i64 0]) 2 16 Try.underlying22 hi hz0 hz1 hz2 rfl (by decide) _ _ _ rfl (World.ownsRow_made w #[] 0 (Nat.le_refl _) (Nat.zero_le _) rfl) a n c (l.flatMap spC) rfl ?qc1 ?qc2 ?qc3 ?qc4 ?qc5 ?qc6 ?_)
    case qc1 => rw [flat_len spC 2 spC_len, HN.out]
    case qc2 =>
      intro j u hj
      have hlen : 0 < (l.flatMap spC).length := by
        rcases Nat.eq_zero_or_pos (l.flatMap spC).length with h | h
        · rw [List.length_eq_zero_iff.1 h] at hj; simp at hj
        · exact h
      obtain ⟨b, o, he, _, _⟩ := HX.out.at_ hlen
      have hx2 := HX.out
      rw [he] at hx2
      have he2 : a = ⟨b, o, none⟩ := Option.some.inj he
      have e : (Addr.add ⟨b, o, none⟩ j) = ⟨b, o + j, none⟩ := by unfold Addr.add; split <;> simp_all
      rw [he2, e]
      exact (hx2.alloc hB _).get hj
    case qc3 => intro u hu; obtain ⟨s, _, hs⟩ := List.mem_flatMap.1 hu; simp at hs; rcases hs with rfl | rfl <;> rfl
    case qc4 => unfold maxLen; omega
    case qc5 => omega
    case qc6 => simp
    intro v' w1 hown hgrow hnil hat
    have hbel : Below w.heap.size w w1 := ((Below.refl _ w).alloc (Nat.le_refl _) _).grown hgrow (by simp) (by intro k hk; simp [Value.ownBlock] at hk; omega)
    obtain ⟨A5, c5, rfl, hc1, hc2, _⟩ := own_form hown (by unfold maxLen; omega)
    go_wp2
    go_ret
    exact ⟨A5, c5, rfl, hc1, hc2, by simpa using hown, hbel⟩
end Go.Proofs.Ytplaghmehbkcnaa
