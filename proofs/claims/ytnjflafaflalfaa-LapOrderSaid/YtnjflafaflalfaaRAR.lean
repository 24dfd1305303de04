/- Contract: stirruplaw25.awake. -/
import Derived.Test.YtnjflafaflalfaaRAP
import Derived.Test.YtnjflafaflalfaaRAQ
import Derived.Test.YtnjflafaflalfaaRAO
set_option linter.unusedVariables false
set_option linter.unusedSimpArgs false
namespace Go.Proofs.Ytnjflafaflalfaa
open Go.RowKit
abbrev exSp : List Sp := [⟨0, 100⟩, ⟨120, 220⟩]
theorem ex_stag1 : S.stagT exSp 6 5 = .tuple #[.bool true, .int .i64 (-1), .int .i64 0] := by kernel_rfl
theorem ex_stag2 : S.stagT exSp 13 10 = .tuple #[.bool false, .int .i64 1, .int .i64 0] := by kernel_rfl
theorem ex_lap : lLength exRule 12 false = 720 := by kernel_rfl
theorem ex_sized : S.sized exRule 12 = 0 := by kernel_rfl
set_option maxRecDepth 20000 in
set_option maxHeartbeats 4000000 in
theorem awake_any (w : World) : Calls Try.prog 4 #[] w fun e w' => e = .returned (.bool true) ∧ Below w.heap.size w w' := by
  have HR := Lib.hid (fun w => rule_any w)
  have HL := Lib.hid (fun w => lLength_any exRule 12 false w)
  rw [ex_lap, ex_sized] at HL
  have HS1 := Lib.hid (fun (W : World) => stag_any exSp 6 5 (some ⟨W.heap.size, 0, none⟩) 2 2 (W.alloc (.cells #[.int .i64 0, .int .i64 100, .int .i64 120, .int .i64 220] 27)).heap.size (W.alloc (.cells #[.int .i64 0, .int .i64 100, .int .i64 120, .int .i64 220] 27)) rfl (by decide) (by decide) (Nat.le_refl _) (Cells.newRow W _ _ _))
  have HS2 := Lib.hid (fun (W : World) => stag_any exSp 13 10 (some ⟨W.heap.size, 0, none⟩) 2 2 (W.alloc (.cells #[.int .i64 0, .int .i64 100, .int .i64 120, .int .i64 220] 27)).heap.size (W.alloc (.cells #[.int .i64 0, .int .i64 100, .int .i64 120, .int .i64 220] 27)) rfl (by decide) (by decide) (Nat.le_refl _) (Cells.newRow W _ _ _))
  rw [ex_stag1] at HS1
  rw [ex_stag2] at HS2
  have HE := Lib.hid (fun w => example_any w)
  have HO : Hid (∀ (W : World) (b g gb gr gj : Nat) (h : ExBlks W b g gb gr gj) (hB : Blk W (b + 1) 72 #[.int .i64 0, .int .i64 0, .int .i64 0, .int .i64 3000, .int .i64 200, .int .i64 400]), Calls Try.prog 13 #[.agg (exL b gb gr gj).toArray, .int .i64 0] W fun e w' => e = .returned (.tuple #[.agg #[.int .i64 1000, .int .i64 2000], .int .i64 0]) ∧ Below W.heap.size W w') :=
    Lib.hid (fun W b g gb gr gj h hB => Overlap_yes (exDt b g gb gr gj) true W.heap.size W (Nat.le_refl _) (ex_at h hB) (fun V _ => demand_nil V) (ex_look b g gb gr gj) 0 0 1 _ _ (by show 0 < 1; decide) rfl (ex_m0 b g gb gr gj) (ex_m1 b g gb gr gj))
  have HC : Hid (∀ (W : World) (b g gb gr gj : Nat) (h : ExBlks W b g gb gr gj) (hB : Blk W (b + 1) 72 #[.int .i64 0, .int .i64 0, .int .i64 0, .int .i64 3000, .int .i64 200, .int .i64 400]), Calls Try.prog 15 #[.agg (exL b gb gr gj).toArray] W fun e w' => (∃ v, e = .returned (.tuple #[v, .int .i64 0]) ∧ One2 w' v 0 1) ∧ Below W.heap.size W w') :=
    Lib.hid (fun W b g gb gr gj h hB => Chains_one (exDt b g gb gr gj) true W.heap.size W (Nat.le_refl _) (ex_at h hB) (fun V _ => demand_nil V) (ex_look b g gb gr gj) rfl (ex_len b g gb gr gj))
  go_enter Try.func4, Try.ntmps4
  go_upto_region 6 with (first
    | (go_at_call 12; (with_reducible refine (HR.out _).mono ?_); rintro e w1 ⟨rfl, hbw1⟩; obtain ⟨hcw1, hfw1⟩ := bcell hbw1)
    | (go_at_call 11; (with_reducible refine (HL.out _).mono ?_); rintro e w2 ⟨rfl, hbw2⟩; obtain ⟨hcw2, hfw2⟩ := bcell hbw2)
    | (go_at_call 8; (with_reducible refine (HS1.out _).mono ?_); rintro e w3 ⟨rfl, hbw3⟩; obtain ⟨hcw3, hfw3⟩ := bcell hbw3)
    | (go_at_call 8; (with_reducible refine (HS2.out _).mono ?_); rintro e w4 ⟨rfl, hbw4⟩; obtain ⟨hcw4, hfw4⟩ := bcell hbw4)
    | (go_at_call 13; (with_reducible refine (HO.out _ _ _ _ _ _ hE5 hB5).mono ?_); rintro e w6 ⟨rfl, hbw6⟩)
    | (go_at_call 15; (with_reducible refine (HC.out _ (w6.heap.size + 1) _ _ _ _ (by simpa using hE7) (by simpa using hB7)).mono ?_); rintro e w8 ⟨⟨v8, rfl, hO8⟩, hbw8⟩)
    | (go_at_call 14; (with_reducible refine (HE.out w4).mono ?_); rintro e w5 ⟨g5, gb5, gr5, gj5, rfl, hE5, hB5, hbw5⟩)
    | (go_at_call 14; (with_reducible refine (HE.out _).mono ?_); rintro e w7 ⟨g7, gb7, gr7, gj7, rfl, hE7, hB7, hbw7⟩))
  obtain ⟨g, g2, o, o2, c, c2, rfl, hg, hg2, k0, k1, k2⟩ := hO8
  have hSp := ((Blk.new w6 27 #[.int .i64 1000, .int .i64 2000]).via hbw7).via hbw8
  have s0 := hSp.cell 0
  have s1 := hSp.cell 1
  simp only [List.getElem?_toArray, List.getElem?_cons_zero, List.getElem?_cons_succ] at s0 s1
  have hbel : Below w.heap.size w w8 := bel
  have hq : ∀ W, (binOp .eql 27 (.agg #[.int .i64 1000, .int .i64 2000]) (.agg #[.int .i64 1000, .int .i64 2000])).run Try.prog W = .ok (.bool true) W := fun W => by kernel_rfl
  have hE := Lib.hid (fun (W : World) (A' : Option Addr) (h1 : Cells W W.heap.size (some ⟨g2, o2, none⟩) (i64s [0, 1])) (h2 : Cells W W.heap.size A' (i64s [0, 1])) => equal_any (some ⟨g2, o2, none⟩) A' 2 2 c2 2 [0, 1] [0, 1] W.heap.size W (Nat.le_refl _) rfl rfl (by decide) (by decide) h1 h2)
  rw [show S.eqi [0, 1] [0, 1] = true from by decide] at hE
  have hc8 : Cells w8 w8.heap.size (some ⟨g2, o2, none⟩) (i64s [0, 1]) := .inr ⟨g2, o2, rfl, hg2, fun j v hv => by
    rcases j with _ | _ | j
    · simp only [i64s, List.map_cons, List.getElem?_cons_zero, Option.some.injEq] at hv
      subst hv
      exact k1
    · simp only [i64s, List.map_cons, List.getElem?_cons_succ, List.getElem?_cons_zero, Option.some.injEq] at hv
      subst hv
      exact k2
    · simp [i64s] at hv⟩
  have hc9 := (hc8.alloc (Nat.le_refl _) (.cells #[.int .i64 0, .int .i64 1] 3)).mono (show w8.heap.size ≤ (w8.alloc (.cells #[.int .i64 0, .int .i64 1] 3)).heap.size by simp)
  have hn9 := Cells.newRow w8 #[.int .i64 0, .int .i64 1] 3 (0, 0)
  clear hbw1 hbw2 hbw3 hbw4 hbw5 hbw6 hbw7 hbw8 hcw1 hfw1 hcw2 hfw2 hcw3 hfw3 hcw4 hfw4 HR HL HS1 HS2 HE HO HC
  go_wp2_with (first
    | (go_at_call 16; (with_reducible refine (hE.out _ _ hc9 hn9).mono ?_); rintro e w9 ⟨rfl, hbw9⟩; obtain ⟨hcw9, hfw9⟩ := bcell hbw9))
  go_ret
  exact ⟨rfl, bel⟩
end Go.Proofs.Ytnjflafaflalfaa
