/- The walk through the law LapOrder. -/
import Derived.Deep.AppendLies
import Derived.Deep.RegionHeld3
import Derived.BigQuiet
import Derived.Test.YtnjflafaflalfaaRAS
import Derived.Test.YtnjflafaflalfaaRAT
set_option linter.unusedVariables false
set_option linter.unusedSimpArgs false
namespace Go.Proofs.Ytnjflafaflalfaa
open Go.RowKit
theorem spanNot5_any (s : Sp) (w : World) : Calls Try.prog 6 #[spV s] w fun e w' => e = .returned (.bool (S.spanNot s)) ∧ Below w.heap.size w w' := by
  have H := Lib.hid (show S.spanNot s = !S.spanOk s from rfl)
  have H0 := Lib.hid (fun w => rspan_any s w)
  generalize S.spanOk s = t at *
  unfold spV
  unfold spV at H0
  go_enter Try.func6, Try.ntmps6
  go_wp2_with (first
    | (go_at_call 7; (with_reducible refine (H0.out _).mono ?_); rintro e w1 ⟨rfl, hbw1⟩; obtain ⟨hcw1, hfw1⟩ := bcell hbw1; have hzw1_0 : w.heap.size < w1.heap.size := lt_via hbw1 (by first | omega | (simp; done) | (simp; omega))))
  go_ret
  exact ⟨ret_b (by rw [H.out]), bel⟩
theorem stag_right (l : List Sp) (num den : Int) (A : Option Addr) (n c : Nat) (B : Nat) (w : World) (hok : anyb l S.spanNot = false) (hb : ¬ S.stagNum num den = true) (hl : l.length = n) (hn : n ≤ 1000) (hc : n ≤ c) (hB : B ≤ w.heap.size) (hs : Cells w B A (l.flatMap spC)) :
    Calls Try.prog 8 #[.slice A n c, .int .i64 num, .int .i64 den] w fun e w' => e = .returned (.tuple #[.bool (decide (S.stag l num den < 0)), .int .i64 (S.stag l num den), .int .i64 0]) ∧ Below w.heap.size w w' := by
  have hT := stagT_ok (l := l) (num := num) (den := den) (by unfold S.stagErr; rw [hok]; rw [if_neg (by simp), if_neg hb, if_neg (by omega)])
  have := stag_any l num den A n c B w hl (by omega) hc hB hs
  rw [hT] at this
  exact this
set_option maxRecDepth 8000 in
set_option maxHeartbeats 4000000 in
theorem order_walk (l : List Sp) (num den less : Int) (A : Option Addr) (n c : Nat) (w : World) (hn : l.length = n) (hc : n ≤ c) (hcm : c ≤ maxLen) (hs : Cells w w.heap.size A (l.flatMap spC)) (hl0 : 0 ≤ less) (hl1 : less ≤ 65535) :
    Calls Try.prog 3 #[.slice A n c, .int .i64 num, .int .i64 den, .int .u16 less] w fun e w' => e = .returned (.bool true) ∧ Below w.heap.size w w' := by
  have hmx : n ≤ 9223372036854775807 := by unfold maxLen at hcm; omega
  have HA := Lib.hid (fun w => awake_any w)
  have HF := Lib.hid Try.call6
  have HCF := Lib.hid (fun (W : World) (hb : Below w.heap.size w W) => containsfS_any 6 #[] #[] S.spanNot A n c l w.heap.size W hn hmx hb.size (hs.below hb) HF.out (fun x w' _ => spanNot5_any x w'))
  have HN := Lib.hid hn
  by_cases h1 : 20 < n
  · have h1i : (20 : Int) < n := by omega
    clear hn hs HCF HF
    go_enter Try.func3, Try.ntmps3
    go_wp2_with (first
      | (go_at_call 4; (with_reducible refine (HA.out _).mono ?_); rintro e w1 ⟨rfl, hbw1⟩; obtain ⟨hcw1, hfw1⟩ := bcell hbw1))
    go_ret
    exact ⟨rfl, bel⟩
  have h1i : ¬ ((20 : Int) < n) := by omega
  by_cases ha : anyb l S.spanNot = true
  · rw [ha] at HCF
    clear hn hs HF h1 ha
    go_enter Try.func3, Try.ntmps3
    go_wp2_with (first
      | (go_at_call 4; (with_reducible refine (HA.out _).mono ?_); rintro e w1 ⟨rfl, hbw1⟩; obtain ⟨hcw1, hfw1⟩ := bcell hbw1)
      | (go_at_call 5; (with_reducible refine (HCF.out _ bel).mono ?_); rintro e w3 ⟨rfl, hbw3⟩; obtain ⟨hcw3, hfw3⟩ := bcell hbw3))
    go_ret
    exact ⟨rfl, bel⟩
  have ha' : anyb l S.spanNot = false := by simpa using ha
  rw [ha'] at HCF
  by_cases hb : S.stagNum num den = true
  · have hcs : num < 1 ∨ (¬ num < 1 ∧ 1000 < num) ∨ (¬ num < 1 ∧ ¬ 1000 < num ∧ den < 1) ∨ (¬ num < 1 ∧ ¬ 1000 < num ∧ ¬ den < 1 ∧ 1000 < den) := by
      simp only [S.stagNum, Bool.or_eq_true, decide_eq_true_eq] at hb
      omega
    clear hn hs HF h1 ha ha' hb
    rcases hcs with k1 | ⟨k1, k2⟩ | ⟨k1, k2, k3⟩ | ⟨k1, k2, k3, k4⟩
    all_goals (
      go_enter Try.func3, Try.ntmps3
      go_wp2_with (first
        | (go_at_call 4; (with_reducible refine (HA.out _).mono ?_); rintro e w1 ⟨rfl, hbw1⟩; obtain ⟨hcw1, hfw1⟩ := bcell hbw1)
        | (go_at_call 5; (with_reducible refine (HCF.out _ bel).mono ?_); rintro e w3 ⟨rfl, hbw3⟩; obtain ⟨hcw3, hfw3⟩ := bcell hbw3))
      go_ret
      exact ⟨rfl, bel⟩)
  have hb' : (¬ num < 1 ∧ ¬ 1000 < num) ∧ ¬ den < 1 ∧ ¬ 1000 < den := by
    simp only [S.stagNum, Bool.or_eq_true, decide_eq_true_eq] at hb
    omega
  obtain ⟨⟨k1, k2⟩, k3, k4⟩ := hb'
  have HS := Lib.hid hs
  have HBD := stag_bd l num den
  have HST := Lib.hid (fun (W : World) (hq : Below w.heap.size w W) => stag_right l num den A n c w.heap.size W ha' hb hn (by omega) hc hq.size (hs.below hq))
  have HCL := Lib.hid (fun (W : World) (hq : Below w.heap.size w W) => clones_any A n c l w.heap.size W hq.size hn (by omega) (hs.below hq))
  have HRV := Lib.hid (fun (A2 : Option Addr) (c2 B : Nat) (W : World) (hB : B ≤ W.heap.size) (ho : W.ownsRow B 27 2 (.slice A2 n c2) n (l.flatMap spC)) => revs_any A2 n c2 l B W hB hn (by omega) ho)
  have hrev : decide (S.stag l.reverse num den < 0) = decide (S.stag l num den < 0) := by
    rw [decide_eq_decide]
    exact stag_reverse l num den
  have HRT := Lib.hid (fun (A2 : Option Addr) (c2 : Nat) (W : World) (h2 : n ≤ c2) (ho : Cells W W.heap.size A2 (l.reverse.flatMap spC)) => hrev ▸ stag_right l.reverse num den A2 n c2 W.heap.size W (reverse_ok ha') hb (by simpa using hn) (by omega) h2 (Nat.le_refl _) ho)
  have hsm : ∃ small : Int, max 1 (num - less) = small ∧ 1 ≤ small ∧ small ≤ num := ⟨_, rfl, by omega, by omega⟩
  obtain ⟨small, hsmall, hs1, hs2⟩ := hsm
  have hbs : ¬ S.stagNum small den = true := by
    simp only [S.stagNum, Bool.or_eq_true, decide_eq_true_eq]
    omega
  have HSM := Lib.hid (fun (W : World) (hq : Below w.heap.size w W) => stag_right l small den A n c w.heap.size W ha' hbs hn (by omega) hc hq.size (hs.below hq))
  have HLE := Lib.hid (fun (h : S.stag l num den < 0) => stag_less (small := small) ha' hs2 (by omega) h)
  have e1 : IntKind.i64.wrap less = less := IntWalk.i64_in _ (by omega)
  have e2 : IntKind.i64.wrap (num - less) = num - less := IntWalk.i64_in _ (by omega)
  have HPX := Lib.hid (fun (k : Nat) (hk : S.stag l num den = (k : Int)) (m : Nat) (hm : m ≤ n) (W : World) (hq : Below w.heap.size w W) => stag_right (l.take m) num den A m c w.heap.size W (take_ok ha' m) hb (by simp; omega) (by omega) (by omega) hq.size ((hs.below hq).upto m))
  have HBF := Lib.hid (fun (k : Nat) (hk : S.stag l num den = (k : Int)) => decide_eq_true (stag_before hk))
  have HWI := Lib.hid (fun (k : Nat) (hk : S.stag l num den = (k : Int)) => decide_eq_false (stag_with hk))
  have HTW := Lib.hid (fun (s : Sp) (h0 : l[0]? = some s) (hlt : s.lo < s.hi) => decide_eq_false (stag_twice (den := den) h0 hlt (show 1 ≤ num by omega)))
  have HTR := Lib.hid (fun (s : Sp) (h0 : l[0]? = some s) (A2 : Option Addr) (c2 : Nat) (W : World) (h2 : n + 1 ≤ c2) (ho : Cells W W.heap.size A2 ((l ++ [s]).flatMap spC)) => stag_right (l ++ [s]) num den A2 (n + 1) c2 W.heap.size W (snoc_ok ha' h0) hb (by simpa using hn) (by omega) h2 (Nat.le_refl _) ho)
  have HOK := Lib.hid ha'
  rw [hn] at HBD
  clear hs HF h1 ha ha' hb hrev hbs
  generalize S.stag l.reverse num den = sr at *
  generalize S.stag l small den = sm at *
  generalize S.stag l num den = s at *
  have hsc : s = -1 ∨ ∃ k : Nat, s = (k : Int) ∧ k < n := by
    by_cases h : s = -1
    · exact .inl h
    · exact .inr ⟨s.toNat, by omega, by omega⟩
  rcases hsc with rfl | ⟨k, rfl, hkn⟩
  · rw [show decide ((-1 : Int) < 0) = true from rfl] at HST HRT
    rw [decide_eq_true (HLE.out (by omega))] at HSM
    clear HLE HBD HPX HBF HWI
    go_enter Try.func3, Try.ntmps3
    go_upto_region 20 with (first
      | (go_at_call 4; (with_reducible refine (HA.out _).mono ?_); rintro e w1 ⟨rfl, hbw1⟩; obtain ⟨hcw1, hfw1⟩ := bcell hbw1)
      | (go_at_call 5; (with_reducible refine (HCF.out _ bel).mono ?_); rintro e w2 ⟨rfl, hbw2⟩; obtain ⟨hcw2, hfw2⟩ := bcell hbw2)
      | (go_at_call 8; (with_reducible refine (HST.out _ bel).mono ?_); rintro e w3 ⟨rfl, hbw3⟩; obtain ⟨hcw3, hfw3⟩ := bcell hbw3)
      | (go_at_call 9; (with_reducible refine (HCL.out _ bel).mono ?_); rintro e w4 ⟨A2, c2, rfl, hn2, hc2, ho2, hb4⟩; obtain ⟨hc4, hf4⟩ := bcell hb4)
      | (go_at_call 10; (with_reducible refine (HRV.out _ _ w3.heap.size _ hb4.size ho2).mono ?_); rintro e w5 ⟨rfl, ho5, hb5⟩; have hq4 : Below w.heap.size w w4 := bel; have hq3 : Below w.heap.size w w3 := bel; have hq5 : Below w.heap.size w w5 := hq4.trans (hb5.mono hq3.size); have hoc := own_cells ho5 (by unfold maxLen; omega))
      | (go_at_call 8; (with_reducible refine (HRT.out _ _ _ hn2 hoc.1).mono ?_); rintro e w6 ⟨rfl, hbw6⟩; obtain ⟨hcw6, hfw6⟩ := bcell hbw6)
      | (go_at_call 8; (with_reducible refine (HSM.out _ bel).mono ?_); rintro e w7 ⟨rfl, hbw7⟩; obtain ⟨hcw7, hfw7⟩ := bcell hbw7))
    by_cases hn0 : n = 0
    · have hn0i : ((n : Int) = 0) := by omega
      have hn0b : ((n : Int) == 0) = true := by simp [hn0i]
      go_quiet (fail)
      go_wp2
      go_ret
      exact ⟨rfl, bel⟩
    have hlx : 0 < l.length := by have := HN.out; omega
    have hs0 := HS.out
    obtain ⟨b, o, hAe, hbB, _⟩ := hs0.at_ (by rw [flat_len spC 2 spC_len]; omega)
    subst hAe
    have hq9 : Below w.heap.size w w7 := bel
    have HRD := Lib.hid (fun (W : World) (hq : Below w.heap.size w W) => show W.cell? ⟨b, o, none⟩ = some (.int .i64 l[0].lo) ∧ W.cell? ⟨b, o + 1, none⟩ = some (.int .i64 l[0].hi) from by
      have hs' := hs0.below hq
      have c0 := hs'.row0 (k := 0) spC_len hlx rfl
      have c1 := hs'.rowj (k := 0) spC_len hlx 1 rfl
      rw [Nat.zero_mul, Nat.add_zero] at c0 c1
      exact ⟨c0, c1⟩)
    have hge : l[0]? = some l[0] := List.getElem?_eq_getElem hlx
    have HTWs := HTW.out l[0] hge
    have HTRs := HTR.out l[0] hge
    have hok0 := span_ok HOK.out hlx
    simp only [S.spanOk, Bool.and_eq_true, decide_eq_true_eq] at hok0
    have hle := hok0.1.1
    clear HTW HTR hok0 hge hs0 HS HOK HRT
    generalize l[0] = s0 at *
    have hni : ¬ ((n : Int) = 0) := by omega
    have hnb : ((n : Int) == 0) = false := by simp; omega
    have hni0 : (0 : Int) < n := by omega
    have hnn0 : 0 < n := by omega
    by_cases heq : s0.lo = s0.hi
    · have heqb : (s0.lo == s0.hi) = true := by simp [heq]
      obtain ⟨d0, d1⟩ := HRD.out _ hq9
      go_quiet (fail)
      go_wp2
      go_ret
      exact ⟨rfl, bel⟩
    have hlt : s0.lo < s0.hi := by omega
    have hneb : (s0.lo == s0.hi) = false := by simp; omega
    have HTW := HTWs hlt
    rw [HTW] at HTRs
    have HTR := Lib.hid HTRs
    clear HTWs HTRs HTW
    obtain ⟨d0, d1⟩ := HRD.out _ hq9
    generalize S.stag (l ++ [s0]) num den = s4 at *
    go_quiet (fail)
    go_upto_region 22 with fail
    have hqN : Below w.heap.size w (w7.drewN nq) := ba_drewN hq9 _
    generalize (w7.drewN nq) = wN at *
    obtain ⟨i0, hi0, hz0, hz1, hz2⟩ := info_parts elemSp.info
    have hfl : (l ++ [s0]).flatMap spC = l.flatMap spC ++ spC s0 := by rw [List.flatMap_append, List.flatMap_cons, List.flatMap_nil, List.append_nil]
    have hsN : w.heap.size ≤ wN.heap.size := hqN.size
    clear d0 d1
    go_region_held3 (fun W' => W'.cell? ⟨b, o, none⟩ = some (.int .i64 s0.lo) ∧ W'.cell? ⟨b, o + 1, none⟩ = some (.int .i64 s0.hi)) (exact HRD.out _ belr) (first
      | (go_at_call 9; (with_reducible refine (HCL.out _ belr).mono ?_); rintro e wC ⟨A5, c5, rfl, hn5, hc5, ho5, hb5⟩; have hqC : Below w.heap.size w wC := belr; have hoC := own_mono (base := w.heap.size) ho5 (by simp; omega); have hsC := hqC.size)
      | (refine step_append_lies _ (by rfl) (.tmp 171) (.tmp 175) _ (by rfl) w.heap.size 27 i0 _ 2 16 Try.underlying22 hi0 hz0 hz1 hz2 rfl (by omega) (.slice A5 n c5) n _ (by rfl) (hoC.alloc _) ⟨wC.heap.size, 0, none⟩ 1 1 (spC s0) (by rfl) (by rfl) (World.news_of_block (cs := #[.int .i64 s0.lo, .int .i64 s0.hi]) (t := 27) (fr := (0, 0)) (heap_alloc_new wC _)) (by simp [Value.oneCell']) (by omega) (by unfold maxLen; omega) (by omega) (by simp; omega) (wC.heap.size + 1) (by simp) ?_
         intro g cap wD hown1 hgrow hat hlt1
         rw [← hfl] at hown1
         have hqD : Below w.heap.size w wD := (ba_alloc hqC _).grown hgrow (by simp; omega) (fun k hk => (hoC.lt k hk).1)
         have hoD := own_cells hown1 (by unfold maxLen; omega))
      | (refine step_append_lies _ (by rfl) (.tmp 171) (.tmp 175) _ (by rfl) w.heap.size 27 i0 _ 2 16 Try.underlying22 hi0 hz0 hz1 hz2 rfl (by omega) (.slice A5 n c5) n _ (by rfl) hoC ⟨wN.heap.size, 0, none⟩ 1 1 (spC s0) (by rfl) (by rfl) (World.news_of_block (cs := #[.int .i64 s0.lo, .int .i64 s0.hi]) (t := 27) (fr := (0, 0)) ((hb5.block wN.heap.size (by simp)).trans (heap_alloc_new wN.drew _))) (by simp [Value.oneCell']) (by omega) (by unfold maxLen; omega) (by omega) (by omega) wC.heap.size rfl ?_
         intro g cap wD hown1 hgrow hat hlt1
         rw [← hfl] at hown1
         have hqD : Below w.heap.size w wD := hqC.grown hgrow (by omega) (fun k hk => (hoC.lt k hk).1)
         have hoD := own_cells hown1 (by unfold maxLen; omega))
      | (go_at_call 8; (with_reducible refine (HTR.out _ _ _ hoD.2.1 hoD.1).mono ?_); rintro e wE ⟨rfl, hbwE⟩; obtain ⟨hcwE, hfwE⟩ := bcell hbwE))
    all_goals (
      go_wp2
      go_ret
      exact ⟨rfl, belr⟩)
  · rw [decide_eq_false (show ¬ ((k : Int) < 0) by omega)] at HST HRT
    have HP0 := Lib.hid (HPX.out k rfl k (by omega))
    have HP1 := Lib.hid (HPX.out k rfl (k + 1) (by omega))
    rw [HBF.out k rfl] at HP0
    rw [HWI.out k rfl] at HP1
    generalize S.stag (l.take k) num den = p0 at *
    generalize S.stag (l.take (k + 1)) num den = p1 at *
    have e3 : IntKind.i64.wrap ((k : Int) + 1) = ((k + 1 : Nat) : Int) := by rw [IntWalk.i64_in _ (by omega)]; omega
    have hki : (k : Int) < n := by omega
    have hkm : ((k : Int) == -1) = false := by simp
    have hkc : k ≤ c := by omega
    have hkc1 : k + 1 ≤ c := by omega
    have hk0 : (0 : Int) ≤ k := by omega
    generalize decide (sm < 0) = tsm at *
    obtain ⟨b, o, hAe0, hbA, _⟩ := HS.out.at_ (by rw [flat_len spC 2 spC_len, HN.out]; omega)
    subst hAe0
    clear HLE HBD HPX HBF HWI
    go_enter Try.func3, Try.ntmps3
    go_upto_region 20 with (first
      | (go_at_call 4; (with_reducible refine (HA.out _).mono ?_); rintro e w1 ⟨rfl, hbw1⟩; obtain ⟨hcw1, hfw1⟩ := bcell hbw1)
      | (go_at_call 5; (with_reducible refine (HCF.out _ bel).mono ?_); rintro e w2 ⟨rfl, hbw2⟩; obtain ⟨hcw2, hfw2⟩ := bcell hbw2)
      | (go_at_call 8; (with_reducible refine (HST.out _ bel).mono ?_); rintro e w3 ⟨rfl, hbw3⟩; obtain ⟨hcw3, hfw3⟩ := bcell hbw3)
      | (go_at_call 9; (with_reducible refine (HCL.out _ bel).mono ?_); rintro e w4 ⟨A2, c2, rfl, hn2, hc2, ho2, hb4⟩; obtain ⟨hc4, hf4⟩ := bcell hb4)
      | (go_at_call 10; (with_reducible refine (HRV.out _ _ w3.heap.size _ hb4.size ho2).mono ?_); rintro e w5 ⟨rfl, ho5, hb5⟩; have hq4 : Below w.heap.size w w4 := bel; have hq3 : Below w.heap.size w w3 := bel; have hq5 : Below w.heap.size w w5 := hq4.trans (hb5.mono hq3.size); have hoc := own_cells ho5 (by unfold maxLen; omega))
      | (go_at_call 8; (with_reducible refine (HRT.out _ _ _ hn2 hoc.1).mono ?_); rintro e w6 ⟨rfl, hbw6⟩; obtain ⟨hcw6, hfw6⟩ := bcell hbw6)
      | (go_at_call 8; (with_reducible refine (HP0.out _ bel).mono ?_); rintro e w7 ⟨rfl, hbw7⟩; obtain ⟨hcw7, hfw7⟩ := bcell hbw7)
      | (go_at_call 8; (with_reducible refine (HP1.out _ bel).mono ?_); rintro e w8 ⟨rfl, hbw8⟩; obtain ⟨hcw8, hfw8⟩ := bcell hbw8)
      | (go_at_call 8; (with_reducible refine (HSM.out _ bel).mono ?_); rintro e w9 ⟨rfl, hbw9⟩; obtain ⟨hcw9, hfw9⟩ := bcell hbw9))
    by_cases hn0 : n = 0
    · have hn0i : ((n : Int) = 0) := by omega
      have hn0b : ((n : Int) == 0) = true := by simp [hn0i]
      go_quiet (fail)
      go_wp2
      go_ret
      exact ⟨rfl, bel⟩
    have hlx : 0 < l.length := by have := HN.out; omega
    have hs0 := HS.out
    have hbB := hbA
    have hq9 : Below w.heap.size w w9 := bel
    have HRD := Lib.hid (fun (W : World) (hq : Below w.heap.size w W) => show W.cell? ⟨b, o, none⟩ = some (.int .i64 l[0].lo) ∧ W.cell? ⟨b, o + 1, none⟩ = some (.int .i64 l[0].hi) from by
      have hs' := hs0.below hq
      have c0 := hs'.row0 (k := 0) spC_len hlx rfl
      have c1 := hs'.rowj (k := 0) spC_len hlx 1 rfl
      rw [Nat.zero_mul, Nat.add_zero] at c0 c1
      exact ⟨c0, c1⟩)
    have hge : l[0]? = some l[0] := List.getElem?_eq_getElem hlx
    have HTWs := HTW.out l[0] hge
    have HTRs := HTR.out l[0] hge
    have hok0 := span_ok HOK.out hlx
    simp only [S.spanOk, Bool.and_eq_true, decide_eq_true_eq] at hok0
    have hle := hok0.1.1
    clear HTW HTR hok0 hge hs0 HS HOK HRT
    generalize l[0] = s0 at *
    have hni : ¬ ((n : Int) = 0) := by omega
    have hnb : ((n : Int) == 0) = false := by simp; omega
    have hni0 : (0 : Int) < n := by omega
    have hnn0 : 0 < n := by omega
    by_cases heq : s0.lo = s0.hi
    · have heqb : (s0.lo == s0.hi) = true := by simp [heq]
      obtain ⟨d0, d1⟩ := HRD.out _ hq9
      go_quiet (fail)
      go_wp2
      go_ret
      exact ⟨rfl, bel⟩
    have hlt : s0.lo < s0.hi := by omega
    have hneb : (s0.lo == s0.hi) = false := by simp; omega
    have HTW := HTWs hlt
    rw [HTW] at HTRs
    have HTR := Lib.hid HTRs
    clear HTWs HTRs HTW
    obtain ⟨d0, d1⟩ := HRD.out _ hq9
    generalize S.stag (l ++ [s0]) num den = s4 at *
    go_quiet (fail)
    go_upto_region 22 with fail
    have hqN : Below w.heap.size w (w9.drewN nq) := ba_drewN hq9 _
    generalize (w9.drewN nq) = wN at *
    obtain ⟨i0, hi0, hz0, hz1, hz2⟩ := info_parts elemSp.info
    have hfl : (l ++ [s0]).flatMap spC = l.flatMap spC ++ spC s0 := by rw [List.flatMap_append, List.flatMap_cons, List.flatMap_nil, List.append_nil]
    have hsN : w.heap.size ≤ wN.heap.size := hqN.size
    clear d0 d1
    go_region_held3 (fun W' => W'.cell? ⟨b, o, none⟩ = some (.int .i64 s0.lo) ∧ W'.cell? ⟨b, o + 1, none⟩ = some (.int .i64 s0.hi)) (exact HRD.out _ belr) (first
      | (go_at_call 9; (with_reducible refine (HCL.out _ belr).mono ?_); rintro e wC ⟨A5, c5, rfl, hn5, hc5, ho5, hb5⟩; have hqC : Below w.heap.size w wC := belr; have hoC := own_mono (base := w.heap.size) ho5 (by simp; omega); have hsC := hqC.size)
      | (refine step_append_lies _ (by rfl) (.tmp 171) (.tmp 175) _ (by rfl) w.heap.size 27 i0 _ 2 16 Try.underlying22 hi0 hz0 hz1 hz2 rfl (by omega) (.slice A5 n c5) n _ (by rfl) (hoC.alloc _) ⟨wC.heap.size, 0, none⟩ 1 1 (spC s0) (by rfl) (by rfl) (World.news_of_block (cs := #[.int .i64 s0.lo, .int .i64 s0.hi]) (t := 27) (fr := (0, 0)) (heap_alloc_new wC _)) (by simp [Value.oneCell']) (by omega) (by unfold maxLen; omega) (by omega) (by simp; omega) (wC.heap.size + 1) (by simp) ?_
         intro g cap wD hown1 hgrow hat hlt1
         rw [← hfl] at hown1
         have hqD : Below w.heap.size w wD := (ba_alloc hqC _).grown hgrow (by simp; omega) (fun k hk => (hoC.lt k hk).1)
         have hoD := own_cells hown1 (by unfold maxLen; omega))
      | (refine step_append_lies _ (by rfl) (.tmp 171) (.tmp 175) _ (by rfl) w.heap.size 27 i0 _ 2 16 Try.underlying22 hi0 hz0 hz1 hz2 rfl (by omega) (.slice A5 n c5) n _ (by rfl) hoC ⟨wN.heap.size, 0, none⟩ 1 1 (spC s0) (by rfl) (by rfl) (World.news_of_block (cs := #[.int .i64 s0.lo, .int .i64 s0.hi]) (t := 27) (fr := (0, 0)) ((hb5.block wN.heap.size (by simp)).trans (heap_alloc_new wN.drew _))) (by simp [Value.oneCell']) (by omega) (by unfold maxLen; omega) (by omega) (by omega) wC.heap.size rfl ?_
         intro g cap wD hown1 hgrow hat hlt1
         rw [← hfl] at hown1
         have hqD : Below w.heap.size w wD := hqC.grown hgrow (by omega) (fun k hk => (hoC.lt k hk).1)
         have hoD := own_cells hown1 (by unfold maxLen; omega))
      | (go_at_call 8; (with_reducible refine (HTR.out _ _ _ hoD.2.1 hoD.1).mono ?_); rintro e wE ⟨rfl, hbwE⟩; obtain ⟨hcwE, hfwE⟩ := bcell hbwE))
    all_goals (
      go_wp2
      go_ret
      exact ⟨rfl, belr⟩)
end Go.Proofs.Ytnjflafaflalfaa
