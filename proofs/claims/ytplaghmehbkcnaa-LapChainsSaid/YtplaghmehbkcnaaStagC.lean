/- Contract: lap.Stagger. Contracts: the reference's Span, near and Stagger; slices.ContainsFunc over spans. -/
import Derived.Test.YtplaghmehbkcnaaStag
import Derived.Test.YtplaghmehbkcnaaRow
set_option linter.unusedVariables false
set_option linter.unusedSimpArgs false
namespace Go.Proofs.Ytplaghmehbkcnaa
open Go.RowKit
def S.stagT (l : List Sp) (num den : Int) : Value := .tuple #[.bool (S.stagIs l num den), .int .i64 (S.stagIx l num den), .int .i64 (S.stagErr l num den)]
theorem stagT_err {l : List Sp} {num den e : Int} (h : S.stagErr l num den = e) (he : e ≠ 0) : S.stagT l num den = .tuple #[.bool false, .int .i64 0, .int .i64 e] := by
  unfold S.stagT S.stagIs S.stagIx
  rw [h, if_neg he]
  simp [he]
theorem stagT_hit {l : List Sp} {num den : Int} {k : Nat} (h : S.stagErr l num den = 0) (hk : S.stag l num den = (k : Int)) : S.stagT l num den = .tuple #[.bool false, .int .i64 k, .int .i64 0] := by
  unfold S.stagT S.stagIs S.stagIx
  rw [h, if_pos rfl, hk]
  have : ¬ ((k : Int) < 0) := by omega
  simp [this]
theorem stagT_miss {l : List Sp} {num den : Int} (h : S.stagErr l num den = 0) (hk : S.stag l num den = -1) : S.stagT l num den = .tuple #[.bool true, .int .i64 (-1), .int .i64 0] := by
  unfold S.stagT S.stagIs S.stagIx
  rw [h, if_pos rfl, hk]
  simp
set_option maxRecDepth 8000 in
set_option maxHeartbeats 4000000 in
theorem stag_any (l : List Sp) (num den : Int) (A : Option Addr) (n c : Nat) (B : Nat) (w : World) (hn : l.length = n) (hm : n ≤ 9223372036854775807) (hc : n ≤ c) (hB : B ≤ w.heap.size) (hs : Cells w B A (l.flatMap spC)) :
    Calls Try.prog 8 #[.slice A n c, .int .i64 num, .int .i64 den] w fun e w' => e = .returned (S.stagT l num den) ∧ Below w.heap.size w w' := by
  have HN := Lib.hid hn
  have HPL := Lib.hid (fun n w => lplace_any n w)
  clear hn
  go_enter Try.func8, Try.ntmps8
  go_wp2
  go_loopw [18] (fun i wr => ∃ k : Nat, k ≤ n ∧ i = .int .i64 k ∧ (∀ j (h : j < l.length), j < k → S.spanOk l[j] = true) ∧ Below w.heap.size w wr) (fun i _ => n - (intOf i).toNat)
  case atStart => exact ⟨0, Nat.zero_le _, rfl, fun j _ hj => absurd hj (by omega), Below.refl _ _⟩
  case round =>
    obtain ⟨k, hk, rfl, hno, hbr⟩ := hrel
    have HNO := Lib.hid hno
    clear hno
    by_cases hlt : k < n
    · have hkx : k < l.length := by have := HN.out; omega
      have hs' := hs.below (hbr.mono hB)
      obtain ⟨b, o, rfl, _, _⟩ := hs'.at_ (by rw [flat_len spC 2 spC_len]; omega)
      have c0 := hs'.row0 spC_len hkx rfl
      have c1 := hs'.rowj spC_len hkx 1 rfl
      have HGO := Lib.hid (fun (h : S.spanOk l[k] = true) (j : Nat) (hj : j < l.length) (hjk : j < k + 1) => show S.spanOk l[j] = true from by
        by_cases hjk' : j = k
        · subst hjk'; exact h
        · exact HNO.out j hj (by omega))
      have HBAD := Lib.hid (fun (h : S.spanOk l[k] = false) => stagT_err (l := l) (num := num) (den := den) (e := 1) (by unfold S.stagErr; rw [if_pos (span_bad hkx h)]) (by decide))
      have HSP := Lib.hid (show S.spanOk l[k] = (decide (l[k].lo ≤ l[k].hi) && S.place l[k].lo && S.place l[k].hi) from rfl)
      have HP0 := Lib.hid (HPL.out l[k].lo)
      have HP1 := Lib.hid (HPL.out l[k].hi)
      generalize S.place l[k].lo = t0 at *
      generalize S.place l[k].hi = t1 at *
      generalize l[k] = s at *
      clear hs' HNO
      have hcs : (s.hi < s.lo) ∨ (¬ s.hi < s.lo ∧ t0 = false) ∨ (¬ s.hi < s.lo ∧ t0 = true ∧ t1 = false) ∨ (¬ s.hi < s.lo ∧ t0 = true ∧ t1 = true) := by
        by_cases h : s.hi < s.lo
        · exact .inl h
        · cases t0
          · exact .inr (.inl ⟨h, rfl⟩)
          · cases t1
            · exact .inr (.inr (.inl ⟨h, rfl, rfl⟩))
            · exact .inr (.inr (.inr ⟨h, rfl, rfl⟩))
      rcases hcs with h1 | ⟨h1, rfl⟩ | ⟨h1, rfl, rfl⟩ | ⟨h1, rfl, rfl⟩
      rotate_right
      · have HG := Lib.hid (HGO.out (by rw [HSP.out, decide_eq_true (show s.lo ≤ s.hi by omega)]; rfl))
        go_wp2_with (first
          | (go_at_call 31; (with_reducible refine (HP0.out _).mono ?_); rintro e w' ⟨rfl, rfl⟩)
          | (go_at_call 31; (with_reducible refine (HP1.out _).mono ?_); rintro e w' ⟨rfl, rfl⟩))
        go_roundw
        case rel => exact ⟨k + 1, by omega, by go_num, HG.out, (by repeat (first | exact Below.refl _ _ | assumption | refine ba_alloc ?_ _ | refine ba_drew ?_ | refine ba_drewN ?_ _ | refine ba_via (by assumption) ?_ | (refine ba_set ?_ ?_ _; rotate_left; (first | omega | (simp; omega) | simp))))⟩
        case measure => simp [intOf]; omega
      all_goals (
        have HG := Lib.hid (HBAD.out (by rw [HSP.out]; first | rfl | (rw [decide_eq_false (show ¬ s.lo ≤ s.hi by omega)]; rfl) | (simp; done)))
        go_wp2_with (first
          | (go_at_call 31; (with_reducible refine (HP0.out _).mono ?_); rintro e w' ⟨rfl, rfl⟩)
          | (go_at_call 31; (with_reducible refine (HP1.out _).mono ?_); rintro e w' ⟨rfl, rfl⟩))
        go_ret3
        exact ⟨by rw [HG.out]; rfl, (by repeat (first | exact Below.refl _ _ | assumption | refine ba_alloc ?_ _ | refine ba_drew ?_ | refine ba_drewN ?_ _ | refine ba_via (by assumption) ?_ | (refine ba_set ?_ ?_ _; rotate_left; (first | omega | (simp; omega) | simp))))⟩)
    · have hall : ∀ j (h : j < l.length), S.spanOk l[j] = true := fun j hj => HNO.out j hj (by have := HN.out; omega)
      have HALL := Lib.hid hall
      have hany := span_all hall
      have hE0 : S.stagErr l num den = if S.stagNum num den = true then 2 else if 1000 < l.length then 4 else 0 := by
        unfold S.stagErr; rw [hany]; rfl
      by_cases hsn : S.stagNum num den = true
      · have HT := Lib.hid (stagT_err (l := l) (num := num) (den := den) (e := 2) (by rw [hE0, if_pos hsn]) (by decide))
        have hcs : (if den < num then den else num) < 1 ∨ (¬ (if den < num then den else num) < 1 ∧ 1000 < (if num < den then den else num)) := by
          simp only [S.stagNum, Bool.or_eq_true, decide_eq_true_eq] at hsn
          split <;> split <;> omega
        clear hE0 hsn hany hall
        generalize hlo : (if den < num then den else num) = lo at *
        generalize hhi : (if num < den then den else num) = hi at *
        rcases hcs with h1 | ⟨h1, h2⟩
        all_goals (
          go_wp2
          go_ret3
          exact ⟨by rw [HT.out]; rfl, (by repeat (first | exact Below.refl _ _ | assumption | refine ba_alloc ?_ _ | refine ba_drew ?_ | refine ba_drewN ?_ _ | refine ba_via (by assumption) ?_ | (refine ba_set ?_ ?_ _; rotate_left; (first | omega | (simp; omega) | simp))))⟩)
      have hsn' : (¬ (if den < num then den else num) < 1 ∧ ¬ 1000 < (if num < den then den else num)) ∧ (1 ≤ num ∧ num ≤ 1000) ∧ (1 ≤ den ∧ den ≤ 1000) := by
        simp only [S.stagNum, Bool.or_eq_true, decide_eq_true_eq] at hsn
        split <;> split <;> omega
      obtain ⟨⟨h1, h2⟩, hnum, hden⟩ := hsn'
      rw [if_neg hsn] at hE0
      generalize hlo : (if den < num then den else num) = lo at *
      generalize hhi : (if num < den then den else num) = hi at *
      by_cases h1000 : 1000 < n
      · have HT := Lib.hid (stagT_err (l := l) (num := num) (den := den) (e := 4) (by rw [hE0, if_pos (by have := HN.out; omega)]) (by decide))
        clear hE0 hsn hany hall
        go_wp2
        go_ret3
        exact ⟨by rw [HT.out]; rfl, (by repeat (first | exact Below.refl _ _ | assumption | refine ba_alloc ?_ _ | refine ba_drew ?_ | refine ba_drewN ?_ _ | refine ba_via (by assumption) ?_ | (refine ba_set ?_ ?_ _; rotate_left; (first | omega | (simp; omega) | simp))))⟩
      have HE0 := Lib.hid (show S.stagErr l num den = 0 by rw [hE0, if_neg (by have := HN.out; omega)])
      have HNW := Lib.hid (fun (i j : Nat) (hi : i < l.length) (hj : j < l.length) => near_walk (hall i hi) (hall j hj) hnum hden)
      clear hE0 hsn hany hall
      go_wp2
      have hsr := hs.below (hbr.mono hB)
      have hBr : B ≤ wr.heap.size := by have := hbr.size; omega
      clear hs
      go_loopw [57] (fun i wq => ∃ k : Nat, k ≤ n ∧ i = .int .i64 k ∧ (∀ j, j < k → S.stagP l num den j = false) ∧ Below wr.heap.size wr wq) (fun i _ => n - (intOf i).toNat)
      case atStart => exact ⟨0, Nat.zero_le _, rfl, fun j hj => absurd hj (by omega), Below.refl _ _⟩
      case round =>
        obtain ⟨k2, hk2, rfl, hno2, hbr2⟩ := hrel
        have HNO2 := Lib.hid hno2
        clear hno2
        by_cases hlt2 : k2 < n
        · have hkx : k2 < l.length := by have := HN.out; omega
          have hs' := hsr.below (hbr2.mono hBr)
          obtain ⟨b, o, rfl, hbB, _⟩ := hs'.at_ (by rw [flat_len spC 2 spC_len]; omega)
          have c0 := hs'.row0 spC_len hkx rfl
          have c1 := hs'.rowj spC_len hkx 1 rfl
          have hkc : k2 ≤ c := by omega
          have hk2i : (k2 : Int) < n := by omega
          have HNWk := Lib.hid (fun (j : Nat) (hj : j < l.length) => HNW.out k2 j hkx hj)
          have HYES := Lib.hid (fun (j : Nat) (hj : j < k2) (h : S.nearS num den l[k2] (l[j]'(by omega)) = true) => stagT_hit (l := l) (num := num) (den := den) HE0.out (stag_hit hkx (stagP_yes hkx hj h) HNO2.out))
          have HNON := Lib.hid (fun (h : ∀ j (hj : j < k2), S.nearS num den l[k2] (l[j]'(by omega)) = false) => show ∀ j, j < k2 + 1 → S.stagP l num den j = false from fun j hj => by
            by_cases hjk : j = k2
            · subst hjk; exact stagP_no hkx h
            · exact HNO2.out j (by omega))
          generalize l[k2] = a at *
          go_wp2
          have hbn := hbr2.size
          have hA := Blk.new wr 29 #[.int .i64 a.lo, .int .i64 a.hi]
          have hbw : Below w.heap.size w (wr.alloc (.cells #[.int .i64 a.lo, .int .i64 a.hi] 29)) := ba_alloc (hbr.trans (hbr2.mono hbr.size)) _
          have hsq := hs'.alloc (by omega) (.cells #[.int .i64 a.lo, .int .i64 a.hi] 29)
          have hwa : (wr.alloc (.cells #[.int .i64 a.lo, .int .i64 a.hi] 29)).heap.size = wr.heap.size + 1 := by simp
          have hbra := hbr2.trans ((ba_alloc (Below.refl _ wr) (.cells #[.int .i64 a.lo, .int .i64 a.hi] 29)).mono hbn)
          generalize wr.alloc (.cells #[.int .i64 a.lo, .int .i64 a.hi] 29) = wa at *
          clear hs' c0 c1
          go_loopw [66] (fun i wq => ∃ j : Nat, j ≤ k2 ∧ i = .int .i64 j ∧ (∀ m (hm : m < k2), m < j → S.nearS num den a (l[m]'(by omega)) = false) ∧ Below wa.heap.size wa wq) (fun i _ => k2 - (intOf i).toNat)
          case atStart => exact ⟨0, Nat.zero_le _, rfl, fun m _ hm => absurd hm (by omega), Below.refl _ _⟩
          case round =>
            obtain ⟨j, hj, rfl, hno3, hbq⟩ := hrel
            have HNO3 := Lib.hid hno3
            clear hno3
            by_cases hlt3 : j < k2
            · have hjx : j < l.length := by omega
              have hs3 := hsq.below (hbq.mono (by omega))
              have c0 := hs3.row0 spC_len hjx rfl
              have c1 := hs3.rowj spC_len hjx 1 rfl
              have hAq := hA.via hbq
              have a0 := hAq.cell 0
              have a1 := hAq.cell 1
              have ltA := hAq.lt
              simp only [List.getElem?_toArray, List.getElem?_cons_zero, List.getElem?_cons_succ] at a0 a1
              obtain ⟨x1, x2, d1, y1, y2, d2, M, p, q, v1, v2, W, z, e1, e2, e3, e4, e5, e6, e7, e8, e9, e10, e11, e12, e13, e14⟩ := HNWk.out j hjx
              have HY := Lib.hid (HYES.out j hlt3)
              have HG := Lib.hid (fun (h : S.nearS num den a (l[j]'hjx) = false) (m : Nat) (hm : m < k2) (hmj : m < j + 1) => show S.nearS num den a (l[m]'(by omega)) = false from by
                by_cases hmj' : m = j
                · subst hmj'; exact h
                · exact HNO3.out m hm (by omega))
              have E14 := Lib.hid e14
              clear e14 hs3 hAq
              generalize l[j] = s at *
              generalize S.nearS num den a s = t at *
              cases t
              · have hpz : ¬ p < z := of_decide_eq_false E14.out
                have HG' := Lib.hid (HG.out rfl)
                go_wp2
                go_roundw
                case rel => exact ⟨j + 1, by omega, by go_num, HG'.out, hbq.trans (Below.mono (by repeat (first | exact Below.refl _ _ | assumption | refine ba_alloc ?_ _ | refine ba_drew ?_ | refine ba_drewN ?_ _ | refine ba_via (by assumption) ?_ | (refine ba_set ?_ ?_ _; rotate_left; (first | omega | (simp; omega) | simp)))) hbq.size)⟩
                case measure => simp [intOf]; omega
              · have hpz : p < z := of_decide_eq_true E14.out
                have HG' := Lib.hid (HY.out rfl)
                go_wp2
                go_ret3
                exact ⟨by rw [HG'.out]; rfl, hbw.trans (Below.mono (hbq.trans (Below.mono (by repeat (first | exact Below.refl _ _ | assumption | refine ba_alloc ?_ _ | refine ba_drew ?_ | refine ba_drewN ?_ _ | refine ba_via (by assumption) ?_ | (refine ba_set ?_ ?_ _; rotate_left; (first | omega | (simp; omega) | simp)))) hbq.size)) hbw.size)⟩
            · have HNN := Lib.hid (HNON.out (fun m hm => HNO3.out m hm (by omega)))
              obtain rfl : k2 = j := by omega
              clear hj hlt3
              go_wp2
              go_roundw
              case rel => exact ⟨k2 + 1, by omega, by go_num, HNN.out, hbra.trans (hbq.mono hbra.size)⟩
              case measure => simp [intOf]; omega
        · have HT := Lib.hid (stagT_miss (l := l) (num := num) (den := den) HE0.out (stag_miss (fun j hj => HNO2.out j (by have := HN.out; omega))))
          go_wp2
          go_ret3
          exact ⟨by rw [HT.out]; rfl, hbr.trans (hbr2.mono hbr.size)⟩
theorem islen_any (n : Int) (w : World) :
    Calls Try.prog 33 #[.int .i64 n] w fun e w' => e = .returned (.bool (S.place n)) ∧ w = w' := by
  have H := Lib.hid (show S.place n = (decide (-1048576 ≤ n) && decide (n ≤ 1048576)) from rfl)
  go_enter Try.func33, Try.ntmps33
  go_wp2
  all_goals (go_ret; exact ⟨ret_b (by rw [H.out, Bool.eq_iff_iff]; all_goals (first | (simp; done) | (simp; omega))), rfl⟩)
theorem rspan_any (s : Sp) (w : World) : Calls Try.prog 11 #[spV s] w fun e w' => e = .returned (.bool (S.spanOk s)) ∧ Below w.heap.size w w' := by
  have H := Lib.hid (show S.spanOk s = (decide (s.lo ≤ s.hi) && S.place s.lo && S.place s.hi) from rfl)
  have H0 := Lib.hid (fun w => islen_any s.lo w)
  have H1 := Lib.hid (fun w => islen_any s.hi w)
  generalize S.place s.lo = t0 at *
  generalize S.place s.hi = t1 at *
  unfold spV
  have hcs : (s.hi < s.lo) ∨ (s.lo ≤ s.hi ∧ t0 = false) ∨ (s.lo ≤ s.hi ∧ t0 = true) := by
    by_cases h : s.hi < s.lo
    · exact .inl h
    · cases t0
      · exact .inr (.inl ⟨by omega, rfl⟩)
      · exact .inr (.inr ⟨by omega, rfl⟩)
  rcases hcs with h | ⟨h, rfl⟩ | ⟨h, rfl⟩
  · have hd : decide (s.lo ≤ s.hi) = false := decide_eq_false (by omega)
    rw [hd] at H
    clear hd
    go_enter Try.func11, Try.ntmps11
    go_wp2
    go_ret
    exact ⟨ret_b (by rw [H.out]; simp), (by repeat (first | exact Below.refl _ _ | assumption | refine ba_alloc ?_ _ | refine ba_drew ?_ | refine ba_drewN ?_ _ | refine ba_via (by assumption) ?_ | (refine ba_set ?_ ?_ _; rotate_left; (first | omega | (simp; omega) | simp))))⟩
  all_goals (
    rw [decide_eq_true h] at H
    go_enter Try.func11, Try.ntmps11
    go_wp2_with (first
      | (go_at_call 33; (with_reducible refine (H0.out _).mono ?_); rintro e w' ⟨rfl, rfl⟩)
      | (go_at_call 33; (with_reducible refine (H1.out _).mono ?_); rintro e w' ⟨rfl, rfl⟩))
    go_ret
    exact ⟨ret_b (by rw [H.out]; simp), (by repeat (first | exact Below.refl _ _ | assumption | refine ba_alloc ?_ _ | refine ba_drew ?_ | refine ba_drewN ?_ _ | refine ba_via (by assumption) ?_ | (refine ba_set ?_ ?_ _; rotate_left; (first | omega | (simp; omega) | simp))))⟩)
theorem spanNot_any (s : Sp) (w : World) : Calls Try.prog 10 #[spV s] w fun e w' => e = .returned (.bool (S.spanNot s)) ∧ Below w.heap.size w w' := by
  have H := Lib.hid (show S.spanNot s = !S.spanOk s from rfl)
  have H0 := Lib.hid (fun w => rspan_any s w)
  generalize S.spanOk s = t at *
  unfold spV
  unfold spV at H0
  go_enter Try.func10, Try.ntmps10
  go_wp2_with (first
    | (go_at_call 11; (with_reducible refine (H0.out _).mono ?_); rintro e w1 ⟨rfl, hbw1⟩; obtain ⟨hcw1, hfw1⟩ := bcell hbw1; have hzw1_0 : w.heap.size < w1.heap.size := lt_via hbw1 (by first | omega | (simp; done) | (simp; omega))))
  go_ret
  exact ⟨ret_b (by rw [H.out]), (by repeat (first | exact Below.refl _ _ | assumption | refine ba_alloc ?_ _ | refine ba_drew ?_ | refine ba_drewN ?_ _ | refine ba_via (by assumption) ?_ | (refine ba_set ?_ ?_ _; rotate_left; (first | omega | (simp; omega) | simp))))⟩
def AsksS (w : World) (F : Nat) (fst cap : Array Value) (p : Sp → Bool) : Prop :=
  ∀ (x : Sp) (w' : World), Below w.heap.size w w' → Calls Try.prog F (fst.push (spV x) ++ cap) w' fun e w'' => e = .returned (.bool (p x)) ∧ Below w'.heap.size w' w''
theorem indexfS_any (F : Nat) (fst cap : Array Value) (p : Sp → Bool) (A : Option Addr) (n c : Nat) (xs : List Sp) (B : Nat) (w : World) (hn : xs.length = n) (hm : n ≤ 9223372036854775807) (hB : B ≤ w.heap.size)
    (hs : Cells w B A (xs.flatMap spC)) (hF : ∀ args w, Sem.run Try.prog (callFunc F args) w = .ok (.enter F args) w) (hf : AsksS w F fst cap p) :
    Calls Try.prog 32 #[.slice A n c, .func (.func F) fst cap] w fun e w' => e = .returned (.int .i64 (idxf xs p)) ∧ Below w.heap.size w w' := by
  have HN := Lib.hid hn
  clear hn
  go_enter Try.func32, Try.ntmps32
  go_wp2
  go_loopw [8] (fun i wr => ∃ k : Nat, k ≤ n ∧ i = .int .i64 k ∧ (∀ j (h : j < xs.length), j < k → p xs[j] = false) ∧ Below w.heap.size w wr) (fun i _ => n - (intOf i).toNat)
  case atStart => exact ⟨0, Nat.zero_le _, rfl, fun j _ hj => absurd hj (by omega), Below.refl _ _⟩
  case round =>
    obtain ⟨k, hk, rfl, hno, hbr⟩ := hrel
    have HNO := Lib.hid hno
    clear hno
    by_cases hlt : k < n
    · have hkx : k < xs.length := by have := HN.out; omega
      have hs' := hs.below (hbr.mono hB)
      obtain ⟨b, o, rfl, _, _⟩ := hs'.at_ (by rw [flat_len spC 2 spC_len]; omega)
      have c0 := hs'.row0 spC_len hkx rfl
      have c1 := hs'.rowj spC_len hkx 1 rfl
      by_cases hx : p xs[k] = true
      · go_wp2_with (refine (hf _ _ hbr).mono ?_; rintro e w1 ⟨rfl, hb1⟩)
        go_ret
        exact ⟨ret_i (idxf_hit hkx hx HNO.out).symm, hbr.trans (hb1.mono hbr.size)⟩
      · have hx' : p xs[k] = false := by simpa using hx
        clear hx
        go_wp2_with (refine (hf _ _ hbr).mono ?_; rintro e w1 ⟨rfl, hb1⟩)
        go_roundw
        case rel =>
          refine ⟨k + 1, by omega, by go_num, fun j hj hjk => ?_, hbr.trans (hb1.mono hbr.size)⟩
          by_cases hjk' : j = k
          · subst hjk'; exact hx'
          · exact HNO.out j hj (by omega)
        case measure => simp [intOf]; omega
    · go_wp2
      go_ret
      exact ⟨ret_i (idxf_miss (fun j hj => HNO.out j hj (by have := HN.out; omega))).symm, hbr⟩
theorem containsfS_any (F : Nat) (fst cap : Array Value) (p : Sp → Bool) (A : Option Addr) (n c : Nat) (xs : List Sp) (B : Nat) (w : World) (hn : xs.length = n) (hm : n ≤ 9223372036854775807) (hB : B ≤ w.heap.size)
    (hs : Cells w B A (xs.flatMap spC)) (hF : ∀ args w, Sem.run Try.prog (callFunc F args) w = .ok (.enter F args) w) (hf : AsksS w F fst cap p) :
    Calls Try.prog 9 #[.slice A n c, .func (.func F) fst cap] w fun e w' => e = .returned (.bool (anyb xs p)) ∧ Below w.heap.size w w' := by
  have HN := Lib.hid hn
  have HF := Lib.hid hF
  have he : decide (0 ≤ idxf xs p) = anyb xs p := idxf_ge xs p
  clear hn hF
  go_enter Try.func9, Try.ntmps9
  go_wp2_with (go_at_call 32; (with_reducible refine (indexfS_any F fst cap p _ _ _ xs B _ HN.out hm hB hs HF.out hf).mono ?_); rintro e w1 ⟨rfl, hbw1⟩; obtain ⟨hcw1, hfw1⟩ := bcell hbw1)
  go_ret
  exact ⟨rfl, (by repeat (first | exact Below.refl _ _ | assumption | refine ba_alloc ?_ _ | refine ba_drew ?_ | refine ba_drewN ?_ _ | refine ba_via (by assumption) ?_ | (refine ba_set ?_ ?_ _; rotate_left; (first | omega | (simp; omega) | simp))))⟩
theorem rnear_walk {a b : Sp} (ha : S.spanOk a = true) (hb : S.spanOk b = true) {num den : Int} (hn : 1 ≤ num ∧ num ≤ 1000) (hd : 1 ≤ den ∧ den ≤ 1000) :
    ∃ x1 x2 d nd p q v1 v2 W z : Int, IntKind.i64.wrap (a.lo + a.hi) = x1 ∧ IntKind.i64.wrap (x1 - b.lo) = x2 ∧ IntKind.i64.wrap (x2 - b.hi) = d ∧ IntKind.i64.wrap (0 - d) = nd ∧ IntKind.i64.wrap (-d) = nd ∧ (d < 0 → IntKind.i64.wrap (nd * den) = p) ∧ (¬ d < 0 → IntKind.i64.wrap (d * den) = p) ∧ IntKind.i64.wrap (2 * num) = q ∧ IntKind.i64.wrap (a.hi - a.lo) = v1 ∧ IntKind.i64.wrap (b.hi - b.lo) = v2 ∧ (if v1 < v2 then v2 else v1) = W ∧ IntKind.i64.wrap (q * W) = z ∧ decide (p < z) = S.nearS num den b a := by
  simp only [S.spanOk, S.place, Bool.and_eq_true, decide_eq_true_eq] at ha hb
  have hM : 0 ≤ S.dist b a ∧ S.dist b a ≤ 8388608 := by unfold S.dist; split <;> omega
  have hW : 0 ≤ S.wide b a ∧ S.wide b a ≤ 8388608 := by unfold S.wide; split <;> omega
  have hp : 0 ≤ S.dist b a * den ∧ S.dist b a * den ≤ 8388608 * 1000 := ⟨Int.mul_nonneg hM.1 (by omega), Int.mul_le_mul hM.2 hd.2 (by omega) (by omega)⟩
  have hz : 0 ≤ 2 * num * S.wide b a ∧ 2 * num * S.wide b a ≤ 2000 * 8388608 := ⟨Int.mul_nonneg (by omega) hW.1, Int.mul_le_mul (by omega) hW.2 hW.1 (by omega)⟩
  have hD : (a.lo + a.hi - b.lo - b.hi < 0 → S.dist b a = -(a.lo + a.hi - b.lo - b.hi)) ∧ (¬ a.lo + a.hi - b.lo - b.hi < 0 → S.dist b a = a.lo + a.hi - b.lo - b.hi) := by
    unfold S.dist
    constructor <;> (intro h; split <;> omega)
  refine ⟨a.lo + a.hi, a.lo + a.hi - b.lo, a.lo + a.hi - b.lo - b.hi, -(a.lo + a.hi - b.lo - b.hi), S.dist b a * den, 2 * num, a.hi - a.lo, b.hi - b.lo, S.wide b a, 2 * num * S.wide b a,
    IntWalk.i64_in _ (by omega), IntWalk.i64_in _ (by omega), IntWalk.i64_in _ (by omega), ?_, IntWalk.i64_in _ (by omega), fun h => ?_, fun h => ?_, IntWalk.i64_in _ (by omega), IntWalk.i64_in _ (by omega), IntWalk.i64_in _ (by omega), ?_, IntWalk.i64_in _ (by omega), rfl⟩
  · rw [show 0 - (a.lo + a.hi - b.lo - b.hi) = -(a.lo + a.hi - b.lo - b.hi) by omega]
    exact IntWalk.i64_in _ (by omega)
  · rw [← hD.1 h]; exact IntWalk.i64_in _ (by omega)
  · rw [← hD.2 h]; exact IntWalk.i64_in _ (by omega)
  · unfold S.wide; split <;> split <;> omega
theorem rnear_any (a b : Sp) (num den : Int) (ha : S.spanOk a = true) (hb : S.spanOk b = true) (hn : 1 ≤ num ∧ num ≤ 1000) (hd : 1 ≤ den ∧ den ≤ 1000) (w : World) :
    Calls Try.prog 34 #[spV a, spV b, .int .i64 num, .int .i64 den] w fun e w' => e = .returned (.bool (S.nearS num den b a)) ∧ Below w.heap.size w w' := by
  obtain ⟨x1, x2, d, nd, p, q, v1, v2, W, z, e1, e2, e3, e4, e5, e6, e7, e8, e9, e10, e11, e12, e13⟩ := rnear_walk ha hb hn hd
  have E := Lib.hid e13
  clear e13 ha hb hn hd
  unfold spV
  by_cases h : d < 0
  · have e := e6 h
    clear e6 e7
    go_enter Try.func34, Try.ntmps34
    go_wp2
    go_ret
    exact ⟨ret_b E.out, (by repeat (first | exact Below.refl _ _ | assumption | refine ba_alloc ?_ _ | refine ba_drew ?_ | refine ba_drewN ?_ _ | refine ba_via (by assumption) ?_ | (refine ba_set ?_ ?_ _; rotate_left; (first | omega | (simp; omega) | simp))))⟩
  · have e := e7 h
    clear e6 e7
    go_enter Try.func34, Try.ntmps34
    go_wp2
    go_ret
    exact ⟨ret_b E.out, (by repeat (first | exact Below.refl _ _ | assumption | refine ba_alloc ?_ _ | refine ba_drew ?_ | refine ba_drewN ?_ _ | refine ba_via (by assumption) ?_ | (refine ba_set ?_ ?_ _; rotate_left; (first | omega | (simp; omega) | simp))))⟩
set_option maxRecDepth 8000 in
set_option maxHeartbeats 4000000 in
theorem rstag_any (l : List Sp) (num den : Int) (A : Option Addr) (n c : Nat) (B : Nat) (w : World) (hn : l.length = n) (hm : n ≤ 1000000) (hB : B ≤ w.heap.size) (hs : Cells w B A (l.flatMap spC)) (hok : anyb l S.spanNot = false) (hnum : 1 ≤ num ∧ num ≤ 1000) (hden : 1 ≤ den ∧ den ≤ 1000) :
    Calls Try.prog 12 #[.slice A n c, .int .i64 num, .int .i64 den] w fun e w' => e = .returned (.int .i64 (S.stag l num den)) ∧ Below w.heap.size w w' := by
  have HN := Lib.hid hn
  have HR := Lib.hid (fun (i j : Nat) (hi : i < l.length) (hj : j < l.length) (w : World) => rnear_any l[j] l[i] num den (span_ok hok hj) (span_ok hok hi) hnum hden w)
  clear hn hok hnum hden
  unfold spV at HR
  go_enter Try.func12, Try.ntmps12
  go_wp2
  go_loopw [7] (fun i wr => ∃ k : Nat, k ≤ n ∧ i = .int .i64 k ∧ (∀ j, j < k → S.stagP l num den j = false) ∧ Below w.heap.size w wr) (fun i _ => n - (intOf i).toNat)
  case atStart => exact ⟨0, Nat.zero_le _, rfl, fun j hj => absurd hj (by omega), Below.refl _ _⟩
  case round =>
    obtain ⟨k, hk, rfl, hno, hbr⟩ := hrel
    have HNO := Lib.hid hno
    clear hno
    by_cases hlt : k < n
    · have hkx : k < l.length := by have := HN.out; omega
      have hs' := hs.below (hbr.mono hB)
      obtain ⟨b, o, rfl, hbB, _⟩ := hs'.at_ (by rw [flat_len spC 2 spC_len]; omega)
      have hki : (k : Int) < n := by omega
      have HYES := Lib.hid (fun (j : Nat) (hj : j < k) (h : S.nearS num den l[k] (l[j]'(by omega)) = true) => stag_hit hkx (stagP_yes hkx hj h) HNO.out)
      have HNON := Lib.hid (fun (h : ∀ j (hj : j < k), S.nearS num den l[k] (l[j]'(by omega)) = false) => show ∀ j, j < k + 1 → S.stagP l num den j = false from fun j hj => by
        by_cases hjk : j = k
        · subst hjk; exact stagP_no hkx h
        · exact HNO.out j (by omega))
      have HRk := Lib.hid (fun (j : Nat) (hj : j < l.length) (w : World) => HR.out k j hkx hj w)
      have hbw : B ≤ wr.heap.size := by have := hbr.size; omega
      go_wp2
      go_loopw [8] (fun i wq => ∃ j : Nat, j ≤ k ∧ i = .int .i64 j ∧ (∀ m (hm : m < k), m < j → S.nearS num den l[k] (l[m]'(by omega)) = false) ∧ Below wr.heap.size wr wq) (fun i _ => k - (intOf i).toNat)
      case atStart => exact ⟨0, Nat.zero_le _, rfl, fun m _ hm => absurd hm (by omega), Below.refl _ _⟩
      case round =>
        obtain ⟨j, hj, rfl, hno3, hbq⟩ := hrel
        have HNO3 := Lib.hid hno3
        clear hno3
        by_cases hlt3 : j < k
        · have hjx : j < l.length := by omega
          have hji : (j : Int) < n := by omega
          have hbb : b < wr.heap.size := by have := hbq.size; omega
          have hs3 := hs'.below (hbq.mono hbw)
          have c0 := hs3.row0 spC_len hjx rfl
          have c1 := hs3.rowj spC_len hjx 1 rfl
          have c2 := hs3.row0 spC_len hkx rfl
          have c3 := hs3.rowj spC_len hkx 1 rfl
          have HX := Lib.hid (HRk.out j hjx)
          have HY := Lib.hid (HYES.out j hlt3)
          have HG := Lib.hid (fun (h : S.nearS num den l[k] (l[j]'hjx) = false) (m : Nat) (hm : m < k) (hmj : m < j + 1) => show S.nearS num den l[k] (l[m]'(by omega)) = false from by
            by_cases hmj' : m = j
            · subst hmj'; exact h
            · exact HNO3.out m hm (by omega))
          clear hs3
          generalize S.nearS num den l[k] l[j] = t at *
          generalize l[j] = s at *
          generalize l[k] = a at *
          cases t
          · have HG' := Lib.hid (HG.out rfl)
            go_wp2
            refine wp_region_grow (by kernel_rfl) (by kernel_rfl) ?_
            repeat (go_big_quiet_step ((go_at_call 34; exact grow_of (HX.out _))))
            all_goals (refine wpQuiet_nil ?_; intro wg hbwg; obtain ⟨hcwg, hfwg⟩ := bcell hbwg)
            go_wp2
            go_roundw
            case rel => exact ⟨j + 1, by omega, by go_num, HG'.out, hbq.trans (hbwg.mono hbq.size)⟩
            case measure => simp [intOf]; omega
          · have HG' := Lib.hid (HY.out rfl)
            go_wp2
            refine wp_region_grow (by kernel_rfl) (by kernel_rfl) ?_
            repeat (go_big_quiet_step ((go_at_call 34; exact grow_of (HX.out _))))
            all_goals (refine wpQuiet_nil ?_; intro wg hbwg; obtain ⟨hcwg, hfwg⟩ := bcell hbwg)
            go_wp2
            go_ret
            exact ⟨ret_i HG'.out.symm, hbr.trans (Below.mono (hbq.trans (hbwg.mono hbq.size)) hbr.size)⟩
        · have HNN := Lib.hid (HNON.out (fun m hm => HNO3.out m hm (by omega)))
          obtain rfl : k = j := by omega
          clear hj hlt3
          go_wp2
          go_roundw
          case rel => exact ⟨k + 1, by omega, by go_num, HNN.out, hbr.trans (hbq.mono hbr.size)⟩
          case measure => simp [intOf]; omega
    · have HT := Lib.hid (stag_miss (l := l) (num := num) (den := den) (fun j hj => HNO.out j (by have := HN.out; omega)))
      go_wp2
      go_ret
      exact ⟨ret_i HT.out.symm, hbr⟩
end Go.Proofs.Ytplaghmehbkcnaa
