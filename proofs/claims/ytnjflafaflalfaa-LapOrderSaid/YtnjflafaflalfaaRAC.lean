/- Contracts: laid.right, its points. -/
import Derived.Test.YtnjflafaflalfaaRAB
set_option linter.unusedVariables false
set_option linter.unusedSimpArgs false
namespace Go.Proofs.Ytnjflafaflalfaa
open Go.RowKit
theorem all_no {α : Type} {l : List α} {p : α → Bool} {k : Nat} (hk : k < l.length) (h : p l[k] = false) : l.all p = false := by
  rw [List.all_eq_false]
  exact ⟨_, List.getElem_mem hk, by simp [h]⟩
theorem all_yes {α : Type} {l : List α} {p : α → Bool} (h : ∀ j (hj : j < l.length), p l[j] = true) : l.all p = true := by
  rw [List.all_eq_true]
  intro x hx
  obtain ⟨j, hj, rfl⟩ := List.mem_iff_getElem.1 hx
  exact h j hj
set_option maxHeartbeats 4000000 in
theorem right_in (l : List BarR) (r : Rn) (k0 : Nat) (b : BarR) (A : Option Addr) (n c : Nat) (B : Nat) (w : World) (hB : B ≤ w.heap.size) (hA : BarsAt w B A n l) (h : S.rightHead (bars l) r = true) (h' : S.rightStep r = true) (hk0 : S.index (bars l) r.mark = (k0 : Int)) (hbk : l[k0]? = some b) (hv : S.bar b.b = true) :
    Calls Try.prog 40 #[.slice A n c, rnV r] w fun e w' => e = .returned (.bool (S.rightPts b.b r)) ∧ Below w.heap.size w w' := by
  have HA := Lib.hid hA
  obtain ⟨⟨h0, h1, h2⟩, h3, h4⟩ := rightHead_out h
  have HI := Lib.hid (fun (W : World) (hw : B ≤ W.heap.size) (hh : BarsAt W B A n l) => lfind_any l r.mark A n c B W hw hh)
  have HV := Lib.hid (fun w => h1 ▸ fvalid_any r.tx r.ty w)
  have HP := Lib.hid (fun w => h2 ▸ isplace_any r.at_ 1048576 (by omega) w)
  have HS := Lib.hid (fun w => isplace_any r.step 2097152 (by omega) w)
  have HT := Lib.hid (fun (W : World) (hw : B ≤ W.heap.size) (hh : BarsAt W B A n l) => turned_any l r k0 b A n c B W hw hh hk0 hbk hv)
  have HM := Lib.hid (fun (p : Pt) w => isplace_any p 1048576 (by omega) w)
  have hz : ∀ W, (binOp .eql 70 (.agg #[.int .i64 r.step.x, .int .i64 r.step.y, .int .i64 r.step.z]) (.agg #[.int .i64 0, .int .i64 0, .int .i64 0])).run Try.prog W = .ok (.bool (S.pt0 r.step)) W := fun W => run_eq0 r.step W
  have z91 : ∀ W, (Instr.build 70 #[]).run Try.prog W = .ok (.agg #[.int .i64 0, .int .i64 0, .int .i64 0]) W := fun _ => by kernel_rfl
  have HR := Lib.hid (show S.rightPts b.b r = ((S.turned b.b r).all (S.ptOk r 0) && (S.turned b.b r).all (S.ptOk r (r.count - 1))) from rfl)
  have hlen : (S.turned b.b r).length ≤ 7 := Nat.le_trans (fpath_le _ _ _ _) (by rw [path_len]; have := legs_len b.b.code; omega)
  have HNP := Lib.hid (fun (k : Nat) (hk : k < (S.turned b.b r).length) => fpath_near (x := r.tx) (y := r.ty) (o := ⟨0, 0, 0⟩) (l := S.path b.b) (List.getElem_mem (l := S.turned b.b r) hk))
  have HPT := Lib.hid (show ∀ (kv : Int) (p : Pt), S.ptOk r kv p = S.near1 (if 0 < kv then S.plus (S.plus p r.at_ 1) r.step kv else S.plus p r.at_ 1) 1048576 from fun _ _ => rfl)
  have HPL1 := Lib.hid (fun (p : Pt) (hp : S.near1 p 4194304 = true) (w : World) => plus_any p r.at_ 1 (near1_mono hp (by omega)) (near1_mono h2 (by omega)) (by omega) w)
  have hcs : (¬ 1 < r.count) ∨ (1 < r.count ∧ S.pt0 r.step = false ∧ S.near1 r.step 2097152 = true) := by
    by_cases h5 : 1 < r.count
    · simp [S.rightStep, h5] at h'
      exact .inr ⟨h5, h'⟩
    · exact .inl h5
  have HPL2 := Lib.hid (fun (p : Pt) (hp : S.near1 p 4194304 = true) (kv : Int) (hkv : 0 < kv) (hkv2 : kv = 0 ∨ kv = r.count - 1) (w : World) => by
    have hst : S.near1 r.step 2097152 = true := by
      rcases hcs with h5 | h5
      · exfalso; omega
      · exact h5.2.2
    exact plus_any (S.plus p r.at_ 1) r.step kv (near1_mono (plus_near hp (near1_mono h2 (show (1048576 : Int) ≤ 4194304 by omega)) (c := 1) (by omega) (by omega)) (by omega)) (near1_mono hst (by omega)) (by omega) w)
  unfold turnV at HV
  unfold ptV at HP HS HPL1 HPL2 HM
  unfold rnV at HT
  clear hA h h' h0 h1 h2 hv hbk
  generalize S.ptOk r = PO at *
  generalize S.turned b.b r = T at *
  have hj : ¬ S.index (bars l) r.mark < 0 := by omega
  generalize S.index (bars l) r.mark = j at *
  clear hk0
  unfold rnV
  rcases hcs with h5 | ⟨h5, h6, h7⟩
  · skip
    go_enter Try.func40, Try.ntmps40
    go_wp2_with (first
      | (go_at_call 57; (with_reducible refine (HI.out _ (by simp; omega) (HA.out.at_ hB bel)).mono ?_); rintro e w1 ⟨rfl, hbw1⟩; obtain ⟨hcw1, hfw1⟩ := bcell hbw1; have hzw1_0 : w.heap.size < w1.heap.size := lt_via hbw1 (by first | omega | (simp; done) | (simp; omega)))
      | (go_at_call 58; (with_reducible refine (HV.out _).mono ?_); rintro e w2 ⟨rfl, hbw2⟩; obtain ⟨hcw2, hfw2⟩ := bcell hbw2; have hzw2_0 : w.heap.size < w2.heap.size := lt_via hbw2 (by first | omega | (simp; done) | (simp; omega)))
      | (go_at_call 59; (with_reducible refine (HP.out _).mono ?_); rintro e w3 ⟨rfl, hbw3⟩; obtain ⟨hcw3, hfw3⟩ := bcell hbw3; have hzw3_0 : w.heap.size < w3.heap.size := lt_via hbw3 (by first | omega | (simp; done) | (simp; omega)))
      | (go_at_call 59; (with_reducible refine (HS.out _).mono ?_); rintro e w4 ⟨rfl, hbw4⟩; obtain ⟨hcw4, hfw4⟩ := bcell hbw4; have hzw4_0 : w.heap.size < w4.heap.size := lt_via hbw4 (by first | omega | (simp; done) | (simp; omega)))
      | (go_at_call 60; (with_reducible refine (HT.out _ (size_via hB bel) (HA.out.at_ hB bel)).mono ?_); rintro e w5 ⟨Aw5, cw5, rfl, how5, hbw5⟩; obtain ⟨hcw5, hfw5⟩ := bcell hbw5; have hzw5_0 : w.heap.size < w5.heap.size := lt_via hbw5 (by first | omega | (simp; done) | (simp; omega))))
    have hbA : Below (w.alloc (.cells #[.string r.mark, .int .i64 r.tx, .int .i64 r.ty, .int .i64 r.at_.x, .int .i64 r.at_.y, .int .i64 r.at_.z, .int .i64 r.step.x, .int .i64 r.step.y, .int .i64 r.step.z, .int .i64 r.count] 78)).heap.size (w.alloc (.cells #[.string r.mark, .int .i64 r.tx, .int .i64 r.ty, .int .i64 r.at_.x, .int .i64 r.at_.y, .int .i64 r.at_.z, .int .i64 r.step.x, .int .i64 r.step.y, .int .i64 r.step.z, .int .i64 r.count] 78)) w5 := bel
    have hRn := ((Blk.new w 78 #[.string r.mark, .int .i64 r.tx, .int .i64 r.ty, .int .i64 r.at_.x, .int .i64 r.at_.y, .int .i64 r.at_.z, .int .i64 r.step.x, .int .i64 r.step.y, .int .i64 r.step.z, .int .i64 r.count]).via hbA).alloc (.cells #[.int .i64 0, .int .i64 (r.count - 1)] 3)
    have hC := (own_cells how5 (by unfold maxLen; omega)).1.alloc (Nat.le_refl _) (.cells #[.int .i64 0, .int .i64 (r.count - 1)] 3)
    have hLit := Blk.new w5 3 #[.int .i64 0, .int .i64 (r.count - 1)]
    have hbw : Below w.heap.size w (w5.alloc (.cells #[.int .i64 0, .int .i64 (r.count - 1)] 3)) := bel
    have hs6 : (w5.alloc (.cells #[.int .i64 0, .int .i64 (r.count - 1)] 3)).heap.size = w5.heap.size + 1 := by simp
    clear hcw1 hfw1 hcw2 hfw2 hcw3 hfw3 hcw5 hfw5 hbA
    try clear hcw4 hfw4
    generalize w5.alloc (.cells #[.int .i64 0, .int .i64 (r.count - 1)] 3) = w6 at *
    go_loopw [61] (fun i wr => ∃ k : Nat, k ≤ 2 ∧ i = .int .i64 k ∧ (1 ≤ k → T.all (PO 0) = true) ∧ (2 ≤ k → T.all (PO (r.count - 1)) = true) ∧ Below w6.heap.size w6 wr) (fun i _ => 2 - (intOf i).toNat)
    case atStart => exact ⟨0, by omega, rfl, fun h => absurd h (by omega), fun h => absurd h (by omega), Below.refl _ _⟩
    case round =>
      obtain ⟨k, hk, rfl, ha1, ha2, hbr⟩ := hrel
      by_cases hlt : k < 2
      · obtain ⟨kv, hkc, hkv, hyes, hno⟩ : ∃ kv : Int, (#[Value.int .i64 0, .int .i64 (r.count - 1)] : Array Value)[k]? = some (.int .i64 kv) ∧ (kv = 0 ∨ kv = r.count - 1) ∧ (T.all (PO kv) = true → (1 ≤ k + 1 → T.all (PO 0) = true) ∧ (2 ≤ k + 1 → T.all (PO (r.count - 1)) = true)) ∧ (T.all (PO kv) = false → (T.all (PO 0) && T.all (PO (r.count - 1))) = false) := by
          have hk2 : k = 0 ∨ k = 1 := by omega
          rcases hk2 with rfl | rfl
          · exact ⟨0, rfl, .inl rfl, fun h => ⟨fun _ => h, fun h2 => absurd h2 (by omega)⟩, fun h => by rw [h]; rfl⟩
          · exact ⟨r.count - 1, rfl, .inr rfl, fun h => ⟨fun _ => ha1 (by omega), fun _ => h⟩, fun h => by rw [h]; simp⟩
        have HY := Lib.hid hyes
        have HNO := Lib.hid hno
        have hl := (hLit.via hbr).cell k
        rw [hkc] at hl
        have hl' := (hLit.via hbr).lt
        have hRr := hRn.via hbr
        have hCr := hC.below (hbr.mono (by omega))
        have hsr := hbr.size
        have hlti : (k : Int) < 2 := by omega
        have hbwr : Below w.heap.size w wr := hbw.trans (hbr.mono hbw.size)
        clear ha1 ha2 hyes hno hkc hLit hRn hC
        go_wp2
        go_loopw [67] (fun i wq => ∃ q : Nat, q ≤ T.length ∧ i = .int .i64 q ∧ (∀ m (hm : m < T.length), m < q → PO kv T[m] = true) ∧ Below wr.heap.size wr wq) (fun i _ => T.length - (intOf i).toNat)
        case atStart => exact ⟨0, Nat.zero_le _, rfl, fun m _ hm => absurd hm (by omega), Below.refl _ _⟩
        case round =>
          obtain ⟨q, hq, rfl, hal, hbq⟩ := hrel
          have HAL := Lib.hid hal
          clear hal
          by_cases hqt : q < T.length
          · have hRq := hRr.via hbq
            have hCq := hCr.below (hbq.mono (by omega))
            obtain ⟨bp, op, rfl, hbp, _⟩ := hCq.at_ (by rw [flat_len ptC 3 ptC_len]; omega)
            have c0 := hCq.row0 ptC_len hqt rfl
            have c1 := hCq.rowj ptC_len hqt 1 rfl
            have c2 := hCq.rowj ptC_len hqt 2 rfl
            have a0 := hRq.cell 3
            have a1 := hRq.cell 4
            have a2 := hRq.cell 5
            have s0 := hRq.cell 6
            have s1 := hRq.cell 7
            have s2 := hRq.cell 8
            have ltR := hRq.lt
            have hsq := hbq.size
            simp only [List.getElem?_toArray, List.getElem?_cons_zero, List.getElem?_cons_succ] at a0 a1 a2 s0 s1 s2
            have HGO := Lib.hid (fun (h : PO kv T[q] = true) (m : Nat) (hm : m < T.length) (hmq : m < q + 1) => show PO kv T[m] = true from by
              by_cases hmq' : m = q
              · subst hmq'; exact h
              · exact HAL.out m hm (by omega))
            have HBAD := Lib.hid (fun (h : PO kv T[q] = false) => HNO.out (all_no (p := PO kv) hqt h))
            have hnp := HNP.out q hqt
            have HX := Lib.hid (HPT.out kv T[q])
            generalize T[q] = p at *
            clear hRr hRq hCr hCq
            have HQ1 := Lib.hid (HPL1.out p hnp)
            by_cases hkp : 0 < kv
            · exfalso; omega
            · rw [if_neg hkp] at HX
              clear HPL2
              generalize S.plus p r.at_ 1 = p1 at *
              have HM2 := Lib.hid (HM.out p1)
              generalize S.near1 p1 1048576 = t at *
              cases t
              · go_wp2_with (first
                  | (go_at_call 61; (with_reducible refine (HQ1.out _).mono ?_); rintro e v1 ⟨rfl, hbv1⟩; obtain ⟨hcv1, hfv1⟩ := bcell hbv1; have hzv1_0 : w.heap.size < v1.heap.size := lt_via hbv1 (by first | omega | (simp; done) | (simp; omega)); have hyv1_0 : wr.heap.size < v1.heap.size := lt_via hbv1 (by first | omega | (simp; done) | (simp; omega)))
                  | (go_at_call 59; (with_reducible refine (HM2.out _).mono ?_); rintro e v3 ⟨rfl, hbv3⟩; obtain ⟨hcv3, hfv3⟩ := bcell hbv3; have hzv3_0 : w.heap.size < v3.heap.size := lt_via hbv3 (by first | omega | (simp; done) | (simp; omega)); have hyv3_0 : v1.heap.size < v3.heap.size := lt_via hbv3 (by first | omega | (simp; done) | (simp; omega))))
                go_ret
                refine ⟨ret_b (by rw [HR.out]; exact (HBAD.out HX.out).symm), hbwr.trans (Below.mono ?_ hbwr.size)⟩
                exact hbq.trans (Below.mono bel hsq)
              · go_wp2_with (first
                  | (go_at_call 61; (with_reducible refine (HQ1.out _).mono ?_); rintro e v1 ⟨rfl, hbv1⟩; obtain ⟨hcv1, hfv1⟩ := bcell hbv1; have hzv1_0 : w.heap.size < v1.heap.size := lt_via hbv1 (by first | omega | (simp; done) | (simp; omega)); have hyv1_0 : wr.heap.size < v1.heap.size := lt_via hbv1 (by first | omega | (simp; done) | (simp; omega)))
                  | (go_at_call 59; (with_reducible refine (HM2.out _).mono ?_); rintro e v3 ⟨rfl, hbv3⟩; obtain ⟨hcv3, hfv3⟩ := bcell hbv3; have hzv3_0 : w.heap.size < v3.heap.size := lt_via hbv3 (by first | omega | (simp; done) | (simp; omega)); have hyv3_0 : v1.heap.size < v3.heap.size := lt_via hbv3 (by first | omega | (simp; done) | (simp; omega))))
                go_roundw
                case rel => exact ⟨q + 1, by omega, by go_num, HGO.out HX.out, hbq.trans (Below.mono bel hsq)⟩
                case measure => simp [intOf]; omega
          · have hy := HY.out (all_yes (fun m hm => HAL.out m hm (by omega)))
            have HY2 := Lib.hid hy
            clear hy
            go_wp2
            go_roundw
            case rel => exact ⟨k + 1, by omega, by go_num, HY2.out.1, HY2.out.2, hbr.trans (hbq.mono hbr.size)⟩
            case measure => simp [intOf]; omega
      · have h1' := ha1 (by omega)
        have h2' := ha2 (by omega)
        go_wp2
        go_ret
        exact ⟨ret_b (by rw [HR.out, h1', h2']; rfl), hbw.trans (hbr.mono hbw.size)⟩
  · rw [h7] at HS; simp only [h6] at hz; clear h6 h7
    go_enter Try.func40, Try.ntmps40
    go_wp2_with (first
      | (go_at_call 57; (with_reducible refine (HI.out _ (by simp; omega) (HA.out.at_ hB bel)).mono ?_); rintro e w1 ⟨rfl, hbw1⟩; obtain ⟨hcw1, hfw1⟩ := bcell hbw1; have hzw1_0 : w.heap.size < w1.heap.size := lt_via hbw1 (by first | omega | (simp; done) | (simp; omega)))
      | (go_at_call 58; (with_reducible refine (HV.out _).mono ?_); rintro e w2 ⟨rfl, hbw2⟩; obtain ⟨hcw2, hfw2⟩ := bcell hbw2; have hzw2_0 : w.heap.size < w2.heap.size := lt_via hbw2 (by first | omega | (simp; done) | (simp; omega)))
      | (go_at_call 59; (with_reducible refine (HP.out _).mono ?_); rintro e w3 ⟨rfl, hbw3⟩; obtain ⟨hcw3, hfw3⟩ := bcell hbw3; have hzw3_0 : w.heap.size < w3.heap.size := lt_via hbw3 (by first | omega | (simp; done) | (simp; omega)))
      | (go_at_call 59; (with_reducible refine (HS.out _).mono ?_); rintro e w4 ⟨rfl, hbw4⟩; obtain ⟨hcw4, hfw4⟩ := bcell hbw4; have hzw4_0 : w.heap.size < w4.heap.size := lt_via hbw4 (by first | omega | (simp; done) | (simp; omega)))
      | (go_at_call 60; (with_reducible refine (HT.out _ (size_via hB bel) (HA.out.at_ hB bel)).mono ?_); rintro e w5 ⟨Aw5, cw5, rfl, how5, hbw5⟩; obtain ⟨hcw5, hfw5⟩ := bcell hbw5; have hzw5_0 : w.heap.size < w5.heap.size := lt_via hbw5 (by first | omega | (simp; done) | (simp; omega))))
    have hbA : Below (w.alloc (.cells #[.string r.mark, .int .i64 r.tx, .int .i64 r.ty, .int .i64 r.at_.x, .int .i64 r.at_.y, .int .i64 r.at_.z, .int .i64 r.step.x, .int .i64 r.step.y, .int .i64 r.step.z, .int .i64 r.count] 78)).heap.size (w.alloc (.cells #[.string r.mark, .int .i64 r.tx, .int .i64 r.ty, .int .i64 r.at_.x, .int .i64 r.at_.y, .int .i64 r.at_.z, .int .i64 r.step.x, .int .i64 r.step.y, .int .i64 r.step.z, .int .i64 r.count] 78)) w5 := bel
    have hRn := ((Blk.new w 78 #[.string r.mark, .int .i64 r.tx, .int .i64 r.ty, .int .i64 r.at_.x, .int .i64 r.at_.y, .int .i64 r.at_.z, .int .i64 r.step.x, .int .i64 r.step.y, .int .i64 r.step.z, .int .i64 r.count]).via hbA).alloc (.cells #[.int .i64 0, .int .i64 (r.count - 1)] 3)
    have hC := (own_cells how5 (by unfold maxLen; omega)).1.alloc (Nat.le_refl _) (.cells #[.int .i64 0, .int .i64 (r.count - 1)] 3)
    have hLit := Blk.new w5 3 #[.int .i64 0, .int .i64 (r.count - 1)]
    have hbw : Below w.heap.size w (w5.alloc (.cells #[.int .i64 0, .int .i64 (r.count - 1)] 3)) := bel
    have hs6 : (w5.alloc (.cells #[.int .i64 0, .int .i64 (r.count - 1)] 3)).heap.size = w5.heap.size + 1 := by simp
    clear hcw1 hfw1 hcw2 hfw2 hcw3 hfw3 hcw5 hfw5 hbA
    try clear hcw4 hfw4
    generalize w5.alloc (.cells #[.int .i64 0, .int .i64 (r.count - 1)] 3) = w6 at *
    go_loopw [61] (fun i wr => ∃ k : Nat, k ≤ 2 ∧ i = .int .i64 k ∧ (1 ≤ k → T.all (PO 0) = true) ∧ (2 ≤ k → T.all (PO (r.count - 1)) = true) ∧ Below w6.heap.size w6 wr) (fun i _ => 2 - (intOf i).toNat)
    case atStart => exact ⟨0, by omega, rfl, fun h => absurd h (by omega), fun h => absurd h (by omega), Below.refl _ _⟩
    case round =>
      obtain ⟨k, hk, rfl, ha1, ha2, hbr⟩ := hrel
      by_cases hlt : k < 2
      · obtain ⟨kv, hkc, hkv, hyes, hno⟩ : ∃ kv : Int, (#[Value.int .i64 0, .int .i64 (r.count - 1)] : Array Value)[k]? = some (.int .i64 kv) ∧ (kv = 0 ∨ kv = r.count - 1) ∧ (T.all (PO kv) = true → (1 ≤ k + 1 → T.all (PO 0) = true) ∧ (2 ≤ k + 1 → T.all (PO (r.count - 1)) = true)) ∧ (T.all (PO kv) = false → (T.all (PO 0) && T.all (PO (r.count - 1))) = false) := by
          have hk2 : k = 0 ∨ k = 1 := by omega
          rcases hk2 with rfl | rfl
          · exact ⟨0, rfl, .inl rfl, fun h => ⟨fun _ => h, fun h2 => absurd h2 (by omega)⟩, fun h => by rw [h]; rfl⟩
          · exact ⟨r.count - 1, rfl, .inr rfl, fun h => ⟨fun _ => ha1 (by omega), fun _ => h⟩, fun h => by rw [h]; simp⟩
        have HY := Lib.hid hyes
        have HNO := Lib.hid hno
        have hl := (hLit.via hbr).cell k
        rw [hkc] at hl
        have hl' := (hLit.via hbr).lt
        have hRr := hRn.via hbr
        have hCr := hC.below (hbr.mono (by omega))
        have hsr := hbr.size
        have hlti : (k : Int) < 2 := by omega
        have hbwr : Below w.heap.size w wr := hbw.trans (hbr.mono hbw.size)
        clear ha1 ha2 hyes hno hkc hLit hRn hC
        go_wp2
        go_loopw [67] (fun i wq => ∃ q : Nat, q ≤ T.length ∧ i = .int .i64 q ∧ (∀ m (hm : m < T.length), m < q → PO kv T[m] = true) ∧ Below wr.heap.size wr wq) (fun i _ => T.length - (intOf i).toNat)
        case atStart => exact ⟨0, Nat.zero_le _, rfl, fun m _ hm => absurd hm (by omega), Below.refl _ _⟩
        case round =>
          obtain ⟨q, hq, rfl, hal, hbq⟩ := hrel
          have HAL := Lib.hid hal
          clear hal
          by_cases hqt : q < T.length
          · have hRq := hRr.via hbq
            have hCq := hCr.below (hbq.mono (by omega))
            obtain ⟨bp, op, rfl, hbp, _⟩ := hCq.at_ (by rw [flat_len ptC 3 ptC_len]; omega)
            have c0 := hCq.row0 ptC_len hqt rfl
            have c1 := hCq.rowj ptC_len hqt 1 rfl
            have c2 := hCq.rowj ptC_len hqt 2 rfl
            have a0 := hRq.cell 3
            have a1 := hRq.cell 4
            have a2 := hRq.cell 5
            have s0 := hRq.cell 6
            have s1 := hRq.cell 7
            have s2 := hRq.cell 8
            have ltR := hRq.lt
            have hsq := hbq.size
            simp only [List.getElem?_toArray, List.getElem?_cons_zero, List.getElem?_cons_succ] at a0 a1 a2 s0 s1 s2
            have HGO := Lib.hid (fun (h : PO kv T[q] = true) (m : Nat) (hm : m < T.length) (hmq : m < q + 1) => show PO kv T[m] = true from by
              by_cases hmq' : m = q
              · subst hmq'; exact h
              · exact HAL.out m hm (by omega))
            have HBAD := Lib.hid (fun (h : PO kv T[q] = false) => HNO.out (all_no (p := PO kv) hqt h))
            have hnp := HNP.out q hqt
            have HX := Lib.hid (HPT.out kv T[q])
            generalize T[q] = p at *
            clear hRr hRq hCr hCq
            have HQ1 := Lib.hid (HPL1.out p hnp)
            by_cases hkp : 0 < kv
            · have HQ2 := Lib.hid (HPL2.out p hnp kv hkp hkv)
              rw [if_pos hkp] at HX
              generalize S.plus (S.plus p r.at_ 1) r.step kv = p2 at *
              generalize S.plus p r.at_ 1 = p1 at *
              have HM2 := Lib.hid (HM.out p2)
              generalize S.near1 p2 1048576 = t at *
              cases t
              · go_wp2_with (first
                  | (go_at_call 61; (with_reducible refine (HQ1.out _).mono ?_); rintro e v1 ⟨rfl, hbv1⟩; obtain ⟨hcv1, hfv1⟩ := bcell hbv1; have hzv1_0 : w.heap.size < v1.heap.size := lt_via hbv1 (by first | omega | (simp; done) | (simp; omega)); have hyv1_0 : wr.heap.size < v1.heap.size := lt_via hbv1 (by first | omega | (simp; done) | (simp; omega)))
                  | (go_at_call 61; (with_reducible refine (HQ2.out _).mono ?_); rintro e v2 ⟨rfl, hbv2⟩; obtain ⟨hcv2, hfv2⟩ := bcell hbv2; have hzv2_0 : w.heap.size < v2.heap.size := lt_via hbv2 (by first | omega | (simp; done) | (simp; omega)); have hyv2_0 : v1.heap.size < v2.heap.size := lt_via hbv2 (by first | omega | (simp; done) | (simp; omega)))
                  | (go_at_call 59; (with_reducible refine (HM2.out _).mono ?_); rintro e v3 ⟨rfl, hbv3⟩; obtain ⟨hcv3, hfv3⟩ := bcell hbv3; have hzv3_0 : w.heap.size < v3.heap.size := lt_via hbv3 (by first | omega | (simp; done) | (simp; omega)); have hyv3_0 : v1.heap.size < v3.heap.size := lt_via hbv3 (by first | omega | (simp; done) | (simp; omega))))
                go_ret
                refine ⟨ret_b (by rw [HR.out]; exact (HBAD.out HX.out).symm), hbwr.trans (Below.mono ?_ hbwr.size)⟩
                exact hbq.trans (Below.mono bel hsq)
              · go_wp2_with (first
                  | (go_at_call 61; (with_reducible refine (HQ1.out _).mono ?_); rintro e v1 ⟨rfl, hbv1⟩; obtain ⟨hcv1, hfv1⟩ := bcell hbv1; have hzv1_0 : w.heap.size < v1.heap.size := lt_via hbv1 (by first | omega | (simp; done) | (simp; omega)); have hyv1_0 : wr.heap.size < v1.heap.size := lt_via hbv1 (by first | omega | (simp; done) | (simp; omega)))
                  | (go_at_call 61; (with_reducible refine (HQ2.out _).mono ?_); rintro e v2 ⟨rfl, hbv2⟩; obtain ⟨hcv2, hfv2⟩ := bcell hbv2; have hzv2_0 : w.heap.size < v2.heap.size := lt_via hbv2 (by first | omega | (simp; done) | (simp; omega)); have hyv2_0 : v1.heap.size < v2.heap.size := lt_via hbv2 (by first | omega | (simp; done) | (simp; omega)))
                  | (go_at_call 59; (with_reducible refine (HM2.out _).mono ?_); rintro e v3 ⟨rfl, hbv3⟩; obtain ⟨hcv3, hfv3⟩ := bcell hbv3; have hzv3_0 : w.heap.size < v3.heap.size := lt_via hbv3 (by first | omega | (simp; done) | (simp; omega)); have hyv3_0 : v1.heap.size < v3.heap.size := lt_via hbv3 (by first | omega | (simp; done) | (simp; omega))))
                go_roundw
                case rel => exact ⟨q + 1, by omega, by go_num, HGO.out HX.out, hbq.trans (Below.mono bel hsq)⟩
                case measure => simp [intOf]; omega
            · rw [if_neg hkp] at HX
              clear HPL2
              generalize S.plus p r.at_ 1 = p1 at *
              have HM2 := Lib.hid (HM.out p1)
              generalize S.near1 p1 1048576 = t at *
              cases t
              · go_wp2_with (first
                  | (go_at_call 61; (with_reducible refine (HQ1.out _).mono ?_); rintro e v1 ⟨rfl, hbv1⟩; obtain ⟨hcv1, hfv1⟩ := bcell hbv1; have hzv1_0 : w.heap.size < v1.heap.size := lt_via hbv1 (by first | omega | (simp; done) | (simp; omega)); have hyv1_0 : wr.heap.size < v1.heap.size := lt_via hbv1 (by first | omega | (simp; done) | (simp; omega)))
                  | (go_at_call 59; (with_reducible refine (HM2.out _).mono ?_); rintro e v3 ⟨rfl, hbv3⟩; obtain ⟨hcv3, hfv3⟩ := bcell hbv3; have hzv3_0 : w.heap.size < v3.heap.size := lt_via hbv3 (by first | omega | (simp; done) | (simp; omega)); have hyv3_0 : v1.heap.size < v3.heap.size := lt_via hbv3 (by first | omega | (simp; done) | (simp; omega))))
                go_ret
                refine ⟨ret_b (by rw [HR.out]; exact (HBAD.out HX.out).symm), hbwr.trans (Below.mono ?_ hbwr.size)⟩
                exact hbq.trans (Below.mono bel hsq)
              · go_wp2_with (first
                  | (go_at_call 61; (with_reducible refine (HQ1.out _).mono ?_); rintro e v1 ⟨rfl, hbv1⟩; obtain ⟨hcv1, hfv1⟩ := bcell hbv1; have hzv1_0 : w.heap.size < v1.heap.size := lt_via hbv1 (by first | omega | (simp; done) | (simp; omega)); have hyv1_0 : wr.heap.size < v1.heap.size := lt_via hbv1 (by first | omega | (simp; done) | (simp; omega)))
                  | (go_at_call 59; (with_reducible refine (HM2.out _).mono ?_); rintro e v3 ⟨rfl, hbv3⟩; obtain ⟨hcv3, hfv3⟩ := bcell hbv3; have hzv3_0 : w.heap.size < v3.heap.size := lt_via hbv3 (by first | omega | (simp; done) | (simp; omega)); have hyv3_0 : v1.heap.size < v3.heap.size := lt_via hbv3 (by first | omega | (simp; done) | (simp; omega))))
                go_roundw
                case rel => exact ⟨q + 1, by omega, by go_num, HGO.out HX.out, hbq.trans (Below.mono bel hsq)⟩
                case measure => simp [intOf]; omega
          · have hy := HY.out (all_yes (fun m hm => HAL.out m hm (by omega)))
            have HY2 := Lib.hid hy
            clear hy
            go_wp2
            go_roundw
            case rel => exact ⟨k + 1, by omega, by go_num, HY2.out.1, HY2.out.2, hbr.trans (hbq.mono hbr.size)⟩
            case measure => simp [intOf]; omega
      · have h1' := ha1 (by omega)
        have h2' := ha2 (by omega)
        go_wp2
        go_ret
        exact ⟨ret_b (by rw [HR.out, h1', h2']; rfl), hbw.trans (hbr.mono hbw.size)⟩
end Go.Proofs.Ytnjflafaflalfaa
