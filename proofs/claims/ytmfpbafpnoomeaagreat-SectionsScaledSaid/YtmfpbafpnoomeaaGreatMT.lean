/- Lemmas. -/
import Derived.Test.YtmfpbafpnoomeaaGreatMR
set_option linter.unusedVariables false
set_option linter.unusedSimpArgs false
namespace Go.Proofs.YtmfpbafpnoomeaaGreat
open Go.RowKit
set_option maxHeartbeats 1000000 in
theorem rsched_any (l : List BarR) (A : Option Addr) (n c : Nat) (B : Nat) (w : World) (hB : B <= w.heap.size) (hA : BarsAt w B A n l) :
 Calls Tryz.prog 119 #[.slice A n c] w fun e w' => e = .returned (.bool (S.sched (bars l))) /\ Below w.heap.size w w' := by
 have HA := lh hA
 have hL : (bars l).length = n := by simpa using hA.len
 have HL := lh hL
 clear hA
 by_cases h60 : 60 < n
 ·have HS := lh (show S.sched (bars l) = false from by unfold S.sched; rw [hL]; simp; omega)
  clear hL
  go_enter Tryz.func119, Tryz.ntmps119
  go_wp2
  go_ret
  exact ⟨ret_b HS.out.symm, bel⟩
 clear hL
 go_enter Tryz.func119, Tryz.ntmps119
 go_wp2
 go_loopw [3] (fun i wr => ∃ k : Nat, k <= n /\ i = .int .i64 k /\ (∀ j, j < k -> S.schedAt (bars l) j = true) /\ Below w.heap.size w wr) (fun i _ => n - (intOf i).toNat)
 case atStart => exact ⟨0, Nat.zero_le _, rfl, fun j hj => absurd hj (by omega), Below.refl _ _⟩
 case round =>
  obtain ⟨k, hk, rfl, hno, hbr⟩ := hrel
  have HNO := lh hno
  clear hno
  by_cases hlt : k < n
  ·have hkx : k < l.length := by have := HA.out.len; omega
   have hkb : k < (bars l).length := by have := HL.out; omega
   have hwr : B <= wr.heap.size := by have := hbr.size; omega
   have hA' := HA.out.at_ hB hbr
   have HA' := lh hA'
   have hs' := hA'.cells
   have HE := lh (hA'.each l[k] (List.getElem_mem hkx))
   obtain ⟨b, o, hAe, hbB, _⟩ := hs'.at_ (by rw [flat_len barC 5 barC_len]; omega)
   have hbl : b < wr.heap.size := by omega
   subst hAe
   have c0 := hs'.row0 barC_len hkx rfl
   have c1 := hs'.rowj barC_len hkx 1 rfl
   have c2 := hs'.rowj barC_len hkx 2 rfl
   have c3 := hs'.rowj barC_len hkx 3 rfl
   have c4 := hs'.rowj barC_len hkx 4 rfl
   have HAT := lh (schedAt_eq (l := bars l) (k := k) (b := l[k].b) (by simp [hkx]))
   have HNS := lh (fun h => sched_no (l := bars l) hkb h)
   have HIX := lh (fun (W : World) (hw : B <= W.heap.size) (hh : BarsAt W B (some ⟨b, o, none⟩) n l) => rfind14_any l l[k].b.mark (some ⟨b, o, none⟩) n c B W hw hh)
   have HVX := lh (fun (W : World) (hw : B <= W.heap.size) (hh : BarAt W B l[k].A l[k].n l[k].b) => rvalid12_any l[k].b l[k].A l[k].n l[k].c B W hw hh)
   have hb2 := index_bd (bars l) l[k].b.mark
   clear hA' hs'
   unfold barV at HVX
   generalize S.index (bars l) l[k].b.mark = j at *
   generalize S.bar l[k].b = t at *
   generalize l[k] = r at *
   cases t
   ·go_wp2_with (first
     | (go_at_call 167; (with_reducible refine (HVX.out _ hwr HE.out).mono ?_); rintro e w1 ⟨rfl, hbw1⟩; obtain ⟨hcw1, hfw1⟩ := bcell hbw1))
    go_ret
    exact ⟨ret_b (HNS.out (by rw [HAT.out]; simp)).symm, bel⟩
   ·by_cases hj : j = (k : Int)
    ·go_wp2_with (first
      | (go_at_call 167; (with_reducible refine (HVX.out _ hwr HE.out).mono ?_); rintro e w1 ⟨rfl, hbw1⟩; obtain ⟨hcw1, hfw1⟩ := bcell hbw1)
      | (go_at_call 168; (with_reducible refine (HIX.out _ (by have := hbw1.size; omega) (HA'.out.at_ hwr hbw1)).mono ?_); rintro e w2 ⟨rfl, hbw2⟩; obtain ⟨hcw2, hfw2⟩ := bcell hbw2))
     go_roundw
     case rel =>
      refine ⟨k + 1, by omega, by go_num, fun j' hj' => ?_, bel⟩
      by_cases hjk : j' = k
      ·subst hjk; rw [HAT.out]; simp [hj]
      ·exact HNO.out j' (by omega)
     case measure => simp [intOf]; omega
    ·go_wp2_with (first
      | (go_at_call 167; (with_reducible refine (HVX.out _ hwr HE.out).mono ?_); rintro e w1 ⟨rfl, hbw1⟩; obtain ⟨hcw1, hfw1⟩ := bcell hbw1)
      | (go_at_call 168; (with_reducible refine (HIX.out _ (by have := hbw1.size; omega) (HA'.out.at_ hwr hbw1)).mono ?_); rintro e w2 ⟨rfl, hbw2⟩; obtain ⟨hcw2, hfw2⟩ := bcell hbw2))
     go_ret
     exact ⟨ret_b (HNS.out (by rw [HAT.out]; simp [hj])).symm, bel⟩
  ·go_wp2
   go_ret
   exact ⟨ret_b (sched_yes (by have := HL.out; omega) (fun j hj => HNO.out j (by have := HL.out; omega))).symm, hbr⟩
theorem rrun_no0 (l : List BarR) (r : Rn) (A : Option Addr) (n c : Nat) (B : Nat) (w : World) (hB : B <= w.heap.size) (hA : BarsAt w B A n l) (h : S.rightHead (bars l) r = false) :
 Calls Tryz.prog 120 #[.slice A n c, rnV r] w fun e w' => e = .returned (.bool false) /\ Below w.heap.size w w' := by
 have HA := lh hA
 have HI := lh (fun (W : World) (hw : B <= W.heap.size) (hh : BarsAt W B A n l) => rfind14_any l r.mark A n c B W hw hh)
 have HV := lh (fun w => rturn_any r.tx r.ty w)
 have HP := lh (fun w => rnear1_any r.at_ w)
 unfold S.rightHead at h
 generalize S.index (bars l) r.mark = j at *
 generalize S.turn r.tx r.ty = t1 at *
 generalize S.near1 r.at_ 1048576 = t2 at *
 have hcs : j < 0 ∨ (¬ j < 0 /\ t1 = false) ∨ (¬ j < 0 /\ t1 = true /\ r.count < 1) ∨ (¬ j < 0 /\ t1 = true /\ ¬ r.count < 1 /\ 1000 < r.count) ∨ (¬ j < 0 /\ t1 = true /\ ¬ r.count < 1 /\ ¬ 1000 < r.count /\ t2 = false) := by
  by_cases h0 : j < 0
  ·exact .inl h0
  ·cases t1
   ·exact .inr (.inl ⟨h0, rfl⟩)
   ·by_cases h1 : r.count < 1
    ·exact .inr (.inr (.inl ⟨h0, rfl, h1⟩))
    ·by_cases h2 : 1000 < r.count
     ·exact .inr (.inr (.inr (.inl ⟨h0, rfl, h1, h2⟩)))
     ·cases t2
      ·exact .inr (.inr (.inr (.inr ⟨h0, rfl, h1, h2, rfl⟩)))
      ·exfalso
       have h3 : 1 <= r.count := by omega
       have h4 : r.count <= 1000 := by omega
       simp [h0, h3, h4] at h
 clear hA h
 unfold turnV at HV
 unfold ptV at HP
 unfold rnV
 rcases hcs with h0 | ⟨h0, rfl⟩ | ⟨h0, rfl, h1⟩ | ⟨h0, rfl, h1, h2⟩ | ⟨h0, rfl, h1, h2, rfl⟩
 all_goals (
  go_enter Tryz.func120, Tryz.ntmps120
  go_wp2_with (first
   | (go_at_call 168; (with_reducible refine (HI.out _ (by simp; omega) (HA.out.at_ hB bel)).mono ?_); rintro e w1 ⟨rfl, hbw1⟩; obtain ⟨hcw1, hfw1⟩ := bcell hbw1; have hzw1_0 : w.heap.size < w1.heap.size := lt_via hbw1 sz)
   | (go_at_call 169; (with_reducible refine (HV.out _).mono ?_); rintro e w2 ⟨rfl, hbw2⟩; obtain ⟨hcw2, hfw2⟩ := bcell hbw2; have hzw2_0 : w.heap.size < w2.heap.size := lt_via hbw2 sz)
   | (go_at_call 170; (with_reducible refine (HP.out _).mono ?_); rintro e w3 ⟨rfl, hbw3⟩; obtain ⟨hcw3, hfw3⟩ := bcell hbw3; have hzw3_0 : w.heap.size < w3.heap.size := lt_via hbw3 sz))
  go_ret
  exact ⟨rfl, bel⟩)
theorem rrun_no1 (l : List BarR) (r : Rn) (A : Option Addr) (n c : Nat) (B : Nat) (w : World) (hB : B <= w.heap.size) (hA : BarsAt w B A n l) (h : S.rightHead (bars l) r = true) (h' : S.rightStep r = false) :
 Calls Tryz.prog 120 #[.slice A n c, rnV r] w fun e w' => e = .returned (.bool false) /\ Below w.heap.size w w' := by
 have HA := lh hA
 obtain ⟨⟨h0, h1, h2⟩, h3, h4⟩ := rightHead_out h
 have HI := lh (fun (W : World) (hw : B <= W.heap.size) (hh : BarsAt W B A n l) => rfind14_any l r.mark A n c B W hw hh)
 have HV := lh (fun w => h1 ▸ rturn_any r.tx r.ty w)
 have HP := lh (fun w => h2 ▸ rnear1_any r.at_ w)
 have HS := lh (fun w => rtwice_any r.step w)
 have hz : ∀ W, (binOp .eql 76 (.agg #[.int .i64 r.step.x, .int .i64 r.step.y, .int .i64 r.step.z]) (.agg #[.int .i64 0, .int .i64 0, .int .i64 0])).run Tryz.prog W = .ok (.bool (S.pt0 r.step)) W := fun W => run_eq0 r.step W
 have z91 : ∀ W, (Instr.build 76 #[]).run Tryz.prog W = .ok (.agg #[.int .i64 0, .int .i64 0, .int .i64 0]) W := fun _ => by kernel_rfl
 unfold S.rightStep at h'
 clear hA h
 generalize S.index (bars l) r.mark = j at *
 generalize S.near1 r.step 2097152 = t2 at *
 generalize S.pt0 r.step = t1 at *
 have hj : ¬ j < 0 := by omega
 have hcs : (1 < r.count /\ t1 = true) ∨ (1 < r.count /\ t1 = false /\ t2 = false) := by
  by_cases h5 : 1 < r.count
  ·cases t1
   ·cases t2
    ·exact .inr ⟨h5, rfl, rfl⟩
    ·simp [h5] at h'
   ·exact .inl ⟨h5, rfl⟩
  ·simp [h5] at h'
 clear h0 h1 h2 h'
 unfold turnV at HV
 unfold ptV at HP HS
 unfold rnV
 rcases hcs with ⟨h5, rfl⟩ | ⟨h5, rfl, rfl⟩
 all_goals (
  go_enter Tryz.func120, Tryz.ntmps120
  go_wp2_with (first
   | (go_at_call 168; (with_reducible refine (HI.out _ (by simp; omega) (HA.out.at_ hB bel)).mono ?_); rintro e w1 ⟨rfl, hbw1⟩; obtain ⟨hcw1, hfw1⟩ := bcell hbw1; have hzw1_0 : w.heap.size < w1.heap.size := lt_via hbw1 sz)
   | (go_at_call 169; (with_reducible refine (HV.out _).mono ?_); rintro e w2 ⟨rfl, hbw2⟩; obtain ⟨hcw2, hfw2⟩ := bcell hbw2; have hzw2_0 : w.heap.size < w2.heap.size := lt_via hbw2 sz)
   | (go_at_call 170; (with_reducible refine (HP.out _).mono ?_); rintro e w3 ⟨rfl, hbw3⟩; obtain ⟨hcw3, hfw3⟩ := bcell hbw3; have hzw3_0 : w.heap.size < w3.heap.size := lt_via hbw3 sz)
   | (go_at_call 171; (with_reducible refine (HS.out _).mono ?_); rintro e w4 ⟨rfl, hbw4⟩; obtain ⟨hcw4, hfw4⟩ := bcell hbw4; have hzw4_0 : w.heap.size < w4.heap.size := lt_via hbw4 sz))
  go_ret
  exact ⟨rfl, bel⟩)
end Go.Proofs.YtmfpbafpnoomeaaGreat
