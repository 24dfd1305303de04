/- Lemmas. -/
import Derived.Test.YtmfpbafpnoomeaaGreatMX
import Derived.Test.YtmfpbafpnoomeaaGreatMZ
set_option linter.unusedVariables false
set_option linter.unusedSimpArgs false
namespace Go.Proofs.YtmfpbafpnoomeaaGreat
open Go.RowKit
def S.btw (n lo hi : Int) : Bool := decide (lo <= n) && decide (n <= hi)
theorem rbetween_any (n lo hi : Int) (w : World) : Calls Tryz.prog 55 #[.int .i64 n, .int .i64 lo, .int .i64 hi] w fun e w' => e = .returned (.bool (S.btw n lo hi)) /\ w = w' := by
 have H := lh (show S.btw n lo hi = (decide (lo <= n) && decide (n <= hi)) from rfl)
 go_enter Tryz.func55, Tryz.ntmps55
 go_wp2
 all_goals (go_ret; exact ⟨ret_b (by rw [H.out, Bool.eq_iff_iff]; all_goals (first | (simp; done) | (simp; omega))), rfl⟩)
theorem rplace10_any (n : Int) (w : World) : Calls Tryz.prog 26 #[.int .i64 n] w fun e w' => e = .returned (.bool (S.place n)) /\ w = w' := by
 have H := lh (show S.place n = S.btw n (-1048576) 1048576 from rfl)
 have HB := lh (rbetween_any n (-1048576) 1048576)
 generalize S.btw n (-1048576) 1048576 = t at *
 go_enter Tryz.func26, Tryz.ntmps26
 go_wp2_with (go_at_call 55; (with_reducible refine (HB.out _).mono ?_); rintro e w' ⟨rfl, rfl⟩)
 go_ret
 exact ⟨ret_b H.out.symm, rfl⟩
set_option maxHeartbeats 1000000 in
theorem rsteps_any (l : List Stp) (A : Option Addr) (n c : Nat) (B : Nat) (w : World) (hB : B <= w.heap.size) (hA : StepsAt w B A n l) :
 Calls Tryz.prog 124 #[.slice A n c] w fun e w' => e = .returned (.bool (S.steps l)) /\ Below w.heap.size w w' := by
 have HA := lh hA
 have HPL := lh (fun n w => rplace10_any n w)
 have hmx := hA.max
 have hL := hA.len
 clear hA
 by_cases h200 : 200 < n
 ·have HS := lh (show S.steps l = false from by unfold S.steps; rw [hL]; simp; omega)
  clear hL
  go_enter Tryz.func124, Tryz.ntmps124
  go_wp2
  go_ret
  exact ⟨ret_b HS.out.symm, bel⟩
 clear hL
 go_enter Tryz.func124, Tryz.ntmps124
 go_wp2
 go_loopw [3] (fun i wr => ∃ k : Nat, k <= n /\ i = .int .i64 k /\ (∀ j, j < k -> S.stepAt l j = true) /\ Below w.heap.size w wr) (fun i _ => n - (intOf i).toNat)
 case atStart => exact ⟨0, Nat.zero_le _, rfl, fun j hj => absurd hj (by omega), Below.refl _ _⟩
 case round =>
  obtain ⟨k, hk, rfl, hno, hbr⟩ := hrel
  have HNO := lh hno
  clear hno
  by_cases hlt : k < n
  ·have hkx : k < l.length := by have := HA.out.len; omega
   have hs' := HA.out.cells.below (hbr.mono hB)
   obtain ⟨b, o, rfl, hbB, _⟩ := hs'.at_ (by rw [flat_len stC 2 stC_len]; omega)
   have hbw : b < wr.heap.size := by have := hbr.size; omega
   have c0 := hs'.row0 stC_len hkx rfl
   have c1 := hs'.rowj stC_len hkx 1 rfl
   have HNS := lh (fun h => show S.steps l = false from rng_no (p := S.stepAt l) (k := k) hkx h)
   have HGO := lh (fun (h : S.stepAt l k = true) => show ∀ j, j < k + 1 -> S.stepAt l j = true from fun j hj => by
    by_cases hjk : j = k
    ·subst hjk; exact h
    ·exact HNO.out j (by omega))
   have hge : l[k]? = some l[k] := List.getElem?_eq_getElem hkx
   cases k with
   | zero =>
    have HAT := lh (show S.stepAt l 0 = (S.place l[0].fro && S.btw l[0].val 0 1099511627776) by unfold S.stepAt S.btw; rw [hge]; simp [Bool.and_assoc])
    have HP0 := lh (HPL.out l[0].fro)
    have HB0 := lh (fun w => rbetween_any l[0].val 0 1099511627776 w)
    rw [Nat.zero_mul, Nat.add_zero] at c0 c1
    generalize S.place l[0].fro = t0 at *
    generalize S.btw l[0].val 0 1099511627776 = t1 at *
    generalize l[0] = s at *
    clear hs' hge
    have hcs : t0 = false ∨ (t0 = true /\ t1 = false) ∨ (t0 = true /\ t1 = true) := by
     cases t0 <;> cases t1 <;> simp
    rcases hcs with rfl | ⟨rfl, rfl⟩ | ⟨rfl, rfl⟩
    rotate_right
    ·have HG := lh (HGO.out (by rw [HAT.out]; rfl))
     go_upto_region 6 with fail
     refine wp_region_grow (by kernel_rfl) (by kernel_rfl) ?_
     repeat (go_big_quiet_step ((first | (go_at_call 26; exact grow_of_eq (HP0.out _)) | (go_at_call 55; exact grow_of_eq (HB0.out _)))))
     all_goals (refine wpQuiet_nil ?_; intro wg hbwg; obtain ⟨hcwg, hfwg⟩ := bcell hbwg)
     go_wp2
     go_roundw
     case rel => exact ⟨0 + 1, by omega, by go_num, HG.out, bel⟩
     case measure => simp [intOf]; omega
    all_goals (
     have HG := lh (HNS.out (by rw [HAT.out]; rfl))
     go_upto_region 6 with fail
     refine wp_region_grow (by kernel_rfl) (by kernel_rfl) ?_
     repeat (go_big_quiet_step ((first | (go_at_call 26; exact grow_of_eq (HP0.out _)) | (go_at_call 55; exact grow_of_eq (HB0.out _)))))
     all_goals (refine wpQuiet_nil ?_; intro wg hbwg; obtain ⟨hcwg, hfwg⟩ := bcell hbwg)
     go_wp2
     go_ret
     exact ⟨ret_b HG.out.symm, bel⟩)
   | succ j =>
    have hjx : j < l.length := by omega
    have d0 := hs'.row0 stC_len hjx rfl
    have HAT := lh (show S.stepAt l (j + 1) = (S.place l[j + 1].fro && S.btw l[j + 1].val 0 1099511627776 && decide (l[j].fro < l[j + 1].fro)) by unfold S.stepAt S.btw; rw [hge]; simp only []; rw [List.getElem?_eq_getElem hjx]; simp [Bool.and_assoc])
    have HP0 := lh (HPL.out l[j + 1].fro)
    have HB0 := lh (fun w => rbetween_any l[j + 1].val 0 1099511627776 w)
    generalize S.place l[j + 1].fro = t0 at *
    generalize S.btw l[j + 1].val 0 1099511627776 = t1 at *
    generalize l[j + 1] = s at *
    generalize l[j] = p at *
    clear hs' hge
    have hk0 : (0 : Int) < ((j + 1 : Nat) : Int) := by omega
    have e1 : IntKind.i64.wrap (((j + 1 : Nat) : Int) - 1) = (j : Nat) := by rw [IntWalk.i64_in _ (by omega)]; omega
    have hjn : (j : Int) < n := by omega
    have hcs : t0 = false ∨ (t0 = true /\ t1 = false) ∨ (t0 = true /\ t1 = true /\ s.fro <= p.fro) ∨ (t0 = true /\ t1 = true /\ ¬ s.fro <= p.fro) := by
     cases t0 <;> cases t1 <;> simp <;> omega
    rcases hcs with rfl | ⟨rfl, rfl⟩ | ⟨rfl, rfl, h3⟩ | ⟨rfl, rfl, h3⟩
    rotate_right
    ·have HG := lh (HGO.out (by rw [HAT.out]; simp; omega))
     go_upto_region 6 with fail
     refine wp_region_grow (by kernel_rfl) (by kernel_rfl) ?_
     repeat (go_big_quiet_step ((first | (go_at_call 26; exact grow_of_eq (HP0.out _)) | (go_at_call 55; exact grow_of_eq (HB0.out _)))))
     all_goals (refine wpQuiet_nil ?_; intro wg hbwg; obtain ⟨hcwg, hfwg⟩ := bcell hbwg)
     go_wp2
     go_roundw
     case rel => exact ⟨j + 1 + 1, by omega, by go_num, HG.out, bel⟩
     case measure => simp [intOf]; omega
    all_goals (
     have HG := lh (HNS.out (by rw [HAT.out]; simp; try omega))
     go_upto_region 6 with fail
     refine wp_region_grow (by kernel_rfl) (by kernel_rfl) ?_
     repeat (go_big_quiet_step ((first | (go_at_call 26; exact grow_of_eq (HP0.out _)) | (go_at_call 55; exact grow_of_eq (HB0.out _)))))
     all_goals (refine wpQuiet_nil ?_; intro wg hbwg; obtain ⟨hcwg, hfwg⟩ := bcell hbwg)
     go_wp2
     go_ret
     exact ⟨ret_b HG.out.symm, bel⟩)
  ·have HG := lh (show S.steps l = true from rng_yes (p := S.stepAt l) (by have := HA.out.len; simp; omega) (fun j hj => HNO.out j (by have := HA.out.len; omega)))
   go_wp2
   go_ret
   exact ⟨ret_b HG.out.symm, bel⟩
theorem rfind23_any (l : List Dm) (m : ByteArray) (A : Option Addr) (n c : Nat) (B : Nat) (w : World) (hB : B <= w.heap.size) (hA : DemsAt w B A n l) :
 Calls Tryz.prog 122 #[.slice A n c, .string m] w fun e w' => e = .returned (.int .i64 (idxf l (S.isDem m))) /\ Below w.heap.size w w' := by
 have HN := lh hA.len
 have hm := hA.max
 have hs := hA.cells
 clear hA
 go_enter Tryz.func122, Tryz.ntmps122
 go_wp2
 go_loopw [5] (fun i wr => ∃ k : Nat, k <= n /\ i = .int .i64 k /\ Hid (∀ j (h : j < l.length), j < k -> S.isDem m l[j] = false) /\ Below w.heap.size w wr) (fun i _ => n - (intOf i).toNat)
 case atStart => exact ⟨0, Nat.zero_le _, rfl, lh fun j _ hj => absurd hj (by omega), Below.refl _ _⟩
 case round =>
  obtain ⟨k, hk, rfl, HNO, hbr⟩ := hrel
  by_cases hlt : k < n
  ·have hki : (k : Int) < (n : Int) := by omega
   have hkx : k < l.length := by have := HN.out; omega
   have hkl : k < l.length := hkx
   have hs' := hs.below (hbr.mono hB)
   obtain ⟨b, o, rfl, _, _⟩ := hs'.at_ (by rw [flat_len dmC 8 dmC_len]; omega)
   have c0 := hs'.row0 dmC_len hkl rfl
   have HE := lh (show S.isDem m l[k] = (l[k].name.toList == m.toList) from rfl)
   have HX := lh (fun hx => idxf_hit (p := S.isDem m) hkx hx HNO.out)
   generalize hq : S.isDem m l[k] = q at *
   have HQ := lh hq
   clear hq hs'
   generalize hmk : l[k].name = mk at *
   have HMK := lh hmk
   clear hmk
   by_cases hx : (mk.toList == m.toList) = true
   ·have hq : q = true := HE.out.trans hx
    subst hq
    go_wp2
    go_ret
    exact ⟨ret_i (HX.out trivial).symm, hbr⟩
   ·have hx' : (mk.toList == m.toList) = false := by simpa using hx
    have hq : q = false := HE.out.trans hx'
    subst hq
    clear hx
    go_wp2
    go_roundw
    case rel =>
     refine ⟨k + 1, by omega, by go_num, lh fun j hj hjk => ?_, hbr⟩
     by_cases hjk' : j = k
     ·subst hjk'; exact HQ.out
     ·exact HNO.out j hj (by omega)
    case measure => simp [intOf]; omega
  ·have HX := lh (idxf_miss (p := S.isDem m) (xs := l) fun j hj => HNO.out j hj (by have := HN.out; omega))
   go_wp2
   go_ret
   exact ⟨ret_i HX.out.symm, hbr⟩
theorem idxf_first {α : Type} {p : α -> Bool} {xs : List α} {k : Nat} (hk : k < xs.length) (h : p xs[k] = true) : (idxf xs p = (k : Int)) ↔ anyb (xs.take k) p = false := by
 constructor
 ·intro he
  unfold idxf at he
  split at he
  ·rename_i i hi
   have : i = k := by omega
   subst this
   obtain ⟨_, _, h3⟩ := List.findIdx?_eq_some_iff_getElem.1 hi
   unfold anyb
   rw [List.any_eq_false]
   intro x hx
   obtain ⟨j, hj, rfl⟩ := List.mem_iff_getElem.1 hx
   rw [List.length_take] at hj
   rw [List.getElem_take]
   exact h3 j (by omega)
  ·omega
 ·intro he
  refine idxf_hit hk h (fun j hj hjk => ?_)
  unfold anyb at he
  rw [List.any_eq_false] at he
  have hm : xs[j] ∈ xs.take k := by
   have hjt : j < (xs.take k).length := by rw [List.length_take]; omega
   have e : (xs.take k)[j] = xs[j] := List.getElem_take
   rw [<- e]
   exact List.getElem_mem _
  simpa using he _ hm
theorem isDem_self (d : Dm) : S.isDem d.name d = true := by simp [S.isDem]
set_option maxHeartbeats 2000000 in
theorem rdems_any (l : List Dm) (A : Option Addr) (n c : Nat) (B : Nat) (w : World) (hB : B <= w.heap.size) (hA : DemsAt w B A n l) :
 Calls Tryz.prog 87 #[.slice A n c] w fun e w' => e = .returned (.bool (S.dems l)) /\ Below w.heap.size w w' := by
 have HA := lh hA
 have hmx := hA.max
 have hL := hA.len
 clear hA
 by_cases h20 : 20 < n
 ·have HS := lh (show S.dems l = false from by unfold S.dems; rw [hL]; simp; omega)
  clear hL
  go_enter Tryz.func87, Tryz.ntmps87
  go_wp2
  go_ret
  exact ⟨ret_b HS.out.symm, bel⟩
 clear hL
 go_enter Tryz.func87, Tryz.ntmps87
 go_wp2
 go_loopw [3] (fun i wr => ∃ k : Nat, k <= n /\ i = .int .i64 k /\ Hid (∀ j, j < k -> S.demAt l j = true) /\ Below w.heap.size w wr) (fun i _ => n - (intOf i).toNat)
 case atStart => exact ⟨0, Nat.zero_le _, rfl, lh (fun j hj => absurd hj (by omega)), Below.refl _ _⟩
 case round =>
  obtain ⟨k, hk, rfl, HNO, hbr⟩ := hrel
  by_cases hlt : k < n
  ·have hkx : k < l.length := by have := HA.out.len; omega
   have hki : (k : Int) < (n : Int) := by omega
   have hwr : B <= wr.heap.size := by have := hbr.size; omega
   have HA' := lh (HA.out.at_ hB hbr)
   have hs' := HA'.out.cells
   obtain ⟨b, o, hAe, hbB, _⟩ := hs'.at_ (by rw [flat_len dmC 8 dmC_len]; omega)
   have hbw : b < wr.heap.size := by omega
   subst hAe
   have c0 := hs'.row0 dmC_len hkx rfl
   have c1 := hs'.rowj dmC_len hkx 1 rfl
   have c2 := hs'.rowj dmC_len hkx 2 rfl
   have c3 := hs'.rowj dmC_len hkx 3 rfl
   have c4 := hs'.rowj dmC_len hkx 4 rfl
   have c5 := hs'.rowj dmC_len hkx 5 rfl
   have c6 := hs'.rowj dmC_len hkx 6 rfl
   have c7 := hs'.rowj dmC_len hkx 7 rfl
   have HNS := lh (fun h => show S.dems l = false from rng_no (p := S.demAt l) (k := k) hkx h)
   have HGO := lh (fun (h : S.demAt l k = true) => show ∀ j, j < k + 1 -> S.demAt l j = true from fun j hj => by
    by_cases hjk : j = k
    ·subst hjk; exact h
    ·exact HNO.out j (by omega))
   have hge : l[k]? = some l[k] := List.getElem?_eq_getElem hkx
   have HF := lh (idxf_first (p := S.isDem l[k].name) hkx (isDem_self _))
   have HFC := lh (fun (W : World) (hw : B <= W.heap.size) (hh : DemsAt W B (some ⟨b, o, none⟩) n l) => rfind23_any l l[k].name (some ⟨b, o, none⟩) n c B W hw hh)
   have HNC := lh (fun w => risname_any l[k].name w (HA'.out.name _ (List.getElem_mem hkx)))
   have HBC := lh (fun w => rbvalid_any l[k].zone w)
   have HSC := lh (fun (W : World) (hw : B <= W.heap.size) (hh : StepsAt W B l[k].A l[k].n l[k].st) => rsteps_any l[k].st l[k].A l[k].n l[k].c B W hw hh)
   have HSA := lh (HA'.out.each _ (List.getElem_mem hkx))
   have HAT := lh (show S.demAt l k = (S.isName l[k].name && S.boxOk l[k].zone && S.steps l[k].st && !anyb (l.take k) (S.isDem l[k].name)) by unfold S.demAt S.demRight; rw [hge])
   clear hs' hge
   unfold boxV at HBC
   generalize anyb (l.take k) (S.isDem l[k].name) = t3 at *
   generalize idxf l (S.isDem l[k].name) = ix at *
   generalize S.isName l[k].name = t0 at *
   generalize S.boxOk l[k].zone = t1 at *
   generalize S.steps l[k].st = t2 at *
   generalize l[k] = d at *
   have hcs : t0 = false ∨ (t0 = true /\ ¬ ix = (k : Int)) ∨ (t0 = true /\ ix = (k : Int) /\ t1 = false) ∨ (t0 = true /\ ix = (k : Int) /\ t1 = true /\ t2 = false) ∨ (t0 = true /\ ix = (k : Int) /\ t1 = true /\ t2 = true) := by
    by_cases hh : ix = (k : Int)
    ·cases t0 <;> cases t1 <;> cases t2 <;> simp [hh]
    ·cases t0 <;> simp [hh]
   rcases hcs with rfl | ⟨rfl, h1⟩ | ⟨rfl, h1, rfl⟩ | ⟨rfl, h1, rfl, rfl⟩ | ⟨rfl, h1, rfl, rfl⟩
   rotate_right
   ·have HG := lh (HGO.out (by rw [HAT.out, HF.out.1 h1]; rfl))
    subst h1
    go_wp2_with (first
     | (go_at_call 117; (with_reducible refine (HNC.out _).mono ?_); rintro e w' ⟨rfl, rfl⟩)
     | ((go_at_call 122; (with_reducible refine (HFC.out _ (size_via hwr belr) (HA'.out.at_ hwr belr)).mono ?_); rintro e w2 ⟨rfl, hbw2⟩; obtain ⟨hcw2, hfw2⟩ := bcell hbw2); have hq2 : b < w2.heap.size := lt_via hbw2 hbw)
     | ((go_at_call 123; (with_reducible refine (HBC.out _).mono ?_); rintro e w3 ⟨rfl, hbw3⟩; obtain ⟨hcw3, hfw3⟩ := bcell hbw3); have hq3 : b < w3.heap.size := lt_via hbw3 hq2)
     | (go_at_call 124; (with_reducible refine (HSC.out _ (size_via hwr belr) (HSA.out.below (Below.mono belr hwr))).mono ?_); rintro e w4 ⟨rfl, hbw4⟩; obtain ⟨hcw4, hfw4⟩ := bcell hbw4))
    go_roundw
    case rel => exact ⟨k + 1, by omega, by go_num, lh HG.out, belr⟩
    case measure => simp [intOf]; omega
   all_goals (
    have HG := lh (HNS.out (by
     rw [HAT.out]
     first
      | rfl
      | (have h3 : t3 = true := by
          cases t3 with
          | true => rfl
          | false => exact (h1 (HF.out.2 rfl)).elim
         rw [h3]; simp)
      | simp))
    go_wp2_with (first
     | (go_at_call 117; (with_reducible refine (HNC.out _).mono ?_); rintro e w' ⟨rfl, rfl⟩)
     | ((go_at_call 122; (with_reducible refine (HFC.out _ (size_via hwr belr) (HA'.out.at_ hwr belr)).mono ?_); rintro e w2 ⟨rfl, hbw2⟩; obtain ⟨hcw2, hfw2⟩ := bcell hbw2); have hq2 : b < w2.heap.size := lt_via hbw2 hbw)
     | ((go_at_call 123; (with_reducible refine (HBC.out _).mono ?_); rintro e w3 ⟨rfl, hbw3⟩; obtain ⟨hcw3, hfw3⟩ := bcell hbw3); have hq3 : b < w3.heap.size := lt_via hbw3 hq2)
     | (go_at_call 124; (with_reducible refine (HSC.out _ (size_via hwr belr) (HSA.out.below (Below.mono belr hwr))).mono ?_); rintro e w4 ⟨rfl, hbw4⟩; obtain ⟨hcw4, hfw4⟩ := bcell hbw4))
    go_ret
    exact ⟨ret_b HG.out.symm, belr⟩)
  ·have HG := lh (show S.dems l = true from rng_yes (p := S.demAt l) (by have := HA.out.len; simp; omega) (fun j hj => HNO.out j (by have := HA.out.len; omega)))
   go_wp2
   go_ret
   exact ⟨ret_b HG.out.symm, bel⟩
def S.apartJ (a b : Jn) : Bool := !(a.first == b.first) && !(a.second == b.second)
def S.lapAt (L : List Mn) (js : List Jn) (i : Nat) : Bool := match js[i]? with | some j => S.jointOk L j && (js.take i).all (fun k => S.apartJ k j) | none => true
theorem lapsOk_of {L : List Mn} : ∀ {js : List Jn} {f s : Int -> Bool}, (∀ j, j ∈ js -> S.jointOk L j = true /\ f j.first = false /\ s j.second = false) -> (js.map Jn.first).Nodup -> (js.map Jn.second).Nodup -> S.lapsOk L f s js = true := by
 intro js
 induction js with
 | nil => intro f s _ _ _; rfl
 | cons a js ih =>
  intro f s h h1 h2
  rw [List.map_cons, List.nodup_cons] at h1 h2
  obtain ⟨g1, g2, g3⟩ := h a List.mem_cons_self
  simp only [S.lapsOk, g1, g2, g3, Bool.not_false, Bool.true_and]
  refine ih (fun j hj => ?_) h1.2 h2.2
  obtain ⟨k1, k2, k3⟩ := h j (List.mem_cons_of_mem _ hj)
  have n1 : j.first ≠ a.first := fun e => h1.1 (e ▸ List.mem_map_of_mem hj)
  have n2 : j.second ≠ a.second := fun e => h2.1 (e ▸ List.mem_map_of_mem hj)
  exact ⟨k1, by simp [n1, k2], by simp [n2, k3]⟩
theorem nodup_iff {α : Type} (f : α -> Int) (l : List α) : (l.map f).Nodup ↔ ∀ i k (hi : i < l.length) (hk : k < i), f (l[k]'(by omega)) ≠ f l[i] := by
 unfold List.Nodup
 rw [List.pairwise_iff_getElem]
 constructor
 ·intro h i k hi hk
  have := h k i (by simp; omega) (by simpa using hi) hk
  simpa using this
 ·intro h i j hi hj hij
  have := h j i (by simpa using hj) hij
  simpa using this
theorem lapsOk_eq (L : List Mn) (js : List Jn) : S.lapsOk L (fun _ => false) (fun _ => false) js = (List.range js.length).all (S.lapAt L js) := by
 rw [Bool.eq_iff_iff, List.all_eq_true]
 constructor
 ·intro h i hi
  have hi' := List.mem_range.1 hi
  obtain ⟨h1, h2, h3⟩ := lapsOk_out h
  rw [nodup_iff] at h2 h3
  unfold S.lapAt
  rw [List.getElem?_eq_getElem hi']
  simp only [Bool.and_eq_true]
  refine ⟨(h1 _ (List.getElem_mem hi')).1, ?_⟩
  rw [List.all_eq_true]
  intro x hx
  obtain ⟨k, hk, rfl⟩ := List.mem_iff_getElem.1 hx
  rw [List.length_take] at hk
  rw [List.getElem_take]
  have a1 := h2 i k hi' (by omega)
  have a2 := h3 i k hi' (by omega)
  simp [S.apartJ, a1, a2]
 ·intro h
  have key : ∀ i (hi : i < js.length), S.jointOk L js[i] = true /\ ∀ k (hk : k < i), S.apartJ (js[k]'(by omega)) js[i] = true := fun i hi => by
   have := h i (List.mem_range.2 hi)
   unfold S.lapAt at this
   rw [List.getElem?_eq_getElem hi] at this
   simp only [Bool.and_eq_true] at this
   refine ⟨this.1, fun k hk => ?_⟩
   have h2 := List.all_eq_true.1 this.2
   have hkt : k < (js.take i).length := by rw [List.length_take]; omega
   have := h2 (js.take i)[k] (List.getElem_mem hkt)
   rwa [List.getElem_take] at this
  refine lapsOk_of (fun j hj => ?_) ?_ ?_
  ·obtain ⟨i, hi, rfl⟩ := List.mem_iff_getElem.1 hj
   exact ⟨(key i hi).1, rfl, rfl⟩
  ·rw [nodup_iff]
   intro i k hi hk he
   have := (key i hi).2 k hk
   simp [S.apartJ, he] at this
  ·rw [nodup_iff]
   intro i k hi hk he
   have := (key i hi).2 k hk
   simp [S.apartJ, he] at this
theorem look_eq {x : Dt} {td : Bool} (hj : x.js.length = x.jn) : S.look x td = (S.member x.m && S.laid (bars x.bs) x.rs && td && S.rule x.rule && decide (x.jn <= 1000) && (List.range x.jn).all (S.lapAt (S.mains (bars x.bs) x.rs) x.js)) := by
 unfold S.look
 rw [lapsOk_eq, hj]
set_option maxRecDepth 20000 in
set_option maxHeartbeats 4000000 in
theorem rlook_no (x : Dt) (ds : List Dm) (B : Nat) (w : World) (hB : B <= w.heap.size) (hA : DtAt w B x) (hD : DemsAt w B x.dA x.dn ds) (h : (S.member x.m && S.laid (bars x.bs) x.rs && S.dems ds && S.rule x.rule && decide (x.jn <= 1000)) = false) :
 Calls Tryz.prog 54 #[dtV x] w fun e w' => e = .returned (.bool false) /\ Below w.heap.size w w' := by
 have HA := lh hA
 have HDA := lh hD
 have HM := lh (fun (W : World) (hw : B <= W.heap.size) (hh : DtAt W B x) => rmember_any x.m x.mA x.mn x.mc x.hA x.hn x.hc B W hw hh.sol hA.name)
 have HL := lh (fun (W : World) (hw : B <= W.heap.size) (hh : DtAt W B x) => rlaid_any x.bs x.rs x.bA x.bn x.bc x.rA x.rn x.rc B W hw hh.bars hh.runs)
 have HD := lh (fun (W : World) (hw : B <= W.heap.size) (hh : DemsAt W B x.dA x.dn ds) => rdems_any ds x.dA x.dn x.dc B W hw hh)
 have HR := lh (fun W => rvalid_any x.rule W)
 have hjm := hA.jmax
 clear hA hD
 generalize S.member x.m = t0 at *
 generalize S.laid (bars x.bs) x.rs = t1 at *
 generalize S.dems ds = t2 at *
 generalize S.rule x.rule = t3 at *
 have hcs : t0 = false ∨ (t0 = true /\ t1 = false) ∨ (t0 = true /\ t1 = true /\ t2 = false) ∨ (t0 = true /\ t1 = true /\ t2 = true /\ t3 = false) ∨ (t0 = true /\ t1 = true /\ t2 = true /\ t3 = true /\ 1000 < x.jn) := by
  cases t0 <;> cases t1 <;> cases t2 <;> cases t3 <;> simp at h ⊢
  omega
 clear h
 unfold memV at HM
 unfold ruleV at HR
 unfold dtV
 rcases hcs with rfl | ⟨rfl, rfl⟩ | ⟨rfl, rfl, rfl⟩ | ⟨rfl, rfl, rfl, rfl⟩ | ⟨rfl, rfl, rfl, rfl, h5⟩
 all_goals (
  go_enter Tryz.func54, Tryz.ntmps54
  go_wp2_with (first
   | (go_at_call 85; (with_reducible refine (HM.out _ (size_via hB bel) (HA.out.at_ hB bel)).mono ?_); rintro e w1 ⟨rfl, hbw1⟩; obtain ⟨hcw1, hfw1⟩ := bcell hbw1; have hzw1_0 : w.heap.size < w1.heap.size := lt_via hbw1 sz)
   | (go_at_call 86; (with_reducible refine (HL.out _ (size_via hB bel) (HA.out.at_ hB bel)).mono ?_); rintro e w2 ⟨rfl, hbw2⟩; obtain ⟨hcw2, hfw2⟩ := bcell hbw2; have hzw2_0 : w.heap.size < w2.heap.size := lt_via hbw2 sz)
   | (go_at_call 87; (with_reducible refine (HD.out _ (size_via hB bel) (HDA.out.at_ hB bel)).mono ?_); rintro e w3 ⟨rfl, hbw3⟩; obtain ⟨hcw3, hfw3⟩ := bcell hbw3; have hzw3_0 : w.heap.size < w3.heap.size := lt_via hbw3 sz)
   | (go_at_call 88; (with_reducible refine (HR.out _).mono ?_); rintro e w4 ⟨rfl, hbw4⟩; obtain ⟨hcw4, hfw4⟩ := bcell hbw4; have hzw4_0 : w.heap.size < w4.heap.size := lt_via hbw4 sz))
  go_ret
  exact ⟨rfl, bel⟩)
set_option maxRecDepth 20000 in
set_option maxHeartbeats 8000000 in
theorem rlook_in (x : Dt) (ds : List Dm) (B : Nat) (w : World) (hB : B <= w.heap.size) (hA : DtAt w B x) (hD : DemsAt w B x.dA x.dn ds) (h0 : S.member x.m = true) (h1 : S.laid (bars x.bs) x.rs = true) (h2 : S.dems ds = true) (h3 : S.rule x.rule = true) (h5 : x.jn <= 1000) :
 Calls Tryz.prog 54 #[dtV x] w fun e w' => e = .returned (.bool ((List.range x.jn).all (S.lapAt (S.mains (bars x.bs) x.rs) x.js))) /\ Below w.heap.size w w' := by
 have HA := lh hA
 have HDA := lh hD
 have HM := lh (fun (W : World) (hw : B <= W.heap.size) (hh : DtAt W B x) => h0 ▸ rmember_any x.m x.mA x.mn x.mc x.hA x.hn x.hc B W hw hh.sol hA.name)
 have HL := lh (fun (W : World) (hw : B <= W.heap.size) (hh : DtAt W B x) => h1 ▸ rlaid_any x.bs x.rs x.bA x.bn x.bc x.rA x.rn x.rc B W hw hh.bars hh.runs)
 have HD := lh (fun (W : World) (hw : B <= W.heap.size) (hh : DemsAt W B x.dA x.dn ds) => h2 ▸ rdems_any ds x.dA x.dn x.dc B W hw hh)
 have HR := lh (fun W => h3 ▸ rvalid_any x.rule W)
 have HJ := lh (fun (j : Jn) (W : World) (hw : B <= W.heap.size) (hh : DtAt W B x) => rjoint_any x j B W hw hh h1)
 have hjl := hA.jlen
 have HAT := lh (fun (k : Nat) (hk : k < x.js.length) => show S.lapAt (S.mains (bars x.bs) x.rs) x.js k = (S.jointOk (S.mains (bars x.bs) x.rs) x.js[k] && (x.js.take k).all (fun i => S.apartJ i x.js[k])) from by unfold S.lapAt; rw [List.getElem?_eq_getElem hk])
 clear hA hD h0 h1 h2 h3
 generalize S.lapAt (S.mains (bars x.bs) x.rs) x.js = P at *
 unfold memV at HM
 unfold ruleV at HR
 unfold dtV at HJ
 unfold dtV
 generalize hjA : x.jA = jA at *
 have HjA := lh hjA
 clear hjA
 go_enter Tryz.func54, Tryz.ntmps54
 go_upto_region 3 with (first
  | (go_at_call 85; (with_reducible refine (HM.out _ (size_via hB bel) (HA.out.at_ hB bel)).mono ?_); rintro e w1 ⟨rfl, hbw1⟩; obtain ⟨hcw1, hfw1⟩ := bcell hbw1; have hzw1_0 : w.heap.size < w1.heap.size := lt_via hbw1 sz)
  | (go_at_call 86; (with_reducible refine (HL.out _ (size_via hB bel) (HA.out.at_ hB bel)).mono ?_); rintro e w2 ⟨rfl, hbw2⟩; obtain ⟨hcw2, hfw2⟩ := bcell hbw2; have hzw2_0 : w.heap.size < w2.heap.size := lt_via hbw2 sz)
  | (go_at_call 87; (with_reducible refine (HD.out _ (size_via hB bel) (HDA.out.at_ hB bel)).mono ?_); rintro e w3 ⟨rfl, hbw3⟩; obtain ⟨hcw3, hfw3⟩ := bcell hbw3; have hzw3_0 : w.heap.size < w3.heap.size := lt_via hbw3 sz)
  | (go_at_call 88; (with_reducible refine (HR.out _).mono ?_); rintro e w4 ⟨rfl, hbw4⟩; obtain ⟨hcw4, hfw4⟩ := bcell hbw4; have hzw4_0 : w.heap.size < w4.heap.size := lt_via hbw4 sz))
 have hDB := Blk.via (Blk.via (Blk.via (Blk.via (Blk.new w 34 #[.string x.m.name, .slice x.mA x.mn x.mc, .slice x.hA x.hn x.hc, .int .i64 x.m.cover, .int .i64 x.m.aggr, .int .i64 x.m.poker, .slice x.bA x.bn x.bc, .slice x.rA x.rn x.rc, .slice jA x.jn x.jc, .slice x.dA x.dn x.dc, .int .i64 x.rule.num, .int .i64 x.rule.den, .int .i64 x.rule.pnum, .int .i64 x.rule.pden, .int .i64 x.rule.bnum, .int .i64 x.rule.bden, .int .i64 x.rule.lnum, .int .i64 x.rule.lden, .int .i64 x.rule.least]) hbw1) hbw2) hbw3) hbw4
 have hbw : Below w.heap.size w w4 := bel
 clear hcw1 hfw1 hcw2 hfw2 hcw3 hfw3 hcw4 hfw4 HM HL HD HR
 clear hbw1 hbw2 hbw3 hbw4
 have HDB := lh hDB
 have d8 := hDB.cell 8
 have hDl := hDB.lt
 simp only [ga1, ga2, ga3] at d8
 clear hDB
 go_wp2
 go_loopw [3] (fun i wr => ∃ k : Nat, k <= x.jn /\ i = .int .i64 k /\ Hid (∀ j, j < k -> P j = true) /\ Below w4.heap.size w4 wr) (fun i _ => x.jn - (intOf i).toNat)
 case atStart => exact ⟨0, Nat.zero_le _, rfl, lh (fun j hj => absurd hj (by omega)), Below.refl _ _⟩
 case round =>
  obtain ⟨k, hk, rfl, HNO, hbr⟩ := hrel
  have hbwr : Below w.heap.size w wr := hbw.trans (hbr.mono hbw.size)
  have hDr := HDB.out.via hbr
  have d8r := hDr.cell 8
  have hDrl := hDr.lt
  simp only [ga1, ga2, ga3] at d8r
  have HDR := lh hDr
  clear hDr
  by_cases hlt : k < x.jn
  ·have hkx : k < x.js.length := by omega
   have hki : (k : Int) < (x.jn : Int) := by omega
   have hJc := (HA.out.at_ hB hbwr).joints
   rw [HjA.out] at hJc
   obtain ⟨bJ, oJ, hje, hbJ, _⟩ := hJc.at_ (by rw [flat_len jnC 2 jnC_len]; omega)
   subst hje
   have hbJl : bJ < wr.heap.size := by have := hbwr.size; omega
   have c0 := hJc.row0 jnC_len hkx rfl
   have c1 := hJc.rowj jnC_len hkx 1 rfl
   have HJC := lh hJc
   have HJk := lh (HJ.out x.js[k])
   have HATk := lh (HAT.out k hkx)
   have HBAD := lh (fun (h : P k = false) => show (List.range x.jn).all P = false from by
    rw [List.all_eq_false]; exact ⟨k, List.mem_range.2 hlt, by simp [h]⟩)
   have HGO := lh (fun (h : P k = true) => show ∀ j, j < k + 1 -> P j = true from fun j hj => by
    by_cases hjk : j = k
    ·subst hjk; exact h
    ·exact HNO.out j (by omega))
   clear hJc
   have hRG := (HDR.out).range
   have hRGd : ∀ W', Below wr.heap.size wr W' -> W'.rangeAt w.heap.size 0 [.string x.m.name, .slice x.mA x.mn x.mc, .slice x.hA x.hn x.hc, .int .i64 x.m.cover, .int .i64 x.m.aggr, .int .i64 x.m.poker, .slice x.bA x.bn x.bc, .slice x.rA x.rn x.rc, .slice (some ⟨bJ, oJ, none⟩) x.jn x.jc, .slice x.dA x.dn x.dc, .int .i64 x.rule.num, .int .i64 x.rule.den, .int .i64 x.rule.pnum, .int .i64 x.rule.pden, .int .i64 x.rule.bnum, .int .i64 x.rule.bden, .int .i64 x.rule.lnum, .int .i64 x.rule.lden, .int .i64 x.rule.least] := fun W' hw => (HDR.out.via hw).range
   have HRGD := lh hRGd
   clear hRG hRGd
   cases hjo : S.jointOk (S.mains (bars x.bs) x.rs) x.js[k]
   all_goals (
    have HJO := lh hjo
    rw [hjo] at HJk
    clear hjo
    go_upto_region 6 with fail
    refine wp_region_mix 0 [0, 5] (by kernel_rfl) (by kernel_rfl) (of_decide_eq_true (by kernel_rfl)) ?_
    try simp only [wpSegs, gt1, gt2, gt3, gt4, List.take_nil, List.drop_nil]
    repeat (go_big_quiet_step (fail))
    refine wpQuiet_nil ?_
    show wpList _ _ _ _ _ _
    go_wp2_with ((refine wpList_load_mid rfl 34 (.tmp 1) rfl _ _ rfl _ _ (HRGD.out _ belr) Tryz.underlying34 rfl (by kernel_rfl) ?_))
    refine seg_next (grow_to belr) ?_
    try simp only [wpSegs, gt1, gt2, gt3, gt4, List.take_nil, List.drop_nil]
    repeat (go_big_quiet_step (fail))
    refine wpQuiet_nil ?_
    show wpList _ _ _ _ _ _
    go_wp2_with ((go_at_call 89; (with_reducible refine (HJk.out _ (size_via hB belr) (HA.out.at_ hB belr)).mono ?_); rintro e w6 ⟨rfl, hbw6⟩))
    refine seg_next (grow_to belr) ?_
    try simp only [wpSegs, gt1, gt2, gt3, gt4, List.take_nil, List.drop_nil]
    repeat (go_big_quiet_step (fail))
    refine wpQuiet_nil ?_
    show wpList _ _ _ _ _ _
    have hb6 : Below wr.heap.size wr w6 := belr)
   ·have HF := lh (HBAD.out (by rw [HATk.out, HJO.out]; rfl))
    go_wp2
    go_ret
    exact ⟨ret_b HF.out.symm, hbwr.trans (hb6.mono hbwr.size)⟩
   ·have HAY := lh (show P k = (x.js.take k).all (fun i => S.apartJ i x.js[k]) by rw [HATk.out, HJO.out]; rfl)
    have hb6w : Below w.heap.size w w6 := hbwr.trans (hb6.mono hbwr.size)
    have hs6 := hb6.size
    clear hbw6
    go_wp2
    generalize wr = wo at *
    go_loopw [4] (fun i wr => ∃ q : Nat, q <= k /\ i = .int .i64 q /\ Hid (∀ j (hj : j < k), j < q -> S.apartJ (x.js[j]'(by omega)) x.js[k] = true) /\ Below w6.heap.size w6 wr) (fun i _ => k - (intOf i).toNat)
    case atStart => exact ⟨0, Nat.zero_le _, rfl, lh (fun j _ hj => absurd hj (by omega)), Below.refl _ _⟩
    case round =>
     obtain ⟨q, hq, rfl, HNP, hbq⟩ := hrel
     have hbx : Below wo.heap.size wo wr := hb6.trans (hbq.mono hs6)
     by_cases hlq : q < k
     ·have hqx : q < x.js.length := by omega
      have hqi : (q : Int) < (k : Int) := by omega
      have hqn : (q : Int) < (x.jn : Int) := by omega
      have hJq := HJC.out.below (hbx.mono (by have := hbwr.size; omega))
      have c0 := hJq.row0 jnC_len hkx rfl
      have c1 := hJq.rowj jnC_len hkx 1 rfl
      have g0 := hJq.row0 jnC_len hqx rfl
      have g1 := hJq.rowj jnC_len hqx 1 rfl
      have d8q := (HDR.out.via hbx).cell 8
      simp only [ga1, ga2, ga3] at d8q
      have hDq : w.heap.size < wr.heap.size := (HDR.out.via hbx).lt
      have hbJq : bJ < wr.heap.size := by have := hbx.size; omega
      have HE := lh (show S.apartJ x.js[q] x.js[k] = (!(x.js[q].first == x.js[k].first) && !(x.js[q].second == x.js[k].second)) from rfl)
      have HBD := lh (fun (h : S.apartJ x.js[q] x.js[k] = false) => HBAD.out (by
       rw [HAY.out, List.all_eq_false]
       refine ⟨x.js[q], ?_, by simp [h]⟩
       have hqt : q < (x.js.take k).length := by rw [List.length_take]; omega
       have e : (x.js.take k)[q] = x.js[q] := List.getElem_take
       rw [<- e]
       exact List.getElem_mem _))
      have HGD := lh (fun (h : S.apartJ x.js[q] x.js[k] = true) (j : Nat) (hj : j < k) (hjq : j < q + 1) => show S.apartJ (x.js[j]'(by omega)) x.js[k] = true from by
       by_cases hjq' : j = q
       ·subst hjq'; exact h
       ·exact HNP.out j hj (by omega))
      clear hJq
      generalize x.js[q] = z at *
      generalize x.js[k] = y at *
      cases e1 : (z.first == y.first)
      ·cases e2 : (z.second == y.second)
       ·have HG := lh (HGD.out (by rw [HE.out, e1, e2]; rfl))
        go_wp2
        refine wp_region_grow (by kernel_rfl) (by kernel_rfl) ?_
        repeat (go_big_quiet_step (fail))
        all_goals (refine wpQuiet_nil ?_; intro wg hbwg; obtain ⟨hcwg, hfwg⟩ := bcell hbwg)
        go_wp2
        go_roundw
        case rel => exact ⟨q + 1, by omega, by go_num, lh HG.out, hbq.trans (hbwg.mono hbq.size)⟩
        case measure => simp [intOf]; omega
       ·have HG := lh (HBD.out (by rw [HE.out, e1, e2]; rfl))
        go_wp2
        refine wp_region_grow (by kernel_rfl) (by kernel_rfl) ?_
        repeat (go_big_quiet_step (fail))
        all_goals (refine wpQuiet_nil ?_; intro wg hbwg; obtain ⟨hcwg, hfwg⟩ := bcell hbwg)
        go_wp2
        go_ret
        exact ⟨ret_b HG.out.symm, hbwr.trans ((hbx.trans (hbwg.mono hbx.size)).mono hbwr.size)⟩
      ·have HG := lh (HBD.out (by rw [HE.out, e1]; rfl))
       go_wp2
       refine wp_region_grow (by kernel_rfl) (by kernel_rfl) ?_
       repeat (go_big_quiet_step (fail))
       all_goals (refine wpQuiet_nil ?_; intro wg hbwg; obtain ⟨hcwg, hfwg⟩ := bcell hbwg)
       go_wp2
       go_ret
       exact ⟨ret_b HG.out.symm, hbwr.trans ((hbx.trans (hbwg.mono hbx.size)).mono hbwr.size)⟩
     ·have HG := lh (HGO.out (by
       rw [HAY.out]
       exact all_yes (p := fun i => S.apartJ i x.js[k]) (fun j hj => by
        rw [List.length_take] at hj
        rw [List.getElem_take]
        exact HNP.out j (by omega) (by omega))))
      go_wp2
      go_roundw
      case rel => exact ⟨k + 1, by omega, by go_num, lh HG.out, hbr.trans (hbx.mono hbr.size)⟩
      case measure => simp [intOf]; omega
  ·have HG := lh (show (List.range x.jn).all P = true from by
    rw [List.all_eq_true]
    exact fun j hj => HNO.out j (by have := List.mem_range.1 hj; omega))
   go_wp2
   go_ret
   exact ⟨ret_b HG.out.symm, hbwr⟩
theorem rlook_any (x : Dt) (ds : List Dm) (B : Nat) (w : World) (hB : B <= w.heap.size) (hA : DtAt w B x) (hD : DemsAt w B x.dA x.dn ds) :
 Calls Tryz.prog 54 #[dtV x] w fun e w' => e = .returned (.bool (S.look x (S.dems ds))) /\ Below w.heap.size w w' := by
 rw [look_eq hA.jlen]
 cases hc : (S.member x.m && S.laid (bars x.bs) x.rs && S.dems ds && S.rule x.rule && decide (x.jn <= 1000))
 ·rw [Bool.false_and]
  exact rlook_no x ds B w hB hA hD hc
 ·rw [Bool.true_and]
  simp only [Bool.and_eq_true, decide_eq_true_eq] at hc
  obtain ⟨⟨⟨⟨h0, h1⟩, h2⟩, h3⟩, h5⟩ := hc
  exact rlook_in x ds B w hB hA hD h0 h1 h2 h3 h5
end Go.Proofs.YtmfpbafpnoomeaaGreat
