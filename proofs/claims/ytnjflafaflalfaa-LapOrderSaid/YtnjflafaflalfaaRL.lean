/- Contracts: schedule.Valid, schedule.Find. -/
import Derived.Test.YtnjflafaflalfaaRK
set_option linter.unusedVariables false
set_option linter.unusedSimpArgs false
namespace Go.Proofs.Ytnjflafaflalfaa
open Go.RowKit
def S.schedAt (l : List Bar) (i : Nat) : Bool := match l[i]? with | some b => S.bar b && decide (S.index l b.mark = (i : Int)) | none => true
def S.sched (l : List Bar) : Bool := decide (l.length ≤ 60) && (List.range l.length).all (S.schedAt l)
theorem sched_no {l : List Bar} {k : Nat} (hk : k < l.length) (h : S.schedAt l k = false) : S.sched l = false := by
  unfold S.sched
  rw [Bool.and_eq_false_iff]
  right
  rw [List.all_eq_false]
  exact ⟨k, by simpa using hk, by simp [h]⟩
theorem sched_yes {l : List Bar} (hl : l.length ≤ 60) (h : ∀ j, j < l.length → S.schedAt l j = true) : S.sched l = true := by
  unfold S.sched
  rw [Bool.and_eq_true, List.all_eq_true]
  exact ⟨by simpa using hl, fun x hx => h x (by simpa using hx)⟩
theorem schedAt_eq {l : List Bar} {k : Nat} {b : Bar} (hb : l[k]? = some b) : S.schedAt l k = (S.bar b && decide (S.index l b.mark = (k : Int))) := by
  unfold S.schedAt; rw [hb]
theorem sched_bar {l : List Bar} (h : S.sched l = true) {k : Nat} {b : Bar} (hb : l[k]? = some b) : S.bar b = true ∧ S.index l b.mark = (k : Int) := by
  simp only [S.sched, Bool.and_eq_true, List.all_eq_true] at h
  have := h.2 k (by simpa using (List.getElem?_eq_some_iff.1 hb).1)
  rw [schedAt_eq hb, Bool.and_eq_true, decide_eq_true_eq] at this
  exact this
theorem index_bd (l : List Bar) (m : ByteArray) : -1 ≤ S.index l m ∧ S.index l m < l.length := by
  unfold S.index idxf
  split
  · rename_i k hk
    obtain ⟨h1, _⟩ := List.findIdx?_eq_some_iff_getElem.1 hk
    omega
  · omega
set_option maxHeartbeats 1000000 in
theorem sched_any (l : List BarR) (A : Option Addr) (n c : Nat) (B : Nat) (w : World) (hB : B ≤ w.heap.size) (hA : BarsAt w B A n l) :
    Calls Try.prog 39 #[.slice A n c] w fun e w' => e = .returned (.bool (S.sched (bars l))) ∧ Below w.heap.size w w' := by
  have HA := Lib.hid hA
  have hL : (bars l).length = n := by simpa using hA.len
  have HL := Lib.hid hL
  clear hA
  by_cases h60 : 60 < n
  · have HS := Lib.hid (show S.sched (bars l) = false from by unfold S.sched; rw [hL]; simp; omega)
    clear hL
    go_enter Try.func39, Try.ntmps39
    go_wp2
    go_ret
    exact ⟨ret_b HS.out.symm, bel⟩
  clear hL
  go_enter Try.func39, Try.ntmps39
  go_wp2
  go_loopw [10] (fun i wr => ∃ k : Nat, k ≤ n ∧ i = .int .i64 k ∧ (∀ j, j < k → S.schedAt (bars l) j = true) ∧ Below w.heap.size w wr) (fun i _ => n - (intOf i).toNat)
  case atStart => exact ⟨0, Nat.zero_le _, rfl, fun j hj => absurd hj (by omega), Below.refl _ _⟩
  case round =>
    obtain ⟨k, hk, rfl, hno, hbr⟩ := hrel
    have HNO := Lib.hid hno
    clear hno
    by_cases hlt : k < n
    · have hkx : k < l.length := by have := HA.out.len; omega
      have hkb : k < (bars l).length := by have := HL.out; omega
      have hwr : B ≤ wr.heap.size := by have := hbr.size; omega
      have hA' := HA.out.at_ hB hbr
      have HA' := Lib.hid hA'
      have hs' := hA'.cells
      have HE := Lib.hid (hA'.each l[k] (List.getElem_mem hkx))
      obtain ⟨b, o, hAe, _, _⟩ := hs'.at_ (by rw [flat_len barC 5 barC_len]; omega)
      subst hAe
      have c0 := hs'.row0 barC_len hkx rfl
      have c1 := hs'.rowj barC_len hkx 1 rfl
      have c2 := hs'.rowj barC_len hkx 2 rfl
      have c3 := hs'.rowj barC_len hkx 3 rfl
      have c4 := hs'.rowj barC_len hkx 4 rfl
      have HAT := Lib.hid (schedAt_eq (l := bars l) (k := k) (b := l[k].b) (by simp [hkx]))
      have HNS := Lib.hid (fun h => sched_no (l := bars l) hkb h)
      have HIX := Lib.hid (fun (W : World) (hw : B ≤ W.heap.size) (hh : BarsAt W B (some ⟨b, o, none⟩) n l) => sindex_any l l[k].b.mark (some ⟨b, o, none⟩) n c B W hw hh)
      have HVX := Lib.hid (fun (W : World) (hw : B ≤ W.heap.size) (hh : BarAt W B l[k].A l[k].n l[k].b) => valid_any l[k].b l[k].A l[k].n l[k].c B W hw hh)
      have hb2 := index_bd (bars l) l[k].b.mark
      clear hA' hs'
      unfold barV at HVX
      generalize S.index (bars l) l[k].b.mark = j at *
      generalize S.bar l[k].b = t at *
      generalize l[k] = r at *
      cases t
      · go_wp2_with (first
          | (go_at_call 55; (with_reducible refine (HVX.out _ (by simp; omega) (HE.out.below ((Below.refl B wr).alloc hwr _))).mono ?_); rintro e w1 ⟨rfl, hbw1⟩; obtain ⟨hcw1, hfw1⟩ := bcell hbw1; have hyw1_0 : wr.heap.size < w1.heap.size := lt_via hbw1 (by first | omega | (simp; done) | (simp; omega))))
        go_ret
        exact ⟨ret_b (HNS.out (by rw [HAT.out]; simp)).symm, bel⟩
      · by_cases hj : j = (k : Int)
        · go_wp2_with (first
            | (go_at_call 55; (with_reducible refine (HVX.out _ (by simp; omega) (HE.out.below ((Below.refl B wr).alloc hwr _))).mono ?_); rintro e w1 ⟨rfl, hbw1⟩; obtain ⟨hcw1, hfw1⟩ := bcell hbw1; have hyw1_0 : wr.heap.size < w1.heap.size := lt_via hbw1 (by first | omega | (simp; done) | (simp; omega)))
            | (go_at_call 56; (with_reducible refine (HIX.out _ (by omega) (HA'.out.below (((Below.refl B wr).alloc hwr _).trans (hbw1.mono (by simp; omega))))).mono ?_); rintro e w2 ⟨rfl, hbw2⟩; obtain ⟨hcw2, hfw2⟩ := bcell hbw2; have hyw2_0 : wr.heap.size < w2.heap.size := lt_via hbw2 (by first | omega | (simp; done) | (simp; omega))))
          go_roundw
          case rel =>
            refine ⟨k + 1, by omega, by go_num, fun j' hj' => ?_, bel⟩
            by_cases hjk : j' = k
            · subst hjk; rw [HAT.out]; simp [hj]
            · exact HNO.out j' (by omega)
          case measure => simp [intOf]; omega
        · go_wp2_with (first
            | (go_at_call 55; (with_reducible refine (HVX.out _ (by simp; omega) (HE.out.below ((Below.refl B wr).alloc hwr _))).mono ?_); rintro e w1 ⟨rfl, hbw1⟩; obtain ⟨hcw1, hfw1⟩ := bcell hbw1; have hyw1_0 : wr.heap.size < w1.heap.size := lt_via hbw1 (by first | omega | (simp; done) | (simp; omega)))
            | (go_at_call 56; (with_reducible refine (HIX.out _ (by omega) (HA'.out.below (((Below.refl B wr).alloc hwr _).trans (hbw1.mono (by simp; omega))))).mono ?_); rintro e w2 ⟨rfl, hbw2⟩; obtain ⟨hcw2, hfw2⟩ := bcell hbw2; have hyw2_0 : wr.heap.size < w2.heap.size := lt_via hbw2 (by first | omega | (simp; done) | (simp; omega))))
          go_ret
          exact ⟨ret_b (HNS.out (by rw [HAT.out]; simp [hj])).symm, bel⟩
    · go_wp2
      go_ret
      exact ⟨ret_b (sched_yes (by have := HL.out; omega) (fun j hj => HNO.out j (by have := HL.out; omega))).symm, hbr⟩
def S.findErr (l : List Bar) (m : ByteArray) : Int := if S.sched l = false then 1 else if S.index l m < 0 then 9 else 0
def S.findIx (l : List Bar) (m : ByteArray) : Int := if S.findErr l m = 0 then S.index l m else 0
theorem sfind_any (l : List BarR) (m : ByteArray) (A : Option Addr) (n c : Nat) (B : Nat) (w : World) (hB : B ≤ w.heap.size) (hA : BarsAt w B A n l) :
    Calls Try.prog 45 #[.slice A n c, .string m] w fun e w' => e = .returned (.tuple #[.int .i64 (S.findIx (bars l) m), .int .i64 (S.findErr (bars l) m)]) ∧ Below w.heap.size w w' := by
  have HA := Lib.hid hA
  have HE := Lib.hid (show S.findErr (bars l) m = if S.sched (bars l) = false then 1 else if S.index (bars l) m < 0 then 9 else 0 from rfl)
  have HF := Lib.hid (show S.findIx (bars l) m = if S.findErr (bars l) m = 0 then S.index (bars l) m else 0 from rfl)
  have HV := Lib.hid (sched_any l A n c B w hB hA)
  have HI := Lib.hid (fun (W : World) (hw : B ≤ W.heap.size) (hh : BarsAt W B A n l) => sindex_any l m A n c B W hw hh)
  clear hA
  generalize S.sched (bars l) = t at *
  generalize S.index (bars l) m = j at *
  cases t
  · go_enter Try.func45, Try.ntmps45
    go_wp2_with (first
      | (go_at_call 39; (with_reducible refine (HV.out).mono ?_); rintro e w1 ⟨rfl, hbw1⟩; obtain ⟨hcw1, hfw1⟩ := bcell hbw1))
    go_ret2
    exact ⟨by rw [HF.out, HE.out]; rfl, bel⟩
  · by_cases hj : j < 0
    · go_enter Try.func45, Try.ntmps45
      go_wp2_with (first
        | (go_at_call 39; (with_reducible refine (HV.out).mono ?_); rintro e w1 ⟨rfl, hbw1⟩; obtain ⟨hcw1, hfw1⟩ := bcell hbw1)
        | (go_at_call 56; (with_reducible refine (HI.out _ (by have := hbw1.size; omega) (HA.out.at_ hB hbw1)).mono ?_); rintro e w2 ⟨rfl, hbw2⟩; obtain ⟨hcw2, hfw2⟩ := bcell hbw2))
      go_ret2
      exact ⟨by rw [HF.out, HE.out]; simp [hj], bel⟩
    · go_enter Try.func45, Try.ntmps45
      go_wp2_with (first
        | (go_at_call 39; (with_reducible refine (HV.out).mono ?_); rintro e w1 ⟨rfl, hbw1⟩; obtain ⟨hcw1, hfw1⟩ := bcell hbw1)
        | (go_at_call 56; (with_reducible refine (HI.out _ (by have := hbw1.size; omega) (HA.out.at_ hB hbw1)).mono ?_); rintro e w2 ⟨rfl, hbw2⟩; obtain ⟨hcw2, hfw2⟩ := bcell hbw2))
      go_ret2
      exact ⟨by rw [HF.out, HE.out]; simp [hj], bel⟩
end Go.Proofs.Ytnjflafaflalfaa
