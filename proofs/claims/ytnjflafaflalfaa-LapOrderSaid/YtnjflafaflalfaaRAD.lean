/- Contracts: laid.right for a valid schedule, laid.Valid. -/
import Derived.Test.YtnjflafaflalfaaRAC
set_option linter.unusedVariables false
set_option linter.unusedSimpArgs false
namespace Go.Proofs.Ytnjflafaflalfaa
open Go.RowKit
theorem right_any (l : List BarR) (r : Rn) (A : Option Addr) (n c : Nat) (B : Nat) (w : World) (hB : B ≤ w.heap.size) (hA : BarsAt w B A n l) (hs : S.sched (bars l) = true) :
    Calls Try.prog 40 #[.slice A n c, rnV r] w fun e w' => e = .returned (.bool (S.right (bars l) r)) ∧ Below w.heap.size w w' := by
  by_cases h : S.rightHead (bars l) r = true
  · by_cases h' : S.rightStep r = true
    · obtain ⟨⟨h0, _⟩, _⟩ := rightHead_out h
      have hb := (index_bd (bars l) r.mark).2
      obtain ⟨k, hk⟩ : ∃ k : Nat, S.index (bars l) r.mark = (k : Int) := ⟨(S.index (bars l) r.mark).toNat, by omega⟩
      have hkl : k < l.length := by rw [hk] at hb; simpa using hb
      have e : S.right (bars l) r = S.rightPts l[k].b r := by
        have : S.barAt (bars l) r.mark = some l[k].b := by
          unfold S.barAt
          rw [hk]
          simp [hkl]
        unfold S.right
        rw [h, h', this]
        rfl
      rw [e]
      exact right_in l r k l[k] A n c B w hB hA h h' hk (List.getElem?_eq_getElem hkl) (sched_bar hs (k := k) (by simp [hkl])).1
    · have h2 : S.rightStep r = false := by simpa using h'
      have e : S.right (bars l) r = false := by unfold S.right; rw [h2]; simp
      rw [e]
      exact right_no1 l r A n c B w hB hA h h2
  · have h2 : S.rightHead (bars l) r = false := by simpa using h
    have e : S.right (bars l) r = false := by unfold S.right; rw [h2]; simp
    rw [e]
    exact right_no0 l r A n c B w hB hA h2
theorem right_count {l : List Bar} {r : Rn} (h : S.right l r = true) : 1 ≤ r.count ∧ r.count ≤ 1000 := by
  have h1 : S.rightHead l r = true := by
    unfold S.right at h
    rw [Bool.and_eq_true, Bool.and_eq_true] at h
    exact h.1.1
  have := (rightHead_out h1).2
  omega
structure RunsAt (w : World) (B : Nat) (A : Option Addr) (n : Nat) (l : List Rn) : Prop where
  len : l.length = n
  max : n ≤ 9223372036854775807
  cells : Cells w B A (l.flatMap rnC)
theorem RunsAt.at_ {w w' : World} {B : Nat} {A : Option Addr} {n : Nat} {l : List Rn} (h : RunsAt w B A n l) (hB : B ≤ w.heap.size) (hb : Below w.heap.size w w') : RunsAt w' B A n l := ⟨h.len, h.max, h.cells.below (hb.mono hB)⟩
def S.runsOk (bs : List Bar) : Int → List Rn → Bool
  | _, [] => true
  | rest, r :: rs => S.right bs r && decide (r.count ≤ rest) && S.runsOk bs (rest - r.count) rs
def S.laid (bs : List Bar) (rs : List Rn) : Bool := S.sched bs && decide (rs.length ≤ 60) && S.runsOk bs 2000 rs
set_option maxHeartbeats 1000000 in
theorem laid_any (l : List BarR) (rs : List Rn) (A : Option Addr) (n c : Nat) (A' : Option Addr) (n' c' : Nat) (B : Nat) (w : World) (hB : B ≤ w.heap.size) (hA : BarsAt w B A n l) (hR : RunsAt w B A' n' rs) :
    Calls Try.prog 28 #[.slice A n c, .slice A' n' c'] w fun e w' => e = .returned (.bool (S.laid (bars l) rs)) ∧ Below w.heap.size w w' := by
  have HA := Lib.hid hA
  have HR := Lib.hid hR
  have HS := Lib.hid (fun (W : World) (hw : B ≤ W.heap.size) (hh : BarsAt W B A n l) => sched_any l A n c B W hw hh)
  have HL := Lib.hid (show S.laid (bars l) rs = (S.sched (bars l) && decide (n' ≤ 60) && S.runsOk (bars l) 2000 rs) by unfold S.laid; rw [hR.len])
  by_cases hs : S.sched (bars l) = true
  rotate_left
  · have hs' : S.sched (bars l) = false := by simpa using hs
    rw [hs'] at HS HL
    clear hA hR hs hs'
    go_enter Try.func28, Try.ntmps28
    go_wp2_with (first
      | (go_at_call 39; (with_reducible refine (HS.out _ hB HA.out).mono ?_); rintro e w1 ⟨rfl, hbw1⟩; obtain ⟨hcw1, hfw1⟩ := bcell hbw1))
    go_ret
    exact ⟨ret_b (by rw [HL.out]; rfl), bel⟩
  rw [hs] at HS HL
  have HRI := Lib.hid (fun (r : Rn) (W : World) (hw : B ≤ W.heap.size) (hh : BarsAt W B A n l) => right_any l r A n c B W hw hh hs)
  have HC := Lib.hid (fun (r : Rn) (h : S.right (bars l) r = true) => right_count h)
  unfold rnV at HRI
  by_cases h60 : 60 < n'
  · have e : decide (n' ≤ 60) = false := by simpa using h60
    rw [e] at HL
    clear hA hR hs e
    go_enter Try.func28, Try.ntmps28
    go_wp2_with (first
      | (go_at_call 39; (with_reducible refine (HS.out _ hB HA.out).mono ?_); rintro e w1 ⟨rfl, hbw1⟩; obtain ⟨hcw1, hfw1⟩ := bcell hbw1))
    go_ret
    exact ⟨ret_b (by rw [HL.out]; rfl), bel⟩
  have e : decide (n' ≤ 60) = true := by simp; omega
  rw [e] at HL
  clear hA hR hs e
  go_enter Try.func28, Try.ntmps28
  go_wp2_with (first
    | (go_at_call 39; (with_reducible refine (HS.out _ hB HA.out).mono ?_); rintro e w1 ⟨rfl, hbw1⟩; obtain ⟨hcw1, hfw1⟩ := bcell hbw1))
  go_loopw [5, 18] (fun v i wr => ∃ (k : Nat) (rest : Int), k ≤ n' ∧ i = .int .i64 k ∧ v = .int .i64 rest ∧ 0 ≤ rest ∧ rest ≤ 2000 ∧ S.runsOk (bars l) 2000 rs = S.runsOk (bars l) rest (rs.drop k) ∧ Below w1.heap.size w1 wr) (fun _ i _ => n' - (intOf i).toNat)
  case atStart => exact ⟨0, 2000, Nat.zero_le _, rfl, rfl, by omega, by omega, rfl, Below.refl _ _⟩
  case round =>
    obtain ⟨k, rest, hk, rfl, rfl, hr0, hr1, hok, hbr⟩ := hrel
    have HOK := Lib.hid hok
    clear hok
    have hbwr : Below w.heap.size w wr := hbw1.trans (hbr.mono hbw1.size)
    have hwr : B ≤ wr.heap.size := by have := hbwr.size; omega
    by_cases hlt : k < n'
    · have hkx : k < rs.length := by have := HR.out.len; omega
      have HA' := Lib.hid (HA.out.at_ hB hbwr)
      have hs' := (HR.out.at_ hB hbwr).cells
      obtain ⟨b, o, hAe, _, _⟩ := hs'.at_ (by rw [flat_len rnC 10 rnC_len]; omega)
      subst hAe
      have c0 := hs'.row0 rnC_len hkx rfl
      have c1 := hs'.rowj rnC_len hkx 1 rfl
      have c2 := hs'.rowj rnC_len hkx 2 rfl
      have c3 := hs'.rowj rnC_len hkx 3 rfl
      have c4 := hs'.rowj rnC_len hkx 4 rfl
      have c5 := hs'.rowj rnC_len hkx 5 rfl
      have c6 := hs'.rowj rnC_len hkx 6 rfl
      have c7 := hs'.rowj rnC_len hkx 7 rfl
      have c8 := hs'.rowj rnC_len hkx 8 rfl
      have c9 := hs'.rowj rnC_len hkx 9 rfl
      have HO2 := Lib.hid (show S.runsOk (bars l) rest (rs.drop k) = (S.right (bars l) rs[k] && decide (rs[k].count ≤ rest) && S.runsOk (bars l) (rest - rs[k].count) (rs.drop (k + 1))) by rw [List.drop_eq_getElem_cons hkx]; rfl)
      have HRX := Lib.hid (fun (W : World) (hw : B ≤ W.heap.size) (hh : BarsAt W B A n l) => HRI.out rs[k] W hw hh)
      have HCX := Lib.hid (HC.out rs[k])
      clear hs'
      generalize S.right (bars l) rs[k] = t at *
      generalize rs[k] = r at *
      cases t
      · go_wp2_with (first
          | (go_at_call 40; (with_reducible refine (HRX.out _ (by simp; omega) (HA'.out.below ((Below.refl B wr).alloc hwr _))).mono ?_); rintro e w2 ⟨rfl, hbw2⟩; obtain ⟨hcw2, hfw2⟩ := bcell hbw2; have hyw2_0 : wr.heap.size < w2.heap.size := lt_via hbw2 (by first | omega | (simp; done) | (simp; omega))))
        go_ret
        exact ⟨ret_b (by rw [HL.out, HOK.out, HO2.out]; rfl), hbwr.trans (Below.mono bel hbwr.size)⟩
      · have hcn := HCX.out rfl
        by_cases hcr : rest < r.count
        · go_wp2_with (first
            | (go_at_call 40; (with_reducible refine (HRX.out _ (by simp; omega) (HA'.out.below ((Below.refl B wr).alloc hwr _))).mono ?_); rintro e w2 ⟨rfl, hbw2⟩; obtain ⟨hcw2, hfw2⟩ := bcell hbw2; have hyw2_0 : wr.heap.size < w2.heap.size := lt_via hbw2 (by first | omega | (simp; done) | (simp; omega))))
          go_ret
          exact ⟨ret_b (by rw [HL.out, HOK.out, HO2.out]; simp; omega), hbwr.trans (Below.mono bel hbwr.size)⟩
        · have HO3 := Lib.hid (show S.runsOk (bars l) 2000 rs = S.runsOk (bars l) (rest - r.count) (rs.drop (k + 1)) by
            rw [HOK.out, HO2.out, decide_eq_true (show r.count ≤ rest by omega)]; rfl)
          go_wp2_with (first
            | (go_at_call 40; (with_reducible refine (HRX.out _ (by simp; omega) (HA'.out.below ((Below.refl B wr).alloc hwr _))).mono ?_); rintro e w2 ⟨rfl, hbw2⟩; obtain ⟨hcw2, hfw2⟩ := bcell hbw2; have hyw2_0 : wr.heap.size < w2.heap.size := lt_via hbw2 (by first | omega | (simp; done) | (simp; omega))))
          go_roundw
          case rel => exact ⟨k + 1, rest - r.count, by omega, by go_num, by go_num, by omega, by omega, HO3.out, hbr.trans (Below.mono bel hbr.size)⟩
          case measure => simp [intOf]; omega
    · have he : rs.drop k = [] := List.drop_eq_nil_of_le (by have := HR.out.len; omega)
      rw [he] at HOK
      clear he
      go_wp2
      go_ret
      exact ⟨ret_b (by rw [HL.out, HOK.out]; rfl), hbwr⟩
end Go.Proofs.Ytnjflafaflalfaa
