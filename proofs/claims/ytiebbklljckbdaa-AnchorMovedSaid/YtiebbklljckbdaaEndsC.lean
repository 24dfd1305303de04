/- Contracts of the reference: Given, Ends. -/
import Derived.Test.YtiebbklljckbdaaEndsB
import Derived.Test.YtiebbklljckbdaaPoorR
import Derived.Test.YtiebbklljckbdaaAnchV
import Derived.Test.YtiebbklljckbdaaAnchC
import Derived.Test.YtiebbklljckbdaaRef12V
import Derived.Test.YtiebbklljckbdaaRLegs
set_option linter.unusedVariables false
set_option linter.unusedSimpArgs false
namespace Go.Proofs.Ytiebbklljckbdaa
open Go.RowKit
def S.heads (r : Rule) (m : Mem) (b : Bar) : Bool := S.rule r && S.member m && S.bar b
/-- The error number of Ends. -/
def S.given (r : Rule) (m : Mem) (b : Bar) (xs : List Bx) : Int :=
  if S.heads r m b = false then 1 else if anyb xs S.boxNot = true then 1 else if xs.length = (S.legsOf b.code).length then (if idxf xs S.isMain < 0 then 12 else 0) else 3
/-- What lies in memory for Ends: a member, a bar, the legs. -/
structure EndsAt (w : World) (B : Nat) (A : Option Addr) (n : Nat) (A' : Option Addr) (n' : Nat) (m : Mem) (D : Option Addr) (dn : Nat) (b : Bar) (L : Option Addr) (k : Nat) (xs : List Bx) : Prop where
  sol : SolAt w B A n A' n' m.boxes m.holes
  bar : BarAt w B D dn b
  legs : Cells w B L (xs.flatMap boxC)
  len : xs.length = k
  max : k ≤ 9223372036854775807
  name : m.name.size ≤ 9223372036854775807
theorem EndsAt.at_ {w w' : World} {B : Nat} {A : Option Addr} {n : Nat} {A' : Option Addr} {n' : Nat} {m : Mem} {D : Option Addr} {dn : Nat} {b : Bar} {L : Option Addr} {k : Nat} {xs : List Bx}
    (h : EndsAt w B A n A' n' m D dn b L k xs) (hB : B ≤ w.heap.size) (hb : Below w.heap.size w w') : EndsAt w' B A n A' n' m D dn b L k xs :=
  ⟨h.sol.at_ hB hb, h.bar.at_ hB hb, h.legs.below (hb.mono hB), h.len, h.max, h.name⟩
set_option maxRecDepth 100000 in
set_option maxHeartbeats 4000000 in
theorem rgiven_bad (r : Rule) (m : Mem) (A : Option Addr) (n c : Nat) (A' : Option Addr) (n' c' : Nat) (b : Bar) (D : Option Addr) (dn dc : Nat) (L : Option Addr) (k kc : Nat) (xs : List Bx) (B : Nat) (w : World) (hB : B ≤ w.heap.size)
    (hA : EndsAt w B A n A' n' m D dn b L k xs) (h : S.heads r m b = false) :
    Calls Try.prog 27 #[ruleV r, memV m A n c A' n' c', barV b D dn dc, .slice L k kc] w fun e w' => e = .returned (.int .i64 1) ∧ Below w.heap.size w w' := by
  have HA := Lib.hid hA
  have HR := Lib.hid (fun w => rvalid_any r w)
  have HM := Lib.hid (fun (W : World) (hw : B ≤ W.heap.size) (hh : EndsAt W B A n A' n' m D dn b L k xs) => rmember_any m A n c A' n' c' B W hw hh.sol hh.name)
  have HV := Lib.hid (fun (W : World) (hw : B ≤ W.heap.size) (hh : EndsAt W B A n A' n' m D dn b L k xs) => rvalid12_any b D dn dc B W hw hh.bar)
  unfold S.heads at h
  clear hA
  generalize S.rule r = t0 at *
  generalize S.member m = t1 at *
  generalize S.bar b = t2 at *
  unfold ruleV memV barV
  cases t0 <;> cases t1 <;> cases t2
  case true.true.true => cases h
  all_goals (
    go_enter Try.func27, Try.ntmps27
    go_wp2_with (first
      | (go_at_call 14; (with_reducible refine (HR.out _).mono ?_); rintro e w1 ⟨rfl, hbw1⟩; obtain ⟨hcw1, hfw1⟩ := bcell hbw1; have hzw1_0 : w.heap.size < w1.heap.size := lt_via hbw1 (by first | omega | (simp; done) | (simp; omega)); have hzw1_1 : w.heap.size + 1 < w1.heap.size := lt_via hbw1 (by first | omega | (simp; done) | (simp; omega)); have hzw1_2 : w.heap.size + 2 < w1.heap.size := lt_via hbw1 (by first | omega | (simp; done) | (simp; omega)))
      | (go_at_call 23; (with_reducible refine (HM.out _ (size_via hB (by repeat (first | exact Below.refl _ _ | assumption | refine ba_alloc ?_ _ | refine ba_drew ?_ | refine ba_drewN ?_ _ | refine ba_via (by assumption) ?_ | (refine ba_set ?_ ?_ _; rotate_left; (first | omega | (simp; omega) | simp))))) (EndsAt.at_ HA.out hB (by repeat (first | exact Below.refl _ _ | assumption | refine ba_alloc ?_ _ | refine ba_drew ?_ | refine ba_drewN ?_ _ | refine ba_via (by assumption) ?_ | (refine ba_set ?_ ?_ _; rotate_left; (first | omega | (simp; omega) | simp)))))).mono ?_); rintro e w2 ⟨rfl, hbw2⟩; obtain ⟨hcw2, hfw2⟩ := bcell hbw2; have hzw2_0 : w.heap.size < w2.heap.size := lt_via hbw2 (by first | omega | (simp; done) | (simp; omega)); have hzw2_1 : w.heap.size + 1 < w2.heap.size := lt_via hbw2 (by first | omega | (simp; done) | (simp; omega)); have hzw2_2 : w.heap.size + 2 < w2.heap.size := lt_via hbw2 (by first | omega | (simp; done) | (simp; omega)))
      | (go_at_call 61; (with_reducible refine (HV.out _ (size_via hB (by repeat (first | exact Below.refl _ _ | assumption | refine ba_alloc ?_ _ | refine ba_drew ?_ | refine ba_drewN ?_ _ | refine ba_via (by assumption) ?_ | (refine ba_set ?_ ?_ _; rotate_left; (first | omega | (simp; omega) | simp))))) (EndsAt.at_ HA.out hB (by repeat (first | exact Below.refl _ _ | assumption | refine ba_alloc ?_ _ | refine ba_drew ?_ | refine ba_drewN ?_ _ | refine ba_via (by assumption) ?_ | (refine ba_set ?_ ?_ _; rotate_left; (first | omega | (simp; omega) | simp)))))).mono ?_); rintro e w3 ⟨rfl, hbw3⟩; obtain ⟨hcw3, hfw3⟩ := bcell hbw3; have hzw3_0 : w.heap.size < w3.heap.size := lt_via hbw3 (by first | omega | (simp; done) | (simp; omega)); have hzw3_1 : w.heap.size + 1 < w3.heap.size := lt_via hbw3 (by first | omega | (simp; done) | (simp; omega)); have hzw3_2 : w.heap.size + 2 < w3.heap.size := lt_via hbw3 (by first | omega | (simp; done) | (simp; omega))))
    go_ret
    exact ⟨rfl, (by repeat (first | exact Below.refl _ _ | assumption | refine ba_alloc ?_ _ | refine ba_drew ?_ | refine ba_drewN ?_ _ | refine ba_via (by assumption) ?_ | (refine ba_set ?_ ?_ _; rotate_left; (first | omega | (simp; omega) | simp))))⟩)
set_option maxRecDepth 100000 in
set_option maxHeartbeats 4000000 in
theorem rgiven_in (r : Rule) (m : Mem) (A : Option Addr) (n c : Nat) (A' : Option Addr) (n' c' : Nat) (b : Bar) (D : Option Addr) (dn dc : Nat) (L : Option Addr) (k kc : Nat) (xs : List Bx) (B : Nat) (w : World) (hB : B ≤ w.heap.size)
    (hA : EndsAt w B A n A' n' m D dn b L k xs) (h : S.heads r m b = true) :
    Calls Try.prog 27 #[ruleV r, memV m A n c A' n' c', barV b D dn dc, .slice L k kc] w fun e w' => e = .returned (.int .i64 (S.given r m b xs)) ∧ Below w.heap.size w w' := by
  have HA := Lib.hid hA
  have hlen := hA.len
  have hmax := hA.max
  have h' := h
  simp only [S.heads, Bool.and_eq_true] at h'
  obtain ⟨⟨h0, h1⟩, h2⟩ := h'
  have HR := Lib.hid (fun w => h0 ▸ rvalid_any r w)
  have HM := Lib.hid (fun (W : World) (hw : B ≤ W.heap.size) (hh : EndsAt W B A n A' n' m D dn b L k xs) => h1 ▸ rmember_any m A n c A' n' c' B W hw hh.sol hh.name)
  have HV := Lib.hid (fun (W : World) (hw : B ≤ W.heap.size) (hh : EndsAt W B A n A' n' m D dn b L k xs) => h2 ▸ rvalid12_any b D dn dc B W hw hh.bar)
  have HL := Lib.hid (fun (W : World) (hw : B ≤ W.heap.size) (hh : EndsAt W B A n A' n' m D dn b L k xs) => rlegs_yes b D dn dc B W hw hh.bar h2 _ rfl)
  have HML := Lib.hid (fun (W : World) (hw : B ≤ W.heap.size) (hh : EndsAt W B A n A' n' m D dn b L k xs) => mainleg_any L k kc xs B W hh.len hh.max hw hh.legs)
  have hl6 := legs_len b.code
  have HG := Lib.hid (show S.given r m b xs = if anyb xs S.boxNot = true then 1 else if k = (S.legsOf b.code).length then (if idxf xs S.isMain < 0 then 12 else 0) else 3 by rw [S.given, if_neg (by rw [h]; simp), hlen])
  clear hA h h0 h1 h2
  generalize (S.legsOf b.code).length = Q at *
  generalize hmi : idxf xs S.isMain = mi at *
  clear hmi
  unfold ruleV memV barV
  go_enter Try.func27, Try.ntmps27
  go_wp2_with (first
    | (go_at_call 14; (with_reducible refine (HR.out _).mono ?_); rintro e w1 ⟨rfl, hbw1⟩; obtain ⟨hcw1, hfw1⟩ := bcell hbw1; have hzw1_0 : w.heap.size < w1.heap.size := lt_via hbw1 (by first | omega | (simp; done) | (simp; omega)); have hzw1_1 : w.heap.size + 1 < w1.heap.size := lt_via hbw1 (by first | omega | (simp; done) | (simp; omega)); have hzw1_2 : w.heap.size + 2 < w1.heap.size := lt_via hbw1 (by first | omega | (simp; done) | (simp; omega)))
    | (go_at_call 23; (with_reducible refine (HM.out _ (size_via hB (by repeat (first | exact Below.refl _ _ | assumption | refine ba_alloc ?_ _ | refine ba_drew ?_ | refine ba_drewN ?_ _ | refine ba_via (by assumption) ?_ | (refine ba_set ?_ ?_ _; rotate_left; (first | omega | (simp; omega) | simp))))) (EndsAt.at_ HA.out hB (by repeat (first | exact Below.refl _ _ | assumption | refine ba_alloc ?_ _ | refine ba_drew ?_ | refine ba_drewN ?_ _ | refine ba_via (by assumption) ?_ | (refine ba_set ?_ ?_ _; rotate_left; (first | omega | (simp; omega) | simp)))))).mono ?_); rintro e w2 ⟨rfl, hbw2⟩; obtain ⟨hcw2, hfw2⟩ := bcell hbw2; have hzw2_0 : w.heap.size < w2.heap.size := lt_via hbw2 (by first | omega | (simp; done) | (simp; omega)); have hzw2_1 : w.heap.size + 1 < w2.heap.size := lt_via hbw2 (by first | omega | (simp; done) | (simp; omega)); have hzw2_2 : w.heap.size + 2 < w2.heap.size := lt_via hbw2 (by first | omega | (simp; done) | (simp; omega)))
    | (go_at_call 61; (with_reducible refine (HV.out _ (size_via hB (by repeat (first | exact Below.refl _ _ | assumption | refine ba_alloc ?_ _ | refine ba_drew ?_ | refine ba_drewN ?_ _ | refine ba_via (by assumption) ?_ | (refine ba_set ?_ ?_ _; rotate_left; (first | omega | (simp; omega) | simp))))) (EndsAt.at_ HA.out hB (by repeat (first | exact Below.refl _ _ | assumption | refine ba_alloc ?_ _ | refine ba_drew ?_ | refine ba_drewN ?_ _ | refine ba_via (by assumption) ?_ | (refine ba_set ?_ ?_ _; rotate_left; (first | omega | (simp; omega) | simp)))))).mono ?_); rintro e w3 ⟨rfl, hbw3⟩; obtain ⟨hcw3, hfw3⟩ := bcell hbw3; have hzw3_0 : w.heap.size < w3.heap.size := lt_via hbw3 (by first | omega | (simp; done) | (simp; omega)); have hzw3_1 : w.heap.size + 1 < w3.heap.size := lt_via hbw3 (by first | omega | (simp; done) | (simp; omega)); have hzw3_2 : w.heap.size + 2 < w3.heap.size := lt_via hbw3 (by first | omega | (simp; done) | (simp; omega))))
  have hW : Below w.heap.size w w3 := (by repeat (first | exact Below.refl _ _ | assumption | refine ba_alloc ?_ _ | refine ba_drew ?_ | refine ba_drewN ?_ _ | refine ba_via (by assumption) ?_ | (refine ba_set ?_ ?_ _; rotate_left; (first | omega | (simp; omega) | simp))))
  have hB2 : Blk w3 (w.heap.size + 1 + 1) 55 #[.string b.mark, .int .i64 b.size, .int .i64 b.count, .int .i64 b.code, .slice D dn dc] := by
    refine (Blk.via (Blk.via (Blk.via ?_ hbw1) hbw2) hbw3)
    simpa using Blk.new ((w.alloc (.cells #[.int .i64 r.num, .int .i64 r.den, .int .i64 r.pnum, .int .i64 r.pden, .int .i64 r.bnum, .int .i64 r.bden, .int .i64 r.lnum, .int .i64 r.lden, .int .i64 r.least] 23)).alloc (.cells #[.string m.name, .slice A n c, .slice A' n' c', .int .i64 m.cover, .int .i64 m.aggr, .int .i64 m.poker] 48)) 55 #[.string b.mark, .int .i64 b.size, .int .i64 b.count, .int .i64 b.code, .slice D dn dc]
  have HB2 := Lib.hid hB2
  clear hB2 hcw1 hfw1 hcw2 hfw2 hcw3 hfw3
  go_loopw [9] (fun i wr => ∃ j : Nat, j ≤ k ∧ i = .int .i64 j ∧ Hid (∀ q (hq : q < xs.length), q < j → S.boxNot xs[q] = false) ∧ Below w3.heap.size w3 wr) (fun i _ => k - (intOf i).toNat)
  case atStart => exact ⟨0, Nat.zero_le _, rfl, Lib.hid fun j _ hj => absurd hj (by omega), Below.refl _ _⟩
  case round =>
    obtain ⟨j, hj, rfl, HNO, hbr⟩ := hrel
    have HE := Lib.hid (HA.out.at_ hB (ba_via hbr hW))
    by_cases hlt : j < k
    · have hji : (j : Int) < (k : Int) := by omega
      have hjx : j < xs.length := by omega
      obtain ⟨bb, o, rfl, _, _⟩ := HE.out.legs.at_ (by rw [flat_len boxC 6 boxC_len]; omega)
      obtain ⟨c0, c1, c2, c3, c4, c5⟩ := HE.out.legs.boxes (List.getElem?_eq_getElem hjx)
      have HT := Lib.hid (rbvalid_any xs[j])
      have HTN := Lib.hid (show S.boxNot xs[j] = !S.boxOk xs[j] from rfl)
      have HX := Lib.hid (fun hx => anyb_of (p := S.boxNot) hjx hx)
      generalize S.boxOk xs[j] = q at *
      cases q
      · go_wp2_with (go_at_call 24; (with_reducible refine (HT.out _).mono ?_); rintro e w4 ⟨rfl, hbw4⟩; obtain ⟨hcw4, hfw4⟩ := bcell hbw4)
        go_ret
        exact ⟨ret_i (by rw [HG.out, if_pos (HX.out HTN.out)]), ba_via hbw4 (ba_via hbr hW)⟩
      · go_wp2_with (go_at_call 24; (with_reducible refine (HT.out _).mono ?_); rintro e w4 ⟨rfl, hbw4⟩; obtain ⟨hcw4, hfw4⟩ := bcell hbw4)
        go_roundw
        case rel =>
          refine ⟨j + 1, by omega, by go_num, Lib.hid fun q hq hqj => ?_, ba_via hbw4 hbr⟩
          by_cases hqj' : q = j
          · subst hqj'; exact HTN.out
          · exact HNO.out q hq (by omega)
        case measure => simp [intOf]; omega
    · have hno : anyb xs S.boxNot = false := anyb_not (p := S.boxNot) (xs := xs) fun q hq => HNO.out q hq (by omega)
      have HG2 := Lib.hid (show S.given r m b xs = if k = Q then (if mi < 0 then 12 else 0) else 3 by rw [HG.out, if_neg (by rw [hno]; simp)])
      clear hno
      have hbk := HB2.out.via hbr
      have x0 := hbk.cell 0
      have x1 := hbk.cell 1
      have x2 := hbk.cell 2
      have x3 := hbk.cell 3
      have x4 := hbk.cell 4
      simp only [List.getElem?_toArray, List.getElem?_cons_zero, List.getElem?_cons_succ] at x0 x1 x2 x3 x4
      have hbl := hbk.lt
      clear hbk
      have hbr2 := ba_via hbr hW
      by_cases hkq : k = Q
      · have hb1 : ((k : Int) != (Q : Int)) = false := by simp; omega
        have hb2 : ((k : Int) == (Q : Int)) = true := by simp; omega
        by_cases hmi : mi < 0
        · have HF := Lib.hid (HG2.out.trans (by rw [if_pos hkq, if_pos hmi]))
          clear hkq
          go_wp2_with (first
            | ((go_at_call 62; (with_reducible refine (HL.out _ (size_via hB hbr2) HE.out).mono ?_); rintro e w5 ⟨Aw5, cw5, rfl, how5, hbw5⟩; obtain ⟨hcw5, hfw5⟩ := bcell hbw5))
            | (go_at_call 63; (with_reducible refine (HML.out _ (size_via hB (ba_via hbw5 hbr2)) (HA.out.at_ hB (ba_via hbw5 hbr2))).mono ?_); rintro e w6 ⟨rfl, hbw6⟩; obtain ⟨hcw6, hfw6⟩ := bcell hbw6))
          go_ret
          exact ⟨ret_i HF.out.symm, ba_via hbw6 (ba_via hbw5 hbr2)⟩
        · have HF := Lib.hid (HG2.out.trans (by rw [if_pos hkq, if_neg hmi]))
          clear hkq
          go_wp2_with (first
            | ((go_at_call 62; (with_reducible refine (HL.out _ (size_via hB hbr2) HE.out).mono ?_); rintro e w5 ⟨Aw5, cw5, rfl, how5, hbw5⟩; obtain ⟨hcw5, hfw5⟩ := bcell hbw5))
            | (go_at_call 63; (with_reducible refine (HML.out _ (size_via hB (ba_via hbw5 hbr2)) (HA.out.at_ hB (ba_via hbw5 hbr2))).mono ?_); rintro e w6 ⟨rfl, hbw6⟩; obtain ⟨hcw6, hfw6⟩ := bcell hbw6))
          go_ret
          exact ⟨ret_i HF.out.symm, ba_via hbw6 (ba_via hbw5 hbr2)⟩
      · have hb1 : ((k : Int) != (Q : Int)) = true := by simp; omega
        have hb2 : ((k : Int) == (Q : Int)) = false := by simp; omega
        have HF := Lib.hid (HG2.out.trans (by rw [if_neg hkq]))
        clear hkq
        go_wp2_with (first
          | ((go_at_call 62; (with_reducible refine (HL.out _ (size_via hB hbr2) HE.out).mono ?_); rintro e w5 ⟨Aw5, cw5, rfl, how5, hbw5⟩; obtain ⟨hcw5, hfw5⟩ := bcell hbw5)))
        go_ret
        exact ⟨ret_i HF.out.symm, ba_via hbw5 hbr2⟩
end Go.Proofs.Ytiebbklljckbdaa
