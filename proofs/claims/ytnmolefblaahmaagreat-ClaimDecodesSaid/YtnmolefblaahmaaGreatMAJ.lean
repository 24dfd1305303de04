/- Contract: the reader's next. The reader's state; what next does to it. Plain facts: what Decode's loops find. -/
import Derived.Test.YtnmolefblaahmaaGreatMAC
import Derived.Test.YtnmolefblaahmaaGreatMAB
set_option linter.unusedVariables false
set_option linter.unusedSimpArgs false
namespace Go.Proofs.YtnmolefblaahmaaGreat
open Go.RowKit
theorem rd_case {q : List Nat} (hl : ∀ x, x ∈ q → x < 256) (h8 : q.length ≤ 8) (sg : Bool) : S.rdB sg q = if (sg && decide (q.length < 8) && decide (128 ≤ q.headD 0)) then S.wrB q - 256 ^ q.length else S.wrB q := by
 cases sg
 ·rw [wr_rd hl h8]
  rfl
 ·by_cases h : q.length = 8
  ·unfold S.rdB S.wrB
   rw [if_pos h, decide_eq_false (by omega)]
   rfl
  ·have hw := (wr_small hl (by omega)).1
   rw [hw]
   unfold S.rdB
   rw [if_neg h, show decide (q.length < 8) = true from decide_eq_true (by omega)]
   simp only [Bool.true_and]
theorem wrap64_eq (n : Int) : wrap64 n = IntKind.i64.wrap n := by
 rw [IntKind.wrap_i64]
 unfold wrap64
 first | rfl | omega | (simp; omega)
theorem head_take (l : List Nat) {k : Nat} (hk : 0 < k) (h0 : 0 < l.length) : (l.take k).headD 0 = l[0] := by
 cases l with
 | nil => cases h0
 | cons a t =>
  cases k with
  | zero => omega
  | succ j => rfl
def NextTo (g b p R D k : Nat) (v : Int) (w : World) (e : Ending) (w' : World) : Prop :=
 ∃ p' : Nat, (p' = p + k ∨ R = k) ∧ e = .returned (.int .i64 v) ∧ w' = w.setCell ⟨g, 0, none⟩ (.slice (some ⟨b, p', none⟩) (R - k) (D - k))
theorem next_to {g b p R D k : Nat} {v v' : Int} {w w' : World} {e : Ending} (p' : Nat) (h : p' = p + k ∨ R = k) (he : e = .returned (.int .i64 v')) (hv : v = v') (hw : w' = w.setCell ⟨g, 0, none⟩ (.slice (some ⟨b, p', none⟩) (R - k) (D - k))) : NextTo g b p R D k v w e w' :=
 ⟨p', h, by rw [he, hv], hw⟩
theorem shl_run (V : Int) (W : World) : (Op.shift .shl .i64 V .u64 8).run Tryz.prog W = .ok (.int .i64 (IntKind.i64.wrap (V * 256))) W := rfl
theorem shl1_run (k : Nat) (hk : k ≤ 7) (W : World) : (Op.shift .shl .i64 1 .i64 (8 * (k : Int))).run Tryz.prog W = .ok (.int .i64 (256 ^ k)) W := by
 have hm : min (8 * (k : Int)).toNat IntKind.i64.bits = 8 * k := by
  show min (8 * (k : Int)).toNat 64 = 8 * k
  omega
 unfold Op.shift
 rw [if_neg (by omega)]
 simp only [hm]
 have he : IntKind.i64.wrap ((1 : Int) * 2 ^ (8 * k)) = 256 ^ k := by
  have h1 : (2 : Int) ^ (8 * k) = 256 ^ k := by rw [Int.pow_mul]; rfl
  rw [h1, Int.one_mul]
  have h2 : (256 : Nat) ^ k ≤ 256 ^ 7 := Nat.pow_le_pow_right (by decide) hk
  have h3 : ((256 ^ k : Nat) : Int) = (256 : Int) ^ k := by rw [Int.natCast_pow]; rfl
  rw [← h3]
  generalize (256 : Nat) ^ k = z at *
  exact IntWalk.i64_in _ (by omega)
 rw [he]
 rfl
set_option maxRecDepth 20000 in
set_option maxHeartbeats 1500000 in
theorem next_short (g R D k : Nat) (A : Option Addr) (sh sg : Bool) (w : World) (hk : k ≤ 8) (hR : R < k) (hg : Blk w g 102 #[.slice A R D, .bool sh]) :
 Calls Tryz.prog 55 #[.pointer (some ⟨g, 0, none⟩), .int .i64 k, .bool sg] w fun e w' => e = .returned (.int .i64 0) ∧ w.setCell ⟨g, 1, none⟩ (.bool true) = w' := by
 have c0 := hg.cell 0
 have gl := hg.lt
 have f1 := hg.frozen 1
 have c1 := hg.cell 1
 simp only [List.getElem?_toArray, List.getElem?_cons_zero, List.getElem?_cons_succ] at c0 c1
 have hRi : (R : Int) < k := by omega
 clear hg
 go_enter Tryz.func55, Tryz.ntmps55
 go_wp2
 go_ret
 exact ⟨rfl, rfl⟩
set_option maxRecDepth 20000 in
set_option maxHeartbeats 1500000 in
theorem next_ok (g b p R D k : Nat) (l : List Nat) (sh sg : Bool) (w : World) (hk : 1 ≤ k ∧ k ≤ 8) (hR : k ≤ R) (hD : R ≤ D) (hn : l.length = R) (hm : D ≤ 9223372036854775807) (hl : ∀ x, x ∈ l → x < 256) (hc : ∀ j v, (l.map bC)[j]? = some v → w.cell? ⟨b, p + j, none⟩ = some v) (hg : Blk w g 102 #[.slice (some ⟨b, p, none⟩) R D, .bool sh]) :
 Calls Tryz.prog 55 #[.pointer (some ⟨g, 0, none⟩), .int .i64 k, .bool sg] w (NextTo g b p R D k (S.rdB sg (l.take k)) w) := by
 have HC := Lib.hid hc
 have HL := Lib.hid hl
 have HN := Lib.hid hn
 have c0 := hg.cell 0
 have gl := hg.lt
 have f0 := hg.frozen 0
 simp only [List.getElem?_toArray, List.getElem?_cons_zero, List.getElem?_cons_succ] at c0
 have hRi : ¬ ((R : Int) < k) := by omega
 have hlk : (l.take k).length = k := by rw [List.length_take]; omega
 have HV := Lib.hid (rd_case (q := l.take k) (fun x hx => hl x (List.mem_of_mem_take hx)) (by omega) sg)
 have HK := Lib.hid hlk
 have h0 : 0 < l.length := by omega
 have b0 := hc 0 _ (bC_get h0)
 simp only [Nat.add_zero] at b0
 have HH := Lib.hid (show (l.take k).headD 0 = l[0] from head_take l (by omega) h0)
 clear hc hl hn hg hlk
 go_enter Tryz.func55, Tryz.ntmps55
 go_wp2
 go_loop [7, 27] (fun v i => ∃ q : Nat, q ≤ k ∧ i = .int .i64 q ∧ v = .int .i64 (S.wrB (l.take q))) (fun _ i => k - (intOf i).toNat)
 case atStart => exact ⟨0, Nat.zero_le _, rfl, rfl⟩
 case round =>
  obtain ⟨q, hq, rfl, rfl⟩ := hrel
  by_cases hlt : q < k
  ·have hqx : q < l.length := by have := HN.out; omega
   have hqi : (q : Int) < k := by omega
   have hcq := HC.out q _ (bC_get hqx)
   have HS := Lib.hid (wr_step hqx (HL.out _ (List.getElem_mem hqx)))
   have h1 := HL.out _ (List.getElem_mem hqx)
   generalize S.wrB (l.take q) = V at *
   generalize l[q] = x at *
   have e2 : IntKind.i64.wrap (x : Int) = (x : Int) := IntWalk.i64_in _ (by omega)
   have q32 := fun W => shl_run V W
   clear b0
   go_wp2
   go_round
   case rel => exact ⟨q + 1, by omega, by go_num, by rw [← HS.out, ← wrap64_eq]⟩
   case measure => simp [intOf]; omega
  ·have hqk : q = k := by omega
   have hqi : ¬ ((q : Int) < k) := by omega
   subst hqk
   clear hqi hlt
   have hv0 := HL.out _ (List.getElem_mem h0)
   have HV2 := HV.out
   rw [HK.out, HH.out] at HV2
   have HVS := Lib.hid (fun (h : (l.take q).length ≤ 7) => show 0 ≤ S.wrB (l.take q) from by rw [(wr_small (fun x hx => HL.out x (List.mem_of_mem_take hx)) h).1]; omega)
   have hwb : -9223372036854775808 ≤ S.wrB (l.take q) ∧ S.wrB (l.take q) ≤ 9223372036854775807 := by unfold S.wrB; rw [IntKind.wrap_i64]; omega
   generalize S.wrB (l.take q) = V at *
   clear b0
   have b0 := HC.out 0 _ (bC_get h0)
   simp only [Nat.add_zero] at b0
   have h00 : l[0] = l[0]'h0 := rfl
   generalize l[0] = y at *
   have hqR : q ≤ R := hR
   have HP := Lib.hid hwb
   have HE := Lib.hid (fun (_ : (128 : Int) ≤ y) (h7 : q ≤ 7) => show IntKind.i64.wrap (V - 256 ^ q) = V - 256 ^ q from by
    have h2 : (256 : Nat) ^ q ≤ 256 ^ 7 := Nat.pow_le_pow_right (by decide) h7
    have h3 : ((256 ^ q : Nat) : Int) = (256 : Int) ^ q := by rw [Int.natCast_pow]; rfl
    have h4 := HVS.out (by have := HK.out; omega)
    rw [← h3]
    generalize (256 : Nat) ^ q = z at *
    exact IntWalk.i64_in _ (by omega))
   have HP2 := Lib.hid (fun (h7 : q ≤ 7) => show IntKind.i64.wrap ((2 ^ 8 : Int) ^ q) = 256 ^ q from by
    have h2 : (256 : Nat) ^ q ≤ 256 ^ 7 := Nat.pow_le_pow_right (by decide) h7
    have h3 : ((256 ^ q : Nat) : Int) = (256 : Int) ^ q := by rw [Int.natCast_pow]; rfl
    show IntKind.i64.wrap ((256 : Int) ^ q) = 256 ^ q
    rw [← h3]
    generalize (256 : Nat) ^ q = z at *
    exact IntWalk.i64_in _ (by omega))
   clear h00
   cases sg
   ·have HR := Lib.hid (show S.rdB false (l.take q) = V from HV2)
    clear HV2 HV
    go_wp2
    all_goals (
     go_ret
     first | exact next_to (p + q) (.inl rfl) rfl HR.out rfl | exact next_to p (.inr (by omega)) rfl HR.out rfl | exact next_to p (.inr (by omega)) rfl HR.out (by simp [*]))
   ·by_cases h8 : q < 8
    ·have h8i : (q : Int) < 8 := by omega
     by_cases hy : 128 ≤ y
     ·have hyi : (128 : Int) ≤ y := by omega
      have HR := Lib.hid (show S.rdB true (l.take q) = V - 256 ^ q from by rw [HV2, decide_eq_true h8, decide_eq_true hy]; rfl)
      clear HV2 HV
      have q54 := fun W => shl1_run q (by omega) W
      have e1 : IntKind.i64.wrap (8 * (q : Int)) = 8 * (q : Int) := IntWalk.i64_in _ (by omega)
      have e2 : IntKind.i64.wrap (V - 256 ^ q) = V - 256 ^ q := HE.out hyi (by omega)
      have e3 : wrap64 (V - wrap64 (2 ^ (8 * q))) = V - 256 ^ q := by
       have h5 : wrap64 (2 ^ (8 * q)) = 256 ^ q := by
        rw [wrap64_eq, Int.pow_mul]
        exact HP2.out (by omega)
       rw [h5, wrap64_eq]
       exact e2
      have HR2 := Lib.hid (HR.out.trans e3.symm)
      clear e3
      go_wp2
      all_goals (
       go_ret
       first | exact next_to (p + q) (.inl rfl) rfl HR2.out rfl | exact next_to p (.inr (by omega)) rfl HR2.out rfl | exact next_to p (.inr (by omega)) rfl HR2.out (by simp [*]))
     ·have hyi : ¬ ((128 : Int) ≤ y) := by omega
      have HR := Lib.hid (show S.rdB true (l.take q) = V from by rw [HV2, decide_eq_true h8, decide_eq_false hy]; rfl)
      clear HV2 HV
      go_wp2
      all_goals (
       go_ret
       first | exact next_to (p + q) (.inl rfl) rfl HR.out rfl | exact next_to p (.inr (by omega)) rfl HR.out rfl | exact next_to p (.inr (by omega)) rfl HR.out (by simp [*]))
    ·have h8i : ¬ ((q : Int) < 8) := by omega
     have HR := Lib.hid (show S.rdB true (l.take q) = V from by rw [HV2, decide_eq_false h8]; rfl)
     clear HV2 HV
     go_wp2
     all_goals (
      go_ret
      first | exact next_to (p + q) (.inl rfl) rfl HR.out rfl | exact next_to p (.inr (by omega)) rfl HR.out rfl | exact next_to p (.inr (by omega)) rfl HR.out (by simp [*]))
def Rd (w : World) (g b : Nat) (l : List Nat) (sh : Bool) : Prop :=
 ∃ p D : Nat, l.length ≤ D ∧ D ≤ 9223372036854775807 ∧ Blk w g 102 #[.slice (some ⟨b, p, none⟩) l.length D, .bool sh] ∧ (∀ j v, (l.map bC)[j]? = some v → w.cell? ⟨b, p + j, none⟩ = some v)
def S.nxL (k : Nat) (l : List Nat) : List Nat := if k ≤ l.length then l.drop k else l
def S.nxS (k : Nat) (l : List Nat) (sh : Bool) : Bool := if k ≤ l.length then sh else true
def S.nxV (k : Nat) (sg : Bool) (l : List Nat) : Int := if k ≤ l.length then S.rdB sg (l.take k) else 0
def GivesNx (g b k : Nat) (sg : Bool) (l : List Nat) (sh : Bool) (w : World) (e : Ending) (w' : World) : Prop :=
 e = .returned (.int .i64 (S.nxV k sg l)) ∧ Rd w' g b (S.nxL k l) (S.nxS k l sh) ∧ Exc [g] w w' ∧ w'.heap.size = w.heap.size
theorem exc_set1 (w : World) (g o : Nat) (v : Value) : Exc [g] w (w.setCell ⟨g, o, none⟩ v) := exc_setCells g [v] o w
theorem rd_next (g b k : Nat) (sg : Bool) (l : List Nat) (sh : Bool) (w : World) (hk : 1 ≤ k ∧ k ≤ 8) (hl : ∀ x, x ∈ l → x < 256) (hgb : g ≠ b) (hbw : b < w.heap.size) (h : Rd w g b l sh) :
 Calls Tryz.prog 55 #[.pointer (some ⟨g, 0, none⟩), .int .i64 k, .bool sg] w (GivesNx g b k sg l sh w) := by
 obtain ⟨p, D, h1, h2, h3, h4⟩ := h
 by_cases hkl : k ≤ l.length
 ·refine (next_ok g b p l.length D k l sh sg w hk hkl h1 rfl h2 hl h4 h3).mono ?_
  rintro e w' ⟨p', hp, rfl, rfl⟩
  have hX := exc_set1 w g 0 (.slice (some ⟨b, p', none⟩) (l.length - k) (D - k))
  have hB : Blk (w.setCell ⟨g, 0, none⟩ (.slice (some ⟨b, p', none⟩) (l.length - k) (D - k))) g 102 #[.slice (some ⟨b, p', none⟩) (l.length - k) (D - k), .bool sh] := by
   have := h3.set 0 (.slice (some ⟨b, p', none⟩) (l.length - k) (D - k))
   simpa only [List.setIfInBounds_toArray, List.set_cons_zero, List.set_cons_succ] using this
  refine ⟨by unfold S.nxV; rw [if_pos hkl], ?_, hX, by simp⟩
  unfold S.nxL S.nxS
  rw [if_pos hkl, if_pos hkl]
  refine ⟨p', D - k, by rw [List.length_drop]; omega, by omega, by rw [List.length_drop]; exact hB, fun j v hv => ?_⟩
  have hj : j < l.length - k := by
   have := (List.getElem?_eq_some_iff.1 hv).1
   simpa using this
  rw [hX.cell (p := ⟨b, p' + j, none⟩) hbw (by simp; omega)]
  rcases hp with rfl | hp
  ·rw [Nat.add_assoc]
   refine h4 (k + j) v ?_
   rw [List.map_drop, List.getElem?_drop] at hv
   exact hv
  ·omega
 ·have hlt : l.length < k := by omega
  refine (next_short g l.length D k _ sh sg w hk.2 hlt h3).mono ?_
  rintro e w' ⟨rfl, rfl⟩
  have hX := exc_set1 w g 1 (.bool true)
  have hB : Blk (w.setCell ⟨g, 1, none⟩ (.bool true)) g 102 #[.slice (some ⟨b, p, none⟩) l.length D, .bool true] := by
   have := h3.set 1 (.bool true)
   simpa only [List.setIfInBounds_toArray, List.set_cons_zero, List.set_cons_succ] using this
  refine ⟨by unfold S.nxV; rw [if_neg hkl], ?_, hX, by simp⟩
  unfold S.nxL S.nxS
  rw [if_neg hkl, if_neg hkl]
  exact ⟨p, D, h1, h2, hB, fun j v hv => (hX.cell (p := ⟨b, p + j, none⟩) hbw (by simp; omega)).trans (h4 j v hv)⟩
theorem Rd.exc {M : List Nat} {w w' : World} {g b : Nat} {l : List Nat} {sh : Bool} (h : Rd w g b l sh) (hX : Exc M w w') (hg : g ∉ M) (hb : b ∉ M) (hbw : b < w.heap.size) : Rd w' g b l sh := by
 obtain ⟨p, D, h1, h2, h3, h4⟩ := h
 exact ⟨p, D, h1, h2, h3.exc hX hg, fun j v hv => (hX.cell (p := ⟨b, p + j, none⟩) hbw hb).trans (h4 j v hv)⟩
theorem nxL_lt {k : Nat} {l : List Nat} (hl : ∀ x, x ∈ l → x < 256) : ∀ x, x ∈ S.nxL k l → x < 256 := by
 intro x hx
 unfold S.nxL at hx
 split at hx
 ·exact hl x (List.mem_of_mem_drop hx)
 ·exact hl x hx
theorem nxS_false {k : Nat} {l : List Nat} {sh : Bool} : S.nxS k l sh = false ↔ k ≤ l.length ∧ sh = false := by
 unfold S.nxS
 split
 ·exact ⟨fun h => ⟨by assumption, h⟩, fun h => h.2⟩
 ·exact ⟨fun h => (by cases h), fun h => absurd h.1 (by assumption)⟩
theorem nxL_of {k : Nat} {l : List Nat} (h : k ≤ l.length) : S.nxL k l = l.drop k := if_pos h
theorem nx_end (l : List Nat) (sh : Bool) : (S.nxS 4 (S.nxL 8 (S.nxL 2 (S.nxL 2 l))) (S.nxS 8 (S.nxL 2 (S.nxL 2 l)) (S.nxS 2 (S.nxL 2 l) (S.nxS 2 l sh))) = false ∧ (S.nxL 4 (S.nxL 8 (S.nxL 2 (S.nxL 2 l)))).length = 0) ↔ (sh = false ∧ l.length = 16) := by
 simp only [nxS_false]
 constructor
 ·rintro ⟨⟨h4, h3, h2, h1, h0⟩, h5⟩
  rw [nxL_of h1] at h2 h3 h4 h5
  rw [nxL_of h2] at h3 h4 h5
  rw [nxL_of h3] at h4 h5
  rw [nxL_of h4] at h5
  simp only [List.length_drop] at h2 h3 h4 h5
  exact ⟨h0, by omega⟩
 ·rintro ⟨h0, h16⟩
  have h1 : 2 ≤ l.length := by omega
  have h2 : 2 ≤ (l.drop 2).length := by rw [List.length_drop]; omega
  have h3 : 8 ≤ ((l.drop 2).drop 2).length := by simp only [List.length_drop]; omega
  have h4 : 4 ≤ (((l.drop 2).drop 2).drop 8).length := by simp only [List.length_drop]; omega
  rw [nxL_of h1, nxL_of h2, nxL_of h3, nxL_of h4]
  refine ⟨⟨h4, h3, h2, h1, h0⟩, ?_⟩
  simp only [List.length_drop]
  omega
theorem nx_one (l : List Nat) (hl : ∀ x, x ∈ l → x < 256) : S.nxV 1 false l = ((l.headD 0 : Nat) : Int) := by
 unfold S.nxV
 cases l with
 | nil => rfl
 | cons a t =>
  rw [if_pos (by simp)]
  show S.rdB false [a] = _
  unfold S.rdB
  simp [S.valB]
theorem head_lt {l : List Nat} (hl : ∀ x, x ∈ l → x < 256) : l.headD 0 < 256 := by
 cases l with
 | nil => decide
 | cons a t => exact hl a List.mem_cons_self
theorem pSteps_succ (n : Nat) (l : List Nat) : S.pSteps (n + 1) l = if l.length < 10 then none else match S.pSteps n (l.drop 10) with | none => none | some (t, r) => some (⟨S.rdB true (l.take 4), S.rdB true ((l.drop 4).take 6)⟩ :: t, r) := rfl
theorem pLists_succ (n x : Nat) (l : List Nat) : S.pLists (n + 1) (x :: l) = match S.pSteps x l with | none => none | some (s, r) => match S.pLists n r with | none => none | some (t, r') => some (s :: t, r') := rfl
def S.restS (sh : Bool) (k : Nat) (l : List Nat) (T : List Stp) : Option (List Stp × List Nat) := if sh then none else match S.pSteps k l with | none => none | some (u, r) => some (T ++ u, r)
def S.headS : List Nat → Option (List Stp × List Nat)
 | [] => none
 | x :: u => S.pSteps x u
theorem restS_start (l : List Nat) : S.headS l = S.restS (S.nxS 1 l false) (l.headD 0) (S.nxL 1 l) [] := by
 cases l with
 | nil => rfl
 | cons x u =>
  unfold S.restS S.nxS S.nxL S.headS
  rw [if_pos (show 1 ≤ (x :: u).length by simp), if_pos (show 1 ≤ (x :: u).length by simp)]
  show S.pSteps x u = (match S.pSteps x u with | none => none | some (v, r) => some ([] ++ v, r))
  cases S.pSteps x u with
  | none => rfl
  | some q => rfl
theorem restS_next (k : Nat) (l : List Nat) (T : List Stp) : S.restS false (k + 1) l T = S.restS (S.nxS 6 (S.nxL 4 l) (S.nxS 4 l false)) k (S.nxL 6 (S.nxL 4 l)) (T ++ [⟨S.nxV 4 true l, S.nxV 6 true (S.nxL 4 l)⟩]) := by
 unfold S.restS
 rw [pSteps_succ]
 by_cases h : l.length < 10
 ·have h2 : S.nxS 6 (S.nxL 4 l) (S.nxS 4 l false) = true := by
   cases hq : S.nxS 6 (S.nxL 4 l) (S.nxS 4 l false)
   ·obtain ⟨h6, h4⟩ := nxS_false.1 hq
    obtain ⟨h4, _⟩ := nxS_false.1 h4
    rw [nxL_of h4, List.length_drop] at h6
    omega
   ·rfl
  rw [h2, if_pos h]
  rfl
 ·have h4 : 4 ≤ l.length := by omega
  have h6 : 6 ≤ (l.drop 4).length := by rw [List.length_drop]; omega
  rw [if_neg h, nxL_of h4, nxL_of h6, nxS_false.2 ⟨h6, nxS_false.2 ⟨h4, rfl⟩⟩]
  have e1 : S.nxV 4 true l = S.rdB true (l.take 4) := if_pos h4
  have e2 : S.nxV 6 true (l.drop 4) = S.rdB true ((l.drop 4).take 6) := if_pos h6
  rw [e1, e2, List.drop_drop]
  simp only [Bool.false_eq_true, if_false]
  cases S.pSteps k (l.drop 10) with
  | none => rfl
  | some q => simp
def S.restL (sh : Bool) (m : Nat) (l : List Nat) (L : List (List Stp)) : Option (List (List Stp) × List Nat) := if sh then none else match S.pLists m l with | none => none | some (u, r) => some (L ++ u, r)
def S.headL : List Nat → Option (List (List Stp) × List Nat)
 | [] => none
 | x :: u => S.pLists x u
theorem restL_start (l : List Nat) : S.headL l = S.restL (S.nxS 1 l false) (l.headD 0) (S.nxL 1 l) [] := by
 cases l with
 | nil => rfl
 | cons x u =>
  unfold S.restL S.nxS S.nxL S.headL
  rw [if_pos (show 1 ≤ (x :: u).length by simp), if_pos (show 1 ≤ (x :: u).length by simp)]
  show S.pLists x u = (match S.pLists x u with | none => none | some (v, r) => some ([] ++ v, r))
  cases S.pLists x u with
  | none => rfl
  | some q => rfl
theorem restL_next {m : Nat} {l l2 : List Nat} {L : List (List Stp)} {sh : Bool} {k : Nat} {T : List Stp} (h : S.headS l = S.restS sh k l2 T) (he : k = 0 ∨ sh = true) : S.restL false (m + 1) l L = S.restL sh m l2 (L ++ [T]) := by
 have h2 : S.headS l = if sh then none else some (T, l2) := by
  rw [h]
  unfold S.restS
  cases sh
  ·rcases he with rfl | he
   ·show (match S.pSteps 0 l2 with | none => none | some (u, r) => some (T ++ u, r)) = some (T, l2)
    unfold S.pSteps
    simp
   ·cases he
  ·rfl
 unfold S.restL
 cases l with
 | nil =>
  have h3 : (if sh then none else some (T, l2)) = none := h2.symm
  cases sh
  ·cases h3
  ·rfl
 | cons x u =>
  have h3 : S.pSteps x u = if sh then none else some (T, l2) := h2
  rw [pLists_succ, h3]
  cases sh
  ·simp only [Bool.false_eq_true, if_false]
   cases S.pLists m l2 with
   | none => rfl
   | some q => simp
  ·rfl
theorem rd_nx (g b k : Nat) (ki : Int) (hki : ki = (k : Int)) (sg : Bool) (l : List Nat) (sh : Bool) (w : World) (hk : 1 ≤ k ∧ k ≤ 8) (hl : ∀ x, x ∈ l → x < 256) (hgb : g ≠ b) (hbw : b < w.heap.size) (h : Rd w g b l sh) :
 Calls Tryz.prog 55 #[.pointer (some ⟨g, 0, none⟩), .int .i64 ki, .bool sg] w (GivesNx g b k sg l sh w) := by
 subst hki
 exact rd_next g b k sg l sh w hk hl hgb hbw h
theorem rd_one (g b : Nat) (l : List Nat) (sh : Bool) (w : World) (hl : ∀ x, x ∈ l → x < 256) (hgb : g ≠ b) (hbw : b < w.heap.size) (h : Rd w g b l sh) :
 Calls Tryz.prog 55 #[.pointer (some ⟨g, 0, none⟩), .int .i64 1, .bool false] w fun e w' => e = .returned (.int .i64 ((l.headD 0 : Nat) : Int)) ∧ Rd w' g b (S.nxL 1 l) (S.nxS 1 l sh) ∧ Exc [g] w w' ∧ w'.heap.size = w.heap.size := by
 refine (rd_nx g b 1 1 rfl false l sh w (by omega) hl hgb hbw h).mono ?_
 rintro e w' ⟨h1, h2⟩
 rw [nx_one l hl] at h1
 exact ⟨h1, h2⟩
theorem pClaim_head (t : List Nat) : S.pClaim t = match S.headL t with | none => none | some (L, r) => if r.length = 16 then some (⟨L, S.rdB true (r.take 2), S.rdB true ((r.drop 2).take 2), S.rdB true ((r.drop 4).take 8)⟩, S.rdB false (r.drop 12)) else none := by
 cases t with
 | nil => rfl
 | cons x u => rfl
theorem fin_none {t l : List Nat} {m : Nat} {sh : Bool} {L : List (List Stp)} (h : S.headL t = S.restL sh m l L) (hm : m = 0 ∨ sh = true) (hn : ¬ (sh = false ∧ l.length = 16)) : S.pClaim t = none := by
 rw [pClaim_head, h]
 unfold S.restL
 cases sh
 ·rcases hm with rfl | hm
  ·have h16 : ¬ l.length = 16 := fun e => hn ⟨rfl, e⟩
   simp [S.pLists, h16]
  ·cases hm
 ·rfl
theorem fin_some {t l : List Nat} {m : Nat} {L : List (List Stp)} (h : S.headL t = S.restL false m l L) (hm : m = 0) (hn : l.length = 16) : S.pClaim t = some (⟨L, S.nxV 2 true l, S.nxV 2 true (S.nxL 2 l), S.nxV 8 true (S.nxL 2 (S.nxL 2 l))⟩, S.nxV 4 false (S.nxL 8 (S.nxL 2 (S.nxL 2 l)))) := by
 subst hm
 have h1 : 2 ≤ l.length := by omega
 have h2 : 2 ≤ (l.drop 2).length := by rw [List.length_drop]; omega
 have h3 : 8 ≤ ((l.drop 2).drop 2).length := by simp only [List.length_drop]; omega
 have h4 : 4 ≤ (((l.drop 2).drop 2).drop 8).length := by simp only [List.length_drop]; omega
 rw [pClaim_head, h, nxL_of h1, nxL_of h2, nxL_of h3]
 have v1 : S.nxV 2 true l = S.rdB true (l.take 2) := if_pos h1
 have v2 : S.nxV 2 true (l.drop 2) = S.rdB true ((l.drop 2).take 2) := if_pos h2
 have v3 : S.nxV 8 true ((l.drop 2).drop 2) = S.rdB true (((l.drop 2).drop 2).take 8) := if_pos h3
 have v4 : S.nxV 4 false (((l.drop 2).drop 2).drop 8) = S.rdB false ((((l.drop 2).drop 2).drop 8).take 4) := if_pos h4
 rw [v1, v2, v3, v4, List.drop_drop, List.drop_drop, List.take_of_length_le (l := l.drop (2 + 2 + 8)) (by rw [List.length_drop]; omega)]
 unfold S.restL
 simp [S.pLists, hn]
theorem dec_head {l : List Nat} (hb : ¬ 1048576 < l.length) (hh : l[0]? = some 67 ∧ l[1]? = some 83) : S.dec l = match S.pClaim (l.drop 2) with | none => (S.noCl, 7) | some (c, s) => if s = S.sumB 7 (l.take (l.length - 4)) then (if S.formed c then (c, 0) else (S.noCl, 1)) else (S.noCl, 18) := by
 cases l with
 | nil => cases hh.1
 | cons x u =>
  cases u with
  | nil => cases hh.2
  | cons y u =>
   have hx : x = 67 := by simpa using hh.1
   have hy : y = 83 := by simpa using hh.2
   unfold S.dec
   rw [if_neg hb]
   dsimp only
   rw [if_pos ⟨hx, hy⟩]
   rfl
end Go.Proofs.YtnmolefblaahmaaGreat
