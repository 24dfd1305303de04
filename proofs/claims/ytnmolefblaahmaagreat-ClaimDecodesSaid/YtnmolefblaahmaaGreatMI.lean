/- Contracts: shape.Valid. Rows that a call hands back; the lengths of the legs (no walk). Points of a bar: steps, bounds (no walk). -/
import Derived.Test.YtnmolefblaahmaaGreatMH
import Derived.Test.YtnmolefblaahmaaGreatMD
set_option linter.unusedVariables false
set_option linter.unusedSimpArgs false
namespace Go.Proofs.YtnmolefblaahmaaGreat
open Go.RowKit
theorem sum_nonneg {l : List Int} (h : ∀ x, x ∈ l → 1 ≤ x) : 0 ≤ S.sum l := by
 have : ∀ (l : List Int) (m : Int), (∀ x, x ∈ l → 1 ≤ x) → m ≤ l.foldl (· + ·) m := by
  intro l
  induction l with
  | nil => intro m _; exact Int.le_refl _
  | cons x l ih =>
   intro m h
   have h1 := h x (by simp)
   exact Int.le_trans (by omega) (ih (m + x) (fun y hy => h y (by simp [hy])))
 exact this l 0 h
theorem foldl_add (l : List Int) (m : Int) : l.foldl (· + ·) m = m + l.foldl (· + ·) 0 := by
 induction l generalizing m with
 | nil => simp
 | cons x l ih => simp only [List.foldl_cons]; rw [ih (m + x), ih (0 + x)]; omega
theorem sum_append (a b : List Int) : S.sum (a ++ b) = S.sum a + S.sum b := by
 unfold S.sum
 rw [List.foldl_append, foldl_add]
theorem sum_take_le {l : List Int} (h : ∀ x, x ∈ l → 1 ≤ x) (k : Nat) : S.sum (l.take k) ≤ S.sum l := by
 have e := sum_append (l.take k) (l.drop k)
 rw [List.take_append_drop] at e
 have := sum_nonneg (l := l.drop k) (fun x hx => h x (List.mem_of_mem_drop hx))
 omega
theorem dimsOk_iff {l : List Int} : S.dimsOk l = true ↔ (∀ x, x ∈ l → 1 ≤ x) ∧ S.sum l ≤ 262144 := by simp [S.dimsOk]
theorem dims_no {l : List Int} {k : Nat} (hk : k < l.length) (h : l[k] < 1 ∨ 262144 - S.sum (l.take k) < l[k]) : S.dimsOk l = false := by
 cases hb : S.dimsOk l with
 | false => rfl
 | true =>
  obtain ⟨h1, h2⟩ := dimsOk_iff.1 hb
  have h3 := h1 _ (List.getElem_mem hk)
  have h4 := sum_take_le h1 (k + 1)
  rw [List.take_succ_eq_append_getElem hk, sum_snoc] at h4
  omega
theorem dims_yes {l : List Int} (h : ∀ j (hj : j < l.length), 1 ≤ l[j]) (hs : S.sum l ≤ 262144) : S.dimsOk l = true :=
 dimsOk_iff.2 ⟨fun x hx => by obtain ⟨j, hj, rfl⟩ := List.mem_iff_getElem.1 hx; exact h j hj, hs⟩
theorem dimsErr_zero {c : Int} (h : S.dimsErr c = 0) : (S.dimsOf c == 0) = false := by
 unfold S.dimsErr at h
 split at h
 ·omega
 ·simpa using ‹_›
theorem dimsErr_no {c : Int} (h : S.dimsErr c ≠ 0) : S.dimsErr c = 11 ∧ S.dimsOf c = 0 := by
 unfold S.dimsErr at h ⊢
 split at h
 ·exact ⟨by simp [*], by assumption⟩
 ·exact absurd rfl h
set_option maxHeartbeats 1000000 in
theorem valid_no0 (b : Bar) (A : Option Addr) (n c : Nat) (w : World) (hn : b.dims.length = n) (hmk : b.mark.size ≤ 9223372036854775807)  (f : S.dimsErr b.code ≠ 0) :
 Calls Tryz.prog 136 #[barV b A n c] w fun e w' => e = .returned (.bool (S.bar b)) ∧ Below w.heap.size w w' := by
 obtain ⟨f1, f2⟩ := dimsErr_no f
 have H := Lib.hid (show S.bar b = false by simp [S.bar, S.barHead, f2])
 clear f f2 hn
 unfold barV
 go_enter Tryz.func136, Tryz.ntmps136
 go_wp2_with (first
  | (go_at_call 200; (with_reducible refine (dims_any b.code _).mono ?_); rintro e w1 ⟨rfl, hbw1⟩; obtain ⟨hcw1, hfw1⟩ := bcell hbw1; have hzw1_0 : w.heap.size < w1.heap.size := lt_via hbw1 sz)
  | (go_at_call 157; (with_reducible refine (isname_any b.mark _ hmk).mono ?_); rintro e w' ⟨rfl, rfl⟩)
  | (go_at_call 201; (with_reducible refine (ssize_any b.size _).mono ?_); rintro e w2 ⟨rfl, hbw2⟩; obtain ⟨hcw2, hfw2⟩ := bcell hbw2; have hzw2_0 : w.heap.size < w2.heap.size := lt_via hbw2 sz))
 go_ret
 exact ⟨ret_b H.out.symm, bel⟩
set_option maxHeartbeats 1000000 in
theorem valid_no1 (b : Bar) (A : Option Addr) (n c : Nat) (w : World) (hn : b.dims.length = n) (hmk : b.mark.size ≤ 9223372036854775807) (g0 : S.dimsErr b.code = 0) (f : S.isName b.mark = false) :
 Calls Tryz.prog 136 #[barV b A n c] w fun e w' => e = .returned (.bool (S.bar b)) ∧ Below w.heap.size w w' := by
 have H := Lib.hid (show S.bar b = false by simp [S.bar, S.barHead, f])
 clear hn
 unfold barV
 go_enter Tryz.func136, Tryz.ntmps136
 go_wp2_with (first
  | (go_at_call 200; (with_reducible refine (dims_any b.code _).mono ?_); rintro e w1 ⟨rfl, hbw1⟩; obtain ⟨hcw1, hfw1⟩ := bcell hbw1; have hzw1_0 : w.heap.size < w1.heap.size := lt_via hbw1 sz)
  | (go_at_call 157; (with_reducible refine (isname_any b.mark _ hmk).mono ?_); rintro e w' ⟨rfl, rfl⟩)
  | (go_at_call 201; (with_reducible refine (ssize_any b.size _).mono ?_); rintro e w2 ⟨rfl, hbw2⟩; obtain ⟨hcw2, hfw2⟩ := bcell hbw2; have hzw2_0 : w.heap.size < w2.heap.size := lt_via hbw2 sz))
 go_ret
 exact ⟨ret_b H.out.symm, bel⟩
set_option maxHeartbeats 1000000 in
theorem valid_no2 (b : Bar) (A : Option Addr) (n c : Nat) (w : World) (hn : b.dims.length = n) (hmk : b.mark.size ≤ 9223372036854775807) (g0 : S.dimsErr b.code = 0) (g1 : S.isName b.mark = true) (f : S.size b.size = false) :
 Calls Tryz.prog 136 #[barV b A n c] w fun e w' => e = .returned (.bool (S.bar b)) ∧ Below w.heap.size w w' := by
 have H := Lib.hid (show S.bar b = false by simp [S.bar, S.barHead, f])
 clear hn
 unfold barV
 go_enter Tryz.func136, Tryz.ntmps136
 go_wp2_with (first
  | (go_at_call 200; (with_reducible refine (dims_any b.code _).mono ?_); rintro e w1 ⟨rfl, hbw1⟩; obtain ⟨hcw1, hfw1⟩ := bcell hbw1; have hzw1_0 : w.heap.size < w1.heap.size := lt_via hbw1 sz)
  | (go_at_call 157; (with_reducible refine (isname_any b.mark _ hmk).mono ?_); rintro e w' ⟨rfl, rfl⟩)
  | (go_at_call 201; (with_reducible refine (ssize_any b.size _).mono ?_); rintro e w2 ⟨rfl, hbw2⟩; obtain ⟨hcw2, hfw2⟩ := bcell hbw2; have hzw2_0 : w.heap.size < w2.heap.size := lt_via hbw2 sz))
 go_ret
 exact ⟨ret_b H.out.symm, bel⟩
set_option maxHeartbeats 1000000 in
theorem valid_no3 (b : Bar) (A : Option Addr) (n c : Nat) (w : World) (hn : b.dims.length = n) (hmk : b.mark.size ≤ 9223372036854775807) (g0 : S.dimsErr b.code = 0) (g1 : S.isName b.mark = true) (g2 : S.size b.size = true) (f : b.count < 1) :
 Calls Tryz.prog 136 #[barV b A n c] w fun e w' => e = .returned (.bool (S.bar b)) ∧ Below w.heap.size w w' := by
 have H := Lib.hid (show S.bar b = false by
  have hd : decide (1 ≤ b.count) = false := by simp; omega
  simp [S.bar, S.barHead, hd])
 clear hn
 unfold barV
 go_enter Tryz.func136, Tryz.ntmps136
 go_wp2_with (first
  | (go_at_call 200; (with_reducible refine (dims_any b.code _).mono ?_); rintro e w1 ⟨rfl, hbw1⟩; obtain ⟨hcw1, hfw1⟩ := bcell hbw1; have hzw1_0 : w.heap.size < w1.heap.size := lt_via hbw1 sz)
  | (go_at_call 157; (with_reducible refine (isname_any b.mark _ hmk).mono ?_); rintro e w' ⟨rfl, rfl⟩)
  | (go_at_call 201; (with_reducible refine (ssize_any b.size _).mono ?_); rintro e w2 ⟨rfl, hbw2⟩; obtain ⟨hcw2, hfw2⟩ := bcell hbw2; have hzw2_0 : w.heap.size < w2.heap.size := lt_via hbw2 sz))
 go_ret
 exact ⟨ret_b H.out.symm, bel⟩
set_option maxHeartbeats 1000000 in
theorem valid_no4 (b : Bar) (A : Option Addr) (n c : Nat) (w : World) (hn : b.dims.length = n) (hmk : b.mark.size ≤ 9223372036854775807) (g0 : S.dimsErr b.code = 0) (g1 : S.isName b.mark = true) (g2 : S.size b.size = true) (g3 : 1 ≤ b.count) (f : 1000 < b.count) :
 Calls Tryz.prog 136 #[barV b A n c] w fun e w' => e = .returned (.bool (S.bar b)) ∧ Below w.heap.size w w' := by
 have H := Lib.hid (show S.bar b = false by
  have hd : decide (b.count ≤ 1000) = false := by simp; omega
  simp [S.bar, S.barHead, hd])
 clear hn
 unfold barV
 go_enter Tryz.func136, Tryz.ntmps136
 go_wp2_with (first
  | (go_at_call 200; (with_reducible refine (dims_any b.code _).mono ?_); rintro e w1 ⟨rfl, hbw1⟩; obtain ⟨hcw1, hfw1⟩ := bcell hbw1; have hzw1_0 : w.heap.size < w1.heap.size := lt_via hbw1 sz)
  | (go_at_call 157; (with_reducible refine (isname_any b.mark _ hmk).mono ?_); rintro e w' ⟨rfl, rfl⟩)
  | (go_at_call 201; (with_reducible refine (ssize_any b.size _).mono ?_); rintro e w2 ⟨rfl, hbw2⟩; obtain ⟨hcw2, hfw2⟩ := bcell hbw2; have hzw2_0 : w.heap.size < w2.heap.size := lt_via hbw2 sz))
 go_ret
 exact ⟨ret_b H.out.symm, bel⟩
set_option maxHeartbeats 1000000 in
theorem valid_no5 (b : Bar) (A : Option Addr) (n c : Nat) (w : World) (hn : b.dims.length = n) (hmk : b.mark.size ≤ 9223372036854775807) (g0 : S.dimsErr b.code = 0) (g1 : S.isName b.mark = true) (g2 : S.size b.size = true) (g3 : 1 ≤ b.count) (g4 : b.count ≤ 1000) (f : ((n : Int) == S.dimsOf b.code) = false) :
 Calls Tryz.prog 136 #[barV b A n c] w fun e w' => e = .returned (.bool (S.bar b)) ∧ Below w.heap.size w w' := by
 have f' : ((n : Int) != S.dimsOf b.code) = true := by simp [bne, f]
 have H := Lib.hid (show S.bar b = false by unfold S.bar S.barHead; rw [hn, f]; simp)
 clear hn
 unfold barV
 go_enter Tryz.func136, Tryz.ntmps136
 go_wp2_with (first
  | (go_at_call 200; (with_reducible refine (dims_any b.code _).mono ?_); rintro e w1 ⟨rfl, hbw1⟩; obtain ⟨hcw1, hfw1⟩ := bcell hbw1; have hzw1_0 : w.heap.size < w1.heap.size := lt_via hbw1 sz)
  | (go_at_call 157; (with_reducible refine (isname_any b.mark _ hmk).mono ?_); rintro e w' ⟨rfl, rfl⟩)
  | (go_at_call 201; (with_reducible refine (ssize_any b.size _).mono ?_); rintro e w2 ⟨rfl, hbw2⟩; obtain ⟨hcw2, hfw2⟩ := bcell hbw2; have hzw2_0 : w.heap.size < w2.heap.size := lt_via hbw2 sz))
 go_ret
 exact ⟨ret_b H.out.symm, bel⟩
set_option maxHeartbeats 2000000 in
theorem valid_in (b : Bar) (A : Option Addr) (n c : Nat) (B : Nat) (w : World) (hB : B ≤ w.heap.size) (hA : BarAt w B A n b) (hh : S.barHead b = true) :
 Calls Tryz.prog 136 #[barV b A n c] w fun e w' => e = .returned (.bool (S.bar b)) ∧ Below w.heap.size w w' := by
 have hmk := hA.mark
 have hm := hA.max
 have hs := hA.cells
 have HN := Lib.hid hA.len
 have HK := Lib.hid (show S.bar b = S.dimsOk b.dims by simp [S.bar, hh])
 have hh' := hh
 unfold S.barHead at hh'
 rw [hA.len] at hh'
 simp only [Bool.and_eq_true, decide_eq_true_eq, Bool.not_eq_true'] at hh'
 obtain ⟨⟨⟨⟨⟨h0, h1⟩, h2⟩, h3⟩, h4⟩, h5⟩ := hh'
 have h0' : S.dimsErr b.code = 0 := by unfold S.dimsErr; rw [if_neg (by simpa using h0)]
 have h5' : ((n : Int) != S.dimsOf b.code) = false := by simp [bne, h5]
 clear h0 hh hA
 unfold barV
 go_enter Tryz.func136, Tryz.ntmps136
 go_wp2_with (first
  | (go_at_call 200; (with_reducible refine (dims_any b.code _).mono ?_); rintro e w1 ⟨rfl, hbw1⟩; obtain ⟨hcw1, hfw1⟩ := bcell hbw1; have hzw1_0 : w.heap.size < w1.heap.size := lt_via hbw1 sz)
  | (go_at_call 157; (with_reducible refine (isname_any b.mark _ hmk).mono ?_); rintro e w' ⟨rfl, rfl⟩)
  | (go_at_call 201; (with_reducible refine (ssize_any b.size _).mono ?_); rintro e w2 ⟨rfl, hbw2⟩; obtain ⟨hcw2, hfw2⟩ := bcell hbw2; have hzw2_0 : w.heap.size < w2.heap.size := lt_via hbw2 sz))
 have hbw : Below w.heap.size w w2 := bel
 have hs2 := hs.below (hbw.mono hB)
 go_loop [5, 48] (fun r i => ∃ k : Nat, k ≤ n ∧ i = .int .i64 k ∧ r = .int .i64 (262144 - S.sum (b.dims.take k)) ∧ 0 ≤ S.sum (b.dims.take k) ∧ S.sum (b.dims.take k) ≤ 262144 ∧ Hid (∀ j (hj : j < b.dims.length), j < k → 1 ≤ b.dims[j])) (fun _ i => n - (intOf i).toNat)
 case atStart => exact ⟨0, Nat.zero_le _, rfl, rfl, by simp [S.sum], by simp [S.sum], Lib.hid fun j hj hk => absurd hk (by omega)⟩
 case round =>
  obtain ⟨k, hk, rfl, rfl, hs0, hs1, HNO⟩ := hrel
  by_cases hlt : k < n
  ·have hkx : k < b.dims.length := by have := HN.out; omega
   obtain ⟨bb, o, rfl, _, hc⟩ := hs2.at_ (by simp; omega)
   have hck := hc k _ (i64s_get hkx)
   clear hc
   by_cases hbad : b.dims[k] < 1 ∨ 262144 - S.sum (b.dims.take k) < b.dims[k]
   ·have HB := Lib.hid (dims_no hkx hbad)
    rcases hbad with h1 | h1
    all_goals
     go_wp2
     go_ret
     exact ⟨ret_b (by rw [HK.out, HB.out]), hbw⟩
   ·obtain ⟨hb1', hb2'⟩ : 1 ≤ b.dims[k] ∧ b.dims[k] ≤ 262144 - S.sum (b.dims.take k) := by omega
    have ht := sum_snoc (b.dims.take k) b.dims[k]
    rw [← List.take_succ_eq_append_getElem hkx] at ht
    have HT := Lib.hid ht
    clear ht hbad
    go_wp2
    go_round
    case rel =>
     refine ⟨k + 1, by omega, by go_num, vint (by rw [HT.out]; omega), by rw [HT.out]; omega, by rw [HT.out]; omega, Lib.hid fun j hj hjk => ?_⟩
     by_cases hjk' : j = k
     ·subst hjk'; omega
     ·exact HNO.out j hj (by omega)
    case measure => simp [intOf]; omega
  ·have he : b.dims.take k = b.dims := List.take_of_length_le (by have := HN.out; omega)
   rw [he] at hs1
   go_wp2
   go_ret
   exact ⟨ret_b (by rw [HK.out, dims_yes (fun j hj => HNO.out j hj (by have := HN.out; omega)) hs1]), hbw⟩
theorem valid_any (b : Bar) (A : Option Addr) (n c : Nat) (B : Nat) (w : World) (hB : B ≤ w.heap.size) (hA : BarAt w B A n b) :
 Calls Tryz.prog 136 #[barV b A n c] w fun e w' => e = .returned (.bool (S.bar b)) ∧ Below w.heap.size w w' := by
 by_cases g0 : S.dimsErr b.code = 0
 ·cases g1 : S.isName b.mark
  ·exact valid_no1 b A n c w hA.len hA.mark g0 g1
  ·cases g2 : S.size b.size
   ·exact valid_no2 b A n c w hA.len hA.mark g0 g1 g2
   ·by_cases g3 : 1 ≤ b.count
    ·by_cases g4 : b.count ≤ 1000
     ·cases g5 : ((n : Int) == S.dimsOf b.code)
      ·exact valid_no5 b A n c w hA.len hA.mark g0 g1 g2 g3 g4 g5
      ·refine valid_in b A n c B w hB hA ?_
       have h0 := dimsErr_zero g0
       unfold S.barHead
       rw [hA.len, h0, g1, g2, g5]
       simp [g3, g4]
     ·exact valid_no4 b A n c w hA.len hA.mark g0 g1 g2 g3 (by omega)
    ·exact valid_no3 b A n c w hA.len hA.mark g0 g1 g2 (by omega)
 ·exact valid_no0 b A n c w hA.len hA.mark g0
def S.legLens (b : Bar) : List Int := (S.legsOf b.code).map fun l => b.dims.getD l.1 0
def GivesRow (E size : Nat) (n : Nat) (xs : List Value) (err : Int) (w : World) (e : Ending) (w' : World) : Prop :=
 ∃ A c, e = .returned (.tuple #[.slice A n c, .int .i64 err]) ∧ w'.ownsRow w.heap.size E size (.slice A n c) n xs ∧ Below w.heap.size w w'
theorem bar_head {b : Bar} (h : S.bar b = true) : (b.dims.length : Int) = S.dimsOf b.code := by
 simp only [S.bar, S.barHead, Bool.and_eq_true, beq_iff_eq] at h
 exact h.1.2
theorem elemPt : Elem Tryz.prog 177 76 (.agg #[.int .i64 0, .int .i64 0, .int .i64 0]) 3 24 := ⟨Tryz.underlying177, by kernel_rfl, rfl, by decide⟩
namespace S
def step (p : Pt) (way : Nat) (n : Int) : Pt :=
 if way = 120 then ⟨p.x + n, p.y, p.z⟩ else if way = 88 then ⟨p.x - n, p.y, p.z⟩ else if way = 121 then ⟨p.x, p.y + n, p.z⟩ else if way = 89 then ⟨p.x, p.y - n, p.z⟩ else if way = 122 then ⟨p.x, p.y, p.z + n⟩ else p
def ptAt (b : Bar) : Nat → Pt
 | 0 => ⟨0, 0, 0⟩
 | k + 1 => match (legsOf b.code)[k]? with
  | some l => step (ptAt b k) l.2 (b.dims.getD l.1 0)
  | none => ptAt b k
def pathTo (b : Bar) (m : Nat) : List Pt := (List.range m).map (ptAt b)
def path (b : Bar) : List Pt := pathTo b ((legsOf b.code).length + 1)
end S
theorem pathTo_snoc (b : Bar) (m : Nat) : S.pathTo b (m + 1) = S.pathTo b m ++ [S.ptAt b m] := by simp [S.pathTo, List.range_succ]
theorem ptAt_succ (b : Bar) {k : Nat} (hk : k < (S.legsOf b.code).length) (hj : (S.legsOf b.code)[k].1 < b.dims.length) :
 S.ptAt b (k + 1) = S.step (S.ptAt b k) (S.legsOf b.code)[k].2 b.dims[(S.legsOf b.code)[k].1] := by
 simp [S.ptAt, List.getElem?_eq_getElem hk, List.getD_eq_getElem?_getD, List.getElem?_eq_getElem hj]
theorem legs_way (code : Int) {k : Nat} (hk : k < (S.legsOf code).length) : (S.legsOf code)[k].2 = 120 ∨ (S.legsOf code)[k].2 = 88 ∨ (S.legsOf code)[k].2 = 121 ∨ (S.legsOf code)[k].2 = 89 ∨ (S.legsOf code)[k].2 = 122 := by
 have h : ∀ x, x ∈ S.legsOf code → x.2 = 120 ∨ x.2 = 88 ∨ x.2 = 121 ∨ x.2 = 89 ∨ x.2 = 122 := by
  unfold S.legsOf
  repeat' (split <;> try decide)
 exact h _ (List.getElem_mem hk)
def Within (p : Pt) (R : Int) : Prop := -R ≤ p.x ∧ p.x ≤ R ∧ -R ≤ p.y ∧ p.y ≤ R ∧ -R ≤ p.z ∧ p.z ≤ R
theorem dim_bd {l : List Int} (h : S.dimsOk l = true) {j : Nat} (hj : j < l.length) : 1 ≤ l[j] ∧ l[j] ≤ 262144 := by
 obtain ⟨h1, h2⟩ := dimsOk_iff.1 h
 have h3 := h1 _ (List.getElem_mem hj)
 have h4 := sum_take_le h1 (j + 1)
 have h5 := sum_nonneg (l := l.take j) (fun x hx => h1 x (List.mem_of_mem_take hx))
 rw [List.take_succ_eq_append_getElem hj, sum_snoc] at h4
 omega
theorem ptAt_bd (b : Bar) (h : S.dimsOk b.dims = true) (hd : ∀ k (hk : k < (S.legsOf b.code).length), (S.legsOf b.code)[k].1 < b.dims.length) : ∀ k, Within (S.ptAt b k) (262144 * (k : Int)) := by
 intro k
 induction k with
 | zero => simp [Within, S.ptAt]
 | succ k ih =>
  by_cases hk : k < (S.legsOf b.code).length
  ·rw [ptAt_succ b hk (hd k hk)]
   have hb := dim_bd h (hd k hk)
   unfold Within at ih ⊢
   unfold S.step
   repeat' (split <;> try (simp only []; omega))
   all_goals omega
  ·have : S.ptAt b (k + 1) = S.ptAt b k := by simp [S.ptAt, List.getElem?_eq_none (Nat.le_of_not_lt hk)]
   rw [this]
   unfold Within at ih ⊢
   omega
end Go.Proofs.YtnmolefblaahmaaGreat
