/- Lemmas. -/
import Derived.Test.YtmfpbafpnoomeaaGreatME
import Derived.Test.YtmfpbafpnoomeaaGreatMB
set_option linter.unusedVariables false
set_option linter.unusedSimpArgs false
namespace Go.Proofs.YtmfpbafpnoomeaaGreat
open Go.RowKit
theorem sum_nonneg {l : List Int} (h : ∀ x, x ∈ l -> 1 <= x) : 0 <= S.sum l := by
 have : ∀ (l : List Int) (m : Int), (∀ x, x ∈ l -> 1 <= x) -> m <= l.foldl (· + ·) m := by
  intro l
  induction l with
  | nil => intro m _; exact Int.le_refl _
  | cons x l ih =>
   intro m h
   have h1 := h x (by simp)
   exact Int.le_trans (by omega) (ih (m + x) (fun y hy => h y (by simp [hy])))
 exact this l 0 h
theorem foldl_add (l : List Int) (m : Int) : l.foldl (· + ·) m = m + l.foldl (· + ·) 0 := by
 induction l generalizing m with
 | nil => simp
 | cons x l ih => simp only [List.foldl_cons]; rw [ih (m + x), ih (0 + x)]; omega
theorem sum_append (a b : List Int) : S.sum (a ++ b) = S.sum a + S.sum b := by
 unfold S.sum
 rw [List.foldl_append, foldl_add]
theorem sum_take_le {l : List Int} (h : ∀ x, x ∈ l -> 1 <= x) (k : Nat) : S.sum (l.take k) <= S.sum l := by
 have e := sum_append (l.take k) (l.drop k)
 rw [List.take_append_drop] at e
 have := sum_nonneg (l := l.drop k) (fun x hx => h x (List.mem_of_mem_drop hx))
 omega
theorem dimsOk_iff {l : List Int} : S.dimsOk l = true ↔ (∀ x, x ∈ l -> 1 <= x) /\ S.sum l <= 262144 := by simp [S.dimsOk]
theorem dims_no {l : List Int} {k : Nat} (hk : k < l.length) (h : l[k] < 1 ∨ 262144 - S.sum (l.take k) < l[k]) : S.dimsOk l = false := by
 cases hb : S.dimsOk l with
 | false => rfl
 | true =>
  obtain ⟨h1, h2⟩ := dimsOk_iff.1 hb
  have h3 := h1 _ (List.getElem_mem hk)
  have h4 := sum_take_le h1 (k + 1)
  rw [List.take_succ_eq_append_getElem hk, sum_snoc] at h4
  omega
theorem dims_yes {l : List Int} (h : ∀ j (hj : j < l.length), 1 <= l[j]) (hs : S.sum l <= 262144) : S.dimsOk l = true :=
 dimsOk_iff.2 ⟨fun x hx => by obtain ⟨j, hj, rfl⟩ := List.mem_iff_getElem.1 hx; exact h j hj, hs⟩
theorem dimsErr_zero {c : Int} (h : S.dimsErr c = 0) : (S.dimsOf c == 0) = false := by
 unfold S.dimsErr at h
 split at h
 ·omega
 ·simpa using ‹_›
theorem dimsErr_no {c : Int} (h : S.dimsErr c ≠ 0) : S.dimsErr c = 11 /\ S.dimsOf c = 0 := by
 unfold S.dimsErr at h ⊢
 split at h
 ·exact ⟨by simp [*], by assumption⟩
 ·exact absurd rfl h
set_option maxHeartbeats 1000000 in
theorem valid_no0 (b : Bar) (A : Option Addr) (n c : Nat) (w : World) (hn : b.dims.length = n) (hmk : b.mark.size <= 9223372036854775807)  (f : S.dimsErr b.code ≠ 0) :
 Calls Tryz.prog 203 #[barV b A n c] w fun e w' => e = .returned (.bool (S.bar b)) /\ Below w.heap.size w w' := by
 obtain ⟨f1, f2⟩ := dimsErr_no f
 have H := lh (show S.bar b = false by simp [S.bar, S.barHead, f2])
 clear f f2 hn
 unfold barV
 go_enter Tryz.func203, Tryz.ntmps203
 go_wp2_with (first
  | (go_at_call 246; (with_reducible refine (dims_any b.code _).mono ?_); rintro e w1 ⟨rfl, hbw1⟩; obtain ⟨hcw1, hfw1⟩ := bcell hbw1; have hzw1_0 : w.heap.size < w1.heap.size := lt_via hbw1 sz)
  | (go_at_call 93; (with_reducible refine (isname_any b.mark _ hmk).mono ?_); rintro e w' ⟨rfl, rfl⟩)
  | (go_at_call 247; (with_reducible refine (ssize_any b.size _).mono ?_); rintro e w2 ⟨rfl, hbw2⟩; obtain ⟨hcw2, hfw2⟩ := bcell hbw2; have hzw2_0 : w.heap.size < w2.heap.size := lt_via hbw2 sz))
 go_ret
 exact ⟨ret_b H.out.symm, bel⟩
set_option maxHeartbeats 1000000 in
theorem valid_no1 (b : Bar) (A : Option Addr) (n c : Nat) (w : World) (hn : b.dims.length = n) (hmk : b.mark.size <= 9223372036854775807) (g0 : S.dimsErr b.code = 0) (f : S.isName b.mark = false) :
 Calls Tryz.prog 203 #[barV b A n c] w fun e w' => e = .returned (.bool (S.bar b)) /\ Below w.heap.size w w' := by
 have H := lh (show S.bar b = false by simp [S.bar, S.barHead, f])
 clear hn
 unfold barV
 go_enter Tryz.func203, Tryz.ntmps203
 go_wp2_with (first
  | (go_at_call 246; (with_reducible refine (dims_any b.code _).mono ?_); rintro e w1 ⟨rfl, hbw1⟩; obtain ⟨hcw1, hfw1⟩ := bcell hbw1; have hzw1_0 : w.heap.size < w1.heap.size := lt_via hbw1 sz)
  | (go_at_call 93; (with_reducible refine (isname_any b.mark _ hmk).mono ?_); rintro e w' ⟨rfl, rfl⟩)
  | (go_at_call 247; (with_reducible refine (ssize_any b.size _).mono ?_); rintro e w2 ⟨rfl, hbw2⟩; obtain ⟨hcw2, hfw2⟩ := bcell hbw2; have hzw2_0 : w.heap.size < w2.heap.size := lt_via hbw2 sz))
 go_ret
 exact ⟨ret_b H.out.symm, bel⟩
set_option maxHeartbeats 1000000 in
theorem valid_no2 (b : Bar) (A : Option Addr) (n c : Nat) (w : World) (hn : b.dims.length = n) (hmk : b.mark.size <= 9223372036854775807) (g0 : S.dimsErr b.code = 0) (g1 : S.isName b.mark = true) (f : S.size b.size = false) :
 Calls Tryz.prog 203 #[barV b A n c] w fun e w' => e = .returned (.bool (S.bar b)) /\ Below w.heap.size w w' := by
 have H := lh (show S.bar b = false by simp [S.bar, S.barHead, f])
 clear hn
 unfold barV
 go_enter Tryz.func203, Tryz.ntmps203
 go_wp2_with (first
  | (go_at_call 246; (with_reducible refine (dims_any b.code _).mono ?_); rintro e w1 ⟨rfl, hbw1⟩; obtain ⟨hcw1, hfw1⟩ := bcell hbw1; have hzw1_0 : w.heap.size < w1.heap.size := lt_via hbw1 sz)
  | (go_at_call 93; (with_reducible refine (isname_any b.mark _ hmk).mono ?_); rintro e w' ⟨rfl, rfl⟩)
  | (go_at_call 247; (with_reducible refine (ssize_any b.size _).mono ?_); rintro e w2 ⟨rfl, hbw2⟩; obtain ⟨hcw2, hfw2⟩ := bcell hbw2; have hzw2_0 : w.heap.size < w2.heap.size := lt_via hbw2 sz))
 go_ret
 exact ⟨ret_b H.out.symm, bel⟩
set_option maxHeartbeats 1000000 in
theorem valid_no3 (b : Bar) (A : Option Addr) (n c : Nat) (w : World) (hn : b.dims.length = n) (hmk : b.mark.size <= 9223372036854775807) (g0 : S.dimsErr b.code = 0) (g1 : S.isName b.mark = true) (g2 : S.size b.size = true) (f : b.count < 1) :
 Calls Tryz.prog 203 #[barV b A n c] w fun e w' => e = .returned (.bool (S.bar b)) /\ Below w.heap.size w w' := by
 have H := lh (show S.bar b = false by
  have hd : decide (1 <= b.count) = false := by simp; omega
  simp [S.bar, S.barHead, hd])
 clear hn
 unfold barV
 go_enter Tryz.func203, Tryz.ntmps203
 go_wp2_with (first
  | (go_at_call 246; (with_reducible refine (dims_any b.code _).mono ?_); rintro e w1 ⟨rfl, hbw1⟩; obtain ⟨hcw1, hfw1⟩ := bcell hbw1; have hzw1_0 : w.heap.size < w1.heap.size := lt_via hbw1 sz)
  | (go_at_call 93; (with_reducible refine (isname_any b.mark _ hmk).mono ?_); rintro e w' ⟨rfl, rfl⟩)
  | (go_at_call 247; (with_reducible refine (ssize_any b.size _).mono ?_); rintro e w2 ⟨rfl, hbw2⟩; obtain ⟨hcw2, hfw2⟩ := bcell hbw2; have hzw2_0 : w.heap.size < w2.heap.size := lt_via hbw2 sz))
 go_ret
 exact ⟨ret_b H.out.symm, bel⟩
set_option maxHeartbeats 1000000 in
theorem valid_no4 (b : Bar) (A : Option Addr) (n c : Nat) (w : World) (hn : b.dims.length = n) (hmk : b.mark.size <= 9223372036854775807) (g0 : S.dimsErr b.code = 0) (g1 : S.isName b.mark = true) (g2 : S.size b.size = true) (g3 : 1 <= b.count) (f : 1000 < b.count) :
 Calls Tryz.prog 203 #[barV b A n c] w fun e w' => e = .returned (.bool (S.bar b)) /\ Below w.heap.size w w' := by
 have H := lh (show S.bar b = false by
  have hd : decide (b.count <= 1000) = false := by simp; omega
  simp [S.bar, S.barHead, hd])
 clear hn
 unfold barV
 go_enter Tryz.func203, Tryz.ntmps203
 go_wp2_with (first
  | (go_at_call 246; (with_reducible refine (dims_any b.code _).mono ?_); rintro e w1 ⟨rfl, hbw1⟩; obtain ⟨hcw1, hfw1⟩ := bcell hbw1; have hzw1_0 : w.heap.size < w1.heap.size := lt_via hbw1 sz)
  | (go_at_call 93; (with_reducible refine (isname_any b.mark _ hmk).mono ?_); rintro e w' ⟨rfl, rfl⟩)
  | (go_at_call 247; (with_reducible refine (ssize_any b.size _).mono ?_); rintro e w2 ⟨rfl, hbw2⟩; obtain ⟨hcw2, hfw2⟩ := bcell hbw2; have hzw2_0 : w.heap.size < w2.heap.size := lt_via hbw2 sz))
 go_ret
 exact ⟨ret_b H.out.symm, bel⟩
set_option maxHeartbeats 1000000 in
theorem valid_no5 (b : Bar) (A : Option Addr) (n c : Nat) (w : World) (hn : b.dims.length = n) (hmk : b.mark.size <= 9223372036854775807) (g0 : S.dimsErr b.code = 0) (g1 : S.isName b.mark = true) (g2 : S.size b.size = true) (g3 : 1 <= b.count) (g4 : b.count <= 1000) (f : ((n : Int) == S.dimsOf b.code) = false) :
 Calls Tryz.prog 203 #[barV b A n c] w fun e w' => e = .returned (.bool (S.bar b)) /\ Below w.heap.size w w' := by
 have f' : ((n : Int) != S.dimsOf b.code) = true := by simp [bne, f]
 have H := lh (show S.bar b = false by unfold S.bar S.barHead; rw [hn, f]; simp)
 clear hn
 unfold barV
 go_enter Tryz.func203, Tryz.ntmps203
 go_wp2_with (first
  | (go_at_call 246; (with_reducible refine (dims_any b.code _).mono ?_); rintro e w1 ⟨rfl, hbw1⟩; obtain ⟨hcw1, hfw1⟩ := bcell hbw1; have hzw1_0 : w.heap.size < w1.heap.size := lt_via hbw1 sz)
  | (go_at_call 93; (with_reducible refine (isname_any b.mark _ hmk).mono ?_); rintro e w' ⟨rfl, rfl⟩)
  | (go_at_call 247; (with_reducible refine (ssize_any b.size _).mono ?_); rintro e w2 ⟨rfl, hbw2⟩; obtain ⟨hcw2, hfw2⟩ := bcell hbw2; have hzw2_0 : w.heap.size < w2.heap.size := lt_via hbw2 sz))
 go_ret
 exact ⟨ret_b H.out.symm, bel⟩
set_option maxHeartbeats 2000000 in
theorem valid_in (b : Bar) (A : Option Addr) (n c : Nat) (B : Nat) (w : World) (hB : B <= w.heap.size) (hA : BarAt w B A n b) (hh : S.barHead b = true) :
 Calls Tryz.prog 203 #[barV b A n c] w fun e w' => e = .returned (.bool (S.bar b)) /\ Below w.heap.size w w' := by
 have hmk := hA.mark
 have hm := hA.max
 have hs := hA.cells
 have HN := lh hA.len
 have HK := lh (show S.bar b = S.dimsOk b.dims by simp [S.bar, hh])
 have hh' := hh
 unfold S.barHead at hh'
 rw [hA.len] at hh'
 simp only [Bool.and_eq_true, decide_eq_true_eq, Bool.not_eq_true'] at hh'
 obtain ⟨⟨⟨⟨⟨h0, h1⟩, h2⟩, h3⟩, h4⟩, h5⟩ := hh'
 have h0' : S.dimsErr b.code = 0 := by unfold S.dimsErr; rw [if_neg (by simpa using h0)]
 have h5' : ((n : Int) != S.dimsOf b.code) = false := by simp [bne, h5]
 clear h0 hh hA
 unfold barV
 go_enter Tryz.func203, Tryz.ntmps203
 go_wp2_with (first
  | (go_at_call 246; (with_reducible refine (dims_any b.code _).mono ?_); rintro e w1 ⟨rfl, hbw1⟩; obtain ⟨hcw1, hfw1⟩ := bcell hbw1; have hzw1_0 : w.heap.size < w1.heap.size := lt_via hbw1 sz)
  | (go_at_call 93; (with_reducible refine (isname_any b.mark _ hmk).mono ?_); rintro e w' ⟨rfl, rfl⟩)
  | (go_at_call 247; (with_reducible refine (ssize_any b.size _).mono ?_); rintro e w2 ⟨rfl, hbw2⟩; obtain ⟨hcw2, hfw2⟩ := bcell hbw2; have hzw2_0 : w.heap.size < w2.heap.size := lt_via hbw2 sz))
 have hbw : Below w.heap.size w w2 := bel
 have hs2 := hs.below (hbw.mono hB)
 go_loop [5, 48] (fun r i => ∃ k : Nat, k <= n /\ i = .int .i64 k /\ r = .int .i64 (262144 - S.sum (b.dims.take k)) /\ 0 <= S.sum (b.dims.take k) /\ S.sum (b.dims.take k) <= 262144 /\ Hid (∀ j (hj : j < b.dims.length), j < k -> 1 <= b.dims[j])) (fun _ i => n - (intOf i).toNat)
 case atStart => exact ⟨0, Nat.zero_le _, rfl, rfl, by simp [S.sum], by simp [S.sum], lh fun j hj hk => absurd hk (by omega)⟩
 case round =>
  obtain ⟨k, hk, rfl, rfl, hs0, hs1, HNO⟩ := hrel
  by_cases hlt : k < n
  ·have hkx : k < b.dims.length := by have := HN.out; omega
   obtain ⟨bb, o, rfl, _, hc⟩ := hs2.at_ (by simp; omega)
   have hck := hc k _ (i64s_get hkx)
   clear hc
   by_cases hbad : b.dims[k] < 1 ∨ 262144 - S.sum (b.dims.take k) < b.dims[k]
   ·have HB := lh (dims_no hkx hbad)
    rcases hbad with h1 | h1
    all_goals
     go_wp2
     go_ret
     exact ⟨ret_b (by rw [HK.out, HB.out]), hbw⟩
   ·obtain ⟨hb1', hb2'⟩ : 1 <= b.dims[k] /\ b.dims[k] <= 262144 - S.sum (b.dims.take k) := by omega
    have ht := sum_snoc (b.dims.take k) b.dims[k]
    rw [<- List.take_succ_eq_append_getElem hkx] at ht
    have HT := lh ht
    clear ht hbad
    go_wp2
    go_round
    case rel =>
     refine ⟨k + 1, by omega, by go_num, vint (by rw [HT.out]; omega), by rw [HT.out]; omega, by rw [HT.out]; omega, lh fun j hj hjk => ?_⟩
     by_cases hjk' : j = k
     ·subst hjk'; omega
     ·exact HNO.out j hj (by omega)
    case measure => simp [intOf]; omega
  ·have he : b.dims.take k = b.dims := List.take_of_length_le (by have := HN.out; omega)
   rw [he] at hs1
   go_wp2
   go_ret
   exact ⟨ret_b (by rw [HK.out, dims_yes (fun j hj => HNO.out j hj (by have := HN.out; omega)) hs1]), hbw⟩
theorem valid_any (b : Bar) (A : Option Addr) (n c : Nat) (B : Nat) (w : World) (hB : B <= w.heap.size) (hA : BarAt w B A n b) :
 Calls Tryz.prog 203 #[barV b A n c] w fun e w' => e = .returned (.bool (S.bar b)) /\ Below w.heap.size w w' := by
 by_cases g0 : S.dimsErr b.code = 0
 ·cases g1 : S.isName b.mark
  ·exact valid_no1 b A n c w hA.len hA.mark g0 g1
  ·cases g2 : S.size b.size
   ·exact valid_no2 b A n c w hA.len hA.mark g0 g1 g2
   ·by_cases g3 : 1 <= b.count
    ·by_cases g4 : b.count <= 1000
     ·cases g5 : ((n : Int) == S.dimsOf b.code)
      ·exact valid_no5 b A n c w hA.len hA.mark g0 g1 g2 g3 g4 g5
      ·refine valid_in b A n c B w hB hA ?_
       have h0 := dimsErr_zero g0
       unfold S.barHead
       rw [hA.len, h0, g1, g2, g5]
       simp [g3, g4]
     ·exact valid_no4 b A n c w hA.len hA.mark g0 g1 g2 g3 (by omega)
    ·exact valid_no3 b A n c w hA.len hA.mark g0 g1 g2 (by omega)
 ·exact valid_no0 b A n c w hA.len hA.mark g0
theorem elemInt : Elem Tryz.prog 108 3 (.int .i64 0) 1 8 := ⟨Tryz.underlying108, by kernel_rfl, rfl, by decide⟩
def S.legLens (b : Bar) : List Int := (S.legsOf b.code).map fun l => b.dims.getD l.1 0
def GivesRow (E size : Nat) (n : Nat) (xs : List Value) (err : Int) (w : World) (e : Ending) (w' : World) : Prop :=
 ∃ A c, e = .returned (.tuple #[.slice A n c, .int .i64 err]) /\ w'.ownsRow w.heap.size E size (.slice A n c) n xs /\ Below w.heap.size w w'
theorem bar_head {b : Bar} (h : S.bar b = true) : (b.dims.length : Int) = S.dimsOf b.code := by
 simp only [S.bar, S.barHead, Bool.and_eq_true, beq_iff_eq] at h
 exact h.1.2
theorem elemPt : Elem Tryz.prog 229 76 (.agg #[.int .i64 0, .int .i64 0, .int .i64 0]) 3 24 := ⟨Tryz.underlying229, by kernel_rfl, rfl, by decide⟩
namespace S
def step (p : Pt) (way : Nat) (n : Int) : Pt :=
 if way = 120 then ⟨p.x + n, p.y, p.z⟩ else if way = 88 then ⟨p.x - n, p.y, p.z⟩ else if way = 121 then ⟨p.x, p.y + n, p.z⟩ else if way = 89 then ⟨p.x, p.y - n, p.z⟩ else if way = 122 then ⟨p.x, p.y, p.z + n⟩ else p
def ptAt (b : Bar) : Nat -> Pt
 | 0 => ⟨0, 0, 0⟩
 | k + 1 => match (legsOf b.code)[k]? with
  | some l => step (ptAt b k) l.2 (b.dims.getD l.1 0)
  | none => ptAt b k
def pathTo (b : Bar) (m : Nat) : List Pt := (List.range m).map (ptAt b)
def path (b : Bar) : List Pt := pathTo b ((legsOf b.code).length + 1)
end S
theorem pathTo_snoc (b : Bar) (m : Nat) : S.pathTo b (m + 1) = S.pathTo b m ++ [S.ptAt b m] := by simp [S.pathTo, List.range_succ]
theorem ptAt_succ (b : Bar) {k : Nat} (hk : k < (S.legsOf b.code).length) (hj : (S.legsOf b.code)[k].1 < b.dims.length) :
 S.ptAt b (k + 1) = S.step (S.ptAt b k) (S.legsOf b.code)[k].2 b.dims[(S.legsOf b.code)[k].1] := by
 simp [S.ptAt, List.getElem?_eq_getElem hk, List.getD_eq_getElem?_getD, List.getElem?_eq_getElem hj]
theorem legs_way (code : Int) {k : Nat} (hk : k < (S.legsOf code).length) : (S.legsOf code)[k].2 = 120 ∨ (S.legsOf code)[k].2 = 88 ∨ (S.legsOf code)[k].2 = 121 ∨ (S.legsOf code)[k].2 = 89 ∨ (S.legsOf code)[k].2 = 122 := by
 have h : ∀ x, x ∈ S.legsOf code -> x.2 = 120 ∨ x.2 = 88 ∨ x.2 = 121 ∨ x.2 = 89 ∨ x.2 = 122 := by
  unfold S.legsOf
  repeat' (split <;> try decide)
 exact h _ (List.getElem_mem hk)
def Within (p : Pt) (R : Int) : Prop := -R <= p.x /\ p.x <= R /\ -R <= p.y /\ p.y <= R /\ -R <= p.z /\ p.z <= R
theorem dim_bd {l : List Int} (h : S.dimsOk l = true) {j : Nat} (hj : j < l.length) : 1 <= l[j] /\ l[j] <= 262144 := by
 obtain ⟨h1, h2⟩ := dimsOk_iff.1 h
 have h3 := h1 _ (List.getElem_mem hj)
 have h4 := sum_take_le h1 (j + 1)
 have h5 := sum_nonneg (l := l.take j) (fun x hx => h1 x (List.mem_of_mem_take hx))
 rw [List.take_succ_eq_append_getElem hj, sum_snoc] at h4
 omega
theorem ptAt_bd (b : Bar) (h : S.dimsOk b.dims = true) (hd : ∀ k (hk : k < (S.legsOf b.code).length), (S.legsOf b.code)[k].1 < b.dims.length) : ∀ k, Within (S.ptAt b k) (262144 * (k : Int)) := by
 intro k
 induction k with
 | zero => simp [Within, S.ptAt]
 | succ k ih =>
  by_cases hk : k < (S.legsOf b.code).length
  ·rw [ptAt_succ b hk (hd k hk)]
   have hb := dim_bd h (hd k hk)
   unfold Within at ih ⊢
   unfold S.step
   repeat' (split <;> try (simp only []; omega))
   all_goals omega
  ·have : S.ptAt b (k + 1) = S.ptAt b k := by simp [S.ptAt, List.getElem?_eq_none (Nat.le_of_not_lt hk)]
   rw [this]
   unfold Within at ih ⊢
   omega
structure BarR where
 b : Bar
 A : Option Addr
 n : Nat
 c : Nat
abbrev barC (r : BarR) : List Value := [.string r.b.mark, .int .i64 r.b.size, .int .i64 r.b.count, .int .i64 r.b.code, .slice r.A r.n r.c]
theorem barC_len (r : BarR) : (barC r).length = 5 := rfl
abbrev bars (l : List BarR) : List Bar := l.map BarR.b
structure BarsAt (w : World) (B : Nat) (A : Option Addr) (n : Nat) (l : List BarR) : Prop where
 len : l.length = n
 max : n <= 9223372036854775807
 cells : Cells w B A (l.flatMap barC)
 each : ∀ r, r ∈ l -> BarAt w B r.A r.n r.b
theorem BarsAt.below {w w' : World} {B : Nat} {A : Option Addr} {n : Nat} {l : List BarR} (h : BarsAt w B A n l) (hb : Below B w w') : BarsAt w' B A n l := ⟨h.len, h.max, h.cells.below hb, fun r hr => (h.each r hr).below hb⟩
theorem BarsAt.at_ {w w' : World} {B : Nat} {A : Option Addr} {n : Nat} {l : List BarR} (h : BarsAt w B A n l) (hB : B <= w.heap.size) (hb : Below w.heap.size w w') : BarsAt w' B A n l := h.below (hb.mono hB)
def AsksR (w : World) (F : Nat) (fst cap : Array Value) (p : BarR -> Bool) : Prop :=
 ∀ (x : BarR) (w' : World), Below w.heap.size w w' -> Calls Tryz.prog F (fst.push (barV x.b x.A x.n x.c) ++ cap) w' fun e w'' => e = .returned (.bool (p x)) /\ Below w'.heap.size w' w''
theorem indexfR_any (F : Nat) (fst cap : Array Value) (p : BarR -> Bool) (A : Option Addr) (n c : Nat) (xs : List BarR) (B : Nat) (w : World) (hn : xs.length = n) (hm : n <= 9223372036854775807) (hB : B <= w.heap.size)
 (hs : Cells w B A (xs.flatMap barC)) (hF : ∀ args w, Sem.run Tryz.prog (callFunc F args) w = .ok (.enter F args) w) (hf : AsksR w F fst cap p) :
 Calls Tryz.prog 227 #[.slice A n c, .func (.func F) fst cap] w fun e w' => e = .returned (.int .i64 (idxf xs p)) /\ Below w.heap.size w w' := by
 have HN := lh hn
 clear hn
 go_enter Tryz.func227, Tryz.ntmps227
 go_wp2
 go_loopw [8] (fun i wr => ∃ k : Nat, k <= n /\ i = .int .i64 k /\ (∀ j (h : j < xs.length), j < k -> p xs[j] = false) /\ Below w.heap.size w wr) (fun i _ => n - (intOf i).toNat)
 case atStart => exact ⟨0, Nat.zero_le _, rfl, fun j _ hj => absurd hj (by omega), Below.refl _ _⟩
 case round =>
  obtain ⟨k, hk, rfl, hno, hbr⟩ := hrel
  have HNO := lh hno
  clear hno
  by_cases hlt : k < n
  ·have hkx : k < xs.length := by have := HN.out; omega
   have hs' := hs.below (hbr.mono hB)
   obtain ⟨b, o, rfl, _, _⟩ := hs'.at_ (by rw [flat_len barC 5 barC_len]; omega)
   have c0 := hs'.row0 barC_len hkx rfl
   have c1 := hs'.rowj barC_len hkx 1 rfl
   have c2 := hs'.rowj barC_len hkx 2 rfl
   have c3 := hs'.rowj barC_len hkx 3 rfl
   have c4 := hs'.rowj barC_len hkx 4 rfl
   by_cases hx : p xs[k] = true
   ·go_wp2_with (refine (hf _ _ hbr).mono ?_; rintro e w1 ⟨rfl, hb1⟩)
    go_ret
    exact ⟨ret_i (idxf_hit hkx hx HNO.out).symm, hbr.trans (hb1.mono hbr.size)⟩
   ·have hx' : p xs[k] = false := by simpa using hx
    clear hx
    go_wp2_with (refine (hf _ _ hbr).mono ?_; rintro e w1 ⟨rfl, hb1⟩)
    go_roundw
    case rel =>
     refine ⟨k + 1, by omega, by go_num, fun j hj hjk => ?_, hbr.trans (hb1.mono hbr.size)⟩
     by_cases hjk' : j = k
     ·subst hjk'; exact hx'
     ·exact HNO.out j hj (by omega)
    case measure => simp [intOf]; omega
  ·go_wp2
   go_ret
   exact ⟨ret_i (idxf_miss (fun j hj => HNO.out j hj (by have := HN.out; omega))).symm, hbr⟩
def S.isMark (m : ByteArray) (b : Bar) : Bool := b.mark.toList == m.toList
def S.index (l : List Bar) (m : ByteArray) : Int := idxf l (S.isMark m)
theorem idxf_map {α β : Type} (f : α -> β) (p : β -> Bool) (l : List α) : idxf (l.map f) p = idxf l (fun x => p (f x)) := by
 unfold idxf
 rw [List.findIdx?_map]
 rfl
theorem smark_any (m : ByteArray) (r : BarR) (g : Nat) (w : World) (hc : w.cell? ⟨g, 0, none⟩ = some (.string m)) (hg : g < w.heap.size) :
 Calls Tryz.prog 248 #[barV r.b r.A r.n r.c, .pointer (some ⟨g, 0, none⟩)] w fun e w' => e = .returned (.bool (S.isMark m r.b)) /\ Below w.heap.size w w' := by
 unfold barV
 go_enter Tryz.func248, Tryz.ntmps248
 go_wp2
 go_ret
 exact ⟨rfl, bel⟩
theorem lmark_any (m : ByteArray) (r : BarR) (g : Nat) (w : World) (hc : w.cell? ⟨g, 0, none⟩ = some (.string m)) (hg : g < w.heap.size) :
 Calls Tryz.prog 249 #[barV r.b r.A r.n r.c, .pointer (some ⟨g, 0, none⟩)] w fun e w' => e = .returned (.bool (S.isMark m r.b)) /\ Below w.heap.size w w' := by
 unfold barV
 go_enter Tryz.func249, Tryz.ntmps249
 go_wp2
 go_ret
 exact ⟨rfl, bel⟩
theorem sindex_any (l : List BarR) (m : ByteArray) (A : Option Addr) (n c : Nat) (B : Nat) (w : World) (hB : B <= w.heap.size) (hA : BarsAt w B A n l) :
 Calls Tryz.prog 204 #[.slice A n c, .string m] w fun e w' => e = .returned (.int .i64 (S.index (bars l) m)) /\ Below w.heap.size w w' := by
 have HA := lh hA
 have HI := lh (show S.index (bars l) m = idxf l (fun x => S.isMark m x.b) from idxf_map _ _ _)
 have hf : AsksR (w.alloc (.cells #[.string m] 9)) 248 #[] #[.pointer (some ⟨w.heap.size, 0, none⟩)] (fun x => S.isMark m x.b) := fun x w' hb => smark_any m x w.heap.size w' ((hb.cell (p := ⟨w.heap.size, 0, none⟩) (by simp)).trans (by simp)) (Nat.lt_of_lt_of_le (by simp) hb.size)
 have HF := lh Tryz.call248
 have HX := lh (indexfR_any 248 #[] #[.pointer (some ⟨w.heap.size, 0, none⟩)] (fun x => S.isMark m x.b) A n c l B (w.alloc (.cells #[.string m] 9)) HA.out.len HA.out.max (by simp; omega) (HA.out.cells.alloc hB _) HF.out hf)
 clear hA hf
 go_enter Tryz.func204, Tryz.ntmps204
 go_wp2_with (go_at_call 227; (with_reducible refine (HX.out).mono ?_); rintro e w1 ⟨rfl, hbw1⟩; obtain ⟨hcw1, hfw1⟩ := bcell hbw1)
 go_ret
 exact ⟨ret_i HI.out.symm, bel⟩
theorem lfind_any (l : List BarR) (m : ByteArray) (A : Option Addr) (n c : Nat) (B : Nat) (w : World) (hB : B <= w.heap.size) (hA : BarsAt w B A n l) :
 Calls Tryz.prog 205 #[.slice A n c, .string m] w fun e w' => e = .returned (.int .i64 (S.index (bars l) m)) /\ Below w.heap.size w w' := by
 have HA := lh hA
 have HI := lh (show S.index (bars l) m = idxf l (fun x => S.isMark m x.b) from idxf_map _ _ _)
 have hf : AsksR (w.alloc (.cells #[.string m] 9)) 249 #[] #[.pointer (some ⟨w.heap.size, 0, none⟩)] (fun x => S.isMark m x.b) := fun x w' hb => lmark_any m x w.heap.size w' ((hb.cell (p := ⟨w.heap.size, 0, none⟩) (by simp)).trans (by simp)) (Nat.lt_of_lt_of_le (by simp) hb.size)
 have HF := lh Tryz.call249
 have HX := lh (indexfR_any 249 #[] #[.pointer (some ⟨w.heap.size, 0, none⟩)] (fun x => S.isMark m x.b) A n c l B (w.alloc (.cells #[.string m] 9)) HA.out.len HA.out.max (by simp; omega) (HA.out.cells.alloc hB _) HF.out hf)
 clear hA hf
 go_enter Tryz.func205, Tryz.ntmps205
 go_wp2_with (go_at_call 227; (with_reducible refine (HX.out).mono ?_); rintro e w1 ⟨rfl, hbw1⟩; obtain ⟨hcw1, hfw1⟩ := bcell hbw1)
 go_ret
 exact ⟨ret_i HI.out.symm, bel⟩
def S.schedAt (l : List Bar) (i : Nat) : Bool := match l[i]? with | some b => S.bar b && decide (S.index l b.mark = (i : Int)) | none => true
def S.sched (l : List Bar) : Bool := decide (l.length <= 60) && (List.range l.length).all (S.schedAt l)
theorem sched_no {l : List Bar} {k : Nat} (hk : k < l.length) (h : S.schedAt l k = false) : S.sched l = false := by
 unfold S.sched
 rw [Bool.and_eq_false_iff]
 right
 rw [List.all_eq_false]
 exact ⟨k, by simpa using hk, by simp [h]⟩
theorem sched_yes {l : List Bar} (hl : l.length <= 60) (h : ∀ j, j < l.length -> S.schedAt l j = true) : S.sched l = true := by
 unfold S.sched
 rw [Bool.and_eq_true, List.all_eq_true]
 exact ⟨by simpa using hl, fun x hx => h x (by simpa using hx)⟩
theorem schedAt_eq {l : List Bar} {k : Nat} {b : Bar} (hb : l[k]? = some b) : S.schedAt l k = (S.bar b && decide (S.index l b.mark = (k : Int))) := by
 unfold S.schedAt; rw [hb]
theorem sched_bar {l : List Bar} (h : S.sched l = true) {k : Nat} {b : Bar} (hb : l[k]? = some b) : S.bar b = true /\ S.index l b.mark = (k : Int) := by
 simp only [S.sched, Bool.and_eq_true, List.all_eq_true] at h
 have := h.2 k (by simpa using (List.getElem?_eq_some_iff.1 hb).1)
 rw [schedAt_eq hb, Bool.and_eq_true, decide_eq_true_eq] at this
 exact this
theorem index_bd (l : List Bar) (m : ByteArray) : -1 <= S.index l m /\ S.index l m < l.length := by
 unfold S.index idxf
 split
 ·rename_i k hk
  obtain ⟨h1, _⟩ := List.findIdx?_eq_some_iff_getElem.1 hk
  omega
 ·omega
set_option maxHeartbeats 1000000 in
theorem sched_any (l : List BarR) (A : Option Addr) (n c : Nat) (B : Nat) (w : World) (hB : B <= w.heap.size) (hA : BarsAt w B A n l) :
 Calls Tryz.prog 156 #[.slice A n c] w fun e w' => e = .returned (.bool (S.sched (bars l))) /\ Below w.heap.size w w' := by
 have HA := lh hA
 have hL : (bars l).length = n := by simpa using hA.len
 have HL := lh hL
 clear hA
 by_cases h60 : 60 < n
 ·have HS := lh (show S.sched (bars l) = false from by unfold S.sched; rw [hL]; simp; omega)
  clear hL
  go_enter Tryz.func156, Tryz.ntmps156
  go_wp2
  go_ret
  exact ⟨ret_b HS.out.symm, bel⟩
 clear hL
 go_enter Tryz.func156, Tryz.ntmps156
 go_wp2
 go_loopw [10] (fun i wr => ∃ k : Nat, k <= n /\ i = .int .i64 k /\ (∀ j, j < k -> S.schedAt (bars l) j = true) /\ Below w.heap.size w wr) (fun i _ => n - (intOf i).toNat)
 case atStart => exact ⟨0, Nat.zero_le _, rfl, fun j hj => absurd hj (by omega), Below.refl _ _⟩
 case round =>
  obtain ⟨k, hk, rfl, hno, hbr⟩ := hrel
  have HNO := lh hno
  clear hno
  by_cases hlt : k < n
  ·have hkx : k < l.length := by have := HA.out.len; omega
   have hkb : k < (bars l).length := by have := HL.out; omega
   have hwr : B <= wr.heap.size := by have := hbr.size; omega
   have hA' := HA.out.at_ hB hbr
   have HA' := lh hA'
   have hs' := hA'.cells
   have HE := lh (hA'.each l[k] (List.getElem_mem hkx))
   obtain ⟨b, o, hAe, _, _⟩ := hs'.at_ (by rw [flat_len barC 5 barC_len]; omega)
   subst hAe
   have c0 := hs'.row0 barC_len hkx rfl
   have c1 := hs'.rowj barC_len hkx 1 rfl
   have c2 := hs'.rowj barC_len hkx 2 rfl
   have c3 := hs'.rowj barC_len hkx 3 rfl
   have c4 := hs'.rowj barC_len hkx 4 rfl
   have HAT := lh (schedAt_eq (l := bars l) (k := k) (b := l[k].b) (by simp [hkx]))
   have HNS := lh (fun h => sched_no (l := bars l) hkb h)
   have HIX := lh (fun (W : World) (hw : B <= W.heap.size) (hh : BarsAt W B (some ⟨b, o, none⟩) n l) => sindex_any l l[k].b.mark (some ⟨b, o, none⟩) n c B W hw hh)
   have HVX := lh (fun (W : World) (hw : B <= W.heap.size) (hh : BarAt W B l[k].A l[k].n l[k].b) => valid_any l[k].b l[k].A l[k].n l[k].c B W hw hh)
   have hb2 := index_bd (bars l) l[k].b.mark
   clear hA' hs'
   unfold barV at HVX
   generalize S.index (bars l) l[k].b.mark = j at *
   generalize S.bar l[k].b = t at *
   generalize l[k] = r at *
   cases t
   ·go_wp2_with (first
     | (go_at_call 203; (with_reducible refine (HVX.out _ (by simp; omega) (HE.out.below ((Below.refl B wr).alloc hwr _))).mono ?_); rintro e w1 ⟨rfl, hbw1⟩; obtain ⟨hcw1, hfw1⟩ := bcell hbw1; have hyw1_0 : wr.heap.size < w1.heap.size := lt_via hbw1 sz))
    go_ret
    exact ⟨ret_b (HNS.out (by rw [HAT.out]; simp)).symm, bel⟩
   ·by_cases hj : j = (k : Int)
    ·go_wp2_with (first
      | (go_at_call 203; (with_reducible refine (HVX.out _ (by simp; omega) (HE.out.below ((Below.refl B wr).alloc hwr _))).mono ?_); rintro e w1 ⟨rfl, hbw1⟩; obtain ⟨hcw1, hfw1⟩ := bcell hbw1; have hyw1_0 : wr.heap.size < w1.heap.size := lt_via hbw1 sz)
      | (go_at_call 204; (with_reducible refine (HIX.out _ (by omega) (HA'.out.below (((Below.refl B wr).alloc hwr _).trans (hbw1.mono (by simp; omega))))).mono ?_); rintro e w2 ⟨rfl, hbw2⟩; obtain ⟨hcw2, hfw2⟩ := bcell hbw2; have hyw2_0 : wr.heap.size < w2.heap.size := lt_via hbw2 sz))
     go_roundw
     case rel =>
      refine ⟨k + 1, by omega, by go_num, fun j' hj' => ?_, bel⟩
      by_cases hjk : j' = k
      ·subst hjk; rw [HAT.out]; simp [hj]
      ·exact HNO.out j' (by omega)
     case measure => simp [intOf]; omega
    ·go_wp2_with (first
      | (go_at_call 203; (with_reducible refine (HVX.out _ (by simp; omega) (HE.out.below ((Below.refl B wr).alloc hwr _))).mono ?_); rintro e w1 ⟨rfl, hbw1⟩; obtain ⟨hcw1, hfw1⟩ := bcell hbw1; have hyw1_0 : wr.heap.size < w1.heap.size := lt_via hbw1 sz)
      | (go_at_call 204; (with_reducible refine (HIX.out _ (by omega) (HA'.out.below (((Below.refl B wr).alloc hwr _).trans (hbw1.mono (by simp; omega))))).mono ?_); rintro e w2 ⟨rfl, hbw2⟩; obtain ⟨hcw2, hfw2⟩ := bcell hbw2; have hyw2_0 : wr.heap.size < w2.heap.size := lt_via hbw2 sz))
     go_ret
     exact ⟨ret_b (HNS.out (by rw [HAT.out]; simp [hj])).symm, bel⟩
  ·go_wp2
   go_ret
   exact ⟨ret_b (sched_yes (by have := HL.out; omega) (fun j hj => HNO.out j (by have := HL.out; omega))).symm, hbr⟩
def S.findErr (l : List Bar) (m : ByteArray) : Int := if S.sched l = false then 1 else if S.index l m < 0 then 9 else 0
def S.findIx (l : List Bar) (m : ByteArray) : Int := if S.findErr l m = 0 then S.index l m else 0
theorem sfind_any (l : List BarR) (m : ByteArray) (A : Option Addr) (n c : Nat) (B : Nat) (w : World) (hB : B <= w.heap.size) (hA : BarsAt w B A n l) :
 Calls Tryz.prog 161 #[.slice A n c, .string m] w fun e w' => e = .returned (.tuple #[.int .i64 (S.findIx (bars l) m), .int .i64 (S.findErr (bars l) m)]) /\ Below w.heap.size w w' := by
 have HA := lh hA
 have HE := lh (show S.findErr (bars l) m = if S.sched (bars l) = false then 1 else if S.index (bars l) m < 0 then 9 else 0 from rfl)
 have HF := lh (show S.findIx (bars l) m = if S.findErr (bars l) m = 0 then S.index (bars l) m else 0 from rfl)
 have HV := lh (sched_any l A n c B w hB hA)
 have HI := lh (fun (W : World) (hw : B <= W.heap.size) (hh : BarsAt W B A n l) => sindex_any l m A n c B W hw hh)
 clear hA
 generalize S.sched (bars l) = t at *
 generalize S.index (bars l) m = j at *
 cases t
 ·go_enter Tryz.func161, Tryz.ntmps161
  go_wp2_with (first
   | (go_at_call 156; (with_reducible refine (HV.out).mono ?_); rintro e w1 ⟨rfl, hbw1⟩; obtain ⟨hcw1, hfw1⟩ := bcell hbw1))
  go_ret2
  exact ⟨by rw [HF.out, HE.out]; rfl, bel⟩
 ·by_cases hj : j < 0
  ·go_enter Tryz.func161, Tryz.ntmps161
   go_wp2_with (first
    | (go_at_call 156; (with_reducible refine (HV.out).mono ?_); rintro e w1 ⟨rfl, hbw1⟩; obtain ⟨hcw1, hfw1⟩ := bcell hbw1)
    | (go_at_call 204; (with_reducible refine (HI.out _ (by have := hbw1.size; omega) (HA.out.at_ hB hbw1)).mono ?_); rintro e w2 ⟨rfl, hbw2⟩; obtain ⟨hcw2, hfw2⟩ := bcell hbw2))
   go_ret2
   exact ⟨by rw [HF.out, HE.out]; simp [hj], bel⟩
  ·go_enter Tryz.func161, Tryz.ntmps161
   go_wp2_with (first
    | (go_at_call 156; (with_reducible refine (HV.out).mono ?_); rintro e w1 ⟨rfl, hbw1⟩; obtain ⟨hcw1, hfw1⟩ := bcell hbw1)
    | (go_at_call 204; (with_reducible refine (HI.out _ (by have := hbw1.size; omega) (HA.out.at_ hB hbw1)).mono ?_); rintro e w2 ⟨rfl, hbw2⟩; obtain ⟨hcw2, hfw2⟩ := bcell hbw2))
   go_ret2
   exact ⟨by rw [HF.out, HE.out]; simp [hj], bel⟩
end Go.Proofs.YtmfpbafpnoomeaaGreat
