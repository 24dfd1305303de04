/- Contracts: laid.right for a valid schedule, laid.Valid. The main legs of laid bars as plain data; what holds of a valid run (no walk). Details as arguments: where they lie. -/
import Derived.Test.YtnmolefblaahmaaGreatMM
import Derived.Test.YtnmolefblaahmaaGreatMF
set_option linter.unusedVariables false
set_option linter.unusedSimpArgs false
namespace Go.Proofs.YtnmolefblaahmaaGreat
open Go.RowKit
theorem right_any (l : List BarR) (r : Rn) (A : Option Addr) (n c : Nat) (B : Nat) (w : World) (hB : B ≤ w.heap.size) (hA : BarsAt w B A n l) (hs : S.sched (bars l) = true) :
 Calls Tryz.prog 94 #[.slice A n c, rnV r] w fun e w' => e = .returned (.bool (S.right (bars l) r)) ∧ Below w.heap.size w w' := by
 by_cases h : S.rightHead (bars l) r = true
 ·by_cases h' : S.rightStep r = true
  ·obtain ⟨⟨h0, _⟩, _⟩ := rightHead_out h
   have hb := (index_bd (bars l) r.mark).2
   obtain ⟨k, hk⟩ : ∃ k : Nat, S.index (bars l) r.mark = (k : Int) := ⟨(S.index (bars l) r.mark).toNat, by omega⟩
   have hkl : k < l.length := by rw [hk] at hb; simpa using hb
   have e : S.right (bars l) r = S.rightPts l[k].b r := by
    have : S.barAt (bars l) r.mark = some l[k].b := by
     unfold S.barAt
     rw [hk]
     simp [hkl]
    unfold S.right
    rw [h, h', this]
    rfl
   rw [e]
   exact right_in l r k l[k] A n c B w hB hA h h' hk (List.getElem?_eq_getElem hkl) (sched_bar hs (k := k) (by simp [hkl])).1
  ·have h2 : S.rightStep r = false := by simpa using h'
   have e : S.right (bars l) r = false := by unfold S.right; rw [h2]; simp
   rw [e]
   exact right_no1 l r A n c B w hB hA h h2
 ·have h2 : S.rightHead (bars l) r = false := by simpa using h
  have e : S.right (bars l) r = false := by unfold S.right; rw [h2]; simp
  rw [e]
  exact right_no0 l r A n c B w hB hA h2
theorem right_count {l : List Bar} {r : Rn} (h : S.right l r = true) : 1 ≤ r.count ∧ r.count ≤ 1000 := by
 have h1 : S.rightHead l r = true := by
  unfold S.right at h
  rw [Bool.and_eq_true, Bool.and_eq_true] at h
  exact h.1.1
 have := (rightHead_out h1).2
 omega
structure RunsAt (w : World) (B : Nat) (A : Option Addr) (n : Nat) (l : List Rn) : Prop where
 len : l.length = n
 max : n ≤ 9223372036854775807
 cells : Cells w B A (l.flatMap rnC)
theorem RunsAt.at_ {w w' : World} {B : Nat} {A : Option Addr} {n : Nat} {l : List Rn} (h : RunsAt w B A n l) (hB : B ≤ w.heap.size) (hb : Below w.heap.size w w') : RunsAt w' B A n l := ⟨h.len, h.max, h.cells.below (hb.mono hB)⟩
def S.runsOk (bs : List Bar) : Int → List Rn → Bool
 | _, [] => true
 | rest, r :: rs => S.right bs r && decide (r.count ≤ rest) && S.runsOk bs (rest - r.count) rs
def S.laid (bs : List Bar) (rs : List Rn) : Bool := S.sched bs && decide (rs.length ≤ 60) && S.runsOk bs 2000 rs
set_option maxHeartbeats 1000000 in
theorem laid_any (l : List BarR) (rs : List Rn) (A : Option Addr) (n c : Nat) (A' : Option Addr) (n' c' : Nat) (B : Nat) (w : World) (hB : B ≤ w.heap.size) (hA : BarsAt w B A n l) (hR : RunsAt w B A' n' rs) :
 Calls Tryz.prog 61 #[.slice A n c, .slice A' n' c'] w fun e w' => e = .returned (.bool (S.laid (bars l) rs)) ∧ Below w.heap.size w w' := by
 have HA := Lib.hid hA
 have HR := Lib.hid hR
 have HS := Lib.hid (fun (W : World) (hw : B ≤ W.heap.size) (hh : BarsAt W B A n l) => sched_any l A n c B W hw hh)
 have HL := Lib.hid (show S.laid (bars l) rs = (S.sched (bars l) && decide (n' ≤ 60) && S.runsOk (bars l) 2000 rs) by unfold S.laid; rw [hR.len])
 by_cases hs : S.sched (bars l) = true
 rotate_left
 ·have hs' : S.sched (bars l) = false := by simpa using hs
  rw [hs'] at HS HL
  clear hA hR hs hs'
  go_enter Tryz.func61, Tryz.ntmps61
  go_wp2_with (first
   | (go_at_call 93; (with_reducible refine (HS.out _ hB HA.out).mono ?_); rintro e w1 ⟨rfl, hbw1⟩; obtain ⟨hcw1, hfw1⟩ := bcell hbw1))
  go_ret
  exact ⟨ret_b (by rw [HL.out]; rfl), bel⟩
 rw [hs] at HS HL
 have HRI := Lib.hid (fun (r : Rn) (W : World) (hw : B ≤ W.heap.size) (hh : BarsAt W B A n l) => right_any l r A n c B W hw hh hs)
 have HC := Lib.hid (fun (r : Rn) (h : S.right (bars l) r = true) => right_count h)
 unfold rnV at HRI
 by_cases h60 : 60 < n'
 ·have e : decide (n' ≤ 60) = false := by simpa using h60
  rw [e] at HL
  clear hA hR hs e
  go_enter Tryz.func61, Tryz.ntmps61
  go_wp2_with (first
   | (go_at_call 93; (with_reducible refine (HS.out _ hB HA.out).mono ?_); rintro e w1 ⟨rfl, hbw1⟩; obtain ⟨hcw1, hfw1⟩ := bcell hbw1))
  go_ret
  exact ⟨ret_b (by rw [HL.out]; rfl), bel⟩
 have e : decide (n' ≤ 60) = true := by simp; omega
 rw [e] at HL
 clear hA hR hs e
 go_enter Tryz.func61, Tryz.ntmps61
 go_wp2_with (first
  | (go_at_call 93; (with_reducible refine (HS.out _ hB HA.out).mono ?_); rintro e w1 ⟨rfl, hbw1⟩; obtain ⟨hcw1, hfw1⟩ := bcell hbw1))
 go_loopw [5, 18] (fun v i wr => ∃ (k : Nat) (rest : Int), k ≤ n' ∧ i = .int .i64 k ∧ v = .int .i64 rest ∧ 0 ≤ rest ∧ rest ≤ 2000 ∧ S.runsOk (bars l) 2000 rs = S.runsOk (bars l) rest (rs.drop k) ∧ Below w1.heap.size w1 wr) (fun _ i _ => n' - (intOf i).toNat)
 case atStart => exact ⟨0, 2000, Nat.zero_le _, rfl, rfl, by omega, by omega, rfl, Below.refl _ _⟩
 case round =>
  obtain ⟨k, rest, hk, rfl, rfl, hr0, hr1, hok, hbr⟩ := hrel
  have HOK := Lib.hid hok
  clear hok
  have hbwr : Below w.heap.size w wr := hbw1.trans (hbr.mono hbw1.size)
  have hwr : B ≤ wr.heap.size := by have := hbwr.size; omega
  by_cases hlt : k < n'
  ·have hkx : k < rs.length := by have := HR.out.len; omega
   have HA' := Lib.hid (HA.out.at_ hB hbwr)
   have hs' := (HR.out.at_ hB hbwr).cells
   obtain ⟨b, o, hAe, _, _⟩ := hs'.at_ (by rw [flat_len rnC 10 rnC_len]; omega)
   subst hAe
   have c0 := hs'.row0 rnC_len hkx rfl
   have c1 := hs'.rowj rnC_len hkx 1 rfl
   have c2 := hs'.rowj rnC_len hkx 2 rfl
   have c3 := hs'.rowj rnC_len hkx 3 rfl
   have c4 := hs'.rowj rnC_len hkx 4 rfl
   have c5 := hs'.rowj rnC_len hkx 5 rfl
   have c6 := hs'.rowj rnC_len hkx 6 rfl
   have c7 := hs'.rowj rnC_len hkx 7 rfl
   have c8 := hs'.rowj rnC_len hkx 8 rfl
   have c9 := hs'.rowj rnC_len hkx 9 rfl
   have HO2 := Lib.hid (show S.runsOk (bars l) rest (rs.drop k) = (S.right (bars l) rs[k] && decide (rs[k].count ≤ rest) && S.runsOk (bars l) (rest - rs[k].count) (rs.drop (k + 1))) by rw [List.drop_eq_getElem_cons hkx]; rfl)
   have HRX := Lib.hid (fun (W : World) (hw : B ≤ W.heap.size) (hh : BarsAt W B A n l) => HRI.out rs[k] W hw hh)
   have HCX := Lib.hid (HC.out rs[k])
   clear hs'
   generalize S.right (bars l) rs[k] = t at *
   generalize rs[k] = r at *
   cases t
   ·go_wp2_with (first
     | (go_at_call 94; (with_reducible refine (HRX.out _ (by simp; omega) (HA'.out.below ((Below.refl B wr).alloc hwr _))).mono ?_); rintro e w2 ⟨rfl, hbw2⟩; obtain ⟨hcw2, hfw2⟩ := bcell hbw2; have hyw2_0 : wr.heap.size < w2.heap.size := lt_via hbw2 sz))
    go_ret
    exact ⟨ret_b (by rw [HL.out, HOK.out, HO2.out]; rfl), hbwr.trans (Below.mono bel hbwr.size)⟩
   ·have hcn := HCX.out rfl
    by_cases hcr : rest < r.count
    ·go_wp2_with (first
      | (go_at_call 94; (with_reducible refine (HRX.out _ (by simp; omega) (HA'.out.below ((Below.refl B wr).alloc hwr _))).mono ?_); rintro e w2 ⟨rfl, hbw2⟩; obtain ⟨hcw2, hfw2⟩ := bcell hbw2; have hyw2_0 : wr.heap.size < w2.heap.size := lt_via hbw2 sz))
     go_ret
     exact ⟨ret_b (by rw [HL.out, HOK.out, HO2.out]; simp; omega), hbwr.trans (Below.mono bel hbwr.size)⟩
    ·have HO3 := Lib.hid (show S.runsOk (bars l) 2000 rs = S.runsOk (bars l) (rest - r.count) (rs.drop (k + 1)) by
      rw [HOK.out, HO2.out, decide_eq_true (show r.count ≤ rest by omega)]; rfl)
     go_wp2_with (first
      | (go_at_call 94; (with_reducible refine (HRX.out _ (by simp; omega) (HA'.out.below ((Below.refl B wr).alloc hwr _))).mono ?_); rintro e w2 ⟨rfl, hbw2⟩; obtain ⟨hcw2, hfw2⟩ := bcell hbw2; have hyw2_0 : wr.heap.size < w2.heap.size := lt_via hbw2 sz))
     go_roundw
     case rel => exact ⟨k + 1, rest - r.count, by omega, by go_num, by go_num, by omega, by omega, HO3.out, hbr.trans (Below.mono bel hbr.size)⟩
     case measure => simp [intOf]; omega
  ·have he : rs.drop k = [] := List.drop_eq_nil_of_le (by have := HR.out.len; omega)
   rw [he] at HOK
   clear he
   go_wp2
   go_ret
   exact ⟨ret_b (by rw [HL.out, HOK.out]; rfl), hbwr⟩
structure Mn where
 leg : Bx
 has : Bool
 size : Int
 mark : ByteArray
abbrev mnC (m : Mn) : List Value := [.int .i64 m.leg.lo.x, .int .i64 m.leg.lo.y, .int .i64 m.leg.lo.z, .int .i64 m.leg.hi.x, .int .i64 m.leg.hi.y, .int .i64 m.leg.hi.z, .bool m.has, .int .i64 m.size, .string m.mark]
theorem mnC_len (m : Mn) : (mnC m).length = 9 := rfl
theorem elemMn : Elem Tryz.prog 134 232 (.agg #[.int .i64 0, .int .i64 0, .int .i64 0, .int .i64 0, .int .i64 0, .int .i64 0, .bool false, .int .i64 0, .string ⟨#[]⟩]) 9 80 := ⟨Tryz.underlying134, by kernel_rfl, rfl, by decide⟩
namespace S
def isMain (p q : Pt) : Bool := (p.x != q.x) && decide (p.y = q.y) && decide (p.z = q.z)
def legBx (p q : Pt) : Bx := ⟨⟨S.lmn p.x q.x, p.y, p.z⟩, ⟨S.lmx p.x q.x, p.y, p.z⟩⟩
def mainTo (l : List Pt) : Nat → Option Bx
 | 0 => none
 | i + 1 => match mainTo l i with
  | some b => some b
  | none => match l[i]?, l[i + 1]? with
   | some p, some q => if isMain p q then some (legBx p q) else none
   | _, _ => none
def mainLeg (l : List Pt) : Option Bx := mainTo l (l.length - 1)
def mnOf (size : Int) (mark : ByteArray) (o : Option Bx) : Mn := match o with
 | some b => ⟨b, true, size, mark⟩
 | none => ⟨⟨⟨0, 0, 0⟩, ⟨0, 0, 0⟩⟩, false, size, mark⟩
def laidPath (b : Bar) (r : Rn) (n : Nat) : List Pt := (S.path b).map (S.placed r.tx r.ty (S.plus r.at_ r.step n))
def mainsOf (b : Bar) (r : Rn) (m : Nat) : List Mn := (List.range m).map fun n => mnOf b.size b.mark (mainLeg (laidPath b r n))
def mains (bs : List Bar) (rs : List Rn) : List Mn := rs.flatMap fun r => match S.barAt bs r.mark with | some b => mainsOf b r r.count.toNat | none => []
end S
theorem mainTo_succ {l : List Pt} {i : Nat} (h : S.mainTo l i = none) {p q : Pt} (hp : l[i]? = some p) (hq : l[i + 1]? = some q) : S.mainTo l (i + 1) = if S.isMain p q then some (S.legBx p q) else none := by
 simp [S.mainTo, h, hp, hq]
theorem mainTo_stay {l : List Pt} {i : Nat} {b : Bx} (h : S.mainTo l i = some b) : ∀ j, i ≤ j → S.mainTo l j = some b := by
 intro j
 induction j with
 | zero => intro hj; obtain rfl : i = 0 := by omega
           exact h
 | succ j ih =>
  intro hj
  by_cases e : i = j + 1
  ·subst e; exact h
  ·have := ih (by omega)
   simp [S.mainTo, this]
theorem mainsOf_snoc (b : Bar) (r : Rn) (m : Nat) : S.mainsOf b r (m + 1) = S.mainsOf b r m ++ [S.mnOf b.size b.mark (S.mainLeg (S.laidPath b r m))] := by simp [S.mainsOf, List.range_succ]
theorem mainsOf_len (b : Bar) (r : Rn) (m : Nat) : (S.mainsOf b r m).length = m := by simp [S.mainsOf]
theorem mains_snoc (bs : List Bar) (rs : List Rn) {k : Nat} (hk : k < rs.length) {b : Bar} (hb : S.barAt bs rs[k].mark = some b) : S.mains bs (rs.take (k + 1)) = S.mains bs (rs.take k) ++ S.mainsOf b rs[k] rs[k].count.toNat := by
 unfold S.mains
 rw [List.take_succ_eq_append_getElem hk, List.flatMap_append]
 simp [hb]
theorem mains_le {bs : List Bar} : ∀ {rs : List Rn} {rest : Int} {k : Nat} (_ : S.runsOk bs rest rs = true) (hk : k < rs.length), ((S.mains bs (rs.take k)).length : Int) + rs[k].count ≤ rest := by
 intro rs
 induction rs with
 | nil => intro rest k _ hk; simp at hk
 | cons r rs ih =>
  intro rest k h hk
  simp only [S.runsOk, Bool.and_eq_true, decide_eq_true_eq] at h
  cases k with
  | zero => simpa [S.mains] using h.1.2
  | succ k =>
   have h1 := ih h.2 (k := k) (by simpa using hk)
   have hc := right_count h.1.1
   have h2 : (S.mains bs ((r :: rs).take (k + 1))).length ≤ r.count.toNat + (S.mains bs (rs.take k)).length := by
    unfold S.mains
    rw [List.take_succ_cons, List.flatMap_cons, List.length_append]
    have : (match S.barAt bs r.mark with | some b => S.mainsOf b r r.count.toNat | none => []).length ≤ r.count.toNat := by
     split
     ·rw [mainsOf_len]; exact Nat.le_refl _
     ·simp
    omega
   simp only [List.getElem_cons_succ]
   omega
theorem runs_in {bs : List Bar} : ∀ {rs : List Rn} {rest : Int} (_ : S.runsOk bs rest rs = true) {r : Rn} (_ : r ∈ rs), S.right bs r = true := by
 intro rs
 induction rs with
 | nil => intro rest _ r hr; simp at hr
 | cons r' rs ih =>
  intro rest h r hr
  simp only [S.runsOk, Bool.and_eq_true, decide_eq_true_eq] at h
  rcases List.mem_cons.1 hr with rfl | hr'
  ·exact h.1.1
  ·exact ih h.2 hr'
theorem ptAt_sum {b : Bar} (h : S.bar b = true) (hd : ∀ k (hk : k < (S.legsOf b.code).length), (S.legsOf b.code)[k].1 < b.dims.length) : ∀ k, Within (S.ptAt b k) (S.sum ((S.legLens b).take k)) := by
 intro k
 induction k with
 | zero => simp [Within, S.ptAt, S.sum]
 | succ k ih =>
  by_cases hk : k < (S.legsOf b.code).length
  ·rw [ptAt_succ b hk (hd k hk)]
   have hk' : k < (S.legLens b).length := by simpa [S.legLens] using hk
   have e : (S.legLens b)[k] = b.dims[(S.legsOf b.code)[k].1]'(hd k hk) := by
    simp [S.legLens, List.getD_eq_getElem?_getD, List.getElem?_eq_getElem (hd k hk)]
   rw [List.take_succ_eq_append_getElem hk', sum_snoc, e]
   have hp := lens_pos h _ (List.getElem_mem hk')
   rw [e] at hp
   unfold Within at ih ⊢
   unfold S.step
   repeat' (split <;> try (simp only []; omega))
   all_goals omega
  ·have e : S.ptAt b (k + 1) = S.ptAt b k := by simp [S.ptAt, List.getElem?_eq_none (Nat.le_of_not_lt hk)]
   rw [e, List.take_of_length_le (by simp [S.legLens]; omega)]
   rwa [List.take_of_length_le (by simp [S.legLens]; omega)] at ih
theorem path_near {b : Bar} (h : S.bar b = true) : S.near (S.path b) 1048576 = true := by
 have hD := bar_head h
 have hd : ∀ k (hk : k < (S.legsOf b.code).length), (S.legsOf b.code)[k].1 < b.dims.length := fun k hk => by have := legs_dim b.code hk; omega
 have hp := lens_pos h
 refine near_all (fun j hj => ?_)
 have hj' : j < (S.legsOf b.code).length + 1 := by rw [path_len] at hj; exact hj
 have e : (S.path b)[j] = S.ptAt b j := by simp [S.path, S.pathTo]
 rw [e]
 have h1 := ptAt_sum h hd j
 have h2 := sum_take_le hp j
 have h3 := (legs_sum h).1
 unfold Within at h1
 simp only [S.near1, Bool.and_eq_true, decide_eq_true_eq]
 omega
theorem image0 (x y : Int) : S.image x y ⟨0, 0, 0⟩ = ⟨0, 0, 0⟩ := by
 rw [show S.image x y ⟨0, 0, 0⟩ = ⟨(S.unit x).x * 0 + (S.unit y).x * 0 + (S.cross (S.unit x) (S.unit y)).x * 0, (S.unit x).y * 0 + (S.unit y).y * 0 + (S.cross (S.unit x) (S.unit y)).y * 0, (S.unit x).z * 0 + (S.unit y).z * 0 + (S.cross (S.unit x) (S.unit y)).z * 0⟩ from rfl]
 simp
theorem fpErr_ok {x y : Int} {o : Pt} {b : Bar} (ht : S.turn x y = true) (ho : S.near1 o 1048576 = true) (h : S.bar b = true) : S.fpErr x y o (S.path b) = 0 := by
 have hl : ¬ 1000 < (S.path b).length := by rw [path_len]; have := legs_len b.code; omega
 unfold S.fpErr
 rw [if_neg (by simp [ht]), if_neg hl, if_neg (by simp [ho, path_near h])]
theorem turned_eq {b : Bar} {r : Rn} (ht : S.turn r.tx r.ty = true) (h : S.bar b = true) : S.turned b r = (S.path b).map (S.placed r.tx r.ty ⟨0, 0, 0⟩) := by
 unfold S.turned S.fpath
 rw [if_pos (fpErr_ok ht (by decide) h)]
structure RunOk (bs : List Bar) (r : Rn) (k : Nat) (b : Bar) : Prop where
 index : S.index bs r.mark = (k : Int)
 get : bs[k]? = some b
 bar : S.bar b = true
 at_ : S.barAt bs r.mark = some b
 turn : S.turn r.tx r.ty = true
 count : 1 ≤ r.count ∧ r.count ≤ 1000
 start : ∀ n : Int, 0 ≤ n → n < r.count → S.near1 (S.plus r.at_ r.step n) 1048576 = true
 home : S.near1 r.at_ 1048576 = true
theorem conv {a s N n : Int} (h0 : -1048576 ≤ a ∧ a ≤ 1048576) (h1 : -1048576 ≤ a + N * s ∧ a + N * s ≤ 1048576) (hn : 0 ≤ n) (hN : n ≤ N) : -1048576 ≤ a + n * s ∧ a + n * s ≤ 1048576 := by
 by_cases hs : 0 ≤ s
 ·have h2 : n * s ≤ N * s := Int.mul_le_mul_of_nonneg_right hN hs
  have h3 : 0 ≤ n * s := Int.mul_nonneg hn hs
  omega
 ·have h2 : n * (-s) ≤ N * (-s) := Int.mul_le_mul_of_nonneg_right hN (by omega)
  have h3 : 0 ≤ n * (-s) := Int.mul_nonneg hn (by omega)
  rw [Int.mul_neg] at h2 h3
  rw [Int.mul_neg] at h2
  omega
theorem right_ok {bs : List Bar} {r : Rn} (hs : S.sched bs = true) (h : S.right bs r = true) : ∃ k b, RunOk bs r k b := by
 unfold S.right at h
 rw [Bool.and_eq_true, Bool.and_eq_true] at h
 obtain ⟨⟨hh, hst⟩, hp⟩ := h
 obtain ⟨⟨h0, h1, h2⟩, h3, h4⟩ := rightHead_out hh
 split at hp
 rotate_left
 ·cases hp
 rename_i b hb
 obtain ⟨k, hk⟩ : ∃ k : Nat, S.index bs r.mark = (k : Int) := ⟨(S.index bs r.mark).toNat, by omega⟩
 have hg : bs[k]? = some b := by
  unfold S.barAt at hb
  rw [hk] at hb
  simpa using hb
 have hv := (sched_bar hs hg).1
 refine ⟨k, b, hk, hg, hv, hb, h1, by omega, fun n hn0 hn1 => ?_, h2⟩
 have hnear0 : S.near1 (S.plus r.at_ r.step 0) 1048576 = true := by
  rw [show S.plus r.at_ r.step 0 = ⟨r.at_.x + 0 * r.step.x, r.at_.y + 0 * r.step.y, r.at_.z + 0 * r.step.z⟩ from rfl]
  simpa [S.near1] using h2
 by_cases hc : 0 < r.count - 1
 ·unfold S.rightPts at hp
  rw [Bool.and_eq_true, List.all_eq_true, List.all_eq_true] at hp
  have hm : (⟨0, 0, 0⟩ : Pt) ∈ S.turned b r := by
   rw [turned_eq h1 hv]
   refine List.mem_map.2 ⟨⟨0, 0, 0⟩, ?_, ?_⟩
   ·have : (S.path b)[0]'(by rw [path_len]; omega) = ⟨0, 0, 0⟩ := by simp [S.path, S.pathTo, S.ptAt]
    rw [← this]
    exact List.getElem_mem _
   ·unfold S.placed
    simp only [image0]
    rfl
  have h5 := hp.2 _ hm
  unfold S.ptOk S.laidPt at h5
  rw [if_pos hc] at h5
  have e0 : S.plus ⟨0, 0, 0⟩ r.at_ 1 = r.at_ := by
   rw [show S.plus ⟨0, 0, 0⟩ r.at_ 1 = ⟨0 + 1 * r.at_.x, 0 + 1 * r.at_.y, 0 + 1 * r.at_.z⟩ from rfl]
   simp
  rw [e0] at h5
  obtain ⟨ax, ay, az⟩ := near1_out h2
  obtain ⟨bx, by', bz⟩ := near1_out h5
  rw [show S.plus r.at_ r.step n = ⟨r.at_.x + n * r.step.x, r.at_.y + n * r.step.y, r.at_.z + n * r.step.z⟩ from rfl]
  have cx := conv ax bx hn0 (show n ≤ r.count - 1 by omega)
  have cy := conv ay by' hn0 (show n ≤ r.count - 1 by omega)
  have cz := conv az bz hn0 (show n ≤ r.count - 1 by omega)
  simp only [S.near1, Bool.and_eq_true, decide_eq_true_eq]
  omega
 ·obtain rfl : n = 0 := by omega
  exact hnear0
structure Jn where
 first : Int
 second : Int
abbrev jnC (j : Jn) : List Value := [.int .i64 j.first, .int .i64 j.second]
abbrev jnV (j : Jn) : Value := .agg #[.int .i64 j.first, .int .i64 j.second]
theorem jnC_len (j : Jn) : (jnC j).length = 2 := rfl
structure Dt where
 m : Mem
 mA : Option Addr
 mn : Nat
 mc : Nat
 hA : Option Addr
 hn : Nat
 hc : Nat
 bs : List BarR
 bA : Option Addr
 bn : Nat
 bc : Nat
 rs : List Rn
 rA : Option Addr
 rn : Nat
 rc : Nat
 js : List Jn
 jA : Option Addr
 jn : Nat
 jc : Nat
 dA : Option Addr
 dn : Nat
 dc : Nat
 rule : Rule
abbrev dtV (x : Dt) : Value := .agg #[.string x.m.name, .slice x.mA x.mn x.mc, .slice x.hA x.hn x.hc, .int .i64 x.m.cover, .int .i64 x.m.aggr, .int .i64 x.m.poker, .slice x.bA x.bn x.bc, .slice x.rA x.rn x.rc, .slice x.jA x.jn x.jc, .slice x.dA x.dn x.dc,
 .int .i64 x.rule.num, .int .i64 x.rule.den, .int .i64 x.rule.pnum, .int .i64 x.rule.pden, .int .i64 x.rule.bnum, .int .i64 x.rule.bden, .int .i64 x.rule.lnum, .int .i64 x.rule.lden, .int .i64 x.rule.least]
structure DtAt (w : World) (B : Nat) (x : Dt) : Prop where
 sol : SolAt w B x.mA x.mn x.hA x.hn x.m.boxes x.m.holes
 name : x.m.name.size ≤ 9223372036854775807
 bars : BarsAt w B x.bA x.bn x.bs
 runs : RunsAt w B x.rA x.rn x.rs
 jlen : x.js.length = x.jn
 jmax : x.jn ≤ 9223372036854775807
 joints : Cells w B x.jA (x.js.flatMap jnC)
theorem DtAt.at_ {w w' : World} {B : Nat} {x : Dt} (h : DtAt w B x) (hB : B ≤ w.heap.size) (hb : Below w.heap.size w w') : DtAt w' B x :=
 ⟨h.sol.at_ hB hb, h.name, h.bars.at_ hB hb, h.runs.at_ hB hb, h.jlen, h.jmax, h.joints.below (hb.mono hB)⟩
theorem Blk.exc {M : List Nat} {W w : World} {g : Nat} {t : TypeId} {cs : Array Value} (h : Blk W g t cs) (hX : Exc M W w) (hg : g ∉ M) : Blk w g t cs := (hX.block g h.lt hg).trans h
theorem Cells.exc {M : List Nat} {W w : World} {B b o : Nat} {cs : List Value} (h : Cells W B (some ⟨b, o, none⟩) cs) (hX : Exc M W w) (hB : B ≤ W.heap.size) (hb : b ∉ M) (hn : 0 < cs.length) : Cells w B (some ⟨b, o, none⟩) cs := by
 obtain ⟨b', o', he, hlt, hc⟩ := h.at_ hn
 injection he with he
 injection he with h1 h2 h3
 subst h1 h2
 exact .inr ⟨b, o, rfl, hlt, fun j v hv => (hX.cell (p := ⟨b, o + j, none⟩) (by show b < _; omega) hb).trans (hc j v hv)⟩
theorem row_start {W0 w : World} {base E size : Nat} {v : Value} {n : Nat} {xs : List Value} (h : Row W0 w none base E size v n xs) : Row w w v.ownBlock base E size v n xs := ⟨h.own, fun k hk => .inl hk.symm⟩
theorem row_end {W0 w2 w3 : World} {base E size : Nat} {v0 v : Value} {n0 n : Nat} {xs0 xs : List Value} (h0 : Row W0 w2 none base E size v0 n0 xs0) (hX0 : Exc [] W0 w2) (h : Row w2 w3 v0.ownBlock base E size v n xs) (hX : Exc v0.ownBlock.toList w2 w3) : Row W0 w3 none base E size v n xs ∧ Exc [] W0 w3 := by
 refine ⟨⟨h.own, fun k hk => ?_⟩, ⟨hX.os.trans hX0.os, hX.tape.trans hX0.tape, hX.output.trans hX0.output, Nat.le_trans hX0.size hX.size, fun k hk _ => ?_⟩⟩
 ·rcases h.place k hk with h1 | h1
  ·rcases h0.place k h1.symm with h2 | h2
   ·cases h2
   ·exact .inr h2
  ·exact .inr (Nat.le_trans hX0.size h1)
 ·refine (hX.block k (Nat.lt_of_lt_of_le hk hX0.size) (fun hm => ?_)).trans (hX0.block k hk (by simp))
  rcases h0.place k (by simpa using hm) with h2 | h2
  ·cases h2
  ·omega
theorem Exc.join {M M' : List Nat} {W w w' : World} (h : Exc M W w) (h' : Exc M' w w') (hM : ∀ k, k ∈ M' → k ∈ M ∨ W.heap.size ≤ k) : Exc M W w' :=
 ⟨h'.os.trans h.os, h'.tape.trans h.tape, h'.output.trans h.output, Nat.le_trans h.size h'.size, fun k hk hm => (h'.block k (Nat.lt_of_lt_of_le hk h.size) (fun hk' => by
   rcases hM k hk' with h1 | h1
   ·exact hm h1
   ·omega)).trans (h.block k hk hm)⟩
theorem run_sums {bs : List Bar} {r : Rn} {k0 : Nat} {b : Bar} (h : RunOk bs r k0 b) {n : Nat} (hn : (n : Int) < r.count) :
 (IntKind.i64.wrap ((n : Int) * r.step.x) = n * r.step.x ∧ IntKind.i64.wrap ((n : Int) * r.step.y) = n * r.step.y ∧ IntKind.i64.wrap ((n : Int) * r.step.z) = n * r.step.z) ∧
 (IntKind.i64.wrap (r.at_.x + n * r.step.x) = (S.plus r.at_ r.step n).x ∧ IntKind.i64.wrap (r.at_.y + n * r.step.y) = (S.plus r.at_ r.step n).y ∧ IntKind.i64.wrap (r.at_.z + n * r.step.z) = (S.plus r.at_ r.step n).z) := by
 obtain ⟨hx, hy, hz⟩ := near1_out (h.start n (by omega) hn)
 obtain ⟨ax, ay, az⟩ := near1_out h.home
 rw [show S.plus r.at_ r.step n = ⟨r.at_.x + n * r.step.x, r.at_.y + n * r.step.y, r.at_.z + n * r.step.z⟩ from rfl] at hx hy hz ⊢
 simp only [] at hx hy hz ⊢
 refine ⟨⟨IntWalk.i64_in _ (by omega), IntWalk.i64_in _ (by omega), IntWalk.i64_in _ (by omega)⟩, IntWalk.i64_in _ (by omega), IntWalk.i64_in _ (by omega), IntWalk.i64_in _ (by omega)⟩
end Go.Proofs.YtnmolefblaahmaaGreat
