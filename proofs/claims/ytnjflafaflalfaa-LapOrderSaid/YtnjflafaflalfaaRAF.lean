/- The main legs of laid bars as plain data; what holds of a valid run (no walk). -/
import Derived.Test.YtnjflafaflalfaaRAD
import Derived.Test.YtnjflafaflalfaaRAE
set_option linter.unusedVariables false
set_option linter.unusedSimpArgs false
namespace Go.Proofs.Ytnjflafaflalfaa
open Go.RowKit
structure Mn where
  leg : Bx
  has : Bool
  size : Int
  mark : ByteArray
abbrev mnC (m : Mn) : List Value := [.int .i64 m.leg.lo.x, .int .i64 m.leg.lo.y, .int .i64 m.leg.lo.z, .int .i64 m.leg.hi.x, .int .i64 m.leg.hi.y, .int .i64 m.leg.hi.z, .bool m.has, .int .i64 m.size, .string m.mark]
theorem mnC_len (m : Mn) : (mnC m).length = 9 := rfl
theorem elemMn : Elem Try.prog 63 90 (.agg #[.int .i64 0, .int .i64 0, .int .i64 0, .int .i64 0, .int .i64 0, .int .i64 0, .bool false, .int .i64 0, .string ⟨#[]⟩]) 9 80 := ⟨Try.underlying63, by kernel_rfl, rfl, by decide⟩
namespace S
def isMain (p q : Pt) : Bool := (p.x != q.x) && decide (p.y = q.y) && decide (p.z = q.z)
def legBx (p q : Pt) : Bx := ⟨⟨S.lmn p.x q.x, p.y, p.z⟩, ⟨S.lmx p.x q.x, p.y, p.z⟩⟩
def mainTo (l : List Pt) : Nat → Option Bx
  | 0 => none
  | i + 1 => match mainTo l i with
    | some b => some b
    | none => match l[i]?, l[i + 1]? with
      | some p, some q => if isMain p q then some (legBx p q) else none
      | _, _ => none
def mainLeg (l : List Pt) : Option Bx := mainTo l (l.length - 1)
def mnOf (size : Int) (mark : ByteArray) (o : Option Bx) : Mn := match o with
  | some b => ⟨b, true, size, mark⟩
  | none => ⟨⟨⟨0, 0, 0⟩, ⟨0, 0, 0⟩⟩, false, size, mark⟩
def laidPath (b : Bar) (r : Rn) (n : Nat) : List Pt := (S.path b).map (S.placed r.tx r.ty (S.plus r.at_ r.step n))
def mainsOf (b : Bar) (r : Rn) (m : Nat) : List Mn := (List.range m).map fun n => mnOf b.size b.mark (mainLeg (laidPath b r n))
def mains (bs : List Bar) (rs : List Rn) : List Mn := rs.flatMap fun r => match S.barAt bs r.mark with | some b => mainsOf b r r.count.toNat | none => []
end S
theorem mainTo_succ {l : List Pt} {i : Nat} (h : S.mainTo l i = none) {p q : Pt} (hp : l[i]? = some p) (hq : l[i + 1]? = some q) : S.mainTo l (i + 1) = if S.isMain p q then some (S.legBx p q) else none := by
  simp [S.mainTo, h, hp, hq]
theorem mainTo_stay {l : List Pt} {i : Nat} {b : Bx} (h : S.mainTo l i = some b) : ∀ j, i ≤ j → S.mainTo l j = some b := by
  intro j
  induction j with
  | zero => intro hj; obtain rfl : i = 0 := by omega
            exact h
  | succ j ih =>
    intro hj
    by_cases e : i = j + 1
    · subst e; exact h
    · have := ih (by omega)
      simp [S.mainTo, this]
theorem mainsOf_snoc (b : Bar) (r : Rn) (m : Nat) : S.mainsOf b r (m + 1) = S.mainsOf b r m ++ [S.mnOf b.size b.mark (S.mainLeg (S.laidPath b r m))] := by simp [S.mainsOf, List.range_succ]
theorem mainsOf_len (b : Bar) (r : Rn) (m : Nat) : (S.mainsOf b r m).length = m := by simp [S.mainsOf]
theorem mains_snoc (bs : List Bar) (rs : List Rn) {k : Nat} (hk : k < rs.length) {b : Bar} (hb : S.barAt bs rs[k].mark = some b) : S.mains bs (rs.take (k + 1)) = S.mains bs (rs.take k) ++ S.mainsOf b rs[k] rs[k].count.toNat := by
  unfold S.mains
  rw [List.take_succ_eq_append_getElem hk, List.flatMap_append]
  simp [hb]
theorem mains_le {bs : List Bar} : ∀ {rs : List Rn} {rest : Int} {k : Nat} (_ : S.runsOk bs rest rs = true) (hk : k < rs.length), ((S.mains bs (rs.take k)).length : Int) + rs[k].count ≤ rest := by
  intro rs
  induction rs with
  | nil => intro rest k _ hk; simp at hk
  | cons r rs ih =>
    intro rest k h hk
    simp only [S.runsOk, Bool.and_eq_true, decide_eq_true_eq] at h
    cases k with
    | zero => simpa [S.mains] using h.1.2
    | succ k =>
      have h1 := ih h.2 (k := k) (by simpa using hk)
      have hc := right_count h.1.1
      have h2 : (S.mains bs ((r :: rs).take (k + 1))).length ≤ r.count.toNat + (S.mains bs (rs.take k)).length := by
        unfold S.mains
        rw [List.take_succ_cons, List.flatMap_cons, List.length_append]
        have : (match S.barAt bs r.mark with | some b => S.mainsOf b r r.count.toNat | none => []).length ≤ r.count.toNat := by
          split
          · rw [mainsOf_len]; exact Nat.le_refl _
          · simp
        omega
      simp only [List.getElem_cons_succ]
      omega
theorem runs_in {bs : List Bar} : ∀ {rs : List Rn} {rest : Int} (_ : S.runsOk bs rest rs = true) {r : Rn} (_ : r ∈ rs), S.right bs r = true := by
  intro rs
  induction rs with
  | nil => intro rest _ r hr; simp at hr
  | cons r' rs ih =>
    intro rest h r hr
    simp only [S.runsOk, Bool.and_eq_true, decide_eq_true_eq] at h
    rcases List.mem_cons.1 hr with rfl | hr'
    · exact h.1.1
    · exact ih h.2 hr'
theorem ptAt_sum {b : Bar} (h : S.bar b = true) (hd : ∀ k (hk : k < (S.legsOf b.code).length), (S.legsOf b.code)[k].1 < b.dims.length) : ∀ k, Within (S.ptAt b k) (S.sum ((S.legLens b).take k)) := by
  intro k
  induction k with
  | zero => simp [Within, S.ptAt, S.sum]
  | succ k ih =>
    by_cases hk : k < (S.legsOf b.code).length
    · rw [ptAt_succ b hk (hd k hk)]
      have hk' : k < (S.legLens b).length := by simpa [S.legLens] using hk
      have e : (S.legLens b)[k] = b.dims[(S.legsOf b.code)[k].1]'(hd k hk) := by
        simp [S.legLens, List.getD_eq_getElem?_getD, List.getElem?_eq_getElem (hd k hk)]
      rw [List.take_succ_eq_append_getElem hk', sum_snoc, e]
      have hp := lens_pos h _ (List.getElem_mem hk')
      rw [e] at hp
      unfold Within at ih ⊢
      unfold S.step
      repeat' (split <;> try (simp only []; omega))
      all_goals omega
    · have e : S.ptAt b (k + 1) = S.ptAt b k := by simp [S.ptAt, List.getElem?_eq_none (Nat.le_of_not_lt hk)]
      rw [e, List.take_of_length_le (by simp [S.legLens]; omega)]
      rwa [List.take_of_length_le (by simp [S.legLens]; omega)] at ih
theorem path_near {b : Bar} (h : S.bar b = true) : S.near (S.path b) 1048576 = true := by
  have hD := bar_head h
  have hd : ∀ k (hk : k < (S.legsOf b.code).length), (S.legsOf b.code)[k].1 < b.dims.length := fun k hk => by have := legs_dim b.code hk; omega
  have hp := lens_pos h
  refine near_all (fun j hj => ?_)
  have hj' : j < (S.legsOf b.code).length + 1 := by rw [path_len] at hj; exact hj
  have e : (S.path b)[j] = S.ptAt b j := by simp [S.path, S.pathTo]
  rw [e]
  have h1 := ptAt_sum h hd j
  have h2 := sum_take_le hp j
  have h3 := (legs_sum h).1
  unfold Within at h1
  simp only [S.near1, Bool.and_eq_true, decide_eq_true_eq]
  omega
theorem image0 (x y : Int) : S.image x y ⟨0, 0, 0⟩ = ⟨0, 0, 0⟩ := by
  rw [show S.image x y ⟨0, 0, 0⟩ = ⟨(S.unit x).x * 0 + (S.unit y).x * 0 + (S.cross (S.unit x) (S.unit y)).x * 0, (S.unit x).y * 0 + (S.unit y).y * 0 + (S.cross (S.unit x) (S.unit y)).y * 0, (S.unit x).z * 0 + (S.unit y).z * 0 + (S.cross (S.unit x) (S.unit y)).z * 0⟩ from rfl]
  simp
theorem fpErr_ok {x y : Int} {o : Pt} {b : Bar} (ht : S.turn x y = true) (ho : S.near1 o 1048576 = true) (h : S.bar b = true) : S.fpErr x y o (S.path b) = 0 := by
  have hl : ¬ 1000 < (S.path b).length := by rw [path_len]; have := legs_len b.code; omega
  unfold S.fpErr
  rw [if_neg (by simp [ht]), if_neg hl, if_neg (by simp [ho, path_near h])]
theorem turned_eq {b : Bar} {r : Rn} (ht : S.turn r.tx r.ty = true) (h : S.bar b = true) : S.turned b r = (S.path b).map (S.placed r.tx r.ty ⟨0, 0, 0⟩) := by
  unfold S.turned S.fpath
  rw [if_pos (fpErr_ok ht (by decide) h)]
structure RunOk (bs : List Bar) (r : Rn) (k : Nat) (b : Bar) : Prop where
  index : S.index bs r.mark = (k : Int)
  get : bs[k]? = some b
  bar : S.bar b = true
  at_ : S.barAt bs r.mark = some b
  turn : S.turn r.tx r.ty = true
  count : 1 ≤ r.count ∧ r.count ≤ 1000
  start : ∀ n : Int, 0 ≤ n → n < r.count → S.near1 (S.plus r.at_ r.step n) 1048576 = true
  home : S.near1 r.at_ 1048576 = true
theorem conv {a s N n : Int} (h0 : -1048576 ≤ a ∧ a ≤ 1048576) (h1 : -1048576 ≤ a + N * s ∧ a + N * s ≤ 1048576) (hn : 0 ≤ n) (hN : n ≤ N) : -1048576 ≤ a + n * s ∧ a + n * s ≤ 1048576 := by
  by_cases hs : 0 ≤ s
  · have h2 : n * s ≤ N * s := Int.mul_le_mul_of_nonneg_right hN hs
    have h3 : 0 ≤ n * s := Int.mul_nonneg hn hs
    omega
  · have h2 : n * (-s) ≤ N * (-s) := Int.mul_le_mul_of_nonneg_right hN (by omega)
    have h3 : 0 ≤ n * (-s) := Int.mul_nonneg hn (by omega)
    rw [Int.mul_neg] at h2 h3
    rw [Int.mul_neg] at h2
    omega
theorem right_ok {bs : List Bar} {r : Rn} (hs : S.sched bs = true) (h : S.right bs r = true) : ∃ k b, RunOk bs r k b := by
  unfold S.right at h
  rw [Bool.and_eq_true, Bool.and_eq_true] at h
  obtain ⟨⟨hh, hst⟩, hp⟩ := h
  obtain ⟨⟨h0, h1, h2⟩, h3, h4⟩ := rightHead_out hh
  split at hp
  rotate_left
  · cases hp
  rename_i b hb
  obtain ⟨k, hk⟩ : ∃ k : Nat, S.index bs r.mark = (k : Int) := ⟨(S.index bs r.mark).toNat, by omega⟩
  have hg : bs[k]? = some b := by
    unfold S.barAt at hb
    rw [hk] at hb
    simpa using hb
  have hv := (sched_bar hs hg).1
  refine ⟨k, b, hk, hg, hv, hb, h1, by omega, fun n hn0 hn1 => ?_, h2⟩
  have hnear0 : S.near1 (S.plus r.at_ r.step 0) 1048576 = true := by
    rw [show S.plus r.at_ r.step 0 = ⟨r.at_.x + 0 * r.step.x, r.at_.y + 0 * r.step.y, r.at_.z + 0 * r.step.z⟩ from rfl]
    simpa [S.near1] using h2
  by_cases hc : 0 < r.count - 1
  · unfold S.rightPts at hp
    rw [Bool.and_eq_true, List.all_eq_true, List.all_eq_true] at hp
    have hm : (⟨0, 0, 0⟩ : Pt) ∈ S.turned b r := by
      rw [turned_eq h1 hv]
      refine List.mem_map.2 ⟨⟨0, 0, 0⟩, ?_, ?_⟩
      · have : (S.path b)[0]'(by rw [path_len]; omega) = ⟨0, 0, 0⟩ := by simp [S.path, S.pathTo, S.ptAt]
        rw [← this]
        exact List.getElem_mem _
      · unfold S.placed
        simp only [image0]
        rfl
    have h5 := hp.2 _ hm
    unfold S.ptOk S.laidPt at h5
    rw [if_pos hc] at h5
    have e0 : S.plus ⟨0, 0, 0⟩ r.at_ 1 = r.at_ := by
      rw [show S.plus ⟨0, 0, 0⟩ r.at_ 1 = ⟨0 + 1 * r.at_.x, 0 + 1 * r.at_.y, 0 + 1 * r.at_.z⟩ from rfl]
      simp
    rw [e0] at h5
    obtain ⟨ax, ay, az⟩ := near1_out h2
    obtain ⟨bx, by', bz⟩ := near1_out h5
    rw [show S.plus r.at_ r.step n = ⟨r.at_.x + n * r.step.x, r.at_.y + n * r.step.y, r.at_.z + n * r.step.z⟩ from rfl]
    have cx := conv ax bx hn0 (show n ≤ r.count - 1 by omega)
    have cy := conv ay by' hn0 (show n ≤ r.count - 1 by omega)
    have cz := conv az bz hn0 (show n ≤ r.count - 1 by omega)
    simp only [S.near1, Bool.and_eq_true, decide_eq_true_eq]
    omega
  · obtain rfl : n = 0 := by omega
    exact hnear0
end Go.Proofs.Ytnjflafaflalfaa
