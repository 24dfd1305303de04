/- The reference's rule on runs is the program's (no walk). -/
import Derived.Test.YtffkmgjmlahfpaaGreatMainA
import Derived.Test.YtffkmgjmlahfpaaGreatLook
set_option linter.unusedVariables false
set_option linter.unusedSimpArgs false
namespace Go.Proofs.YtffkmgjmlahfpaaGreat
open Go.RowKit
/-- Whether a run is right, as the reference says it. -/
def S.rrun (l : List Bar) (r : Rn) : Bool := S.rightHead l r && S.rightStep r && (match S.barAt l r.mark with | some b => S.near (S.laidPath b r 0) 1048576 && S.near (S.laidPath b r (r.count - 1).toNat) 1048576 | none => false)
theorem placed_zero (x y : Int) (q a s : Pt) (k : Int) : S.plus (S.plus (S.placed x y ⟨0, 0, 0⟩ q) a 1) s k = S.placed x y (S.plus a s k) q := by
  rw [show S.placed x y ⟨0, 0, 0⟩ q = ⟨0 + (S.image x y q).x, 0 + (S.image x y q).y, 0 + (S.image x y q).z⟩ from rfl,
    show S.placed x y (S.plus a s k) q = ⟨a.x + k * s.x + (S.image x y q).x, a.y + k * s.y + (S.image x y q).y, a.z + k * s.z + (S.image x y q).z⟩ from rfl]
  simp only [S.plus, Pt.mk.injEq]
  omega
theorem plus_zero (p s : Pt) : S.plus p s 0 = p := by
  simp [S.plus]
theorem laid_pts {b : Bar} {r : Rn} (ht : S.turn r.tx r.ty = true) (h : S.bar b = true) (k : Nat) : (S.turned b r).all (S.ptOk r k) = S.near (S.laidPath b r k) 1048576 := by
  rw [turned_eq ht h]
  unfold S.near S.laidPath
  rw [List.all_map, List.all_map]
  congr 1
  funext q
  show S.near1 (S.laidPt r k (S.placed r.tx r.ty ⟨0, 0, 0⟩ q)) 1048576 = S.near1 (S.placed r.tx r.ty (S.plus r.at_ r.step k) q) 1048576
  congr 1
  unfold S.laidPt
  split
  · exact placed_zero _ _ _ _ _ _
  · have e : ((k : Nat) : Int) = 0 := by omega
    rw [e, ← placed_zero, plus_zero]
theorem rrun_eq {l : List Bar} {r : Rn} (hs : S.sched l = true) : S.rrun l r = S.right l r := by
  unfold S.rrun S.right
  cases hh : S.rightHead l r
  · rfl
  · obtain ⟨⟨h0, h1, h2⟩, h3, h4⟩ := rightHead_out hh
    cases hb : S.barAt l r.mark with
    | none => rfl
    | some b =>
      obtain ⟨k, hk⟩ : ∃ k : Nat, S.index l r.mark = (k : Int) := ⟨(S.index l r.mark).toNat, by omega⟩
      have hg : l[k]? = some b := by
        unfold S.barAt at hb
        rw [hk] at hb
        simpa using hb
      have hv := (sched_bar hs hg).1
      have e1 : (r.count - 1) = (((r.count - 1).toNat : Nat) : Int) := by omega
      have e2 := laid_pts h1 hv (r.count - 1).toNat
      rw [← e1] at e2
      have e3 := laid_pts h1 hv 0
      simp only [S.rightPts]
      rw [e2]
      rw [show (0 : Int) = ((0 : Nat) : Int) from rfl, e3]
def S.sumTo (rs : List Rn) (k : Nat) : Int := (rs.take k).foldl (fun s r => s + r.count) 0
theorem sumTo_succ (rs : List Rn) {k : Nat} (hk : k < rs.length) : S.sumTo rs (k + 1) = S.sumTo rs k + rs[k].count := by
  unfold S.sumTo
  rw [List.take_succ_eq_append_getElem hk, List.foldl_append]
  rfl
theorem sumTo_zero (rs : List Rn) : S.sumTo rs 0 = 0 := rfl
theorem sumTo_mono {rs : List Rn} (h : ∀ k (hk : k < rs.length), 0 ≤ rs[k].count) : ∀ {k m : Nat}, k ≤ m → m ≤ rs.length → S.sumTo rs k ≤ S.sumTo rs m := by
  intro k m hkm
  induction m with
  | zero => intro _; obtain rfl : k = 0 := by omega
            exact Int.le_refl _
  | succ m ih =>
    intro hm
    by_cases e : k = m + 1
    · subst e; exact Int.le_refl _
    · have := ih (by omega) (by omega)
      have h1 := h m (by omega)
      rw [sumTo_succ rs (by omega)]
      omega
def S.sumAll (rs : List Rn) : Int := S.sumTo rs rs.length
theorem foldl_count (rs : List Rn) : ∀ a : Int, rs.foldl (fun s r => s + r.count) a = a + rs.foldl (fun s r => s + r.count) 0 := by
  induction rs with
  | nil => intro a; simp
  | cons r rs ih => intro a; simp only [List.foldl_cons]; rw [ih (a + r.count), ih (0 + r.count)]; omega
theorem sumAll_cons (r : Rn) (rs : List Rn) : S.sumAll (r :: rs) = r.count + S.sumAll rs := by
  unfold S.sumAll S.sumTo
  rw [List.take_length, List.take_length, List.foldl_cons, foldl_count]
  omega
theorem runsOk_iff {bs : List Bar} : ∀ {rs : List Rn} {rest : Int}, 0 ≤ rest → S.runsOk bs rest rs = (rs.all (S.right bs) && decide (S.sumAll rs ≤ rest)) := by
  intro rs
  induction rs with
  | nil => intro rest h; simp [S.runsOk, S.sumAll, S.sumTo, h]
  | cons r rs ih =>
    intro rest h
    rw [show S.runsOk bs rest (r :: rs) = (S.right bs r && decide (r.count ≤ rest) && S.runsOk bs (rest - r.count) rs) from rfl, List.all_cons, sumAll_cons]
    cases hr : S.right bs r
    · rfl
    · have hc := right_count hr
      by_cases h1 : r.count ≤ rest
      · rw [ih (by omega), decide_eq_true h1]
        cases ha : rs.all (S.right bs)
        · rfl
        · simp only [Bool.true_and]
          rw [Bool.eq_iff_iff]
          simp only [decide_eq_true_eq]
          omega
      · rw [decide_eq_false h1]
        cases ha : rs.all (S.right bs)
        · rfl
        · have hpos : 0 ≤ S.sumAll rs := by
            have := sumTo_mono (rs := rs) (fun k hk => by
              rw [List.all_eq_true] at ha
              have := right_count (ha _ (List.getElem_mem hk))
              omega) (Nat.zero_le rs.length) (Nat.le_refl _)
            rwa [sumTo_zero] at this
          simp only [Bool.true_and, Bool.and_true, Bool.false_and]
          symm
          exact decide_eq_false (by omega)
/-- Where laid bar i stands: run k, and j in it. -/
structure Stands (bs : List Bar) (rs : List Rn) (i : Nat) (k j : Nat) (k0 : Nat) (b : Bar) : Prop where
  lt : k < rs.length
  ok : RunOk bs rs[k] k0 b
  sum : (i : Int) = S.sumTo rs k + j
  inr : (j : Int) < rs[k].count
  get : (S.mains bs rs)[i]? = some (S.mnOf b.size b.mark (S.mainLeg (S.laidPath b rs[k] j)))
theorem mains_sum {bs : List Bar} {rs : List Rn} (hs : S.sched bs = true) (h : ∀ r, r ∈ rs → S.right bs r = true) : ∀ {k : Nat}, k ≤ rs.length → ((S.mains bs (rs.take k)).length : Int) = S.sumTo rs k := by
  intro k
  induction k with
  | zero => intro _; simp [S.mains, sumTo_zero]
  | succ k ih =>
    intro hk
    have hk' : k < rs.length := by omega
    obtain ⟨k0, b, ho⟩ := right_ok hs (h _ (List.getElem_mem hk'))
    have := ih (by omega)
    have hc := ho.count
    rw [mains_snoc bs rs hk' ho.at_, List.length_append, mainsOf_len, sumTo_succ rs hk']
    omega
theorem stands_of {bs : List Bar} {rs : List Rn} (h : S.laid bs rs = true) {i : Nat} (hi : i < (S.mains bs rs).length) : ∃ k j k0 b, Stands bs rs i k j k0 b := by
  simp only [S.laid, Bool.and_eq_true, decide_eq_true_eq] at h
  obtain ⟨⟨hs, hl⟩, hr⟩ := h
  have hin : ∀ r, r ∈ rs → S.right bs r = true := fun r hr' => runs_in hr hr'
  have key : ∀ m, m ≤ rs.length → i < (S.mains bs (rs.take m)).length → ∃ k j k0 b, ∃ hk : k < rs.length, k < m ∧ RunOk bs rs[k] k0 b ∧ (i : Int) = S.sumTo rs k + (j : Nat) ∧ ((j : Nat) : Int) < rs[k].count ∧ (S.mains bs (rs.take m))[i]? = some (S.mnOf b.size b.mark (S.mainLeg (S.laidPath b rs[k] j))) := by
    intro m
    induction m with
    | zero => intro _ h0; simp [S.mains] at h0
    | succ m ih =>
      intro hm h0
      have hm' : m < rs.length := by omega
      obtain ⟨k0, b, ho⟩ := right_ok hs (hin _ (List.getElem_mem hm'))
      have e := mains_snoc bs rs hm' ho.at_
      have hsum := mains_sum hs hin (k := m) (by omega)
      by_cases hlt : i < (S.mains bs (rs.take m)).length
      · obtain ⟨k, j, k1, b1, hk, hkm, h1, h2, h3, h4⟩ := ih (by omega) hlt
        refine ⟨k, j, k1, b1, hk, by omega, h1, h2, h3, ?_⟩
        rw [e, List.getElem?_append_left hlt, h4]
      · rw [e, List.length_append, mainsOf_len] at h0
        have hc := ho.count
        refine ⟨m, i - (S.mains bs (rs.take m)).length, k0, b, hm', by omega, ho, by omega, by omega, ?_⟩
        rw [e, List.getElem?_append_right (by omega)]
        unfold S.mainsOf
        rw [List.getElem?_map, List.getElem?_range (by omega)]
        rfl
  obtain ⟨k, j, k0, b, hk, _, h1, h2, h3, h4⟩ := key rs.length (Nat.le_refl _) (by rwa [List.take_length])
  rw [List.take_length] at h4
  exact ⟨k, j, k0, b, hk, h1, h2, h3, h4⟩
end Go.Proofs.YtffkmgjmlahfpaaGreat
