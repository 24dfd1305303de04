/- Points held against one another in a walk. Contracts of the reference for layer 9: Meet, Contains; box.contains and Contains of the program. Contracts: Main and MainLeg of the reference for layer 24. Contracts: isMain, Ends$1, and the reference's Main, MainLeg, Bent. Contract of the reference: Bent. -/
import Derived.Test.YtffkmgjmlahfpaaGreatRows
import Derived.Test.YtffkmgjmlahfpaaGreatPt
import Derived.Test.YtffkmgjmlahfpaaGreatFlat
import Derived.Test.YtffkmgjmlahfpaaGreatZB
import Derived.Test.YtffkmgjmlahfpaaGreatBoxB
set_option linter.unusedVariables false
set_option linter.unusedSimpArgs false
namespace Go.Proofs.YtffkmgjmlahfpaaGreat
open Go.RowKit
namespace S
def eqpt (p q : Pt) : Bool := decide (p.x = q.x) && decide (p.y = q.y) && decide (p.z = q.z)
end S
theorem run_neq_pt (p q : Pt) (W : World) : (binOp .neq 87 (.agg #[.int .i64 p.x, .int .i64 p.y, .int .i64 p.z]) (.agg #[.int .i64 q.x, .int .i64 q.y, .int .i64 q.z])).run Tryz.prog W = .ok (.bool (!S.eqpt p q)) W := by
  by_cases h1 : p.x = q.x
  · by_cases h2 : p.y = q.y
    · by_cases h3 : p.z = q.z
      · simp [go_sem, S.eqpt, h1, h2, h3]
      · simp [go_sem, S.eqpt, h1, h2, h3]
    · simp [go_sem, S.eqpt, h1, h2]
  · simp [go_sem, S.eqpt, h1]
theorem run_eq_pt (p q : Pt) (W : World) : (binOp .eql 87 (.agg #[.int .i64 p.x, .int .i64 p.y, .int .i64 p.z]) (.agg #[.int .i64 q.x, .int .i64 q.y, .int .i64 q.z])).run Tryz.prog W = .ok (.bool (S.eqpt p q)) W := by
  by_cases h1 : p.x = q.x
  · by_cases h2 : p.y = q.y
    · by_cases h3 : p.z = q.z
      · simp [go_sem, S.eqpt, h1, h2, h3]
      · simp [go_sem, S.eqpt, h1, h2, h3]
    · simp [go_sem, S.eqpt, h1, h2]
  · simp [go_sem, S.eqpt, h1]
end Go.Proofs.YtffkmgjmlahfpaaGreat
set_option linter.unusedVariables false
set_option linter.unusedSimpArgs false
namespace Go.Proofs.YtffkmgjmlahfpaaGreat
open Go.RowKit
namespace S
/-- A box contains another one. -/
def cont (a b : Bx) : Bool := decide (a.lo.x ≤ b.lo.x) && decide (b.hi.x ≤ a.hi.x) && (decide (a.lo.y ≤ b.lo.y) && decide (b.hi.y ≤ a.hi.y)) && (decide (a.lo.z ≤ b.lo.z) && decide (b.hi.z ≤ a.hi.z))
def zbox : Bx := ⟨⟨0, 0, 0⟩, ⟨0, 0, 0⟩⟩
def mlo (a b : Bx) (k : Nat) : Int := mx (co a.lo k) (co b.lo k)
def mhi (a b : Bx) (k : Nat) : Int := mn (co a.hi k) (co b.hi k)
def meet1 (a b o : Bx) (k : Nat) : Bx := ⟨setc o.lo k (mlo a b k), setc o.hi k (mhi a b k)⟩
def meetK (a b : Bx) : Nat → Bx
  | 0 => zbox
  | k + 1 => meet1 a b (meetK a b k) k
def meets (a b : Bx) : Bool := decide (mlo a b 0 ≤ mhi a b 0) && decide (mlo a b 1 ≤ mhi a b 1) && decide (mlo a b 2 ≤ mhi a b 2)
def meet (a b : Bx) : Bx := if meets a b then meetK a b 3 else zbox
def eqbox (a b : Bx) : Bool := eqpt a.lo b.lo && eqpt a.hi b.hi
end S
theorem run_eq_box (a b : Bx) (W : World) : (binOp .eql 89 (boxV a) (boxV b)).run Tryz.prog W = .ok (.bool (S.eqbox a b)) W := by
  by_cases h1 : a.lo.x = b.lo.x
  · by_cases h2 : a.lo.y = b.lo.y
    · by_cases h3 : a.lo.z = b.lo.z
      · by_cases h4 : a.hi.x = b.hi.x
        · by_cases h5 : a.hi.y = b.hi.y
          · by_cases h6 : a.hi.z = b.hi.z
            · simp [go_sem, S.eqbox, S.eqpt, h1, h2, h3, h4, h5, h6]
            · simp [go_sem, S.eqbox, S.eqpt, h1, h2, h3, h4, h5, h6]
          · simp [go_sem, S.eqbox, S.eqpt, h1, h2, h3, h4, h5]
        · simp [go_sem, S.eqbox, S.eqpt, h1, h2, h3, h4]
      · simp [go_sem, S.eqbox, S.eqpt, h1, h2, h3]
    · simp [go_sem, S.eqbox, S.eqpt, h1, h2]
  · simp [go_sem, S.eqbox, S.eqpt, h1]
theorem meets_no {a b : Bx} {k : Nat} (hk : k < 3) (h : S.mhi a b k < S.mlo a b k) : S.meets a b = false := by
  have : k = 0 ∨ k = 1 ∨ k = 2 := by omega
  have hn : ¬ S.mlo a b k ≤ S.mhi a b k := by omega
  rcases this with rfl | rfl | rfl <;> simp [S.meets, hn]
theorem meets_yes {a b : Bx} (h : ∀ k, k < 3 → S.mlo a b k ≤ S.mhi a b k) : S.meets a b = true := by
  simp [S.meets, h 0 (by omega), h 1 (by omega), h 2 (by omega)]
theorem meetK_3 (a b : Bx) : S.meetK a b 3 = ⟨⟨S.mx a.lo.x b.lo.x, S.mx a.lo.y b.lo.y, S.mx a.lo.z b.lo.z⟩, ⟨S.mn a.hi.x b.hi.x, S.mn a.hi.y b.hi.y, S.mn a.hi.z b.hi.z⟩⟩ := by
  simp [S.meetK, S.meet1, S.mlo, S.mhi, S.setc, S.co]
theorem mx_eq {a b : Int} : S.mx a b = b ↔ a ≤ b := by unfold S.mx; split <;> omega
theorem mn_eq {a b : Int} : S.mn a b = b ↔ b ≤ a := by unfold S.mn; split <;> omega
theorem mx_le_mn {a b c d : Int} (h1 : a ≤ b) (h2 : b ≤ d) (h3 : d ≤ c) : S.mx a b ≤ S.mn c d := by rw [mx_eq.2 h1, mn_eq.2 h3]; exact h2
theorem eqbox_iff {p q : Bx} : S.eqbox p q = true ↔ p.lo.x = q.lo.x ∧ p.lo.y = q.lo.y ∧ p.lo.z = q.lo.z ∧ p.hi.x = q.hi.x ∧ p.hi.y = q.hi.y ∧ p.hi.z = q.hi.z := by
  simp [S.eqbox, S.eqpt, and_assoc]
theorem cont_iff {a b : Bx} : S.cont a b = true ↔ a.lo.x ≤ b.lo.x ∧ b.hi.x ≤ a.hi.x ∧ a.lo.y ≤ b.lo.y ∧ b.hi.y ≤ a.hi.y ∧ a.lo.z ≤ b.lo.z ∧ b.hi.z ≤ a.hi.z := by
  simp [S.cont, and_assoc]
theorem meet_cont (a b : Bx) (hx : b.lo.x ≤ b.hi.x) (hy : b.lo.y ≤ b.hi.y) (hz : b.lo.z ≤ b.hi.z) : (S.meets a b && S.eqbox (S.meet a b) b) = S.cont a b := by
  rw [Bool.eq_iff_iff, Bool.and_eq_true, cont_iff]
  constructor
  · rintro ⟨h1, h2⟩
    rw [S.meet, if_pos h1, meetK_3] at h2
    obtain ⟨h3, h4, h5, h6, h7, h8⟩ : S.mx a.lo.x b.lo.x = b.lo.x ∧ S.mx a.lo.y b.lo.y = b.lo.y ∧ S.mx a.lo.z b.lo.z = b.lo.z ∧ S.mn a.hi.x b.hi.x = b.hi.x ∧ S.mn a.hi.y b.hi.y = b.hi.y ∧ S.mn a.hi.z b.hi.z = b.hi.z := eqbox_iff.1 h2
    exact ⟨mx_eq.1 h3, mn_eq.1 h6, mx_eq.1 h4, mn_eq.1 h7, mx_eq.1 h5, mn_eq.1 h8⟩
  · rintro ⟨h1, h2, h3, h4, h5, h6⟩
    have hm : S.meets a b = true := by
      have g1 : S.mlo a b 0 ≤ S.mhi a b 0 := mx_le_mn h1 hx h2
      have g2 : S.mlo a b 1 ≤ S.mhi a b 1 := mx_le_mn h3 hy h4
      have g3 : S.mlo a b 2 ≤ S.mhi a b 2 := mx_le_mn h5 hz h6
      simp [S.meets, g1, g2, g3]
    refine ⟨hm, ?_⟩
    rw [S.meet, if_pos hm, meetK_3]
    exact eqbox_iff.2 ⟨mx_eq.2 h1, mx_eq.2 h3, mx_eq.2 h5, mn_eq.2 h2, mn_eq.2 h4, mn_eq.2 h6⟩
set_option maxRecDepth 100000 in
set_option maxHeartbeats 4000000 in
theorem meet_any (a b : Bx) (w : World) :
    Calls Tryz.prog 276 #[boxV a, boxV b] w fun e w' => e = .returned (.tuple #[boxV (S.meet a b), .bool (S.meets a b)]) ∧ Below w.heap.size w w' := by
  have HNO := Lib.hid (fun k hk h => meets_no (a := a) (b := b) (k := k) hk h)
  have HYES := Lib.hid (fun h => meets_yes (a := a) (b := b) h)
  have HMT := Lib.hid (show ∀ t, S.meets a b = t → S.meet a b = if t then S.meetK a b 3 else S.zbox from fun t h => by rw [← h]; rfl)
  have HWI := Lib.hid (fun (p : Pt) (k : Nat) (n : Int) (hk : k < 3) (w : World) => with_any p k n hk w)
  have HCA := Lib.hid (fun (k : Nat) (hk : k < 3) (w : World) => coord_any a.lo k hk w)
  have HCB := Lib.hid (fun (k : Nat) (hk : k < 3) (w : World) => coord_any b.lo k hk w)
  have HDA := Lib.hid (fun (k : Nat) (hk : k < 3) (w : World) => coord_any a.hi k hk w)
  have HDB := Lib.hid (fun (k : Nat) (hk : k < 3) (w : World) => coord_any b.hi k hk w)
  unfold ptVal at HWI HCA HCB HDA HDB
  unfold boxV
  go_enter Tryz.func276, Tryz.ntmps276
  go_wp2
  have hW : Below w.heap.size w ((((w.alloc (.cells #[.int .i64 a.lo.x, .int .i64 a.lo.y, .int .i64 a.lo.z, .int .i64 a.hi.x, .int .i64 a.hi.y, .int .i64 a.hi.z] 89)).alloc (.cells #[.int .i64 b.lo.x, .int .i64 b.lo.y, .int .i64 b.lo.z, .int .i64 b.hi.x, .int .i64 b.hi.y, .int .i64 b.hi.z] 89)).alloc (.cells #[.int .i64 0, .int .i64 0, .int .i64 0, .int .i64 0, .int .i64 0, .int .i64 0] 89)).alloc (.cells #[.int .i64 0, .int .i64 0, .int .i64 0, .int .i64 0, .int .i64 0, .int .i64 0] 89)) := (by repeat (first | exact Below.refl _ _ | assumption | refine ba_alloc ?_ _ | refine ba_drew ?_ | refine ba_drewN ?_ _ | refine ba_via (by assumption) ?_ | (refine ba_set ?_ ?_ _; rotate_left; (first | omega | (simp; omega) | simp))))
  have hA0 : Blk ((((w.alloc (.cells #[.int .i64 a.lo.x, .int .i64 a.lo.y, .int .i64 a.lo.z, .int .i64 a.hi.x, .int .i64 a.hi.y, .int .i64 a.hi.z] 89)).alloc (.cells #[.int .i64 b.lo.x, .int .i64 b.lo.y, .int .i64 b.lo.z, .int .i64 b.hi.x, .int .i64 b.hi.y, .int .i64 b.hi.z] 89)).alloc (.cells #[.int .i64 0, .int .i64 0, .int .i64 0, .int .i64 0, .int .i64 0, .int .i64 0] 89)).alloc (.cells #[.int .i64 0, .int .i64 0, .int .i64 0, .int .i64 0, .int .i64 0, .int .i64 0] 89)) w.heap.size 89 #[.int .i64 a.lo.x, .int .i64 a.lo.y, .int .i64 a.lo.z, .int .i64 a.hi.x, .int .i64 a.hi.y, .int .i64 a.hi.z] := (((Blk.new w _ _).alloc _).alloc _).alloc _
  have hB0 : Blk ((((w.alloc (.cells #[.int .i64 a.lo.x, .int .i64 a.lo.y, .int .i64 a.lo.z, .int .i64 a.hi.x, .int .i64 a.hi.y, .int .i64 a.hi.z] 89)).alloc (.cells #[.int .i64 b.lo.x, .int .i64 b.lo.y, .int .i64 b.lo.z, .int .i64 b.hi.x, .int .i64 b.hi.y, .int .i64 b.hi.z] 89)).alloc (.cells #[.int .i64 0, .int .i64 0, .int .i64 0, .int .i64 0, .int .i64 0, .int .i64 0] 89)).alloc (.cells #[.int .i64 0, .int .i64 0, .int .i64 0, .int .i64 0, .int .i64 0, .int .i64 0] 89)) (w.heap.size + 1) 89 #[.int .i64 b.lo.x, .int .i64 b.lo.y, .int .i64 b.lo.z, .int .i64 b.hi.x, .int .i64 b.hi.y, .int .i64 b.hi.z] := by simpa using ((Blk.new (w.alloc (.cells #[.int .i64 a.lo.x, .int .i64 a.lo.y, .int .i64 a.lo.z, .int .i64 a.hi.x, .int .i64 a.hi.y, .int .i64 a.hi.z] 89)) 89 #[.int .i64 b.lo.x, .int .i64 b.lo.y, .int .i64 b.lo.z, .int .i64 b.hi.x, .int .i64 b.hi.y, .int .i64 b.hi.z]).alloc (.cells #[.int .i64 0, .int .i64 0, .int .i64 0, .int .i64 0, .int .i64 0, .int .i64 0] 89)).alloc (.cells #[.int .i64 0, .int .i64 0, .int .i64 0, .int .i64 0, .int .i64 0, .int .i64 0] 89)
  have hR0 : Blk ((((w.alloc (.cells #[.int .i64 a.lo.x, .int .i64 a.lo.y, .int .i64 a.lo.z, .int .i64 a.hi.x, .int .i64 a.hi.y, .int .i64 a.hi.z] 89)).alloc (.cells #[.int .i64 b.lo.x, .int .i64 b.lo.y, .int .i64 b.lo.z, .int .i64 b.hi.x, .int .i64 b.hi.y, .int .i64 b.hi.z] 89)).alloc (.cells #[.int .i64 0, .int .i64 0, .int .i64 0, .int .i64 0, .int .i64 0, .int .i64 0] 89)).alloc (.cells #[.int .i64 0, .int .i64 0, .int .i64 0, .int .i64 0, .int .i64 0, .int .i64 0] 89)) (w.heap.size + 1 + 1) 89 #[.int .i64 0, .int .i64 0, .int .i64 0, .int .i64 0, .int .i64 0, .int .i64 0] := by simpa using (Blk.new ((w.alloc (.cells #[.int .i64 a.lo.x, .int .i64 a.lo.y, .int .i64 a.lo.z, .int .i64 a.hi.x, .int .i64 a.hi.y, .int .i64 a.hi.z] 89)).alloc (.cells #[.int .i64 b.lo.x, .int .i64 b.lo.y, .int .i64 b.lo.z, .int .i64 b.hi.x, .int .i64 b.hi.y, .int .i64 b.hi.z] 89)) 89 #[.int .i64 0, .int .i64 0, .int .i64 0, .int .i64 0, .int .i64 0, .int .i64 0]).alloc (.cells #[.int .i64 0, .int .i64 0, .int .i64 0, .int .i64 0, .int .i64 0, .int .i64 0] 89)
  have hO0 : Blk ((((w.alloc (.cells #[.int .i64 a.lo.x, .int .i64 a.lo.y, .int .i64 a.lo.z, .int .i64 a.hi.x, .int .i64 a.hi.y, .int .i64 a.hi.z] 89)).alloc (.cells #[.int .i64 b.lo.x, .int .i64 b.lo.y, .int .i64 b.lo.z, .int .i64 b.hi.x, .int .i64 b.hi.y, .int .i64 b.hi.z] 89)).alloc (.cells #[.int .i64 0, .int .i64 0, .int .i64 0, .int .i64 0, .int .i64 0, .int .i64 0] 89)).alloc (.cells #[.int .i64 0, .int .i64 0, .int .i64 0, .int .i64 0, .int .i64 0, .int .i64 0] 89)) (w.heap.size + 1 + 1 + 1) 89 #[.int .i64 0, .int .i64 0, .int .i64 0, .int .i64 0, .int .i64 0, .int .i64 0] := by simpa using Blk.new (((w.alloc (.cells #[.int .i64 a.lo.x, .int .i64 a.lo.y, .int .i64 a.lo.z, .int .i64 a.hi.x, .int .i64 a.hi.y, .int .i64 a.hi.z] 89)).alloc (.cells #[.int .i64 b.lo.x, .int .i64 b.lo.y, .int .i64 b.lo.z, .int .i64 b.hi.x, .int .i64 b.hi.y, .int .i64 b.hi.z] 89)).alloc (.cells #[.int .i64 0, .int .i64 0, .int .i64 0, .int .i64 0, .int .i64 0, .int .i64 0] 89)) 89 #[.int .i64 0, .int .i64 0, .int .i64 0, .int .i64 0, .int .i64 0, .int .i64 0]
  have hzW : ((((w.alloc (.cells #[.int .i64 a.lo.x, .int .i64 a.lo.y, .int .i64 a.lo.z, .int .i64 a.hi.x, .int .i64 a.hi.y, .int .i64 a.hi.z] 89)).alloc (.cells #[.int .i64 b.lo.x, .int .i64 b.lo.y, .int .i64 b.lo.z, .int .i64 b.hi.x, .int .i64 b.hi.y, .int .i64 b.hi.z] 89)).alloc (.cells #[.int .i64 0, .int .i64 0, .int .i64 0, .int .i64 0, .int .i64 0, .int .i64 0] 89)).alloc (.cells #[.int .i64 0, .int .i64 0, .int .i64 0, .int .i64 0, .int .i64 0, .int .i64 0] 89)).heap.size = w.heap.size + 1 + 1 + 1 + 1 := by simp
  have HA0 := Lib.hid hA0
  have HB0 := Lib.hid hB0
  have HR0 := Lib.hid hR0
  clear hA0 hB0 hR0
  generalize ((((w.alloc (.cells #[.int .i64 a.lo.x, .int .i64 a.lo.y, .int .i64 a.lo.z, .int .i64 a.hi.x, .int .i64 a.hi.y, .int .i64 a.hi.z] 89)).alloc (.cells #[.int .i64 b.lo.x, .int .i64 b.lo.y, .int .i64 b.lo.z, .int .i64 b.hi.x, .int .i64 b.hi.y, .int .i64 b.hi.z] 89)).alloc (.cells #[.int .i64 0, .int .i64 0, .int .i64 0, .int .i64 0, .int .i64 0, .int .i64 0] 89)).alloc (.cells #[.int .i64 0, .int .i64 0, .int .i64 0, .int .i64 0, .int .i64 0, .int .i64 0] 89)) = W1 at *
  go_loopw [7] (fun i wr => ∃ k : Nat, k ≤ 3 ∧ i = .int .i64 k ∧ Hid (∀ j, j < k → S.mlo a b j ≤ S.mhi a b j) ∧ Blk wr (w.heap.size + 1 + 1 + 1) 89 #[.int .i64 (S.meetK a b k).lo.x, .int .i64 (S.meetK a b k).lo.y, .int .i64 (S.meetK a b k).lo.z, .int .i64 (S.meetK a b k).hi.x, .int .i64 (S.meetK a b k).hi.y, .int .i64 (S.meetK a b k).hi.z] ∧ Exc [(w.heap.size + 1 + 1 + 1)] W1 wr) (fun i _ => 3 - (intOf i).toNat)
  case atStart => exact ⟨0, by omega, rfl, Lib.hid fun j hj => absurd hj (by omega), hO0, Exc.refl _ _⟩
  case round =>
    obtain ⟨k, hk, rfl, HALL, hK, hX⟩ := hrel
    have HK := Lib.hid hK
    have hsz := hX.size
    have hA1 : Blk wr w.heap.size 89 #[.int .i64 a.lo.x, .int .i64 a.lo.y, .int .i64 a.lo.z, .int .i64 a.hi.x, .int .i64 a.hi.y, .int .i64 a.hi.z] := (hX.block w.heap.size (by omega) (by simp; omega)).trans HA0.out
    have hB1 : Blk wr (w.heap.size + 1) 89 #[.int .i64 b.lo.x, .int .i64 b.lo.y, .int .i64 b.lo.z, .int .i64 b.hi.x, .int .i64 b.hi.y, .int .i64 b.hi.z] := (hX.block (w.heap.size + 1) (by omega) (by simp)).trans HB0.out
    have hR1 : Blk wr (w.heap.size + 1 + 1) 89 #[.int .i64 0, .int .i64 0, .int .i64 0, .int .i64 0, .int .i64 0, .int .i64 0] := (hX.block (w.heap.size + 1 + 1) (by omega) (by simp)).trans HR0.out
    have x0 := hA1.cell 0
    have x1 := hA1.cell 1
    have x2 := hA1.cell 2
    have x3 := hA1.cell 3
    have x4 := hA1.cell 4
    have x5 := hA1.cell 5
    simp only [List.getElem?_toArray, List.getElem?_cons_zero, List.getElem?_cons_succ] at x0 x1 x2 x3 x4 x5
    have y0 := hB1.cell 0
    have y1 := hB1.cell 1
    have y2 := hB1.cell 2
    have y3 := hB1.cell 3
    have y4 := hB1.cell 4
    have y5 := hB1.cell 5
    simp only [List.getElem?_toArray, List.getElem?_cons_zero, List.getElem?_cons_succ] at y0 y1 y2 y3 y4 y5
    have z0 := hR1.cell 0
    have z1 := hR1.cell 1
    have z2 := hR1.cell 2
    have z3 := hR1.cell 3
    have z4 := hR1.cell 4
    have z5 := hR1.cell 5
    have fz0 := hR1.frozen 0
    have fz1 := hR1.frozen 1
    have fz2 := hR1.frozen 2
    have fz3 := hR1.frozen 3
    have fz4 := hR1.frozen 4
    have fz5 := hR1.frozen 5
    simp only [List.getElem?_toArray, List.getElem?_cons_zero, List.getElem?_cons_succ] at z0 z1 z2 z3 z4 z5
    have hla := hA1.lt
    have hlb := hB1.lt
    have hlr := hR1.lt
    have hbel : Below w.heap.size w wr := hW.trans (hX.below (by omega) (by intro x hx; simp at hx; omega))
    clear hA1 hB1 hR1
    by_cases hlt : k < 3
    · have hki : (k : Int) < 3 := by omega
      have HJ := Lib.hid (show S.meetK a b (k + 1) = S.meet1 a b (S.meetK a b k) k from rfl)
      have HNk := Lib.hid (HNO.out k hlt)
      generalize S.meetK a b k = O at *
      have hgr := hK.lt
      have o0 := hK.cell 0
      have o1 := hK.cell 1
      have o2 := hK.cell 2
      have o3 := hK.cell 3
      have o4 := hK.cell 4
      have o5 := hK.cell 5
      have fo0 := hK.frozen 0
      have fo1 := hK.frozen 1
      have fo2 := hK.frozen 2
      have fo3 := hK.frozen 3
      have fo4 := hK.frozen 4
      have fo5 := hK.frozen 5
      simp only [List.getElem?_toArray, List.getElem?_cons_zero, List.getElem?_cons_succ] at o0 o1 o2 o3 o4 o5
      have HCAk := Lib.hid (HCA.out k hlt)
      have HCBk := Lib.hid (HCB.out k hlt)
      have HDAk := Lib.hid (HDA.out k hlt)
      have HDBk := Lib.hid (HDB.out k hlt)
      obtain ⟨P, hP⟩ : ∃ P, P = S.mlo a b k := ⟨_, rfl⟩
      obtain ⟨Q, hQ⟩ : ∃ Q, Q = S.mhi a b k := ⟨_, rfl⟩
      have HM1 := Lib.hid (show S.meet1 a b O k = ⟨S.setc O.lo k P, S.setc O.hi k Q⟩ by rw [hP, hQ]; rfl)
      have HP := Lib.hid hP
      have HQ := Lib.hid hQ
      unfold S.mlo S.mx at hP
      unfold S.mhi S.mn at hQ
      generalize S.co a.lo k = la at *
      generalize S.co b.lo k = lb at *
      generalize S.co a.hi k = ha at *
      generalize S.co b.hi k = hb at *
      have HWL := Lib.hid (fun w => HWI.out O.lo k P hlt w)
      have HWH := Lib.hid (fun w => HWI.out O.hi k Q hlt w)
      have HPP := Lib.hid hP
      have HQQ := Lib.hid hQ
      clear hP hQ
      clear hK
      by_cases hbad : Q < P
      · have HBAD := Lib.hid (HNk.out (by rw [← HP.out, ← HQ.out]; exact hbad))
        go_wp2
        refine wp_region_grow (by kernel_rfl) (by kernel_rfl) ?_
        repeat (go_big_quiet_step ((first | (go_at_call 180; with_reducible exact grow_of (HCAk.out _)) | (go_at_call 180; with_reducible exact grow_of (HCBk.out _)) | (go_at_call 180; with_reducible exact grow_of (HDAk.out _)) | (go_at_call 180; with_reducible exact grow_of (HDBk.out _)))))
        all_goals (refine wpQuiet_nil ?_; intro wg hbwg; obtain ⟨hcwg, hfwg⟩ := bcell hbwg; have hzwg_0 : w.heap.size < wg.heap.size := lt_via hbwg (by first | omega | (simp; done) | (simp; omega)); have hzwg_1 : w.heap.size + 1 < wg.heap.size := lt_via hbwg (by first | omega | (simp; done) | (simp; omega)); have hzwg_2 : w.heap.size + 2 < wg.heap.size := lt_via hbwg (by first | omega | (simp; done) | (simp; omega)); have hzwg_3 : w.heap.size + 3 < wg.heap.size := lt_via hbwg (by first | omega | (simp; done) | (simp; omega)))
        rw [show (if la < lb then lb else la) = P from HPP.out.symm, show (if hb < ha then hb else ha) = Q from HQQ.out.symm]
        go_wp2
        exact bodyPost_ret (v := .tuple #[.agg #[.int .i64 0, .int .i64 0, .int .i64 0, .int .i64 0, .int .i64 0, .int .i64 0], .bool false]) (by simp [results, Tryz.results276, go_sem, *]) rfl ⟨by rw [HMT.out _ HBAD.out, HBAD.out]; rfl, ((((((((ba_via hbwg hbel).setCell (by simp; omega) _).setCell (by simp; omega) _).setCell (by simp; omega) _).setCell (by simp; omega) _).setCell (by simp; omega) _).setCell (by simp; omega) _))⟩
      · have hg : ¬ Q < P := hbad
        go_wp2
        refine wp_region_grow (by kernel_rfl) (by kernel_rfl) ?_
        repeat (go_big_quiet_step ((first | (go_at_call 180; with_reducible exact grow_of (HCAk.out _)) | (go_at_call 180; with_reducible exact grow_of (HCBk.out _)) | (go_at_call 180; with_reducible exact grow_of (HDAk.out _)) | (go_at_call 180; with_reducible exact grow_of (HDBk.out _)))))
        all_goals (refine wpQuiet_nil ?_; intro wg hbwg; obtain ⟨hcwg, hfwg⟩ := bcell hbwg; have hzwg_0 : w.heap.size < wg.heap.size := lt_via hbwg (by first | omega | (simp; done) | (simp; omega)); have hzwg_1 : w.heap.size + 1 < wg.heap.size := lt_via hbwg (by first | omega | (simp; done) | (simp; omega)); have hzwg_2 : w.heap.size + 2 < wg.heap.size := lt_via hbwg (by first | omega | (simp; done) | (simp; omega)); have hzwg_3 : w.heap.size + 3 < wg.heap.size := lt_via hbwg (by first | omega | (simp; done) | (simp; omega)))
        rw [show (if la < lb then lb else la) = P from HPP.out.symm, show (if hb < ha then hb else ha) = Q from HQQ.out.symm]
        go_wp2_with (first
          | (go_at_call 251; (with_reducible refine (HWL.out _).mono ?_); rintro e w2 ⟨rfl, hbw2⟩; obtain ⟨hcw2, hfw2⟩ := bcell hbw2; have hzw2_0 : w.heap.size < w2.heap.size := lt_via hbw2 (by first | omega | (simp; done) | (simp; omega)); have hzw2_1 : w.heap.size + 1 < w2.heap.size := lt_via hbw2 (by first | omega | (simp; done) | (simp; omega)); have hzw2_2 : w.heap.size + 2 < w2.heap.size := lt_via hbw2 (by first | omega | (simp; done) | (simp; omega)); have hzw2_3 : w.heap.size + 3 < w2.heap.size := lt_via hbw2 (by first | omega | (simp; done) | (simp; omega)))
          | (go_at_call 251; (with_reducible refine (HWH.out _).mono ?_); rintro e w3 ⟨rfl, hbw3⟩; obtain ⟨hcw3, hfw3⟩ := bcell hbw3; have hzw3_0 : w.heap.size < w3.heap.size := lt_via hbw3 (by first | omega | (simp; done) | (simp; omega)); have hzw3_1 : w.heap.size + 1 < w3.heap.size := lt_via hbw3 (by first | omega | (simp; done) | (simp; omega)); have hzw3_2 : w.heap.size + 2 < w3.heap.size := lt_via hbw3 (by first | omega | (simp; done) | (simp; omega)); have hzw3_3 : w.heap.size + 3 < w3.heap.size := lt_via hbw3 (by first | omega | (simp; done) | (simp; omega))))
        go_roundw
        case rel =>
          refine ⟨k + 1, by omega, by go_num, Lib.hid fun j hj => ?_, ?_, ?_⟩
          · by_cases hjk : j = k
            · subst hjk; rw [← HP.out, ← HQ.out]; omega
            · exact HALL.out j (by omega)
          · rw [HJ.out, HM1.out]
            have h3 := ((((HK.out.via hbwg).via hbw2).set 0 (.int .i64 (S.setc O.lo k P).x)).set 1 (.int .i64 (S.setc O.lo k P).y)).set 2 (.int .i64 (S.setc O.lo k P).z)
            simp only [List.setIfInBounds_toArray, List.set_cons_zero, List.set_cons_succ] at h3
            have h6 := (((h3.via hbw3).set 3 (.int .i64 (S.setc O.hi k Q).x)).set 4 (.int .i64 (S.setc O.hi k Q).y)).set 5 (.int .i64 (S.setc O.hi k Q).z)
            simp only [List.setIfInBounds_toArray, List.set_cons_zero, List.set_cons_succ] at h6
            exact h6
          · exact (((Exc.via hbw3 ((((Exc.via hbw2 (Exc.via hbwg hX)).set (.inl (by simp)) _).set (.inl (by simp)) _).set (.inl (by simp)) _)).set (.inl (by simp)) _).set (.inl (by simp)) _).set (.inl (by simp)) _
        case measure => simp [intOf]; omega
    · have he : k = 3 := by omega
      subst he
      have HB := Lib.hid (HYES.out HALL.out)
      have HMM := Lib.hid (HMT.out _ HB.out)
      generalize S.meetK a b 3 = O at *
      have hgr := hK.lt
      have o0 := hK.cell 0
      have o1 := hK.cell 1
      have o2 := hK.cell 2
      have o3 := hK.cell 3
      have o4 := hK.cell 4
      have o5 := hK.cell 5
      have fo0 := hK.frozen 0
      have fo1 := hK.frozen 1
      have fo2 := hK.frozen 2
      have fo3 := hK.frozen 3
      have fo4 := hK.frozen 4
      have fo5 := hK.frozen 5
      simp only [List.getElem?_toArray, List.getElem?_cons_zero, List.getElem?_cons_succ] at o0 o1 o2 o3 o4 o5
      go_wp2
      exact bodyPost_ret (v := .tuple #[boxV O, .bool true]) (by simp [results, Tryz.results276, go_sem, *]) rfl ⟨by rw [HMM.out, HB.out]; rfl, ((((((hbel.setCell (by simp; omega) _).setCell (by simp; omega) _).setCell (by simp; omega) _).setCell (by simp; omega) _).setCell (by simp; omega) _).setCell (by simp; omega) _)⟩
set_option maxHeartbeats 1000000 in
theorem rcontains_any (a b : Bx) (w : World) (hx : b.lo.x ≤ b.hi.x) (hy : b.lo.y ≤ b.hi.y) (hz : b.lo.z ≤ b.hi.z) :
    Calls Tryz.prog 261 #[boxV a, boxV b] w fun e w' => e = .returned (.bool (S.cont a b)) ∧ Below w.heap.size w w' := by
  have H := Lib.hid (meet_cont a b hx hy hz)
  have HM := Lib.hid (fun w => meet_any a b w)
  clear hx hy hz
  have q := run_eq_box (S.meet a b) b
  generalize S.meet a b = M at *
  generalize S.meets a b = t at *
  unfold boxV at HM q ⊢
  cases t
  all_goals (
    go_enter Tryz.func261, Tryz.ntmps261
    go_wp2_with (go_at_call 276; (with_reducible refine (HM.out _).mono ?_); rintro e w1 ⟨rfl, hbw1⟩; obtain ⟨hcw1, hfw1⟩ := bcell hbw1; have hzw1_0 : w.heap.size < w1.heap.size := lt_via hbw1 (by first | omega | (simp; done) | (simp; omega)); have hzw1_1 : w.heap.size + 1 < w1.heap.size := lt_via hbw1 (by first | omega | (simp; done) | (simp; omega)))
    go_ret
    exact ⟨ret_b (by rw [← H.out]; simp), (by repeat (first | exact Below.refl _ _ | assumption | refine ba_alloc ?_ _ | refine ba_drew ?_ | refine ba_drewN ?_ _ | refine ba_via (by assumption) ?_ | (refine ba_set ?_ ?_ _; rotate_left; (first | omega | (simp; omega) | simp))))⟩)
set_option maxHeartbeats 4000000 in
theorem bcont_any (a b : Bx) (w : World) :
    Calls Tryz.prog 260 #[boxV a, boxV b] w fun e w' => e = .returned (.bool (S.cont a b)) ∧ Below w.heap.size w w' := by
  have H := Lib.hid (show ∀ t : Bool, (t = true ↔ a.lo.x ≤ b.lo.x ∧ b.hi.x ≤ a.hi.x ∧ a.lo.y ≤ b.lo.y ∧ b.hi.y ≤ a.hi.y ∧ a.lo.z ≤ b.lo.z ∧ b.hi.z ≤ a.hi.z) → t = S.cont a b from fun t ht => by rw [Bool.eq_iff_iff, ht, cont_iff])
  have HXA := Lib.hid (fun w => ends_x a w)
  have HYA := Lib.hid (fun w => ends_y a w)
  have HZA := Lib.hid (fun w => ends_z a w)
  have HXB := Lib.hid (fun w => ends_x b w)
  have HYB := Lib.hid (fun w => ends_y b w)
  have HZB := Lib.hid (fun w => ends_z b w)
  unfold boxV
  go_enter Tryz.func260, Tryz.ntmps260
  go_wp2
  refine wp_loop_rounds 4 ?_
  rw [rounds_succ]
  go_wp2_with (first | (go_at_call 167; (with_reducible refine (HXA.out _).mono ?_); rintro e w1 ⟨rfl, hbw1⟩; obtain ⟨hcw1, hfw1⟩ := bcell hbw1; have hzw1_0 : w.heap.size < w1.heap.size := lt_via hbw1 (by first | omega | (simp; done) | (simp; omega)); have hzw1_1 : w.heap.size + 1 < w1.heap.size := lt_via hbw1 (by first | omega | (simp; done) | (simp; omega))) | (go_at_call 167; (with_reducible refine (HXB.out _).mono ?_); rintro e w2 ⟨rfl, hbw2⟩; obtain ⟨hcw2, hfw2⟩ := bcell hbw2; have hzw2_0 : w.heap.size < w2.heap.size := lt_via hbw2 (by first | omega | (simp; done) | (simp; omega)); have hzw2_1 : w.heap.size + 1 < w2.heap.size := lt_via hbw2 (by first | omega | (simp; done) | (simp; omega))))
  all_goals (try (go_ret; exact ⟨ret_b (H.out _ (by simp only [decide_eq_true_eq, decide_eq_false_iff_not, Bool.false_eq_true, true_iff, false_iff] at *; omega)), (by repeat (first | exact Below.refl _ _ | assumption | refine ba_alloc ?_ _ | refine ba_drew ?_ | refine ba_drewN ?_ _ | refine ba_via (by assumption) ?_ | (refine ba_set ?_ ?_ _; rotate_left; (first | omega | (simp; omega) | simp))))⟩))
  rw [rounds_succ]
  go_wp2_with (first | (go_at_call 167; (with_reducible refine (HYA.out _).mono ?_); rintro e w3 ⟨rfl, hbw3⟩; obtain ⟨hcw3, hfw3⟩ := bcell hbw3; have hzw3_0 : w.heap.size < w3.heap.size := lt_via hbw3 (by first | omega | (simp; done) | (simp; omega)); have hzw3_1 : w.heap.size + 1 < w3.heap.size := lt_via hbw3 (by first | omega | (simp; done) | (simp; omega))) | (go_at_call 167; (with_reducible refine (HYB.out _).mono ?_); rintro e w4 ⟨rfl, hbw4⟩; obtain ⟨hcw4, hfw4⟩ := bcell hbw4; have hzw4_0 : w.heap.size < w4.heap.size := lt_via hbw4 (by first | omega | (simp; done) | (simp; omega)); have hzw4_1 : w.heap.size + 1 < w4.heap.size := lt_via hbw4 (by first | omega | (simp; done) | (simp; omega))))
  all_goals (try (go_ret; exact ⟨ret_b (H.out _ (by simp only [decide_eq_true_eq, decide_eq_false_iff_not, Bool.false_eq_true, true_iff, false_iff] at *; omega)), (by repeat (first | exact Below.refl _ _ | assumption | refine ba_alloc ?_ _ | refine ba_drew ?_ | refine ba_drewN ?_ _ | refine ba_via (by assumption) ?_ | (refine ba_set ?_ ?_ _; rotate_left; (first | omega | (simp; omega) | simp))))⟩))
  rw [rounds_succ]
  go_wp2_with (first | (go_at_call 167; (with_reducible refine (HZA.out _).mono ?_); rintro e w5 ⟨rfl, hbw5⟩; obtain ⟨hcw5, hfw5⟩ := bcell hbw5; have hzw5_0 : w.heap.size < w5.heap.size := lt_via hbw5 (by first | omega | (simp; done) | (simp; omega)); have hzw5_1 : w.heap.size + 1 < w5.heap.size := lt_via hbw5 (by first | omega | (simp; done) | (simp; omega))) | (go_at_call 167; (with_reducible refine (HZB.out _).mono ?_); rintro e w6 ⟨rfl, hbw6⟩; obtain ⟨hcw6, hfw6⟩ := bcell hbw6; have hzw6_0 : w.heap.size < w6.heap.size := lt_via hbw6 (by first | omega | (simp; done) | (simp; omega)); have hzw6_1 : w.heap.size + 1 < w6.heap.size := lt_via hbw6 (by first | omega | (simp; done) | (simp; omega))))
  all_goals (try (go_ret; exact ⟨ret_b (H.out _ (by simp only [decide_eq_true_eq, decide_eq_false_iff_not, Bool.false_eq_true, true_iff, false_iff] at *; omega)), (by repeat (first | exact Below.refl _ _ | assumption | refine ba_alloc ?_ _ | refine ba_drew ?_ | refine ba_drewN ?_ _ | refine ba_via (by assumption) ?_ | (refine ba_set ?_ ?_ _; rotate_left; (first | omega | (simp; omega) | simp))))⟩))
  rw [rounds_succ]
  go_wp2
  (go_ret; exact ⟨ret_b (H.out _ (by simp only [decide_eq_true_eq, decide_eq_false_iff_not, Bool.false_eq_true, true_iff, false_iff] at *; omega)), (by repeat (first | exact Below.refl _ _ | assumption | refine ba_alloc ?_ _ | refine ba_drew ?_ | refine ba_drewN ?_ _ | refine ba_via (by assumption) ?_ | (refine ba_set ?_ ?_ _; rotate_left; (first | omega | (simp; omega) | simp))))⟩)
theorem bcontains_yes (a b : Bx) (w : World) (ha : S.boxOk a = true) (hb : S.boxOk b = true) :
    Calls Tryz.prog 220 #[boxV a, boxV b] w fun e w' => e = .returned (.tuple #[.bool (S.cont a b), .int .i64 0]) ∧ Below w.heap.size w w' := by
  have HA := Lib.hid (fun w => ha ▸ bvalid_any a w)
  have HB := Lib.hid (fun w => hb ▸ bvalid_any b w)
  have HC := Lib.hid (fun w => bcont_any a b w)
  generalize S.cont a b = t at *
  unfold boxV
  go_enter Tryz.func220, Tryz.ntmps220
  go_wp2_with (first
    | (go_at_call 107; (with_reducible refine (HA.out _).mono ?_); rintro e w1 ⟨rfl, hbw1⟩; obtain ⟨hcw1, hfw1⟩ := bcell hbw1; have hzw1_0 : w.heap.size < w1.heap.size := lt_via hbw1 (by first | omega | (simp; done) | (simp; omega)); have hzw1_1 : w.heap.size + 1 < w1.heap.size := lt_via hbw1 (by first | omega | (simp; done) | (simp; omega)))
    | (go_at_call 107; (with_reducible refine (HB.out _).mono ?_); rintro e w2 ⟨rfl, hbw2⟩; obtain ⟨hcw2, hfw2⟩ := bcell hbw2; have hzw2_0 : w.heap.size < w2.heap.size := lt_via hbw2 (by first | omega | (simp; done) | (simp; omega)); have hzw2_1 : w.heap.size + 1 < w2.heap.size := lt_via hbw2 (by first | omega | (simp; done) | (simp; omega)))
    | (go_at_call 260; (with_reducible refine (HC.out _).mono ?_); rintro e w3 ⟨rfl, hbw3⟩; obtain ⟨hcw3, hfw3⟩ := bcell hbw3; have hzw3_0 : w.heap.size < w3.heap.size := lt_via hbw3 (by first | omega | (simp; done) | (simp; omega)); have hzw3_1 : w.heap.size + 1 < w3.heap.size := lt_via hbw3 (by first | omega | (simp; done) | (simp; omega))))
  go_ret2
  exact ⟨rfl, (by repeat (first | exact Below.refl _ _ | assumption | refine ba_alloc ?_ _ | refine ba_drew ?_ | refine ba_drewN ?_ _ | refine ba_via (by assumption) ?_ | (refine ba_set ?_ ?_ _; rotate_left; (first | omega | (simp; omega) | simp))))⟩
end Go.Proofs.YtffkmgjmlahfpaaGreat
set_option linter.unusedVariables false
set_option linter.unusedSimpArgs false
namespace Go.Proofs.YtffkmgjmlahfpaaGreat
open Go.RowKit
def S.isMainB (b : Bx) : Bool := decide (b.lo.x < b.hi.x) && decide (b.lo.y = b.hi.y) && decide (b.lo.z = b.hi.z)
theorem Main_any (b : Bx) (w : World) :
    Calls Tryz.prog 158 #[boxV b] w fun e w' => e = .returned (.bool (S.isMainB b)) ∧ Below w.heap.size w w' := by
  have H := Lib.hid (show S.isMainB b = (decide (b.lo.x < b.hi.x) && decide (b.lo.y = b.hi.y) && decide (b.lo.z = b.hi.z)) from rfl)
  unfold boxV
  go_enter Tryz.func158, Tryz.ntmps158
  go_wp2
  all_goals (go_ret; exact ⟨ret_b (by rw [H.out, Bool.eq_iff_iff]; all_goals (first | (simp at *; done) | (simp at *; omega))), (by repeat (first | exact Below.refl _ _ | assumption | refine ba_alloc ?_ _ | refine ba_drew ?_ | refine ba_drewN ?_ _ | refine ba_via (by assumption) ?_ | (refine ba_set ?_ ?_ _; rotate_left; (first | omega | (simp; omega) | simp))))⟩)
theorem mainleg_any (A : Option Addr) (n c : Nat) (xs : List Bx) (B : Nat) (w : World) (hn : xs.length = n) (hm : n ≤ 9223372036854775807) (hB : B ≤ w.heap.size) (hs : Cells w B A (xs.flatMap boxC)) :
    Calls Tryz.prog 96 #[.slice A n c] w fun e w' => e = .returned (.int .i64 (idxf xs S.isMainB)) ∧ Below w.heap.size w w' := by
  have HN := Lib.hid hn
  clear hn
  go_enter Tryz.func96, Tryz.ntmps96
  go_wp2
  go_loopw [3] (fun i wr => ∃ k : Nat, k ≤ n ∧ i = .int .i64 k ∧ Hid (∀ j (h : j < xs.length), j < k → S.isMainB xs[j] = false) ∧ Below w.heap.size w wr) (fun i _ => n - (intOf i).toNat)
  case atStart => exact ⟨0, Nat.zero_le _, rfl, Lib.hid fun j _ hj => absurd hj (by omega), Below.refl _ _⟩
  case round =>
    obtain ⟨k, hk, rfl, HNO, hbr⟩ := hrel
    by_cases hlt : k < n
    · have hki : (k : Int) < (n : Int) := by omega
      have hkx : k < xs.length := by have := HN.out; omega
      have hs' := hs.below (hbr.mono hB)
      obtain ⟨b, o, rfl, _, _⟩ := hs'.at_ (by rw [flat_len boxC 6 boxC_len]; omega)
      obtain ⟨c0, c1, c2, c3, c4, c5⟩ := hs'.boxes (List.getElem?_eq_getElem hkx)
      have HT := Lib.hid (Main_any xs[k])
      have HX := Lib.hid (fun hx => idxf_hit (p := S.isMainB) hkx hx HNO.out)
      generalize hq : S.isMainB xs[k] = q at *
      have HQ := Lib.hid hq
      clear hq
      cases q
      · go_wp2_with (go_at_call 158; (with_reducible refine (HT.out _).mono ?_); rintro e w1 ⟨rfl, hbw1⟩; obtain ⟨hcw1, hfw1⟩ := bcell hbw1)
        go_roundw
        case rel =>
          refine ⟨k + 1, by omega, by go_num, Lib.hid fun j hj hjk => ?_, ba_via hbw1 hbr⟩
          by_cases hjk' : j = k
          · subst hjk'; exact HQ.out
          · exact HNO.out j hj (by omega)
        case measure => simp [intOf]; omega
      · go_wp2_with (go_at_call 158; (with_reducible refine (HT.out _).mono ?_); rintro e w1 ⟨rfl, hbw1⟩; obtain ⟨hcw1, hfw1⟩ := bcell hbw1)
        go_ret
        exact ⟨ret_i (HX.out trivial).symm, ba_via hbw1 hbr⟩
    · have HX := Lib.hid (idxf_miss (p := S.isMainB) (xs := xs) fun j hj => HNO.out j hj (by have := HN.out; omega))
      go_wp2
      go_ret
      exact ⟨ret_i HX.out.symm, hbr⟩
end Go.Proofs.YtffkmgjmlahfpaaGreat
set_option linter.unusedVariables false
set_option linter.unusedSimpArgs false
namespace Go.Proofs.YtffkmgjmlahfpaaGreat
open Go.RowKit
theorem isMain_any (b : Bx) (w : World) :
    Calls Tryz.prog 219 #[boxV b] w fun e w' => e = .returned (.bool (S.isMainB b)) ∧ Below w.heap.size w w' := by
  have H := Lib.hid (show S.isMainB b = (decide (b.lo.x < b.hi.x) && decide (b.lo.y = b.hi.y) && decide (b.lo.z = b.hi.z)) from rfl)
  unfold boxV
  go_enter Tryz.func219, Tryz.ntmps219
  go_wp2
  all_goals (go_ret; exact ⟨ret_b (by rw [H.out, Bool.eq_iff_iff]; all_goals (first | (simp at *; done) | (simp at *; omega))), (by repeat (first | exact Below.refl _ _ | assumption | refine ba_alloc ?_ _ | refine ba_drew ?_ | refine ba_drewN ?_ _ | refine ba_via (by assumption) ?_ | (refine ba_set ?_ ?_ _; rotate_left; (first | omega | (simp; omega) | simp))))⟩)
theorem notok_any (b : Bx) (w : World) : Calls Tryz.prog 217 #[boxV b] w fun e w' => e = .returned (.bool (S.boxNot b)) ∧ Below w.heap.size w w' := by
  have HV := Lib.hid (fun w => bvalid_any b w)
  unfold boxV
  go_enter Tryz.func217, Tryz.ntmps217
  go_wp2_with (go_at_call 107; (with_reducible refine (HV.out _).mono ?_); rintro e w1 ⟨rfl, hbw1⟩; obtain ⟨hcw1, hfw1⟩ := bcell hbw1; have hzw1_0 : w.heap.size < w1.heap.size := lt_via hbw1 (by first | omega | (simp; done) | (simp; omega)))
  go_ret
  exact ⟨rfl, (by repeat (first | exact Below.refl _ _ | assumption | refine ba_alloc ?_ _ | refine ba_drew ?_ | refine ba_drewN ?_ _ | refine ba_via (by assumption) ?_ | (refine ba_set ?_ ?_ _; rotate_left; (first | omega | (simp; omega) | simp))))⟩
end Go.Proofs.YtffkmgjmlahfpaaGreat
set_option linter.unusedVariables false
set_option linter.unusedSimpArgs false
namespace Go.Proofs.YtffkmgjmlahfpaaGreat
open Go.RowKit
abbrev S.pbox (p : Pt) : Bx := ⟨p, p⟩
def S.touch (xs : List Bx) (j : Nat) (p : Pt) : Bool := S.cont (xs.getD j S.zbox) (S.pbox p)
/-- The end p of leg k is bent. -/
def S.bent (xs : List Bx) (k : Nat) (p : Pt) : Bool := (decide (0 < k) && S.touch xs (k - 1) p) || (decide (k + 1 < xs.length) && S.touch xs (k + 1) p)
set_option maxRecDepth 100000 in
set_option maxHeartbeats 4000000 in
theorem rbent_00 (A : Option Addr) (n c : Nat) (xs : List Bx) (p : Pt) (B : Nat) (w : World) (hn : xs.length = n) (hm : n ≤ 1000000) (hB : B ≤ w.heap.size) (hs : Cells w B A (xs.flatMap boxC)) (h1 : n = 1) :
    Calls Tryz.prog 221 #[.slice A n c, .int .i64 0, ptVal p] w fun e w' => e = .returned (.bool (S.bent xs 0 p)) ∧ Below w.heap.size w w' := by
  have H := Lib.hid (show S.bent xs 0 p = false by simp [S.bent, hn, h1])
  have hni : ¬ (0 : Int) + 1 < n := by omega
  have hni2 : ¬ (1 : Int) < n := by omega
  unfold ptVal
  go_enter Tryz.func221, Tryz.ntmps221
  go_wp2
  refine wp_region_grow (by kernel_rfl) (by kernel_rfl) ?_
  repeat (go_big_quiet_step (fail))
  all_goals (refine wpQuiet_nil ?_; intro wg hbwg; obtain ⟨hcwg, hfwg⟩ := bcell hbwg)
  go_wp2
  go_ret
  exact ⟨ret_b H.out.symm, (by repeat (first | exact Below.refl _ _ | assumption | refine ba_alloc ?_ _ | refine ba_drew ?_ | refine ba_drewN ?_ _ | refine ba_via (by assumption) ?_ | (refine ba_set ?_ ?_ _; rotate_left; (first | omega | (simp; omega) | simp))))⟩
set_option maxRecDepth 100000 in
set_option maxHeartbeats 4000000 in
theorem rbent_01 (A : Option Addr) (n c : Nat) (xs : List Bx) (p : Pt) (B : Nat) (w : World) (hn : xs.length = n) (hm : n ≤ 1000000) (hB : B ≤ w.heap.size) (hs : Cells w B A (xs.flatMap boxC)) (h1 : 1 < n) :
    Calls Tryz.prog 221 #[.slice A n c, .int .i64 0, ptVal p] w fun e w' => e = .returned (.bool (S.bent xs 0 p)) ∧ Below w.heap.size w w' := by
  have H := Lib.hid (show S.bent xs 0 p = S.touch xs 1 p by simp [S.bent, hn, h1])
  have hni2 : (1 : Int) < n := by omega
  have hk1 : 1 < xs.length := by omega
  have HC := Lib.hid (fun w => rcontains_any (xs.getD 1 S.zbox) (S.pbox p) w (Int.le_refl _) (Int.le_refl _) (Int.le_refl _))
  obtain ⟨b, o, rfl, hb, _⟩ := hs.at_ (by rw [flat_len boxC 6 boxC_len]; omega)
  obtain ⟨c0, c1, c2, c3, c4, c5⟩ := hs.boxes (List.getElem?_eq_getElem hk1)
  simp only [Nat.one_mul, Nat.add_assoc, Nat.reduceAdd] at c0 c1 c2 c3 c4 c5
  rw [show xs.getD 1 S.zbox = xs[1] by simp [List.getD_eq_getElem?_getD, hk1]] at HC
  unfold S.touch at H
  rw [show xs.getD 1 S.zbox = xs[1] by simp [List.getD_eq_getElem?_getD, hk1]] at H
  generalize S.cont xs[1] (S.pbox p) = t at *
  generalize xs[1] = X at *
  have hbw : b < w.heap.size := by omega
  have hbw2 : b < w.heap.size + 1 + 1 := by omega
  unfold ptVal
  unfold boxV at HC
  cases t
  all_goals (
    go_enter Tryz.func221, Tryz.ntmps221
    go_wp2
    refine wp_region_grow (by kernel_rfl) (by kernel_rfl) ?_
    repeat (go_big_quiet_step ((go_at_call 261; exact grow_of (HC.out _))))
    all_goals (refine wpQuiet_nil ?_; intro wg hbwg; obtain ⟨hcwg, hfwg⟩ := bcell hbwg)
    go_wp2
    go_ret
    exact ⟨ret_b H.out.symm, (by repeat (first | exact Below.refl _ _ | assumption | refine ba_alloc ?_ _ | refine ba_drew ?_ | refine ba_drewN ?_ _ | refine ba_via (by assumption) ?_ | (refine ba_set ?_ ?_ _; rotate_left; (first | omega | (simp; omega) | simp))))⟩)
set_option maxRecDepth 100000 in
set_option maxHeartbeats 4000000 in
theorem rbent_10 (A : Option Addr) (n c k : Nat) (xs : List Bx) (p : Pt) (B : Nat) (w : World) (hn : xs.length = n) (hm : n ≤ 1000000) (hB : B ≤ w.heap.size) (hs : Cells w B A (xs.flatMap boxC)) (h0 : 0 < k) (hk : k < n) (h1 : ¬ k + 1 < n) :
    Calls Tryz.prog 221 #[.slice A n c, .int .i64 k, ptVal p] w fun e w' => e = .returned (.bool (S.bent xs k p)) ∧ Below w.heap.size w w' := by
  have hH : S.bent xs k p = S.touch xs (k - 1) p := by simp [S.bent, hn, h1, h0]
  obtain ⟨j, hj⟩ : ∃ j, j = k - 1 := ⟨_, rfl⟩
  obtain ⟨q, hq⟩ : ∃ q, q = k + 1 := ⟨_, rfl⟩
  have e1 : (k : Int) - 1 = (j : Int) := by omega
  have e2 : (k : Int) + 1 = (q : Int) := by omega
  have e3 : IntKind.i64.wrap (j : Int) = (j : Int) := IntWalk.i64_in _ (by omega)
  have e4 : IntKind.i64.wrap (q : Int) = (q : Int) := IntWalk.i64_in _ (by omega)
  have g1 : (0 : Int) < (k : Int) := by omega
  have g2 : ¬ (q : Int) < (n : Int) := by omega
  have hqd : decide (q < n) = false := by simp; omega
  have g3 : (j : Int) < (n : Int) := by omega
  have hj1 : j < n := by omega
  have hjx : j < xs.length := by omega
  rw [← hj] at hH
  have HC := Lib.hid (fun w => rcontains_any (xs.getD j S.zbox) (S.pbox p) w (Int.le_refl _) (Int.le_refl _) (Int.le_refl _))
  obtain ⟨b, o, rfl, hb, _⟩ := hs.at_ (by rw [flat_len boxC 6 boxC_len]; omega)
  obtain ⟨c0, c1, c2, c3, c4, c5⟩ := hs.boxes (List.getElem?_eq_getElem hjx)
  unfold S.touch at hH
  rw [show xs.getD j S.zbox = xs[j] by simp [List.getD_eq_getElem?_getD, hjx]] at HC hH
  have H := Lib.hid hH
  clear hH hj hq
  generalize S.cont xs[j] (S.pbox p) = t at *
  generalize xs[j] = X at *
  have hbw : b < w.heap.size := by omega
  have hbw2 : b < w.heap.size + 1 + 1 := by omega
  unfold ptVal
  unfold boxV at HC
  cases t
  all_goals (
    go_enter Tryz.func221, Tryz.ntmps221
    go_wp2
    refine wp_region_grow (by kernel_rfl) (by kernel_rfl) ?_
    repeat (go_big_quiet_step ((go_at_call 261; exact grow_of (HC.out _))))
    all_goals (refine wpQuiet_nil ?_; intro wg hbwg; obtain ⟨hcwg, hfwg⟩ := bcell hbwg)
    go_wp2
    go_ret
    exact ⟨ret_b H.out.symm, (by repeat (first | exact Below.refl _ _ | assumption | refine ba_alloc ?_ _ | refine ba_drew ?_ | refine ba_drewN ?_ _ | refine ba_via (by assumption) ?_ | (refine ba_set ?_ ?_ _; rotate_left; (first | omega | (simp; omega) | simp))))⟩)
set_option maxRecDepth 100000 in
set_option maxHeartbeats 4000000 in
theorem rbent_11 (A : Option Addr) (n c k : Nat) (xs : List Bx) (p : Pt) (B : Nat) (w : World) (hn : xs.length = n) (hm : n ≤ 1000000) (hB : B ≤ w.heap.size) (hs : Cells w B A (xs.flatMap boxC)) (h0 : 0 < k) (h1 : k + 1 < n) :
    Calls Tryz.prog 221 #[.slice A n c, .int .i64 k, ptVal p] w fun e w' => e = .returned (.bool (S.bent xs k p)) ∧ Below w.heap.size w w' := by
  have hH : S.bent xs k p = (S.touch xs (k - 1) p || S.touch xs (k + 1) p) := by simp [S.bent, hn, h1, h0]
  obtain ⟨j, hj⟩ : ∃ j, j = k - 1 := ⟨_, rfl⟩
  obtain ⟨q, hq⟩ : ∃ q, q = k + 1 := ⟨_, rfl⟩
  have e1 : (k : Int) - 1 = (j : Int) := by omega
  obtain ⟨z, hz⟩ : ∃ z : Int, z = (q : Int) := ⟨_, rfl⟩
  have e2 : (k : Int) + 1 = z := by omega
  have e5 : z.toNat = q := by omega
  have e3 : IntKind.i64.wrap (j : Int) = (j : Int) := IntWalk.i64_in _ (by omega)
  have e4 : IntKind.i64.wrap z = z := IntWalk.i64_in _ (by omega)
  have g1 : (0 : Int) < (k : Int) := by omega
  have g2 : z < (n : Int) := by omega
  have g4 : 0 ≤ z := by omega
  have g3 : (j : Int) < (n : Int) := by omega
  have hj1 : j < n := by omega
  have hq1 : q < n := by omega
  have hjx : j < xs.length := by omega
  have hqx : q < xs.length := by omega
  rw [← hj, ← hq] at hH
  have HC := Lib.hid (fun w => rcontains_any (xs.getD j S.zbox) (S.pbox p) w (Int.le_refl _) (Int.le_refl _) (Int.le_refl _))
  have HD := Lib.hid (fun w => rcontains_any (xs.getD q S.zbox) (S.pbox p) w (Int.le_refl _) (Int.le_refl _) (Int.le_refl _))
  obtain ⟨b, o, rfl, hb, _⟩ := hs.at_ (by rw [flat_len boxC 6 boxC_len]; omega)
  obtain ⟨c0, c1, c2, c3, c4, c5⟩ := hs.boxes (List.getElem?_eq_getElem hjx)
  obtain ⟨d0, d1, d2, d3, d4, d5⟩ := hs.boxes (List.getElem?_eq_getElem hqx)
  unfold S.touch at hH
  rw [show xs.getD j S.zbox = xs[j] by simp [List.getD_eq_getElem?_getD, hjx]] at HC hH
  rw [show xs.getD q S.zbox = xs[q] by simp [List.getD_eq_getElem?_getD, hqx]] at HD hH
  have H := Lib.hid hH
  clear hH hj hq hz
  generalize S.cont xs[j] (S.pbox p) = t at *
  generalize S.cont xs[q] (S.pbox p) = u at *
  generalize xs[j] = X at *
  generalize xs[q] = Y at *
  have hbw : b < w.heap.size := by omega
  have hbw2 : b < w.heap.size + 1 + 1 := by omega
  unfold ptVal
  unfold boxV at HC HD
  cases t <;> cases u
  all_goals (
    go_enter Tryz.func221, Tryz.ntmps221
    go_wp2
    refine wp_region_grow (by kernel_rfl) (by kernel_rfl) ?_
    repeat (go_big_quiet_step ((first | (go_at_call 261; with_reducible exact grow_of (HC.out _)) | (go_at_call 261; with_reducible exact grow_of (HD.out _)))))
    all_goals (refine wpQuiet_nil ?_; intro wg hbwg; obtain ⟨hcwg, hfwg⟩ := bcell hbwg)
    go_wp2
    go_ret
    exact ⟨ret_b H.out.symm, (by repeat (first | exact Below.refl _ _ | assumption | refine ba_alloc ?_ _ | refine ba_drew ?_ | refine ba_drewN ?_ _ | refine ba_via (by assumption) ?_ | (refine ba_set ?_ ?_ _; rotate_left; (first | omega | (simp; omega) | simp))))⟩)
theorem rbent_any (A : Option Addr) (n c k : Nat) (xs : List Bx) (p : Pt) (B : Nat) (w : World) (hn : xs.length = n) (hm : n ≤ 1000000) (hB : B ≤ w.heap.size) (hs : Cells w B A (xs.flatMap boxC)) (hk : k < n) :
    Calls Tryz.prog 221 #[.slice A n c, .int .i64 k, ptVal p] w fun e w' => e = .returned (.bool (S.bent xs k p)) ∧ Below w.heap.size w w' := by
  by_cases h0 : 0 < k
  · by_cases h1 : k + 1 < n
    · exact rbent_11 A n c k xs p B w hn hm hB hs h0 h1
    · exact rbent_10 A n c k xs p B w hn hm hB hs h0 hk h1
  · obtain rfl : k = 0 := by omega
    by_cases h1 : 1 < n
    · exact rbent_01 A n c xs p B w hn hm hB hs h1
    · exact rbent_00 A n c xs p B w hn hm hB hs (by omega)
end Go.Proofs.YtffkmgjmlahfpaaGreat
