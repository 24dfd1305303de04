/- Lemmas. -/
import Derived.Test.YtmfpbafpnoomeaaGreatMN
import Derived.Test.YtmfpbafpnoomeaaGreatMP
set_option linter.unusedVariables false
set_option linter.unusedSimpArgs false
namespace Go.Proofs.YtmfpbafpnoomeaaGreat
open Go.RowKit
namespace S
def cont (a b : Bx) : Bool := decide (a.lo.x <= b.lo.x) && decide (b.hi.x <= a.hi.x) && (decide (a.lo.y <= b.lo.y) && decide (b.hi.y <= a.hi.y)) && (decide (a.lo.z <= b.lo.z) && decide (b.hi.z <= a.hi.z))
def zbox : Bx := ⟨⟨0, 0, 0⟩, ⟨0, 0, 0⟩⟩
def mlo (a b : Bx) (k : Nat) : Int := mx (co a.lo k) (co b.lo k)
def mhi (a b : Bx) (k : Nat) : Int := mn (co a.hi k) (co b.hi k)
def meet1 (a b o : Bx) (k : Nat) : Bx := ⟨setc o.lo k (mlo a b k), setc o.hi k (mhi a b k)⟩
def meetK (a b : Bx) : Nat -> Bx
 | 0 => zbox
 | k + 1 => meet1 a b (meetK a b k) k
def meets (a b : Bx) : Bool := decide (mlo a b 0 <= mhi a b 0) && decide (mlo a b 1 <= mhi a b 1) && decide (mlo a b 2 <= mhi a b 2)
def meet (a b : Bx) : Bx := if meets a b then meetK a b 3 else zbox
def eqbox (a b : Bx) : Bool := eqpt a.lo b.lo && eqpt a.hi b.hi
end S
theorem run_eq_box (a b : Bx) (W : World) : (binOp .eql 78 (boxV a) (boxV b)).run Tryz.prog W = .ok (.bool (S.eqbox a b)) W := by
 by_cases h1 : a.lo.x = b.lo.x
 ·by_cases h2 : a.lo.y = b.lo.y
  ·by_cases h3 : a.lo.z = b.lo.z
   ·by_cases h4 : a.hi.x = b.hi.x
    ·by_cases h5 : a.hi.y = b.hi.y
     ·by_cases h6 : a.hi.z = b.hi.z
      ·simp [go_sem, S.eqbox, S.eqpt, h1, h2, h3, h4, h5, h6]
      ·simp [go_sem, S.eqbox, S.eqpt, h1, h2, h3, h4, h5, h6]
     ·simp [go_sem, S.eqbox, S.eqpt, h1, h2, h3, h4, h5]
    ·simp [go_sem, S.eqbox, S.eqpt, h1, h2, h3, h4]
   ·simp [go_sem, S.eqbox, S.eqpt, h1, h2, h3]
  ·simp [go_sem, S.eqbox, S.eqpt, h1, h2]
 ·simp [go_sem, S.eqbox, S.eqpt, h1]
theorem meets_no {a b : Bx} {k : Nat} (hk : k < 3) (h : S.mhi a b k < S.mlo a b k) : S.meets a b = false := by
 have : k = 0 ∨ k = 1 ∨ k = 2 := by omega
 have hn : ¬ S.mlo a b k <= S.mhi a b k := by omega
 rcases this with rfl | rfl | rfl <;> simp [S.meets, hn]
theorem meets_yes {a b : Bx} (h : ∀ k, k < 3 -> S.mlo a b k <= S.mhi a b k) : S.meets a b = true := by
 simp [S.meets, h 0 (by omega), h 1 (by omega), h 2 (by omega)]
theorem meetK_3 (a b : Bx) : S.meetK a b 3 = ⟨⟨S.mx a.lo.x b.lo.x, S.mx a.lo.y b.lo.y, S.mx a.lo.z b.lo.z⟩, ⟨S.mn a.hi.x b.hi.x, S.mn a.hi.y b.hi.y, S.mn a.hi.z b.hi.z⟩⟩ := by
 simp [S.meetK, S.meet1, S.mlo, S.mhi, S.setc, S.co]
theorem mx_eq {a b : Int} : S.mx a b = b ↔ a <= b := by unfold S.mx; split <;> omega
theorem mn_eq {a b : Int} : S.mn a b = b ↔ b <= a := by unfold S.mn; split <;> omega
theorem mx_le_mn {a b c d : Int} (h1 : a <= b) (h2 : b <= d) (h3 : d <= c) : S.mx a b <= S.mn c d := by rw [mx_eq.2 h1, mn_eq.2 h3]; exact h2
theorem eqbox_iff {p q : Bx} : S.eqbox p q = true ↔ p.lo.x = q.lo.x /\ p.lo.y = q.lo.y /\ p.lo.z = q.lo.z /\ p.hi.x = q.hi.x /\ p.hi.y = q.hi.y /\ p.hi.z = q.hi.z := by
 simp [S.eqbox, S.eqpt, and_assoc]
theorem cont_iff {a b : Bx} : S.cont a b = true ↔ a.lo.x <= b.lo.x /\ b.hi.x <= a.hi.x /\ a.lo.y <= b.lo.y /\ b.hi.y <= a.hi.y /\ a.lo.z <= b.lo.z /\ b.hi.z <= a.hi.z := by
 simp [S.cont, and_assoc]
theorem meet_cont (a b : Bx) (hx : b.lo.x <= b.hi.x) (hy : b.lo.y <= b.hi.y) (hz : b.lo.z <= b.hi.z) : (S.meets a b && S.eqbox (S.meet a b) b) = S.cont a b := by
 rw [Bool.eq_iff_iff, Bool.and_eq_true, cont_iff]
 constructor
 ·rintro ⟨h1, h2⟩
  rw [S.meet, if_pos h1, meetK_3] at h2
  obtain ⟨h3, h4, h5, h6, h7, h8⟩ : S.mx a.lo.x b.lo.x = b.lo.x /\ S.mx a.lo.y b.lo.y = b.lo.y /\ S.mx a.lo.z b.lo.z = b.lo.z /\ S.mn a.hi.x b.hi.x = b.hi.x /\ S.mn a.hi.y b.hi.y = b.hi.y /\ S.mn a.hi.z b.hi.z = b.hi.z := eqbox_iff.1 h2
  exact ⟨mx_eq.1 h3, mn_eq.1 h6, mx_eq.1 h4, mn_eq.1 h7, mx_eq.1 h5, mn_eq.1 h8⟩
 ·rintro ⟨h1, h2, h3, h4, h5, h6⟩
  have hm : S.meets a b = true := by
   have g1 : S.mlo a b 0 <= S.mhi a b 0 := mx_le_mn h1 hx h2
   have g2 : S.mlo a b 1 <= S.mhi a b 1 := mx_le_mn h3 hy h4
   have g3 : S.mlo a b 2 <= S.mhi a b 2 := mx_le_mn h5 hz h6
   simp [S.meets, g1, g2, g3]
  refine ⟨hm, ?_⟩
  rw [S.meet, if_pos hm, meetK_3]
  exact eqbox_iff.2 ⟨mx_eq.2 h1, mx_eq.2 h3, mx_eq.2 h5, mn_eq.2 h2, mn_eq.2 h4, mn_eq.2 h6⟩
set_option maxRecDepth 100000 in
set_option maxHeartbeats 4000000 in
theorem meet_any (a b : Bx) (w : World) :
 Calls Tryz.prog 265 #[boxV a, boxV b] w fun e w' => e = .returned (.tuple #[boxV (S.meet a b), .bool (S.meets a b)]) /\ Below w.heap.size w w' := by
 have HNO := lh (fun k hk h => meets_no (a := a) (b := b) (k := k) hk h)
 have HYES := lh (fun h => meets_yes (a := a) (b := b) h)
 have HMT := lh (show ∀ t, S.meets a b = t -> S.meet a b = if t then S.meetK a b 3 else S.zbox from fun t h => by rw [<- h]; rfl)
 have HWI := lh (fun (p : Pt) (k : Nat) (n : Int) (hk : k < 3) (w : World) => with_any p k n hk w)
 have HCA := lh (fun (k : Nat) (hk : k < 3) (w : World) => coord_any a.lo k hk w)
 have HCB := lh (fun (k : Nat) (hk : k < 3) (w : World) => coord_any b.lo k hk w)
 have HDA := lh (fun (k : Nat) (hk : k < 3) (w : World) => coord_any a.hi k hk w)
 have HDB := lh (fun (k : Nat) (hk : k < 3) (w : World) => coord_any b.hi k hk w)
 unfold ptVal at HWI HCA HCB HDA HDB
 unfold boxV
 go_enter Tryz.func265, Tryz.ntmps265
 go_wp2
 have hW : Below w.heap.size w ((((w.alloc (.cells #[.int .i64 a.lo.x, .int .i64 a.lo.y, .int .i64 a.lo.z, .int .i64 a.hi.x, .int .i64 a.hi.y, .int .i64 a.hi.z] 78)).alloc (.cells #[.int .i64 b.lo.x, .int .i64 b.lo.y, .int .i64 b.lo.z, .int .i64 b.hi.x, .int .i64 b.hi.y, .int .i64 b.hi.z] 78)).alloc (.cells #[.int .i64 0, .int .i64 0, .int .i64 0, .int .i64 0, .int .i64 0, .int .i64 0] 78)).alloc (.cells #[.int .i64 0, .int .i64 0, .int .i64 0, .int .i64 0, .int .i64 0, .int .i64 0] 78)) := bel
 have hA0 : Blk ((((w.alloc (.cells #[.int .i64 a.lo.x, .int .i64 a.lo.y, .int .i64 a.lo.z, .int .i64 a.hi.x, .int .i64 a.hi.y, .int .i64 a.hi.z] 78)).alloc (.cells #[.int .i64 b.lo.x, .int .i64 b.lo.y, .int .i64 b.lo.z, .int .i64 b.hi.x, .int .i64 b.hi.y, .int .i64 b.hi.z] 78)).alloc (.cells #[.int .i64 0, .int .i64 0, .int .i64 0, .int .i64 0, .int .i64 0, .int .i64 0] 78)).alloc (.cells #[.int .i64 0, .int .i64 0, .int .i64 0, .int .i64 0, .int .i64 0, .int .i64 0] 78)) w.heap.size 78 #[.int .i64 a.lo.x, .int .i64 a.lo.y, .int .i64 a.lo.z, .int .i64 a.hi.x, .int .i64 a.hi.y, .int .i64 a.hi.z] := (((Blk.new w _ _).alloc _).alloc _).alloc _
 have hB0 : Blk ((((w.alloc (.cells #[.int .i64 a.lo.x, .int .i64 a.lo.y, .int .i64 a.lo.z, .int .i64 a.hi.x, .int .i64 a.hi.y, .int .i64 a.hi.z] 78)).alloc (.cells #[.int .i64 b.lo.x, .int .i64 b.lo.y, .int .i64 b.lo.z, .int .i64 b.hi.x, .int .i64 b.hi.y, .int .i64 b.hi.z] 78)).alloc (.cells #[.int .i64 0, .int .i64 0, .int .i64 0, .int .i64 0, .int .i64 0, .int .i64 0] 78)).alloc (.cells #[.int .i64 0, .int .i64 0, .int .i64 0, .int .i64 0, .int .i64 0, .int .i64 0] 78)) (w.heap.size + 1) 78 #[.int .i64 b.lo.x, .int .i64 b.lo.y, .int .i64 b.lo.z, .int .i64 b.hi.x, .int .i64 b.hi.y, .int .i64 b.hi.z] := by simpa using ((Blk.new (w.alloc (.cells #[.int .i64 a.lo.x, .int .i64 a.lo.y, .int .i64 a.lo.z, .int .i64 a.hi.x, .int .i64 a.hi.y, .int .i64 a.hi.z] 78)) 78 #[.int .i64 b.lo.x, .int .i64 b.lo.y, .int .i64 b.lo.z, .int .i64 b.hi.x, .int .i64 b.hi.y, .int .i64 b.hi.z]).alloc (.cells #[.int .i64 0, .int .i64 0, .int .i64 0, .int .i64 0, .int .i64 0, .int .i64 0] 78)).alloc (.cells #[.int .i64 0, .int .i64 0, .int .i64 0, .int .i64 0, .int .i64 0, .int .i64 0] 78)
 have hR0 : Blk ((((w.alloc (.cells #[.int .i64 a.lo.x, .int .i64 a.lo.y, .int .i64 a.lo.z, .int .i64 a.hi.x, .int .i64 a.hi.y, .int .i64 a.hi.z] 78)).alloc (.cells #[.int .i64 b.lo.x, .int .i64 b.lo.y, .int .i64 b.lo.z, .int .i64 b.hi.x, .int .i64 b.hi.y, .int .i64 b.hi.z] 78)).alloc (.cells #[.int .i64 0, .int .i64 0, .int .i64 0, .int .i64 0, .int .i64 0, .int .i64 0] 78)).alloc (.cells #[.int .i64 0, .int .i64 0, .int .i64 0, .int .i64 0, .int .i64 0, .int .i64 0] 78)) (w.heap.size + 1 + 1) 78 #[.int .i64 0, .int .i64 0, .int .i64 0, .int .i64 0, .int .i64 0, .int .i64 0] := by simpa using (Blk.new ((w.alloc (.cells #[.int .i64 a.lo.x, .int .i64 a.lo.y, .int .i64 a.lo.z, .int .i64 a.hi.x, .int .i64 a.hi.y, .int .i64 a.hi.z] 78)).alloc (.cells #[.int .i64 b.lo.x, .int .i64 b.lo.y, .int .i64 b.lo.z, .int .i64 b.hi.x, .int .i64 b.hi.y, .int .i64 b.hi.z] 78)) 78 #[.int .i64 0, .int .i64 0, .int .i64 0, .int .i64 0, .int .i64 0, .int .i64 0]).alloc (.cells #[.int .i64 0, .int .i64 0, .int .i64 0, .int .i64 0, .int .i64 0, .int .i64 0] 78)
 have hO0 : Blk ((((w.alloc (.cells #[.int .i64 a.lo.x, .int .i64 a.lo.y, .int .i64 a.lo.z, .int .i64 a.hi.x, .int .i64 a.hi.y, .int .i64 a.hi.z] 78)).alloc (.cells #[.int .i64 b.lo.x, .int .i64 b.lo.y, .int .i64 b.lo.z, .int .i64 b.hi.x, .int .i64 b.hi.y, .int .i64 b.hi.z] 78)).alloc (.cells #[.int .i64 0, .int .i64 0, .int .i64 0, .int .i64 0, .int .i64 0, .int .i64 0] 78)).alloc (.cells #[.int .i64 0, .int .i64 0, .int .i64 0, .int .i64 0, .int .i64 0, .int .i64 0] 78)) (w.heap.size + 1 + 1 + 1) 78 #[.int .i64 0, .int .i64 0, .int .i64 0, .int .i64 0, .int .i64 0, .int .i64 0] := by simpa using Blk.new (((w.alloc (.cells #[.int .i64 a.lo.x, .int .i64 a.lo.y, .int .i64 a.lo.z, .int .i64 a.hi.x, .int .i64 a.hi.y, .int .i64 a.hi.z] 78)).alloc (.cells #[.int .i64 b.lo.x, .int .i64 b.lo.y, .int .i64 b.lo.z, .int .i64 b.hi.x, .int .i64 b.hi.y, .int .i64 b.hi.z] 78)).alloc (.cells #[.int .i64 0, .int .i64 0, .int .i64 0, .int .i64 0, .int .i64 0, .int .i64 0] 78)) 78 #[.int .i64 0, .int .i64 0, .int .i64 0, .int .i64 0, .int .i64 0, .int .i64 0]
 have hzW : ((((w.alloc (.cells #[.int .i64 a.lo.x, .int .i64 a.lo.y, .int .i64 a.lo.z, .int .i64 a.hi.x, .int .i64 a.hi.y, .int .i64 a.hi.z] 78)).alloc (.cells #[.int .i64 b.lo.x, .int .i64 b.lo.y, .int .i64 b.lo.z, .int .i64 b.hi.x, .int .i64 b.hi.y, .int .i64 b.hi.z] 78)).alloc (.cells #[.int .i64 0, .int .i64 0, .int .i64 0, .int .i64 0, .int .i64 0, .int .i64 0] 78)).alloc (.cells #[.int .i64 0, .int .i64 0, .int .i64 0, .int .i64 0, .int .i64 0, .int .i64 0] 78)).heap.size = w.heap.size + 1 + 1 + 1 + 1 := by simp
 have HA0 := lh hA0
 have HB0 := lh hB0
 have HR0 := lh hR0
 clear hA0 hB0 hR0
 generalize ((((w.alloc (.cells #[.int .i64 a.lo.x, .int .i64 a.lo.y, .int .i64 a.lo.z, .int .i64 a.hi.x, .int .i64 a.hi.y, .int .i64 a.hi.z] 78)).alloc (.cells #[.int .i64 b.lo.x, .int .i64 b.lo.y, .int .i64 b.lo.z, .int .i64 b.hi.x, .int .i64 b.hi.y, .int .i64 b.hi.z] 78)).alloc (.cells #[.int .i64 0, .int .i64 0, .int .i64 0, .int .i64 0, .int .i64 0, .int .i64 0] 78)).alloc (.cells #[.int .i64 0, .int .i64 0, .int .i64 0, .int .i64 0, .int .i64 0, .int .i64 0] 78)) = W1 at *
 go_loopw [7] (fun i wr => ∃ k : Nat, k <= 3 /\ i = .int .i64 k /\ Hid (∀ j, j < k -> S.mlo a b j <= S.mhi a b j) /\ Blk wr (w.heap.size + 1 + 1 + 1) 78 #[.int .i64 (S.meetK a b k).lo.x, .int .i64 (S.meetK a b k).lo.y, .int .i64 (S.meetK a b k).lo.z, .int .i64 (S.meetK a b k).hi.x, .int .i64 (S.meetK a b k).hi.y, .int .i64 (S.meetK a b k).hi.z] /\ Exc [(w.heap.size + 1 + 1 + 1)] W1 wr) (fun i _ => 3 - (intOf i).toNat)
 case atStart => exact ⟨0, by omega, rfl, lh fun j hj => absurd hj (by omega), hO0, Exc.refl _ _⟩
 case round =>
  obtain ⟨k, hk, rfl, HALL, hK, hX⟩ := hrel
  have HK := lh hK
  have hsz := hX.size
  have hA1 : Blk wr w.heap.size 78 #[.int .i64 a.lo.x, .int .i64 a.lo.y, .int .i64 a.lo.z, .int .i64 a.hi.x, .int .i64 a.hi.y, .int .i64 a.hi.z] := (hX.block w.heap.size (by omega) (by simp; omega)).trans HA0.out
  have hB1 : Blk wr (w.heap.size + 1) 78 #[.int .i64 b.lo.x, .int .i64 b.lo.y, .int .i64 b.lo.z, .int .i64 b.hi.x, .int .i64 b.hi.y, .int .i64 b.hi.z] := (hX.block (w.heap.size + 1) (by omega) (by simp)).trans HB0.out
  have hR1 : Blk wr (w.heap.size + 1 + 1) 78 #[.int .i64 0, .int .i64 0, .int .i64 0, .int .i64 0, .int .i64 0, .int .i64 0] := (hX.block (w.heap.size + 1 + 1) (by omega) (by simp)).trans HR0.out
  have x0 := hA1.cell 0
  have x1 := hA1.cell 1
  have x2 := hA1.cell 2
  have x3 := hA1.cell 3
  have x4 := hA1.cell 4
  have x5 := hA1.cell 5
  simp only [ga1, ga2, ga3] at x0 x1 x2 x3 x4 x5
  have y0 := hB1.cell 0
  have y1 := hB1.cell 1
  have y2 := hB1.cell 2
  have y3 := hB1.cell 3
  have y4 := hB1.cell 4
  have y5 := hB1.cell 5
  simp only [ga1, ga2, ga3] at y0 y1 y2 y3 y4 y5
  have z0 := hR1.cell 0
  have z1 := hR1.cell 1
  have z2 := hR1.cell 2
  have z3 := hR1.cell 3
  have z4 := hR1.cell 4
  have z5 := hR1.cell 5
  have fz0 := hR1.frozen 0
  have fz1 := hR1.frozen 1
  have fz2 := hR1.frozen 2
  have fz3 := hR1.frozen 3
  have fz4 := hR1.frozen 4
  have fz5 := hR1.frozen 5
  simp only [ga1, ga2, ga3] at z0 z1 z2 z3 z4 z5
  have hla := hA1.lt
  have hlb := hB1.lt
  have hlr := hR1.lt
  have hbel : Below w.heap.size w wr := hW.trans (hX.below (by omega) (by intro x hx; simp at hx; omega))
  clear hA1 hB1 hR1
  by_cases hlt : k < 3
  ·have hki : (k : Int) < 3 := by omega
   have HJ := lh (show S.meetK a b (k + 1) = S.meet1 a b (S.meetK a b k) k from rfl)
   have HNk := lh (HNO.out k hlt)
   generalize S.meetK a b k = O at *
   have hgr := hK.lt
   have o0 := hK.cell 0
   have o1 := hK.cell 1
   have o2 := hK.cell 2
   have o3 := hK.cell 3
   have o4 := hK.cell 4
   have o5 := hK.cell 5
   have fo0 := hK.frozen 0
   have fo1 := hK.frozen 1
   have fo2 := hK.frozen 2
   have fo3 := hK.frozen 3
   have fo4 := hK.frozen 4
   have fo5 := hK.frozen 5
   simp only [ga1, ga2, ga3] at o0 o1 o2 o3 o4 o5
   have HCAk := lh (HCA.out k hlt)
   have HCBk := lh (HCB.out k hlt)
   have HDAk := lh (HDA.out k hlt)
   have HDBk := lh (HDB.out k hlt)
   obtain ⟨P, hP⟩ : ∃ P, P = S.mlo a b k := ⟨_, rfl⟩
   obtain ⟨Q, hQ⟩ : ∃ Q, Q = S.mhi a b k := ⟨_, rfl⟩
   have HM1 := lh (show S.meet1 a b O k = ⟨S.setc O.lo k P, S.setc O.hi k Q⟩ by rw [hP, hQ]; rfl)
   have HP := lh hP
   have HQ := lh hQ
   unfold S.mlo S.mx at hP
   unfold S.mhi S.mn at hQ
   generalize S.co a.lo k = la at *
   generalize S.co b.lo k = lb at *
   generalize S.co a.hi k = ha at *
   generalize S.co b.hi k = hb at *
   have HWL := lh (fun w => HWI.out O.lo k P hlt w)
   have HWH := lh (fun w => HWI.out O.hi k Q hlt w)
   have HPP := lh hP
   have HQQ := lh hQ
   clear hP hQ
   clear hK
   by_cases hbad : Q < P
   ·have HBAD := lh (HNk.out (by rw [<- HP.out, <- HQ.out]; exact hbad))
    go_wp2
    refine wp_region_grow (by kernel_rfl) (by kernel_rfl) ?_
    repeat (go_big_quiet_step ((first | (go_at_call 175; with_reducible exact grow_of (HCAk.out _)) | (go_at_call 175; with_reducible exact grow_of (HCBk.out _)) | (go_at_call 175; with_reducible exact grow_of (HDAk.out _)) | (go_at_call 175; with_reducible exact grow_of (HDBk.out _)))))
    all_goals (refine wpQuiet_nil ?_; intro wg hbwg; obtain ⟨hcwg, hfwg⟩ := bcell hbwg; have hzwg_0 : w.heap.size < wg.heap.size := lt_via hbwg sz; have hzwg_1 : w.heap.size + 1 < wg.heap.size := lt_via hbwg sz; have hzwg_2 : w.heap.size + 2 < wg.heap.size := lt_via hbwg sz; have hzwg_3 : w.heap.size + 3 < wg.heap.size := lt_via hbwg sz)
    rw [show (if la < lb then lb else la) = P from HPP.out.symm, show (if hb < ha then hb else ha) = Q from HQQ.out.symm]
    go_wp2
    exact bodyPost_ret (v := .tuple #[.agg #[.int .i64 0, .int .i64 0, .int .i64 0, .int .i64 0, .int .i64 0, .int .i64 0], .bool false]) (by simp [results, Tryz.results265, go_sem, *]) rfl ⟨by rw [HMT.out _ HBAD.out, HBAD.out]; rfl, ((((((((ba_via hbwg hbel).setCell (by simp; omega) _).setCell (by simp; omega) _).setCell (by simp; omega) _).setCell (by simp; omega) _).setCell (by simp; omega) _).setCell (by simp; omega) _))⟩
   ·have hg : ¬ Q < P := hbad
    go_wp2
    refine wp_region_grow (by kernel_rfl) (by kernel_rfl) ?_
    repeat (go_big_quiet_step ((first | (go_at_call 175; with_reducible exact grow_of (HCAk.out _)) | (go_at_call 175; with_reducible exact grow_of (HCBk.out _)) | (go_at_call 175; with_reducible exact grow_of (HDAk.out _)) | (go_at_call 175; with_reducible exact grow_of (HDBk.out _)))))
    all_goals (refine wpQuiet_nil ?_; intro wg hbwg; obtain ⟨hcwg, hfwg⟩ := bcell hbwg; have hzwg_0 : w.heap.size < wg.heap.size := lt_via hbwg sz; have hzwg_1 : w.heap.size + 1 < wg.heap.size := lt_via hbwg sz; have hzwg_2 : w.heap.size + 2 < wg.heap.size := lt_via hbwg sz; have hzwg_3 : w.heap.size + 3 < wg.heap.size := lt_via hbwg sz)
    rw [show (if la < lb then lb else la) = P from HPP.out.symm, show (if hb < ha then hb else ha) = Q from HQQ.out.symm]
    go_wp2_with (first
     | (go_at_call 271; (with_reducible refine (HWL.out _).mono ?_); rintro e w2 ⟨rfl, hbw2⟩; obtain ⟨hcw2, hfw2⟩ := bcell hbw2; have hzw2_0 : w.heap.size < w2.heap.size := lt_via hbw2 sz; have hzw2_1 : w.heap.size + 1 < w2.heap.size := lt_via hbw2 sz; have hzw2_2 : w.heap.size + 2 < w2.heap.size := lt_via hbw2 sz; have hzw2_3 : w.heap.size + 3 < w2.heap.size := lt_via hbw2 sz)
     | (go_at_call 271; (with_reducible refine (HWH.out _).mono ?_); rintro e w3 ⟨rfl, hbw3⟩; obtain ⟨hcw3, hfw3⟩ := bcell hbw3; have hzw3_0 : w.heap.size < w3.heap.size := lt_via hbw3 sz; have hzw3_1 : w.heap.size + 1 < w3.heap.size := lt_via hbw3 sz; have hzw3_2 : w.heap.size + 2 < w3.heap.size := lt_via hbw3 sz; have hzw3_3 : w.heap.size + 3 < w3.heap.size := lt_via hbw3 sz))
    go_roundw
    case rel =>
     refine ⟨k + 1, by omega, by go_num, lh fun j hj => ?_, ?_, ?_⟩
     ·by_cases hjk : j = k
      ·subst hjk; rw [<- HP.out, <- HQ.out]; omega
      ·exact HALL.out j (by omega)
     ·rw [HJ.out, HM1.out]
      have h3 := ((((HK.out.via hbwg).via hbw2).set 0 (.int .i64 (S.setc O.lo k P).x)).set 1 (.int .i64 (S.setc O.lo k P).y)).set 2 (.int .i64 (S.setc O.lo k P).z)
      simp only [List.setIfInBounds_toArray, List.set_cons_zero, List.set_cons_succ] at h3
      have h6 := (((h3.via hbw3).set 3 (.int .i64 (S.setc O.hi k Q).x)).set 4 (.int .i64 (S.setc O.hi k Q).y)).set 5 (.int .i64 (S.setc O.hi k Q).z)
      simp only [List.setIfInBounds_toArray, List.set_cons_zero, List.set_cons_succ] at h6
      exact h6
     ·exact (((Exc.via hbw3 ((((Exc.via hbw2 (Exc.via hbwg hX)).set (.inl (by simp)) _).set (.inl (by simp)) _).set (.inl (by simp)) _)).set (.inl (by simp)) _).set (.inl (by simp)) _).set (.inl (by simp)) _
    case measure => simp [intOf]; omega
  ·have he : k = 3 := by omega
   subst he
   have HB := lh (HYES.out HALL.out)
   have HMM := lh (HMT.out _ HB.out)
   generalize S.meetK a b 3 = O at *
   have hgr := hK.lt
   have o0 := hK.cell 0
   have o1 := hK.cell 1
   have o2 := hK.cell 2
   have o3 := hK.cell 3
   have o4 := hK.cell 4
   have o5 := hK.cell 5
   have fo0 := hK.frozen 0
   have fo1 := hK.frozen 1
   have fo2 := hK.frozen 2
   have fo3 := hK.frozen 3
   have fo4 := hK.frozen 4
   have fo5 := hK.frozen 5
   simp only [ga1, ga2, ga3] at o0 o1 o2 o3 o4 o5
   go_wp2
   exact bodyPost_ret (v := .tuple #[boxV O, .bool true]) (by simp [results, Tryz.results265, go_sem, *]) rfl ⟨by rw [HMM.out, HB.out]; rfl, ((((((hbel.setCell (by simp; omega) _).setCell (by simp; omega) _).setCell (by simp; omega) _).setCell (by simp; omega) _).setCell (by simp; omega) _).setCell (by simp; omega) _)⟩
set_option maxHeartbeats 1000000 in
theorem rcontains_any (a b : Bx) (w : World) (hx : b.lo.x <= b.hi.x) (hy : b.lo.y <= b.hi.y) (hz : b.lo.z <= b.hi.z) :
 Calls Tryz.prog 245 #[boxV a, boxV b] w fun e w' => e = .returned (.bool (S.cont a b)) /\ Below w.heap.size w w' := by
 have H := lh (meet_cont a b hx hy hz)
 have HM := lh (fun w => meet_any a b w)
 clear hx hy hz
 have q := run_eq_box (S.meet a b) b
 generalize S.meet a b = M at *
 generalize S.meets a b = t at *
 unfold boxV at HM q ⊢
 cases t
 all_goals (
  go_enter Tryz.func245, Tryz.ntmps245
  go_wp2_with (go_at_call 265; (with_reducible refine (HM.out _).mono ?_); rintro e w1 ⟨rfl, hbw1⟩; obtain ⟨hcw1, hfw1⟩ := bcell hbw1; have hzw1_0 : w.heap.size < w1.heap.size := lt_via hbw1 sz; have hzw1_1 : w.heap.size + 1 < w1.heap.size := lt_via hbw1 sz)
  go_ret
  exact ⟨ret_b (by rw [<- H.out]; simp), bel⟩)
set_option maxHeartbeats 4000000 in
theorem bcont_any (a b : Bx) (w : World) :
 Calls Tryz.prog 260 #[boxV a, boxV b] w fun e w' => e = .returned (.bool (S.cont a b)) /\ Below w.heap.size w w' := by
 have H := lh (show ∀ t : Bool, (t = true ↔ a.lo.x <= b.lo.x /\ b.hi.x <= a.hi.x /\ a.lo.y <= b.lo.y /\ b.hi.y <= a.hi.y /\ a.lo.z <= b.lo.z /\ b.hi.z <= a.hi.z) -> t = S.cont a b from fun t ht => by rw [Bool.eq_iff_iff, ht, cont_iff])
 have HXA := lh (fun w => ends_x a w)
 have HYA := lh (fun w => ends_y a w)
 have HZA := lh (fun w => ends_z a w)
 have HXB := lh (fun w => ends_x b w)
 have HYB := lh (fun w => ends_y b w)
 have HZB := lh (fun w => ends_z b w)
 unfold boxV
 go_enter Tryz.func260, Tryz.ntmps260
 go_wp2
 refine wp_loop_rounds 4 ?_
 rw [rounds_succ]
 go_wp2_with (first | (go_at_call 134; (with_reducible refine (HXA.out _).mono ?_); rintro e w1 ⟨rfl, hbw1⟩; obtain ⟨hcw1, hfw1⟩ := bcell hbw1; have hzw1_0 : w.heap.size < w1.heap.size := lt_via hbw1 sz; have hzw1_1 : w.heap.size + 1 < w1.heap.size := lt_via hbw1 sz) | (go_at_call 134; (with_reducible refine (HXB.out _).mono ?_); rintro e w2 ⟨rfl, hbw2⟩; obtain ⟨hcw2, hfw2⟩ := bcell hbw2; have hzw2_0 : w.heap.size < w2.heap.size := lt_via hbw2 sz; have hzw2_1 : w.heap.size + 1 < w2.heap.size := lt_via hbw2 sz))
 all_goals (try (go_ret; exact ⟨ret_b (H.out _ (by simp only [decide_eq_true_eq, decide_eq_false_iff_not, Bool.false_eq_true, true_iff, false_iff] at *; omega)), bel⟩))
 rw [rounds_succ]
 go_wp2_with (first | (go_at_call 134; (with_reducible refine (HYA.out _).mono ?_); rintro e w3 ⟨rfl, hbw3⟩; obtain ⟨hcw3, hfw3⟩ := bcell hbw3; have hzw3_0 : w.heap.size < w3.heap.size := lt_via hbw3 sz; have hzw3_1 : w.heap.size + 1 < w3.heap.size := lt_via hbw3 sz) | (go_at_call 134; (with_reducible refine (HYB.out _).mono ?_); rintro e w4 ⟨rfl, hbw4⟩; obtain ⟨hcw4, hfw4⟩ := bcell hbw4; have hzw4_0 : w.heap.size < w4.heap.size := lt_via hbw4 sz; have hzw4_1 : w.heap.size + 1 < w4.heap.size := lt_via hbw4 sz))
 all_goals (try (go_ret; exact ⟨ret_b (H.out _ (by simp only [decide_eq_true_eq, decide_eq_false_iff_not, Bool.false_eq_true, true_iff, false_iff] at *; omega)), bel⟩))
 rw [rounds_succ]
 go_wp2_with (first | (go_at_call 134; (with_reducible refine (HZA.out _).mono ?_); rintro e w5 ⟨rfl, hbw5⟩; obtain ⟨hcw5, hfw5⟩ := bcell hbw5; have hzw5_0 : w.heap.size < w5.heap.size := lt_via hbw5 sz; have hzw5_1 : w.heap.size + 1 < w5.heap.size := lt_via hbw5 sz) | (go_at_call 134; (with_reducible refine (HZB.out _).mono ?_); rintro e w6 ⟨rfl, hbw6⟩; obtain ⟨hcw6, hfw6⟩ := bcell hbw6; have hzw6_0 : w.heap.size < w6.heap.size := lt_via hbw6 sz; have hzw6_1 : w.heap.size + 1 < w6.heap.size := lt_via hbw6 sz))
 all_goals (try (go_ret; exact ⟨ret_b (H.out _ (by simp only [decide_eq_true_eq, decide_eq_false_iff_not, Bool.false_eq_true, true_iff, false_iff] at *; omega)), bel⟩))
 rw [rounds_succ]
 go_wp2
 (go_ret; exact ⟨ret_b (H.out _ (by simp only [decide_eq_true_eq, decide_eq_false_iff_not, Bool.false_eq_true, true_iff, false_iff] at *; omega)), bel⟩)
theorem bcontains_yes (a b : Bx) (w : World) (ha : S.boxOk a = true) (hb : S.boxOk b = true) :
 Calls Tryz.prog 238 #[boxV a, boxV b] w fun e w' => e = .returned (.tuple #[.bool (S.cont a b), .int .i64 0]) /\ Below w.heap.size w w' := by
 have HA := lh (fun w => ha ▸ bvalid_any a w)
 have HB := lh (fun w => hb ▸ bvalid_any b w)
 have HC := lh (fun w => bcont_any a b w)
 generalize S.cont a b = t at *
 unfold boxV
 go_enter Tryz.func238, Tryz.ntmps238
 go_wp2_with (first
  | (go_at_call 94; (with_reducible refine (HA.out _).mono ?_); rintro e w1 ⟨rfl, hbw1⟩; obtain ⟨hcw1, hfw1⟩ := bcell hbw1; have hzw1_0 : w.heap.size < w1.heap.size := lt_via hbw1 sz; have hzw1_1 : w.heap.size + 1 < w1.heap.size := lt_via hbw1 sz)
  | (go_at_call 94; (with_reducible refine (HB.out _).mono ?_); rintro e w2 ⟨rfl, hbw2⟩; obtain ⟨hcw2, hfw2⟩ := bcell hbw2; have hzw2_0 : w.heap.size < w2.heap.size := lt_via hbw2 sz; have hzw2_1 : w.heap.size + 1 < w2.heap.size := lt_via hbw2 sz)
  | (go_at_call 260; (with_reducible refine (HC.out _).mono ?_); rintro e w3 ⟨rfl, hbw3⟩; obtain ⟨hcw3, hfw3⟩ := bcell hbw3; have hzw3_0 : w.heap.size < w3.heap.size := lt_via hbw3 sz; have hzw3_1 : w.heap.size + 1 < w3.heap.size := lt_via hbw3 sz))
 go_ret2
 exact ⟨rfl, bel⟩
theorem isMain_any (b : Bx) (w : World) :
 Calls Tryz.prog 237 #[boxV b] w fun e w' => e = .returned (.bool (S.isMainB b)) /\ Below w.heap.size w w' := by
 have H := lh (show S.isMainB b = (decide (b.lo.x < b.hi.x) && decide (b.lo.y = b.hi.y) && decide (b.lo.z = b.hi.z)) from rfl)
 unfold boxV
 go_enter Tryz.func237, Tryz.ntmps237
 go_wp2
 all_goals (go_ret; exact ⟨ret_b (by rw [H.out, Bool.eq_iff_iff]; all_goals (first | (simp at *; done) | (simp at *; omega))), bel⟩)
theorem notok_any (b : Bx) (w : World) : Calls Tryz.prog 235 #[boxV b] w fun e w' => e = .returned (.bool (S.boxNot b)) /\ Below w.heap.size w w' := by
 have HV := lh (fun w => bvalid_any b w)
 unfold boxV
 go_enter Tryz.func235, Tryz.ntmps235
 go_wp2_with (go_at_call 94; (with_reducible refine (HV.out _).mono ?_); rintro e w1 ⟨rfl, hbw1⟩; obtain ⟨hcw1, hfw1⟩ := bcell hbw1; have hzw1_0 : w.heap.size < w1.heap.size := lt_via hbw1 sz)
 go_ret
 exact ⟨rfl, bel⟩
def S.poor (xs : List Bx) (leg : Bx) : Bool := decide (250 < leg.lo.z - (S.hull (xs.headD ⟨⟨0, 0, 0⟩, ⟨0, 0, 0⟩⟩) xs).lo.z)
theorem hull_lo_in (a : Bx) (l : List Bx) (h0 : -1048576 <= a.lo.z /\ a.lo.z <= 1048576) (h : ∀ b, b ∈ l -> -1048576 <= b.lo.z /\ b.lo.z <= 1048576) : -1048576 <= (S.hull a l).lo.z /\ (S.hull a l).lo.z <= 1048576 := by
 induction l generalizing a with
 | nil => exact h0
 | cons x l ih =>
  have e : S.hull a (x :: l) = S.hull (S.join a x) l := rfl
  rw [e]
  refine ih _ ?_ (fun b hb => h b (List.mem_cons_of_mem _ hb))
  have hx := h x List.mem_cons_self
  simp only [S.join]
  split <;> omega
theorem boxOk_z {b : Bx} (h : S.boxOk b = true) : -1048576 <= b.lo.z /\ b.lo.z <= b.hi.z /\ b.hi.z <= 1048576 := by
 simp only [S.boxOk, S.okAx, Bool.and_eq_true, decide_eq_true_eq] at h
 omega
theorem boxes_ok {xs : List Bx} (h : anyb xs S.boxNot = false) : ∀ b, b ∈ xs -> S.boxOk b = true := by
 intro b hb
 unfold anyb at h
 rw [List.any_eq_false] at h
 have := h b hb
 simpa [S.boxNot] using this
theorem poor_yes (m : Mem) (leg : Bx) (A : Option Addr) (n c : Nat) (A' : Option Addr) (n' c' : Nat) (B : Nat) (w : World) (hB : B <= w.heap.size) (hA : SolAt w B A n A' n' m.boxes m.holes) (h : S.solid m.boxes m.holes = true) (hl : S.boxOk leg = true) :
 Calls Tryz.prog 239 #[memV m A n c A' n' c', boxV leg] w fun e w' => e = .returned (.bool (S.poor m.boxes leg)) /\ Below w.heap.size w w' := by
 have HA := lh hA
 obtain ⟨hok, hlen⟩ := solid_ok h
 have h0 : m.boxes[0]? = some (m.boxes.headD ⟨⟨0, 0, 0⟩, ⟨0, 0, 0⟩⟩) := by
  cases hb : m.boxes with
  | nil => rw [hb] at hlen; simp at hlen
  | cons x l => rfl
 have hz := boxOk_z hl
 have hin := hull_lo_in (m.boxes.headD ⟨⟨0, 0, 0⟩, ⟨0, 0, 0⟩⟩) m.boxes (by have := boxOk_z (boxes_ok hok _ (List.mem_of_getElem? h0)); omega) (fun b hb => by have := boxOk_z (boxes_ok hok b hb); omega)
 have HP := lh (show S.poor m.boxes leg = decide (250 < leg.lo.z - (S.hull (m.boxes.headD ⟨⟨0, 0, 0⟩, ⟨0, 0, 0⟩⟩) m.boxes).lo.z) from rfl)
 have HH := lh (fun (W : World) (hw : B <= W.heap.size) (hh : SolAt W B A n A' n' m.boxes m.holes) => shull_yes A n c A' n' c' m.boxes m.holes _ B W hw hh h h0 hok)
 clear hA
 generalize S.hull (m.boxes.headD ⟨⟨0, 0, 0⟩, ⟨0, 0, 0⟩⟩) m.boxes = X at *
 have e1 : IntKind.i64.wrap (leg.lo.z - X.lo.z) = leg.lo.z - X.lo.z := IntWalk.i64_in _ (by omega)
 unfold memV boxV
 go_enter Tryz.func239, Tryz.ntmps239
 go_wp2_with (go_at_call 261; (with_reducible refine (HH.out _ (size_via hB bel) (SolAt.at_ HA.out hB bel)).mono ?_); rintro e w1 ⟨rfl, hbw1⟩; obtain ⟨hcw1, hfw1⟩ := bcell hbw1; have hzw1_0 : w.heap.size < w1.heap.size := lt_via hbw1 sz; have hzw1_1 : w.heap.size + 1 < w1.heap.size := lt_via hbw1 sz)
 go_ret
 exact ⟨ret_b HP.out.symm, bel⟩
theorem take_lens (b : Bar) {k : Nat} (hk : k < (S.legsOf b.code).length) (hj : (S.legsOf b.code)[k].1 < b.dims.length) :
 i64s ((S.legLens b).take (k + 1)) = i64s ((S.legLens b).take k) ++ [.int .i64 b.dims[(S.legsOf b.code)[k].1]] := by
 have hk' : k < (S.legLens b).length := by simpa [S.legLens] using hk
 rw [List.take_succ_eq_append_getElem hk', i64s, List.map_append]
 simp [S.legLens, List.getD_eq_getElem?_getD, List.getElem?_eq_getElem hj]
set_option maxHeartbeats 2000000 in
theorem legs_yes (b : Bar) (A : Option Addr) (n c : Nat) (B : Nat) (w : World) (hB : B <= w.heap.size) (hA : BarAt w B A n b) (h : S.bar b = true) :
 Calls Tryz.prog 236 #[barV b A n c] w (GivesRow 3 1 (S.legsOf b.code).length (i64s (S.legLens b)) 0 w) := by
 have HA := lh (hA.below ((Below.refl B w).alloc hB (.cells #[.string b.mark, .int .i64 b.size, .int .i64 b.count, .int .i64 b.code, .slice A n c] 138)))
 have hcl := hA.cells
 have HN := lh hA.len
 have HD := lh (bar_head h)
 have hmx := hA.max
 have hl6 := legs_len b.code
 clear hA
 unfold barV
 go_enter Tryz.func236, Tryz.ntmps236
 go_wp2_with (first
  | (go_at_call 203; (with_reducible refine (valid_any b A n c B _ (by simp; omega) HA.out).mono ?_); rintro e w1 ⟨rfl, hbw1⟩; obtain ⟨hcw1, hfw1⟩ := bcell hbw1; have hzw1_0 : w.heap.size < w1.heap.size := lt_via hbw1 sz)
  | (go_at_call 212; (with_reducible refine (legs_any b.code _).mono ?_); rintro e w2 ⟨A2, rfl, hs, hb2, _⟩; obtain ⟨hcw2, hfw2⟩ := bcell hb2; have hz2 : w.heap.size < w2.heap.size := lt_via hb2 (by omega)))
 have hbw : Below w.heap.size w w2 := bel
 have hcl2 := hcl.below (hbw.mono hB)
 go_loopw [4, 14] (fun v i wr => ∃ (k : Nat) (A3 : Option Addr) (c3 : Nat), k <= (S.legsOf b.code).length /\ i = .int .i64 k /\ v = .slice A3 k c3 /\ Row w2 wr none w.heap.size 3 1 (.slice A3 k c3) k (i64s ((S.legLens b).take k)) /\ Exc [] w2 wr) (fun _ i _ => (S.legsOf b.code).length - (intOf i).toNat)
 case atStart => exact ⟨0, none, 0, Nat.zero_le _, rfl, rfl, Row.none_ _ _ _ _, Exc.refl _ _⟩
 case round =>
  obtain ⟨k, A3, c3, hk, rfl, rfl, hR, hX⟩ := hrel
  by_cases hlt : k < (S.legsOf b.code).length
  ·have hbx : Below w2.heap.size w2 wr := hX.below (Nat.le_refl _) (by simp)
   have hs' := hs.below hbx
   obtain ⟨b4, o4, rfl, hbl, _⟩ := hs'.at_ (by rw [flat_len legC 2 legC_len]; omega)
   have c0 := hs'.row0 legC_len hlt rfl
   have c1 := hs'.rowj legC_len hlt 1 rfl
   have hj : (S.legsOf b.code)[k].1 < n := by have := legs_dim b.code hlt; have := HN.out; have := HD.out; omega
   have hjd : (S.legsOf b.code)[k].1 < b.dims.length := by have := HN.out; omega
   have hcl3 := hcl2.below (hbx.mono (Nat.le_trans hB hbw.size))
   obtain ⟨bd, od, rfl, hbd, hcd⟩ := hcl3.at_ (by simp; omega)
   have hck := hcd _ _ (i64s_get hjd)
   clear hcd
   obtain ⟨hcr, hfr⟩ := bcell hbx
   have hbd2 : bd < wr.heap.size := by have := hbx.size; have := hbw.size; omega
   have hbl2 : b4 < wr.heap.size := by have := hbx.size; omega
   have hz3 : w.heap.size < wr.heap.size := lt_via hbx hz2
   have HT := lh (take_lens b hlt hjd)
   have hk6 : k <= 6 := by omega
   go_wp2_with (at_builtin; refine wpList_push rfl (.tmp 18) (.tmp 25) _ rfl elemInt ((hR.alloc _).alloc _) ((hX.alloc _).alloc _) (by simp) hbw.size rfl (wr.heap.size + 1) 1 1 [.int .i64 b.dims[(S.legsOf b.code)[k].1]] rfl rfl ?_ (by simp [Value.oneCell']) (by unfold maxLen; omega) (by omega) ?_; (· simp); intro v' w' hR' hX' hO'; clear hcr hfr)
   obtain ⟨A5, c5, rfl, _, _, _⟩ := own_form hR'.own
   go_roundw
   case rel => exact ⟨k + 1, A5, c5, by omega, by go_num, rfl, by rw [HT.out]; exact hR', hX'⟩
   case measure => simp [intOf]; omega
  ·have he : k = (S.legsOf b.code).length := by omega
   have ht : (S.legLens b).take k = S.legLens b := List.take_of_length_le (by simp [S.legLens]; omega)
   have HE := lh he
   have HT := lh ht
   clear he ht
   go_wp2
   go_ret2
   refine ⟨A3, c3, by rw [HE.out]; rfl, ?_, ?_⟩
   ·have := hR.own
    rw [HT.out] at this
    rwa [HE.out] at this
   ·exact ba_via (hX.below (Nat.le_refl _) (by simp)) hbw
theorem wpList_load_gdF {P : Program} {ops : Array Oper} {rest : List Oper} {op : Oper} {a : Act} {w : World} {Q : Exit -> Act -> World -> Prop} (hw : Region.wanted op (yielded ops a.tmps) = true) (ty : TypeId) (x : Operand) (ho : op.op = .load ty x)
 (b o : Nat) (hx : a.eval x = .pointer (some ⟨b, o, none⟩)) (cs : List Value) (d : TypeDesc) (hc : w.rangeAt b o cs)
 (hu : P.underlying ty = some d) (hd : d.isRow = true) (hi : (P.info? ty).map (·.size) = some cs.length)
 (h : wpList P ops Q rest (a.put op.dst (.agg cs.toArray)) w) : wpList P ops Q (op :: rest) a w := by
 unfold wpList
 rw [if_pos hw]
 exact .inl (wp_load_mid ty x ho b o hx cs d hc hu hd hi h)
theorem quietBy {w : World} {b o : Nat} {cs : List Value} (h : ∀ W, Below w.heap.size w W -> W.rangeAt b o cs) : ∀ W, (∃ g, W = grow w g) -> W.rangeAt b o cs := by
 rintro W ⟨g, rfl⟩
 exact h _ (grow_below _ _)
theorem quietLoad {P : Program} {ops : Array Oper} {C : World -> Prop} {Q : Act -> Prop} {rest : List Oper} {op : Oper} {a : Act} (hw : Region.wanted op (yielded ops a.tmps) = true) (ty : TypeId) (x : Operand) (ho : op.op = .load ty x)
 (b o : Nat) (hx : a.eval x = .pointer (some ⟨b, o, none⟩)) (cs : List Value) (d : TypeDesc) (hS : ∀ w, C w -> w.rangeAt b o cs)
 (hu : P.underlying ty = some d) (hd : d.isRow = true) (hi : (P.info? ty).map (·.size) = some cs.length)
 (h : ∀ a', a.put op.dst (.agg cs.toArray) = a' -> wpQuiet P ops C Q rest a') : wpQuiet P ops C Q (op :: rest) a := by
 unfold wpQuiet
 rw [if_pos hw]
 refine ⟨.agg cs.toArray, fun w hw' => ?_, h _ rfl⟩
 unfold Oper.quietAt execOp
 simp only [ho, hx, Instr.loadAt, Instr.sureAddr, Sem.run_bind, Sem.run_pure, Result.andThen_ok, run_loadVar_mid w b o ty cs d (hS w hw') hu hd hi]
 exact ⟨rfl, rfl⟩
def S.legB (p q : Pt) : Bx := S.join (S.ptBox p) (S.ptBox q)
def S.ptD (l : List Pt) (k : Nat) : Pt := (l[k]?).getD ⟨0, 0, 0⟩
def S.legsTo (l : List Pt) (m : Nat) : List Bx := (List.range m).map fun k => S.legB (S.ptD l k) (S.ptD l (k + 1))
def S.legsL (l : List Pt) : List Bx := S.legsTo l (l.length - 1)
theorem legsTo_len (l : List Pt) (m : Nat) : (S.legsTo l m).length = m := by simp [S.legsTo]
theorem legsTo_snoc (l : List Pt) (m : Nat) : S.legsTo l (m + 1) = S.legsTo l m ++ [S.legB (S.ptD l m) (S.ptD l (m + 1))] := by simp [S.legsTo, List.range_succ]
theorem hull_two (p q : Pt) : S.hull (S.ptBox p) [S.ptBox p, S.ptBox q] = S.legB p q := by
 show S.join (S.join (S.ptBox p) (S.ptBox p)) (S.ptBox q) = _
 rw [join_self]
 rfl
theorem mnmx_eq (p q : Int) : (if q < p then q else p) = (if p < q then q else p) ↔ p = q := by
 split <;> split <;> omega
theorem mnmx_lt (p q : Int) : (if q < p then q else p) < (if p < q then q else p) ↔ p ≠ q := by
 split <;> split <;> omega
theorem isMainB_iff {b : Bx} : S.isMainB b = true ↔ b.lo.x < b.hi.x /\ b.lo.y = b.hi.y /\ b.lo.z = b.hi.z := by simp [S.isMainB, and_assoc]
theorem isMain_iff2 {p q : Pt} : S.isMain p q = true ↔ p.x ≠ q.x /\ p.y = q.y /\ p.z = q.z := by simp [S.isMain, and_assoc]
theorem legB_main (p q : Pt) : S.isMainB (S.legB p q) = S.isMain p q := by
 rw [Bool.eq_iff_iff, isMainB_iff, isMain_iff2]
 show (if q.x < p.x then q.x else p.x) < (if p.x < q.x then q.x else p.x) /\ (if q.y < p.y then q.y else p.y) = (if p.y < q.y then q.y else p.y) /\ (if q.z < p.z then q.z else p.z) = (if p.z < q.z then q.z else p.z) ↔ _
 rw [mnmx_lt, mnmx_eq, mnmx_eq]
theorem legB_box {p q : Pt} (h : S.isMain p q = true) : S.legB p q = S.legBx p q := by
 simp only [S.isMain, Bool.and_eq_true, decide_eq_true_eq, bne_iff_ne] at h
 obtain ⟨⟨h1, h2⟩, h3⟩ := h
 obtain ⟨px, py, pz⟩ := p
 obtain ⟨qx, qy, qz⟩ := q
 simp only [] at h1 h2 h3
 subst h2 h3
 simp only [S.legB, S.join, S.ptBox, S.legBx, S.lmn, S.lmx, Bx.mk.injEq, Pt.mk.injEq]
 simp
 exact ⟨rfl, rfl⟩
theorem mainTo_leg {l : List Pt} : ∀ {m : Nat}, m < l.length -> (S.mainTo l m = none -> ∀ k, k < m -> S.isMainB (S.legB (S.ptD l k) (S.ptD l (k + 1))) = false) /\
 (∀ b, S.mainTo l m = some b -> ∃ j, j < m /\ S.legB (S.ptD l j) (S.ptD l (j + 1)) = b /\ S.isMainB b = true /\ ∀ k, k < j -> S.isMainB (S.legB (S.ptD l k) (S.ptD l (k + 1))) = false) := by
 intro m
 induction m with
 | zero => intro _; exact ⟨fun _ k hk => absurd hk (by omega), fun b h => by simp [S.mainTo] at h⟩
 | succ m ih =>
  intro hm
  obtain ⟨ih1, ih2⟩ := ih (by omega)
  have hp : l[m]? = some (S.ptD l m) := by simp [S.ptD, List.getElem?_eq_getElem (show m < l.length by omega)]
  have hq : l[m + 1]? = some (S.ptD l (m + 1)) := by simp [S.ptD, List.getElem?_eq_getElem hm]
  cases hc : S.mainTo l m with
  | some b =>
   have hs := mainTo_stay hc (m + 1) (by omega)
   refine ⟨fun h => (by rw [hs] at h; cases h), fun b' h => ?_⟩
   rw [hs] at h
   injection h with h
   subst h
   obtain ⟨j, h1, h2⟩ := ih2 b hc
   exact ⟨j, by omega, h2⟩
  | none =>
   have hs := mainTo_succ hc hp hq
   have hno := ih1 hc
   by_cases hx : S.isMain (S.ptD l m) (S.ptD l (m + 1)) = true
   ·rw [if_pos hx] at hs
    refine ⟨fun h => (by rw [hs] at h; cases h), fun b h => ?_⟩
    rw [hs] at h
    injection h with h
    subst h
    exact ⟨m, by omega, legB_box hx, by rw [<- legB_box hx, legB_main]; exact hx, hno⟩
   ·rw [if_neg hx] at hs
    refine ⟨fun _ k hk => ?_, fun b h => by rw [hs] at h; cases h⟩
    by_cases hkm : k = m
    ·subst hkm; rw [legB_main]; simpa using hx
    ·exact hno k (by omega)
theorem legsL_get {l : List Pt} {k : Nat} (hk : k < l.length - 1) : (S.legsL l)[k]? = some (S.legB (S.ptD l k) (S.ptD l (k + 1))) := by
 unfold S.legsL S.legsTo
 rw [List.getElem?_map, List.getElem?_range hk]
 rfl
theorem main_none {l : List Pt} (hl : 0 < l.length) (h : S.mainLeg l = none) : idxf (S.legsL l) S.isMainB = -1 := by
 have h1 := (mainTo_leg (l := l) (m := l.length - 1) (by omega)).1 h
 refine idxf_miss (fun j hj => ?_)
 have hj' : j < l.length - 1 := by simpa [S.legsL, legsTo_len] using hj
 have := legsL_get hj'
 rw [List.getElem?_eq_getElem hj] at this
 injection this with this
 rw [this]
 exact h1 j hj'
theorem main_some {l : List Pt} {b : Bx} (hl : 0 < l.length) (h : S.mainLeg l = some b) : ∃ j : Nat, idxf (S.legsL l) S.isMainB = (j : Int) /\ (S.legsL l)[j]? = some b /\ j < l.length - 1 := by
 obtain ⟨j, hj, h1, h2, h3⟩ := (mainTo_leg (l := l) (m := l.length - 1) (by omega)).2 b h
 have hg := legsL_get hj
 obtain ⟨hj', he⟩ := List.getElem?_eq_some_iff.1 hg
 refine ⟨j, idxf_hit hj' (by rw [he, h1]; exact h2) (fun k hk hkj => ?_), by rw [hg, h1], hj⟩
 have hk' : k < l.length - 1 := by omega
 have := legsL_get hk'
 rw [List.getElem?_eq_getElem hk] at this
 injection this with this
 rw [this]
 exact h3 k hkj
end Go.Proofs.YtmfpbafpnoomeaaGreat
