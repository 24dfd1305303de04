/- Lemmas. -/
import Derived.WalkSmall
import Derived.Deep.LoopGhost
import Derived.Deep.RegionWith
import Derived.Test.YtmfpbafpnoomeaaGreatMC
import Derived.Test.YtmfpbafpnoomeaaGreatMO
import Derived.Test.YtmfpbafpnoomeaaGreatMP
set_option linter.unusedVariables false
set_option linter.unusedSimpArgs false
namespace Go.Proofs.YtmfpbafpnoomeaaGreat
open Go.RowKit
namespace S
def setc (p : Pt) (k : Nat) (n : Int) : Pt := if k = 0 then ⟨n, p.y, p.z⟩ else if k = 1 then ⟨p.x, n, p.z⟩ else ⟨p.x, p.y, n⟩
def mn (a b : Int) : Int := if b < a then b else a
def mx (a b : Int) : Int := if a < b then b else a
end S
theorem with_any (p : Pt) (k : Nat) (n : Int) (hk : k < 3) (w : World) :
 Calls Tryz.prog 271 #[ptVal p, .int .i64 k, .int .i64 n] w fun e w' => e = .returned (ptVal (S.setc p k n)) /\ Below w.heap.size w w' := by
 have : k = 0 ∨ k = 1 ∨ k = 2 := by omega
 unfold ptVal
 rcases this with rfl | rfl | rfl
 ·go_enter Tryz.func271, Tryz.ntmps271
  go_wp2
  exact bodyPost_ret (v := ptVal ⟨n, p.y, p.z⟩) (by simp [results, Tryz.results271, go_sem, *]) rfl ⟨rfl, bel⟩
 ·go_enter Tryz.func271, Tryz.ntmps271
  go_wp2
  exact bodyPost_ret (v := ptVal ⟨p.x, n, p.z⟩) (by simp [results, Tryz.results271, go_sem, *]) rfl ⟨rfl, bel⟩
 ·go_enter Tryz.func271, Tryz.ntmps271
  go_wp2
  exact bodyPost_ret (v := ptVal ⟨p.x, p.y, n⟩) (by simp [results, Tryz.results271, go_sem, *]) rfl ⟨rfl, bel⟩
namespace S
def cont (a b : Bx) : Bool := decide (a.lo.x <= b.lo.x) && decide (b.hi.x <= a.hi.x) && (decide (a.lo.y <= b.lo.y) && decide (b.hi.y <= a.hi.y)) && (decide (a.lo.z <= b.lo.z) && decide (b.hi.z <= a.hi.z))
def zbox : Bx := ⟨⟨0, 0, 0⟩, ⟨0, 0, 0⟩⟩
def mlo (a b : Bx) (k : Nat) : Int := mx (co a.lo k) (co b.lo k)
def mhi (a b : Bx) (k : Nat) : Int := mn (co a.hi k) (co b.hi k)
def meet1 (a b o : Bx) (k : Nat) : Bx := ⟨setc o.lo k (mlo a b k), setc o.hi k (mhi a b k)⟩
def meetK (a b : Bx) : Nat -> Bx
 | 0 => zbox
 | k + 1 => meet1 a b (meetK a b k) k
def meets (a b : Bx) : Bool := decide (mlo a b 0 <= mhi a b 0) && decide (mlo a b 1 <= mhi a b 1) && decide (mlo a b 2 <= mhi a b 2)
def meet (a b : Bx) : Bx := if meets a b then meetK a b 3 else zbox
def eqbox (a b : Bx) : Bool := eqpt a.lo b.lo && eqpt a.hi b.hi
end S
theorem run_eq_box (a b : Bx) (W : World) : (binOp .eql 78 (boxV a) (boxV b)).run Tryz.prog W = .ok (.bool (S.eqbox a b)) W := by
 by_cases h1 : a.lo.x = b.lo.x
 ·by_cases h2 : a.lo.y = b.lo.y
  ·by_cases h3 : a.lo.z = b.lo.z
   ·by_cases h4 : a.hi.x = b.hi.x
    ·by_cases h5 : a.hi.y = b.hi.y
     ·by_cases h6 : a.hi.z = b.hi.z
      ·simp [go_sem, S.eqbox, S.eqpt, h1, h2, h3, h4, h5, h6]
      ·simp [go_sem, S.eqbox, S.eqpt, h1, h2, h3, h4, h5, h6]
     ·simp [go_sem, S.eqbox, S.eqpt, h1, h2, h3, h4, h5]
    ·simp [go_sem, S.eqbox, S.eqpt, h1, h2, h3, h4]
   ·simp [go_sem, S.eqbox, S.eqpt, h1, h2, h3]
  ·simp [go_sem, S.eqbox, S.eqpt, h1, h2]
 ·simp [go_sem, S.eqbox, S.eqpt, h1]
theorem meets_no {a b : Bx} {k : Nat} (hk : k < 3) (h : S.mhi a b k < S.mlo a b k) : S.meets a b = false := by
 have : k = 0 ∨ k = 1 ∨ k = 2 := by omega
 have hn : ¬ S.mlo a b k <= S.mhi a b k := by omega
 rcases this with rfl | rfl | rfl <;> simp [S.meets, hn]
theorem meets_yes {a b : Bx} (h : ∀ k, k < 3 -> S.mlo a b k <= S.mhi a b k) : S.meets a b = true := by
 simp [S.meets, h 0 (by omega), h 1 (by omega), h 2 (by omega)]
theorem meetK_3 (a b : Bx) : S.meetK a b 3 = ⟨⟨S.mx a.lo.x b.lo.x, S.mx a.lo.y b.lo.y, S.mx a.lo.z b.lo.z⟩, ⟨S.mn a.hi.x b.hi.x, S.mn a.hi.y b.hi.y, S.mn a.hi.z b.hi.z⟩⟩ := by
 simp [S.meetK, S.meet1, S.mlo, S.mhi, S.setc, S.co]
theorem mx_eq {a b : Int} : S.mx a b = b ↔ a <= b := by unfold S.mx; split <;> omega
theorem mn_eq {a b : Int} : S.mn a b = b ↔ b <= a := by unfold S.mn; split <;> omega
theorem mx_le_mn {a b c d : Int} (h1 : a <= b) (h2 : b <= d) (h3 : d <= c) : S.mx a b <= S.mn c d := by rw [mx_eq.2 h1, mn_eq.2 h3]; exact h2
theorem eqbox_iff {p q : Bx} : S.eqbox p q = true ↔ p.lo.x = q.lo.x /\ p.lo.y = q.lo.y /\ p.lo.z = q.lo.z /\ p.hi.x = q.hi.x /\ p.hi.y = q.hi.y /\ p.hi.z = q.hi.z := by
 simp [S.eqbox, S.eqpt, and_assoc]
theorem cont_iff {a b : Bx} : S.cont a b = true ↔ a.lo.x <= b.lo.x /\ b.hi.x <= a.hi.x /\ a.lo.y <= b.lo.y /\ b.hi.y <= a.hi.y /\ a.lo.z <= b.lo.z /\ b.hi.z <= a.hi.z := by
 simp [S.cont, and_assoc]
theorem meet_cont (a b : Bx) (hx : b.lo.x <= b.hi.x) (hy : b.lo.y <= b.hi.y) (hz : b.lo.z <= b.hi.z) : (S.meets a b && S.eqbox (S.meet a b) b) = S.cont a b := by
 rw [Bool.eq_iff_iff, Bool.and_eq_true, cont_iff]
 constructor
 ·rintro ⟨h1, h2⟩
  rw [S.meet, if_pos h1, meetK_3] at h2
  obtain ⟨h3, h4, h5, h6, h7, h8⟩ : S.mx a.lo.x b.lo.x = b.lo.x /\ S.mx a.lo.y b.lo.y = b.lo.y /\ S.mx a.lo.z b.lo.z = b.lo.z /\ S.mn a.hi.x b.hi.x = b.hi.x /\ S.mn a.hi.y b.hi.y = b.hi.y /\ S.mn a.hi.z b.hi.z = b.hi.z := eqbox_iff.1 h2
  exact ⟨mx_eq.1 h3, mn_eq.1 h6, mx_eq.1 h4, mn_eq.1 h7, mx_eq.1 h5, mn_eq.1 h8⟩
 ·rintro ⟨h1, h2, h3, h4, h5, h6⟩
  have hm : S.meets a b = true := by
   have g1 : S.mlo a b 0 <= S.mhi a b 0 := mx_le_mn h1 hx h2
   have g2 : S.mlo a b 1 <= S.mhi a b 1 := mx_le_mn h3 hy h4
   have g3 : S.mlo a b 2 <= S.mhi a b 2 := mx_le_mn h5 hz h6
   simp [S.meets, g1, g2, g3]
  refine ⟨hm, ?_⟩
  rw [S.meet, if_pos hm, meetK_3]
  exact eqbox_iff.2 ⟨mx_eq.2 h1, mx_eq.2 h3, mx_eq.2 h5, mn_eq.2 h2, mn_eq.2 h4, mn_eq.2 h6⟩
set_option maxRecDepth 100000 in
set_option maxHeartbeats 4000000 in
theorem meet_any (a b : Bx) (w : World) :
 Calls Tryz.prog 265 #[boxV a, boxV b] w fun e w' => e = .returned (.tuple #[boxV (S.meet a b), .bool (S.meets a b)]) /\ Below w.heap.size w w' := by
 have HNO := lh (fun k hk h => meets_no (a := a) (b := b) (k := k) hk h)
 have HYES := lh (fun h => meets_yes (a := a) (b := b) h)
 have HMT := lh (show ∀ t, S.meets a b = t -> S.meet a b = if t then S.meetK a b 3 else S.zbox from fun t h => by rw [<- h]; rfl)
 have HWI := lh (fun (p : Pt) (k : Nat) (n : Int) (hk : k < 3) (w : World) => with_any p k n hk w)
 have HCA := lh (fun (k : Nat) (hk : k < 3) (w : World) => coord_any a.lo k hk w)
 have HCB := lh (fun (k : Nat) (hk : k < 3) (w : World) => coord_any b.lo k hk w)
 have HDA := lh (fun (k : Nat) (hk : k < 3) (w : World) => coord_any a.hi k hk w)
 have HDB := lh (fun (k : Nat) (hk : k < 3) (w : World) => coord_any b.hi k hk w)
 unfold ptVal at HWI HCA HCB HDA HDB
 unfold boxV
 go_enter Tryz.func265, Tryz.ntmps265
 go_wp2
 have hW : Below w.heap.size w ((((w.alloc (.cells #[.int .i64 a.lo.x, .int .i64 a.lo.y, .int .i64 a.lo.z, .int .i64 a.hi.x, .int .i64 a.hi.y, .int .i64 a.hi.z] 78)).alloc (.cells #[.int .i64 b.lo.x, .int .i64 b.lo.y, .int .i64 b.lo.z, .int .i64 b.hi.x, .int .i64 b.hi.y, .int .i64 b.hi.z] 78)).alloc (.cells #[.int .i64 0, .int .i64 0, .int .i64 0, .int .i64 0, .int .i64 0, .int .i64 0] 78)).alloc (.cells #[.int .i64 0, .int .i64 0, .int .i64 0, .int .i64 0, .int .i64 0, .int .i64 0] 78)) := bel
 have hA0 : Blk ((((w.alloc (.cells #[.int .i64 a.lo.x, .int .i64 a.lo.y, .int .i64 a.lo.z, .int .i64 a.hi.x, .int .i64 a.hi.y, .int .i64 a.hi.z] 78)).alloc (.cells #[.int .i64 b.lo.x, .int .i64 b.lo.y, .int .i64 b.lo.z, .int .i64 b.hi.x, .int .i64 b.hi.y, .int .i64 b.hi.z] 78)).alloc (.cells #[.int .i64 0, .int .i64 0, .int .i64 0, .int .i64 0, .int .i64 0, .int .i64 0] 78)).alloc (.cells #[.int .i64 0, .int .i64 0, .int .i64 0, .int .i64 0, .int .i64 0, .int .i64 0] 78)) w.heap.size 78 #[.int .i64 a.lo.x, .int .i64 a.lo.y, .int .i64 a.lo.z, .int .i64 a.hi.x, .int .i64 a.hi.y, .int .i64 a.hi.z] := (((Blk.new w _ _).alloc _).alloc _).alloc _
 have hB0 : Blk ((((w.alloc (.cells #[.int .i64 a.lo.x, .int .i64 a.lo.y, .int .i64 a.lo.z, .int .i64 a.hi.x, .int .i64 a.hi.y, .int .i64 a.hi.z] 78)).alloc (.cells #[.int .i64 b.lo.x, .int .i64 b.lo.y, .int .i64 b.lo.z, .int .i64 b.hi.x, .int .i64 b.hi.y, .int .i64 b.hi.z] 78)).alloc (.cells #[.int .i64 0, .int .i64 0, .int .i64 0, .int .i64 0, .int .i64 0, .int .i64 0] 78)).alloc (.cells #[.int .i64 0, .int .i64 0, .int .i64 0, .int .i64 0, .int .i64 0, .int .i64 0] 78)) (w.heap.size + 1) 78 #[.int .i64 b.lo.x, .int .i64 b.lo.y, .int .i64 b.lo.z, .int .i64 b.hi.x, .int .i64 b.hi.y, .int .i64 b.hi.z] := by simpa using ((Blk.new (w.alloc (.cells #[.int .i64 a.lo.x, .int .i64 a.lo.y, .int .i64 a.lo.z, .int .i64 a.hi.x, .int .i64 a.hi.y, .int .i64 a.hi.z] 78)) 78 #[.int .i64 b.lo.x, .int .i64 b.lo.y, .int .i64 b.lo.z, .int .i64 b.hi.x, .int .i64 b.hi.y, .int .i64 b.hi.z]).alloc (.cells #[.int .i64 0, .int .i64 0, .int .i64 0, .int .i64 0, .int .i64 0, .int .i64 0] 78)).alloc (.cells #[.int .i64 0, .int .i64 0, .int .i64 0, .int .i64 0, .int .i64 0, .int .i64 0] 78)
 have hR0 : Blk ((((w.alloc (.cells #[.int .i64 a.lo.x, .int .i64 a.lo.y, .int .i64 a.lo.z, .int .i64 a.hi.x, .int .i64 a.hi.y, .int .i64 a.hi.z] 78)).alloc (.cells #[.int .i64 b.lo.x, .int .i64 b.lo.y, .int .i64 b.lo.z, .int .i64 b.hi.x, .int .i64 b.hi.y, .int .i64 b.hi.z] 78)).alloc (.cells #[.int .i64 0, .int .i64 0, .int .i64 0, .int .i64 0, .int .i64 0, .int .i64 0] 78)).alloc (.cells #[.int .i64 0, .int .i64 0, .int .i64 0, .int .i64 0, .int .i64 0, .int .i64 0] 78)) (w.heap.size + 1 + 1) 78 #[.int .i64 0, .int .i64 0, .int .i64 0, .int .i64 0, .int .i64 0, .int .i64 0] := by simpa using (Blk.new ((w.alloc (.cells #[.int .i64 a.lo.x, .int .i64 a.lo.y, .int .i64 a.lo.z, .int .i64 a.hi.x, .int .i64 a.hi.y, .int .i64 a.hi.z] 78)).alloc (.cells #[.int .i64 b.lo.x, .int .i64 b.lo.y, .int .i64 b.lo.z, .int .i64 b.hi.x, .int .i64 b.hi.y, .int .i64 b.hi.z] 78)) 78 #[.int .i64 0, .int .i64 0, .int .i64 0, .int .i64 0, .int .i64 0, .int .i64 0]).alloc (.cells #[.int .i64 0, .int .i64 0, .int .i64 0, .int .i64 0, .int .i64 0, .int .i64 0] 78)
 have hO0 : Blk ((((w.alloc (.cells #[.int .i64 a.lo.x, .int .i64 a.lo.y, .int .i64 a.lo.z, .int .i64 a.hi.x, .int .i64 a.hi.y, .int .i64 a.hi.z] 78)).alloc (.cells #[.int .i64 b.lo.x, .int .i64 b.lo.y, .int .i64 b.lo.z, .int .i64 b.hi.x, .int .i64 b.hi.y, .int .i64 b.hi.z] 78)).alloc (.cells #[.int .i64 0, .int .i64 0, .int .i64 0, .int .i64 0, .int .i64 0, .int .i64 0] 78)).alloc (.cells #[.int .i64 0, .int .i64 0, .int .i64 0, .int .i64 0, .int .i64 0, .int .i64 0] 78)) (w.heap.size + 1 + 1 + 1) 78 #[.int .i64 0, .int .i64 0, .int .i64 0, .int .i64 0, .int .i64 0, .int .i64 0] := by simpa using Blk.new (((w.alloc (.cells #[.int .i64 a.lo.x, .int .i64 a.lo.y, .int .i64 a.lo.z, .int .i64 a.hi.x, .int .i64 a.hi.y, .int .i64 a.hi.z] 78)).alloc (.cells #[.int .i64 b.lo.x, .int .i64 b.lo.y, .int .i64 b.lo.z, .int .i64 b.hi.x, .int .i64 b.hi.y, .int .i64 b.hi.z] 78)).alloc (.cells #[.int .i64 0, .int .i64 0, .int .i64 0, .int .i64 0, .int .i64 0, .int .i64 0] 78)) 78 #[.int .i64 0, .int .i64 0, .int .i64 0, .int .i64 0, .int .i64 0, .int .i64 0]
 have hzW : ((((w.alloc (.cells #[.int .i64 a.lo.x, .int .i64 a.lo.y, .int .i64 a.lo.z, .int .i64 a.hi.x, .int .i64 a.hi.y, .int .i64 a.hi.z] 78)).alloc (.cells #[.int .i64 b.lo.x, .int .i64 b.lo.y, .int .i64 b.lo.z, .int .i64 b.hi.x, .int .i64 b.hi.y, .int .i64 b.hi.z] 78)).alloc (.cells #[.int .i64 0, .int .i64 0, .int .i64 0, .int .i64 0, .int .i64 0, .int .i64 0] 78)).alloc (.cells #[.int .i64 0, .int .i64 0, .int .i64 0, .int .i64 0, .int .i64 0, .int .i64 0] 78)).heap.size = w.heap.size + 1 + 1 + 1 + 1 := by simp
 have HA0 := lh hA0
 have HB0 := lh hB0
 have HR0 := lh hR0
 clear hA0 hB0 hR0
 generalize ((((w.alloc (.cells #[.int .i64 a.lo.x, .int .i64 a.lo.y, .int .i64 a.lo.z, .int .i64 a.hi.x, .int .i64 a.hi.y, .int .i64 a.hi.z] 78)).alloc (.cells #[.int .i64 b.lo.x, .int .i64 b.lo.y, .int .i64 b.lo.z, .int .i64 b.hi.x, .int .i64 b.hi.y, .int .i64 b.hi.z] 78)).alloc (.cells #[.int .i64 0, .int .i64 0, .int .i64 0, .int .i64 0, .int .i64 0, .int .i64 0] 78)).alloc (.cells #[.int .i64 0, .int .i64 0, .int .i64 0, .int .i64 0, .int .i64 0, .int .i64 0] 78)) = W1 at *
 go_loopw [7] (fun i wr => ∃ k : Nat, k <= 3 /\ i = .int .i64 k /\ Hid (∀ j, j < k -> S.mlo a b j <= S.mhi a b j) /\ Blk wr (w.heap.size + 1 + 1 + 1) 78 #[.int .i64 (S.meetK a b k).lo.x, .int .i64 (S.meetK a b k).lo.y, .int .i64 (S.meetK a b k).lo.z, .int .i64 (S.meetK a b k).hi.x, .int .i64 (S.meetK a b k).hi.y, .int .i64 (S.meetK a b k).hi.z] /\ Exc [(w.heap.size + 1 + 1 + 1)] W1 wr) (fun i _ => 3 - (intOf i).toNat)
 case atStart => exact ⟨0, by omega, rfl, lh fun j hj => absurd hj (by omega), hO0, Exc.refl _ _⟩
 case round =>
  obtain ⟨k, hk, rfl, HALL, hK, hX⟩ := hrel
  have HK := lh hK
  have hsz := hX.size
  have hA1 : Blk wr w.heap.size 78 #[.int .i64 a.lo.x, .int .i64 a.lo.y, .int .i64 a.lo.z, .int .i64 a.hi.x, .int .i64 a.hi.y, .int .i64 a.hi.z] := (hX.block w.heap.size (by omega) (by simp; omega)).trans HA0.out
  have hB1 : Blk wr (w.heap.size + 1) 78 #[.int .i64 b.lo.x, .int .i64 b.lo.y, .int .i64 b.lo.z, .int .i64 b.hi.x, .int .i64 b.hi.y, .int .i64 b.hi.z] := (hX.block (w.heap.size + 1) (by omega) (by simp)).trans HB0.out
  have hR1 : Blk wr (w.heap.size + 1 + 1) 78 #[.int .i64 0, .int .i64 0, .int .i64 0, .int .i64 0, .int .i64 0, .int .i64 0] := (hX.block (w.heap.size + 1 + 1) (by omega) (by simp)).trans HR0.out
  have x0 := hA1.cell 0
  have x1 := hA1.cell 1
  have x2 := hA1.cell 2
  have x3 := hA1.cell 3
  have x4 := hA1.cell 4
  have x5 := hA1.cell 5
  simp only [ga1, ga2, ga3] at x0 x1 x2 x3 x4 x5
  have y0 := hB1.cell 0
  have y1 := hB1.cell 1
  have y2 := hB1.cell 2
  have y3 := hB1.cell 3
  have y4 := hB1.cell 4
  have y5 := hB1.cell 5
  simp only [ga1, ga2, ga3] at y0 y1 y2 y3 y4 y5
  have z0 := hR1.cell 0
  have z1 := hR1.cell 1
  have z2 := hR1.cell 2
  have z3 := hR1.cell 3
  have z4 := hR1.cell 4
  have z5 := hR1.cell 5
  have fz0 := hR1.frozen 0
  have fz1 := hR1.frozen 1
  have fz2 := hR1.frozen 2
  have fz3 := hR1.frozen 3
  have fz4 := hR1.frozen 4
  have fz5 := hR1.frozen 5
  simp only [ga1, ga2, ga3] at z0 z1 z2 z3 z4 z5
  have hla := hA1.lt
  have hlb := hB1.lt
  have hlr := hR1.lt
  have hbel : Below w.heap.size w wr := hW.trans (hX.below (by omega) (by intro x hx; simp at hx; omega))
  clear hA1 hB1 hR1
  by_cases hlt : k < 3
  ·have hki : (k : Int) < 3 := by omega
   have HJ := lh (show S.meetK a b (k + 1) = S.meet1 a b (S.meetK a b k) k from rfl)
   have HNk := lh (HNO.out k hlt)
   generalize S.meetK a b k = O at *
   have hgr := hK.lt
   have o0 := hK.cell 0
   have o1 := hK.cell 1
   have o2 := hK.cell 2
   have o3 := hK.cell 3
   have o4 := hK.cell 4
   have o5 := hK.cell 5
   have fo0 := hK.frozen 0
   have fo1 := hK.frozen 1
   have fo2 := hK.frozen 2
   have fo3 := hK.frozen 3
   have fo4 := hK.frozen 4
   have fo5 := hK.frozen 5
   simp only [ga1, ga2, ga3] at o0 o1 o2 o3 o4 o5
   have HCAk := lh (HCA.out k hlt)
   have HCBk := lh (HCB.out k hlt)
   have HDAk := lh (HDA.out k hlt)
   have HDBk := lh (HDB.out k hlt)
   obtain ⟨P, hP⟩ : ∃ P, P = S.mlo a b k := ⟨_, rfl⟩
   obtain ⟨Q, hQ⟩ : ∃ Q, Q = S.mhi a b k := ⟨_, rfl⟩
   have HM1 := lh (show S.meet1 a b O k = ⟨S.setc O.lo k P, S.setc O.hi k Q⟩ by rw [hP, hQ]; rfl)
   have HP := lh hP
   have HQ := lh hQ
   unfold S.mlo S.mx at hP
   unfold S.mhi S.mn at hQ
   generalize S.co a.lo k = la at *
   generalize S.co b.lo k = lb at *
   generalize S.co a.hi k = ha at *
   generalize S.co b.hi k = hb at *
   have HWL := lh (fun w => HWI.out O.lo k P hlt w)
   have HWH := lh (fun w => HWI.out O.hi k Q hlt w)
   have HPP := lh hP
   have HQQ := lh hQ
   clear hP hQ
   clear hK
   by_cases hbad : Q < P
   ·have HBAD := lh (HNk.out (by rw [<- HP.out, <- HQ.out]; exact hbad))
    go_wp2
    refine wp_region_grow (by kernel_rfl) (by kernel_rfl) ?_
    repeat (go_big_quiet_step ((first | (go_at_call 175; with_reducible exact grow_of (HCAk.out _)) | (go_at_call 175; with_reducible exact grow_of (HCBk.out _)) | (go_at_call 175; with_reducible exact grow_of (HDAk.out _)) | (go_at_call 175; with_reducible exact grow_of (HDBk.out _)))))
    all_goals (refine wpQuiet_nil ?_; intro wg hbwg; obtain ⟨hcwg, hfwg⟩ := bcell hbwg; have hzwg_0 : w.heap.size < wg.heap.size := lt_via hbwg sz; have hzwg_1 : w.heap.size + 1 < wg.heap.size := lt_via hbwg sz; have hzwg_2 : w.heap.size + 2 < wg.heap.size := lt_via hbwg sz; have hzwg_3 : w.heap.size + 3 < wg.heap.size := lt_via hbwg sz)
    rw [show (if la < lb then lb else la) = P from HPP.out.symm, show (if hb < ha then hb else ha) = Q from HQQ.out.symm]
    go_wp2
    exact bodyPost_ret (v := .tuple #[.agg #[.int .i64 0, .int .i64 0, .int .i64 0, .int .i64 0, .int .i64 0, .int .i64 0], .bool false]) (by simp [results, Tryz.results265, go_sem, *]) rfl ⟨by rw [HMT.out _ HBAD.out, HBAD.out]; rfl, ((((((((ba_via hbwg hbel).setCell (by simp; omega) _).setCell (by simp; omega) _).setCell (by simp; omega) _).setCell (by simp; omega) _).setCell (by simp; omega) _).setCell (by simp; omega) _))⟩
   ·have hg : ¬ Q < P := hbad
    go_wp2
    refine wp_region_grow (by kernel_rfl) (by kernel_rfl) ?_
    repeat (go_big_quiet_step ((first | (go_at_call 175; with_reducible exact grow_of (HCAk.out _)) | (go_at_call 175; with_reducible exact grow_of (HCBk.out _)) | (go_at_call 175; with_reducible exact grow_of (HDAk.out _)) | (go_at_call 175; with_reducible exact grow_of (HDBk.out _)))))
    all_goals (refine wpQuiet_nil ?_; intro wg hbwg; obtain ⟨hcwg, hfwg⟩ := bcell hbwg; have hzwg_0 : w.heap.size < wg.heap.size := lt_via hbwg sz; have hzwg_1 : w.heap.size + 1 < wg.heap.size := lt_via hbwg sz; have hzwg_2 : w.heap.size + 2 < wg.heap.size := lt_via hbwg sz; have hzwg_3 : w.heap.size + 3 < wg.heap.size := lt_via hbwg sz)
    rw [show (if la < lb then lb else la) = P from HPP.out.symm, show (if hb < ha then hb else ha) = Q from HQQ.out.symm]
    go_wp2_with (first
     | (go_at_call 271; (with_reducible refine (HWL.out _).mono ?_); rintro e w2 ⟨rfl, hbw2⟩; obtain ⟨hcw2, hfw2⟩ := bcell hbw2; have hzw2_0 : w.heap.size < w2.heap.size := lt_via hbw2 sz; have hzw2_1 : w.heap.size + 1 < w2.heap.size := lt_via hbw2 sz; have hzw2_2 : w.heap.size + 2 < w2.heap.size := lt_via hbw2 sz; have hzw2_3 : w.heap.size + 3 < w2.heap.size := lt_via hbw2 sz)
     | (go_at_call 271; (with_reducible refine (HWH.out _).mono ?_); rintro e w3 ⟨rfl, hbw3⟩; obtain ⟨hcw3, hfw3⟩ := bcell hbw3; have hzw3_0 : w.heap.size < w3.heap.size := lt_via hbw3 sz; have hzw3_1 : w.heap.size + 1 < w3.heap.size := lt_via hbw3 sz; have hzw3_2 : w.heap.size + 2 < w3.heap.size := lt_via hbw3 sz; have hzw3_3 : w.heap.size + 3 < w3.heap.size := lt_via hbw3 sz))
    go_roundw
    case rel =>
     refine ⟨k + 1, by omega, by go_num, lh fun j hj => ?_, ?_, ?_⟩
     ·by_cases hjk : j = k
      ·subst hjk; rw [<- HP.out, <- HQ.out]; omega
      ·exact HALL.out j (by omega)
     ·rw [HJ.out, HM1.out]
      have h3 := ((((HK.out.via hbwg).via hbw2).set 0 (.int .i64 (S.setc O.lo k P).x)).set 1 (.int .i64 (S.setc O.lo k P).y)).set 2 (.int .i64 (S.setc O.lo k P).z)
      simp only [List.setIfInBounds_toArray, List.set_cons_zero, List.set_cons_succ] at h3
      have h6 := (((h3.via hbw3).set 3 (.int .i64 (S.setc O.hi k Q).x)).set 4 (.int .i64 (S.setc O.hi k Q).y)).set 5 (.int .i64 (S.setc O.hi k Q).z)
      simp only [List.setIfInBounds_toArray, List.set_cons_zero, List.set_cons_succ] at h6
      exact h6
     ·exact (((Exc.via hbw3 ((((Exc.via hbw2 (Exc.via hbwg hX)).set (.inl (by simp)) _).set (.inl (by simp)) _).set (.inl (by simp)) _)).set (.inl (by simp)) _).set (.inl (by simp)) _).set (.inl (by simp)) _
    case measure => simp [intOf]; omega
  ·have he : k = 3 := by omega
   subst he
   have HB := lh (HYES.out HALL.out)
   have HMM := lh (HMT.out _ HB.out)
   generalize S.meetK a b 3 = O at *
   have hgr := hK.lt
   have o0 := hK.cell 0
   have o1 := hK.cell 1
   have o2 := hK.cell 2
   have o3 := hK.cell 3
   have o4 := hK.cell 4
   have o5 := hK.cell 5
   have fo0 := hK.frozen 0
   have fo1 := hK.frozen 1
   have fo2 := hK.frozen 2
   have fo3 := hK.frozen 3
   have fo4 := hK.frozen 4
   have fo5 := hK.frozen 5
   simp only [ga1, ga2, ga3] at o0 o1 o2 o3 o4 o5
   go_wp2
   exact bodyPost_ret (v := .tuple #[boxV O, .bool true]) (by simp [results, Tryz.results265, go_sem, *]) rfl ⟨by rw [HMM.out, HB.out]; rfl, ((((((hbel.setCell (by simp; omega) _).setCell (by simp; omega) _).setCell (by simp; omega) _).setCell (by simp; omega) _).setCell (by simp; omega) _).setCell (by simp; omega) _)⟩
set_option maxHeartbeats 1000000 in
theorem rcontains_any (a b : Bx) (w : World) (hx : b.lo.x <= b.hi.x) (hy : b.lo.y <= b.hi.y) (hz : b.lo.z <= b.hi.z) :
 Calls Tryz.prog 245 #[boxV a, boxV b] w fun e w' => e = .returned (.bool (S.cont a b)) /\ Below w.heap.size w w' := by
 have H := lh (meet_cont a b hx hy hz)
 have HM := lh (fun w => meet_any a b w)
 clear hx hy hz
 have q := run_eq_box (S.meet a b) b
 generalize S.meet a b = M at *
 generalize S.meets a b = t at *
 unfold boxV at HM q ⊢
 cases t
 all_goals (
  go_enter Tryz.func245, Tryz.ntmps245
  go_wp2_with (go_at_call 265; (with_reducible refine (HM.out _).mono ?_); rintro e w1 ⟨rfl, hbw1⟩; obtain ⟨hcw1, hfw1⟩ := bcell hbw1; have hzw1_0 : w.heap.size < w1.heap.size := lt_via hbw1 sz; have hzw1_1 : w.heap.size + 1 < w1.heap.size := lt_via hbw1 sz)
  go_ret
  exact ⟨ret_b (by rw [<- H.out]; simp), bel⟩)
set_option maxHeartbeats 4000000 in
theorem bcont_any (a b : Bx) (w : World) :
 Calls Tryz.prog 260 #[boxV a, boxV b] w fun e w' => e = .returned (.bool (S.cont a b)) /\ Below w.heap.size w w' := by
 have H := lh (show ∀ t : Bool, (t = true ↔ a.lo.x <= b.lo.x /\ b.hi.x <= a.hi.x /\ a.lo.y <= b.lo.y /\ b.hi.y <= a.hi.y /\ a.lo.z <= b.lo.z /\ b.hi.z <= a.hi.z) -> t = S.cont a b from fun t ht => by rw [Bool.eq_iff_iff, ht, cont_iff])
 have HXA := lh (fun w => ends_x a w)
 have HYA := lh (fun w => ends_y a w)
 have HZA := lh (fun w => ends_z a w)
 have HXB := lh (fun w => ends_x b w)
 have HYB := lh (fun w => ends_y b w)
 have HZB := lh (fun w => ends_z b w)
 unfold boxV
 go_enter Tryz.func260, Tryz.ntmps260
 go_wp2
 refine wp_loop_rounds 4 ?_
 rw [rounds_succ]
 go_wp2_with (first | (go_at_call 134; (with_reducible refine (HXA.out _).mono ?_); rintro e w1 ⟨rfl, hbw1⟩; obtain ⟨hcw1, hfw1⟩ := bcell hbw1; have hzw1_0 : w.heap.size < w1.heap.size := lt_via hbw1 sz; have hzw1_1 : w.heap.size + 1 < w1.heap.size := lt_via hbw1 sz) | (go_at_call 134; (with_reducible refine (HXB.out _).mono ?_); rintro e w2 ⟨rfl, hbw2⟩; obtain ⟨hcw2, hfw2⟩ := bcell hbw2; have hzw2_0 : w.heap.size < w2.heap.size := lt_via hbw2 sz; have hzw2_1 : w.heap.size + 1 < w2.heap.size := lt_via hbw2 sz))
 all_goals (try (go_ret; exact ⟨ret_b (H.out _ (by simp only [decide_eq_true_eq, decide_eq_false_iff_not, Bool.false_eq_true, true_iff, false_iff] at *; omega)), bel⟩))
 rw [rounds_succ]
 go_wp2_with (first | (go_at_call 134; (with_reducible refine (HYA.out _).mono ?_); rintro e w3 ⟨rfl, hbw3⟩; obtain ⟨hcw3, hfw3⟩ := bcell hbw3; have hzw3_0 : w.heap.size < w3.heap.size := lt_via hbw3 sz; have hzw3_1 : w.heap.size + 1 < w3.heap.size := lt_via hbw3 sz) | (go_at_call 134; (with_reducible refine (HYB.out _).mono ?_); rintro e w4 ⟨rfl, hbw4⟩; obtain ⟨hcw4, hfw4⟩ := bcell hbw4; have hzw4_0 : w.heap.size < w4.heap.size := lt_via hbw4 sz; have hzw4_1 : w.heap.size + 1 < w4.heap.size := lt_via hbw4 sz))
 all_goals (try (go_ret; exact ⟨ret_b (H.out _ (by simp only [decide_eq_true_eq, decide_eq_false_iff_not, Bool.false_eq_true, true_iff, false_iff] at *; omega)), bel⟩))
 rw [rounds_succ]
 go_wp2_with (first | (go_at_call 134; (with_reducible refine (HZA.out _).mono ?_); rintro e w5 ⟨rfl, hbw5⟩; obtain ⟨hcw5, hfw5⟩ := bcell hbw5; have hzw5_0 : w.heap.size < w5.heap.size := lt_via hbw5 sz; have hzw5_1 : w.heap.size + 1 < w5.heap.size := lt_via hbw5 sz) | (go_at_call 134; (with_reducible refine (HZB.out _).mono ?_); rintro e w6 ⟨rfl, hbw6⟩; obtain ⟨hcw6, hfw6⟩ := bcell hbw6; have hzw6_0 : w.heap.size < w6.heap.size := lt_via hbw6 sz; have hzw6_1 : w.heap.size + 1 < w6.heap.size := lt_via hbw6 sz))
 all_goals (try (go_ret; exact ⟨ret_b (H.out _ (by simp only [decide_eq_true_eq, decide_eq_false_iff_not, Bool.false_eq_true, true_iff, false_iff] at *; omega)), bel⟩))
 rw [rounds_succ]
 go_wp2
 (go_ret; exact ⟨ret_b (H.out _ (by simp only [decide_eq_true_eq, decide_eq_false_iff_not, Bool.false_eq_true, true_iff, false_iff] at *; omega)), bel⟩)
theorem bcontains_yes (a b : Bx) (w : World) (ha : S.boxOk a = true) (hb : S.boxOk b = true) :
 Calls Tryz.prog 238 #[boxV a, boxV b] w fun e w' => e = .returned (.tuple #[.bool (S.cont a b), .int .i64 0]) /\ Below w.heap.size w w' := by
 have HA := lh (fun w => ha ▸ bvalid_any a w)
 have HB := lh (fun w => hb ▸ bvalid_any b w)
 have HC := lh (fun w => bcont_any a b w)
 generalize S.cont a b = t at *
 unfold boxV
 go_enter Tryz.func238, Tryz.ntmps238
 go_wp2_with (first
  | (go_at_call 94; (with_reducible refine (HA.out _).mono ?_); rintro e w1 ⟨rfl, hbw1⟩; obtain ⟨hcw1, hfw1⟩ := bcell hbw1; have hzw1_0 : w.heap.size < w1.heap.size := lt_via hbw1 sz; have hzw1_1 : w.heap.size + 1 < w1.heap.size := lt_via hbw1 sz)
  | (go_at_call 94; (with_reducible refine (HB.out _).mono ?_); rintro e w2 ⟨rfl, hbw2⟩; obtain ⟨hcw2, hfw2⟩ := bcell hbw2; have hzw2_0 : w.heap.size < w2.heap.size := lt_via hbw2 sz; have hzw2_1 : w.heap.size + 1 < w2.heap.size := lt_via hbw2 sz)
  | (go_at_call 260; (with_reducible refine (HC.out _).mono ?_); rintro e w3 ⟨rfl, hbw3⟩; obtain ⟨hcw3, hfw3⟩ := bcell hbw3; have hzw3_0 : w.heap.size < w3.heap.size := lt_via hbw3 sz; have hzw3_1 : w.heap.size + 1 < w3.heap.size := lt_via hbw3 sz))
 go_ret2
 exact ⟨rfl, bel⟩
def S.moves (b : Bar) : List Pt := (S.legsOf b.code).map fun l => S.step ⟨0, 0, 0⟩ l.2 (b.dims.getD l.1 0)
theorem moves_len (b : Bar) : (S.moves b).length = (S.legsOf b.code).length := by simp [S.moves]
def GivesPts (l : List Pt) (w : World) (e : Ending) (w' : World) : Prop :=
 ∃ A, e = .returned (.slice A l.length l.length) /\ Cells w' w'.heap.size A (l.flatMap ptC) /\ Below w.heap.size w w' /\ w.heap.size < w'.heap.size
set_option maxRecDepth 100000 in
set_option maxHeartbeats 2000000 in
theorem rmoves_0 (mk : ByteArray) (sz ct : Int) (d0 : Int) (A : Option Addr) (c : Nat) (B : Nat) (w : World) (hB : B <= w.heap.size) (hA : BarAt w B A 1 ⟨mk, sz, ct, 0, [d0]⟩) (hd : 1 <= d0 /\ d0 <= 262144) :
 Calls Tryz.prog 253 #[barV ⟨mk, sz, ct, 0, [d0]⟩ A 1 c] w (GivesPts (S.moves ⟨mk, sz, ct, 0, [d0]⟩) w) := by
 have hmv : S.moves ⟨mk, sz, ct, 0, [d0]⟩ = [⟨d0, 0, 0⟩] := by simp [S.moves, S.legsOf, S.step]
 obtain ⟨bd, od, rfl, hbd, hcd⟩ := hA.cells.at_ (by simp)
 have g0 := hcd 0 (.int .i64 d0) rfl
 simp only [Nat.add_zero] at g0
 rw [hmv]
 clear hcd hA hmv
 have hn0 : bd < w.heap.size := by omega
 unfold barV
 go_enter Tryz.func253, Tryz.ntmps253
 go_wp2
 go_ret
 refine ⟨some ⟨w.heap.size + 1, 0, none⟩, rfl, ?_, bel, by simp; omega⟩
 simpa using Cells.newRow (w.alloc (.cells #[.string mk, .int .i64 sz, .int .i64 ct, .int .i64 0, .slice (some ⟨bd, od, none⟩) 1 c] 138)) #[.int .i64 (d0), .int .i64 (0), .int .i64 (0)] 76 (0, 0)
set_option maxRecDepth 100000 in
set_option maxHeartbeats 2000000 in
theorem rmoves_11 (mk : ByteArray) (sz ct : Int) (d0 d1 : Int) (A : Option Addr) (c : Nat) (B : Nat) (w : World) (hB : B <= w.heap.size) (hA : BarAt w B A 2 ⟨mk, sz, ct, 11, [d0, d1]⟩) (hd : 1 <= d0 /\ d0 <= 262144 /\ 1 <= d1 /\ d1 <= 262144) :
 Calls Tryz.prog 253 #[barV ⟨mk, sz, ct, 11, [d0, d1]⟩ A 2 c] w (GivesPts (S.moves ⟨mk, sz, ct, 11, [d0, d1]⟩) w) := by
 have hmv : S.moves ⟨mk, sz, ct, 11, [d0, d1]⟩ = [⟨d0, 0, 0⟩, ⟨0, d1, 0⟩] := by simp [S.moves, S.legsOf, S.step]
 obtain ⟨bd, od, rfl, hbd, hcd⟩ := hA.cells.at_ (by simp)
 have g0 := hcd 0 (.int .i64 d0) rfl
 have g1 := hcd 1 (.int .i64 d1) rfl
 simp only [Nat.add_zero] at g0
 rw [hmv]
 clear hcd hA hmv
 have hn0 : bd < w.heap.size := by omega
 unfold barV
 go_enter Tryz.func253, Tryz.ntmps253
 go_wp2
 refine wp_region_grow_tail 8 (by kernel_rfl) (by kernel_rfl) ?_
 simp only [gt1, gt2, gt3, gt4]
 repeat (go_big_quiet_step (fail))
 all_goals (refine wpQuiet_nil ?_; intro wg hbwg; obtain ⟨hcwg, hfwg⟩ := bcell hbwg; have hzwg_0 : w.heap.size < wg.heap.size := lt_via hbwg (by first | omega | (simp; done) | (simp; omega)))
 go_wp2
 go_ret
 refine ⟨some ⟨wg.heap.size, 0, none⟩, rfl, ?_, bel, by simp; omega⟩
 simpa using Cells.newRow wg #[.int .i64 (d0), .int .i64 (0), .int .i64 (0), .int .i64 (0), .int .i64 (d1), .int .i64 (0)] 76 (0, 0)
set_option maxRecDepth 100000 in
set_option maxHeartbeats 2000000 in
theorem rmoves_21 (mk : ByteArray) (sz ct : Int) (d0 d1 d2 : Int) (A : Option Addr) (c : Nat) (B : Nat) (w : World) (hB : B <= w.heap.size) (hA : BarAt w B A 3 ⟨mk, sz, ct, 21, [d0, d1, d2]⟩) (hd : 1 <= d0 /\ d0 <= 262144 /\ 1 <= d1 /\ d1 <= 262144 /\ 1 <= d2 /\ d2 <= 262144) :
 Calls Tryz.prog 253 #[barV ⟨mk, sz, ct, 21, [d0, d1, d2]⟩ A 3 c] w (GivesPts (S.moves ⟨mk, sz, ct, 21, [d0, d1, d2]⟩) w) := by
 have hmv : S.moves ⟨mk, sz, ct, 21, [d0, d1, d2]⟩ = [⟨0, -d0, 0⟩, ⟨d1, 0, 0⟩, ⟨0, d2, 0⟩] := by simp [S.moves, S.legsOf, S.step]
 obtain ⟨bd, od, rfl, hbd, hcd⟩ := hA.cells.at_ (by simp)
 have g0 := hcd 0 (.int .i64 d0) rfl
 have g1 := hcd 1 (.int .i64 d1) rfl
 have g2 := hcd 2 (.int .i64 d2) rfl
 simp only [Nat.add_zero] at g0
 rw [hmv]
 clear hcd hA hmv
 have hn0 : bd < w.heap.size := by omega
 have hw0 : IntKind.i64.wrap (-d0) = -d0 := IntWalk.i64_in _ (by omega)
 unfold barV
 go_enter Tryz.func253, Tryz.ntmps253
 go_wp2
 refine wp_region_grow_tail 13 (by kernel_rfl) (by kernel_rfl) ?_
 simp only [gt1, gt2, gt3, gt4]
 repeat (go_big_quiet_step (fail))
 all_goals (refine wpQuiet_nil ?_; intro wg hbwg; obtain ⟨hcwg, hfwg⟩ := bcell hbwg; have hzwg_0 : w.heap.size < wg.heap.size := lt_via hbwg (by first | omega | (simp; done) | (simp; omega)))
 go_wp2
 go_ret
 refine ⟨some ⟨wg.heap.size, 0, none⟩, rfl, ?_, bel, by simp; omega⟩
 simpa using Cells.newRow wg #[.int .i64 (0), .int .i64 (-d0), .int .i64 (0), .int .i64 (d1), .int .i64 (0), .int .i64 (0), .int .i64 (0), .int .i64 (d2), .int .i64 (0)] 76 (0, 0)
set_option maxRecDepth 100000 in
set_option maxHeartbeats 2000000 in
theorem rmoves_26 (mk : ByteArray) (sz ct : Int) (d0 d1 d2 : Int) (A : Option Addr) (c : Nat) (B : Nat) (w : World) (hB : B <= w.heap.size) (hA : BarAt w B A 3 ⟨mk, sz, ct, 26, [d0, d1, d2]⟩) (hd : 1 <= d0 /\ d0 <= 262144 /\ 1 <= d1 /\ d1 <= 262144 /\ 1 <= d2 /\ d2 <= 262144) :
 Calls Tryz.prog 253 #[barV ⟨mk, sz, ct, 26, [d0, d1, d2]⟩ A 3 c] w (GivesPts (S.moves ⟨mk, sz, ct, 26, [d0, d1, d2]⟩) w) := by
 have hmv : S.moves ⟨mk, sz, ct, 26, [d0, d1, d2]⟩ = [⟨d0, 0, 0⟩, ⟨0, d1, 0⟩, ⟨d2, 0, 0⟩] := by simp [S.moves, S.legsOf, S.step]
 obtain ⟨bd, od, rfl, hbd, hcd⟩ := hA.cells.at_ (by simp)
 have g0 := hcd 0 (.int .i64 d0) rfl
 have g1 := hcd 1 (.int .i64 d1) rfl
 have g2 := hcd 2 (.int .i64 d2) rfl
 simp only [Nat.add_zero] at g0
 rw [hmv]
 clear hcd hA hmv
 have hn0 : bd < w.heap.size := by omega
 unfold barV
 go_enter Tryz.func253, Tryz.ntmps253
 go_wp2
 refine wp_region_grow_tail 12 (by kernel_rfl) (by kernel_rfl) ?_
 simp only [gt1, gt2, gt3, gt4]
 repeat (go_big_quiet_step (fail))
 all_goals (refine wpQuiet_nil ?_; intro wg hbwg; obtain ⟨hcwg, hfwg⟩ := bcell hbwg; have hzwg_0 : w.heap.size < wg.heap.size := lt_via hbwg (by first | omega | (simp; done) | (simp; omega)))
 go_wp2
 go_ret
 refine ⟨some ⟨wg.heap.size, 0, none⟩, rfl, ?_, bel, by simp; omega⟩
 simpa using Cells.newRow wg #[.int .i64 (d0), .int .i64 (0), .int .i64 (0), .int .i64 (0), .int .i64 (d1), .int .i64 (0), .int .i64 (d2), .int .i64 (0), .int .i64 (0)] 76 (0, 0)
set_option maxRecDepth 100000 in
set_option maxHeartbeats 2000000 in
theorem rmoves_31 (mk : ByteArray) (sz ct : Int) (d0 d1 d2 : Int) (A : Option Addr) (c : Nat) (B : Nat) (w : World) (hB : B <= w.heap.size) (hA : BarAt w B A 3 ⟨mk, sz, ct, 31, [d0, d1, d2]⟩) (hd : 1 <= d0 /\ d0 <= 262144 /\ 1 <= d1 /\ d1 <= 262144 /\ 1 <= d2 /\ d2 <= 262144) :
 Calls Tryz.prog 253 #[barV ⟨mk, sz, ct, 31, [d0, d1, d2]⟩ A 3 c] w (GivesPts (S.moves ⟨mk, sz, ct, 31, [d0, d1, d2]⟩) w) := by
 have hmv : S.moves ⟨mk, sz, ct, 31, [d0, d1, d2]⟩ = [⟨d0, 0, 0⟩, ⟨0, d1, 0⟩, ⟨0, 0, d2⟩] := by simp [S.moves, S.legsOf, S.step]
 obtain ⟨bd, od, rfl, hbd, hcd⟩ := hA.cells.at_ (by simp)
 have g0 := hcd 0 (.int .i64 d0) rfl
 have g1 := hcd 1 (.int .i64 d1) rfl
 have g2 := hcd 2 (.int .i64 d2) rfl
 simp only [Nat.add_zero] at g0
 rw [hmv]
 clear hcd hA hmv
 have hn0 : bd < w.heap.size := by omega
 unfold barV
 go_enter Tryz.func253, Tryz.ntmps253
 go_wp2
 refine wp_region_grow_tail 12 (by kernel_rfl) (by kernel_rfl) ?_
 simp only [gt1, gt2, gt3, gt4]
 repeat (go_big_quiet_step (fail))
 all_goals (refine wpQuiet_nil ?_; intro wg hbwg; obtain ⟨hcwg, hfwg⟩ := bcell hbwg; have hzwg_0 : w.heap.size < wg.heap.size := lt_via hbwg (by first | omega | (simp; done) | (simp; omega)))
 go_wp2
 go_ret
 refine ⟨some ⟨wg.heap.size, 0, none⟩, rfl, ?_, bel, by simp; omega⟩
 simpa using Cells.newRow wg #[.int .i64 (d0), .int .i64 (0), .int .i64 (0), .int .i64 (0), .int .i64 (d1), .int .i64 (0), .int .i64 (0), .int .i64 (0), .int .i64 (d2)] 76 (0, 0)
set_option maxRecDepth 100000 in
set_option maxHeartbeats 2000000 in
theorem rmoves_41 (mk : ByteArray) (sz ct : Int) (d0 d1 d2 d3 d4 : Int) (A : Option Addr) (c : Nat) (B : Nat) (w : World) (hB : B <= w.heap.size) (hA : BarAt w B A 5 ⟨mk, sz, ct, 41, [d0, d1, d2, d3, d4]⟩) (hd : 1 <= d0 /\ d0 <= 262144 /\ 1 <= d1 /\ d1 <= 262144 /\ 1 <= d2 /\ d2 <= 262144 /\ 1 <= d3 /\ d3 <= 262144 /\ 1 <= d4 /\ d4 <= 262144) :
 Calls Tryz.prog 253 #[barV ⟨mk, sz, ct, 41, [d0, d1, d2, d3, d4]⟩ A 5 c] w (GivesPts (S.moves ⟨mk, sz, ct, 41, [d0, d1, d2, d3, d4]⟩) w) := by
 have hmv : S.moves ⟨mk, sz, ct, 41, [d0, d1, d2, d3, d4]⟩ = [⟨d0, 0, 0⟩, ⟨0, d1, 0⟩, ⟨d2, 0, 0⟩, ⟨0, -d3, 0⟩, ⟨d4, 0, 0⟩] := by simp [S.moves, S.legsOf, S.step]
 obtain ⟨bd, od, rfl, hbd, hcd⟩ := hA.cells.at_ (by simp)
 have g0 := hcd 0 (.int .i64 d0) rfl
 have g1 := hcd 1 (.int .i64 d1) rfl
 have g2 := hcd 2 (.int .i64 d2) rfl
 have g3 := hcd 3 (.int .i64 d3) rfl
 have g4 := hcd 4 (.int .i64 d4) rfl
 simp only [Nat.add_zero] at g0
 rw [hmv]
 clear hcd hA hmv
 have hn0 : bd < w.heap.size := by omega
 have hw0 : IntKind.i64.wrap (-d3) = -d3 := IntWalk.i64_in _ (by omega)
 unfold barV
 go_enter Tryz.func253, Tryz.ntmps253
 go_wp2
 refine wp_region_grow_tail 21 (by kernel_rfl) (by kernel_rfl) ?_
 simp only [gt1, gt2, gt3, gt4]
 repeat (go_big_quiet_step (fail))
 all_goals (refine wpQuiet_nil ?_; intro wg hbwg; obtain ⟨hcwg, hfwg⟩ := bcell hbwg; have hzwg_0 : w.heap.size < wg.heap.size := lt_via hbwg (by first | omega | (simp; done) | (simp; omega)))
 go_wp2
 go_ret
 refine ⟨some ⟨wg.heap.size, 0, none⟩, rfl, ?_, bel, by simp; omega⟩
 simpa using Cells.newRow wg #[.int .i64 (d0), .int .i64 (0), .int .i64 (0), .int .i64 (0), .int .i64 (d1), .int .i64 (0), .int .i64 (d2), .int .i64 (0), .int .i64 (0), .int .i64 (0), .int .i64 (-d3), .int .i64 (0), .int .i64 (d4), .int .i64 (0), .int .i64 (0)] 76 (0, 0)
set_option maxRecDepth 100000 in
set_option maxHeartbeats 2000000 in
theorem rmoves_51 (mk : ByteArray) (sz ct : Int) (d0 d1 d2 : Int) (A : Option Addr) (c : Nat) (B : Nat) (w : World) (hB : B <= w.heap.size) (hA : BarAt w B A 3 ⟨mk, sz, ct, 51, [d0, d1, d2]⟩) (hd : 1 <= d0 /\ d0 <= 262144 /\ 1 <= d1 /\ d1 <= 262144 /\ 1 <= d2 /\ d2 <= 262144) :
 Calls Tryz.prog 253 #[barV ⟨mk, sz, ct, 51, [d0, d1, d2]⟩ A 3 c] w (GivesPts (S.moves ⟨mk, sz, ct, 51, [d0, d1, d2]⟩) w) := by
 have hmv : S.moves ⟨mk, sz, ct, 51, [d0, d1, d2]⟩ = [⟨0, -d2, 0⟩, ⟨d0, 0, 0⟩, ⟨0, d1, 0⟩, ⟨-d0, 0, 0⟩, ⟨0, -d1, 0⟩, ⟨d2, 0, 0⟩] := by simp [S.moves, S.legsOf, S.step]
 obtain ⟨bd, od, rfl, hbd, hcd⟩ := hA.cells.at_ (by simp)
 have g0 := hcd 0 (.int .i64 d0) rfl
 have g1 := hcd 1 (.int .i64 d1) rfl
 have g2 := hcd 2 (.int .i64 d2) rfl
 simp only [Nat.add_zero] at g0
 rw [hmv]
 clear hcd hA hmv
 have hn0 : bd < w.heap.size := by omega
 have hw0 : IntKind.i64.wrap (-d2) = -d2 := IntWalk.i64_in _ (by omega)
 have hw1 : IntKind.i64.wrap (-d0) = -d0 := IntWalk.i64_in _ (by omega)
 have hw2 : IntKind.i64.wrap (-d1) = -d1 := IntWalk.i64_in _ (by omega)
 unfold barV
 go_enter Tryz.func253, Tryz.ntmps253
 go_wp2
 refine wp_region_grow_tail 27 (by kernel_rfl) (by kernel_rfl) ?_
 simp only [gt1, gt2, gt3, gt4]
 repeat (go_big_quiet_step (fail))
 all_goals (refine wpQuiet_nil ?_; intro wg hbwg; obtain ⟨hcwg, hfwg⟩ := bcell hbwg; have hzwg_0 : w.heap.size < wg.heap.size := lt_via hbwg (by first | omega | (simp; done) | (simp; omega)))
 go_wp2
 go_ret
 refine ⟨some ⟨wg.heap.size, 0, none⟩, rfl, ?_, bel, by simp; omega⟩
 simpa using Cells.newRow wg #[.int .i64 (0), .int .i64 (-d2), .int .i64 (0), .int .i64 (d0), .int .i64 (0), .int .i64 (0), .int .i64 (0), .int .i64 (d1), .int .i64 (0), .int .i64 (-d0), .int .i64 (0), .int .i64 (0), .int .i64 (0), .int .i64 (-d1), .int .i64 (0), .int .i64 (d2), .int .i64 (0), .int .i64 (0)] 76 (0, 0)
set_option maxRecDepth 100000 in
set_option maxHeartbeats 2000000 in
theorem rmoves_98 (mk : ByteArray) (sz ct : Int) (d0 d1 d2 : Int) (A : Option Addr) (c : Nat) (B : Nat) (w : World) (hB : B <= w.heap.size) (hA : BarAt w B A 3 ⟨mk, sz, ct, 98, [d0, d1, d2]⟩) (hd : 1 <= d0 /\ d0 <= 262144 /\ 1 <= d1 /\ d1 <= 262144 /\ 1 <= d2 /\ d2 <= 262144) :
 Calls Tryz.prog 253 #[barV ⟨mk, sz, ct, 98, [d0, d1, d2]⟩ A 3 c] w (GivesPts (S.moves ⟨mk, sz, ct, 98, [d0, d1, d2]⟩) w) := by
 have hmv : S.moves ⟨mk, sz, ct, 98, [d0, d1, d2]⟩ = [⟨0, 0, d0⟩, ⟨0, -d1, 0⟩, ⟨d2, 0, 0⟩, ⟨0, d1, 0⟩, ⟨0, 0, d0⟩] := by simp [S.moves, S.legsOf, S.step]
 obtain ⟨bd, od, rfl, hbd, hcd⟩ := hA.cells.at_ (by simp)
 have g0 := hcd 0 (.int .i64 d0) rfl
 have g1 := hcd 1 (.int .i64 d1) rfl
 have g2 := hcd 2 (.int .i64 d2) rfl
 simp only [Nat.add_zero] at g0
 rw [hmv]
 clear hcd hA hmv
 have hn0 : bd < w.heap.size := by omega
 have hw0 : IntKind.i64.wrap (-d1) = -d1 := IntWalk.i64_in _ (by omega)
 unfold barV
 go_enter Tryz.func253, Tryz.ntmps253
 go_wp2
 refine wp_region_grow_tail 21 (by kernel_rfl) (by kernel_rfl) ?_
 simp only [gt1, gt2, gt3, gt4]
 repeat (go_big_quiet_step (fail))
 all_goals (refine wpQuiet_nil ?_; intro wg hbwg; obtain ⟨hcwg, hfwg⟩ := bcell hbwg; have hzwg_0 : w.heap.size < wg.heap.size := lt_via hbwg (by first | omega | (simp; done) | (simp; omega)))
 go_wp2
 go_ret
 refine ⟨some ⟨wg.heap.size, 0, none⟩, rfl, ?_, bel, by simp; omega⟩
 simpa using Cells.newRow wg #[.int .i64 (0), .int .i64 (0), .int .i64 (d0), .int .i64 (0), .int .i64 (-d1), .int .i64 (0), .int .i64 (d2), .int .i64 (0), .int .i64 (0), .int .i64 (0), .int .i64 (d1), .int .i64 (0), .int .i64 (0), .int .i64 (0), .int .i64 (d0)] 76 (0, 0)
theorem rmoves_any (b : Bar) (A : Option Addr) (n c : Nat) (B : Nat) (w : World) (hB : B <= w.heap.size) (hA : BarAt w B A n b) (h : S.bar b = true) :
 Calls Tryz.prog 253 #[barV b A n c] w (GivesPts (S.moves b) w) := by
 obtain rfl := hA.len
 obtain ⟨mk, sz, ct, cd, ds⟩ := b
 rcases bar_codes h with ⟨hc, a, e, h1, h2⟩ | ⟨hc, a, a2, e, h1, h2, h3⟩ | ⟨hc, a, a2, a3, e, h1, h2, h3, h4⟩ | ⟨hc, a, a2, a3, a4, a5, e, h1, h2, h3, h4, h5, h6⟩
 ·simp only [] at hc e
  subst hc e
  exact rmoves_0 mk sz ct a A c B w hB hA (by omega)
 ·simp only [] at hc e
  subst hc e
  exact rmoves_11 mk sz ct a a2 A c B w hB hA (by omega)
 ·simp only [] at hc e
  rcases hc with hc | hc | hc | hc | hc <;> subst hc e
  ·exact rmoves_21 mk sz ct a a2 a3 A c B w hB hA (by omega)
  ·exact rmoves_26 mk sz ct a a2 a3 A c B w hB hA (by omega)
  ·exact rmoves_31 mk sz ct a a2 a3 A c B w hB hA (by omega)
  ·exact rmoves_51 mk sz ct a a2 a3 A c B w hB hA (by omega)
  ·exact rmoves_98 mk sz ct a a2 a3 A c B w hB hA (by omega)
 ·simp only [] at hc e
  subst hc e
  exact rmoves_41 mk sz ct a a2 a3 a4 a5 A c B w hB hA (by omega)
def S.abs (n : Int) : Int := if n < 0 then 0 - n else n
theorem move_at (b : Bar) (h : S.bar b = true) {k : Nat} (hk : k < (S.legsOf b.code).length) : ∃ P n, (S.moves b)[k]? = some P /\ (S.legLens b)[k]? = some n /\ 1 <= n /\ n <= 262144 /\ Within P 262144 /\
 S.abs P.x + S.abs P.y + S.abs P.z = n /\ 0 <= S.abs P.x /\ 0 <= S.abs P.y /\ 0 <= S.abs P.z /\ S.ptAt b (k + 1) = ⟨(S.ptAt b k).x + P.x, (S.ptAt b k).y + P.y, (S.ptAt b k).z + P.z⟩ := by
 obtain ⟨n, _, g2, g3, g4, g5⟩ := lens_get b h hk
 refine ⟨S.step ⟨0, 0, 0⟩ (S.legsOf b.code)[k].2 n, n, ?_, g2, g3, g4, ?_⟩
 ·unfold S.legLens at g2
  rw [List.getElem?_map, List.getElem?_eq_getElem hk] at g2
  unfold S.moves
  rw [List.getElem?_map, List.getElem?_eq_getElem hk]
  simp only [Option.map_some, Option.some.injEq] at g2 ⊢
  rw [g2]
 ·rw [g5]
  rcases legs_way b.code hk with hw | hw | hw | hw | hw
  all_goals (
   rw [hw]
   refine ⟨?_, ?_, ?_, ?_, ?_, ?_⟩
   ·simp [Within, S.step]; omega
   ·simp [S.abs, S.step]; try (first | omega | (intro _; omega) | (split <;> omega))
   ·simp [S.abs, S.step]; try (first | omega | (intro _; omega) | (split <;> omega))
   ·simp [S.abs, S.step]; try (first | omega | (intro _; omega) | (split <;> omega))
   ·simp [S.abs, S.step]; try (first | omega | (intro _; omega) | (split <;> omega))
   ·simp [S.step]; try omega)
theorem ptAt_in (b : Bar) (h : S.bar b = true) (k : Nat) (hk : k <= (S.legsOf b.code).length) : Within (S.ptAt b k) 524288 := by
 have hD := bar_head h
 have hd : ∀ k (hk : k < (S.legsOf b.code).length), (S.legsOf b.code)[k].1 < b.dims.length := fun k hk => by have := legs_dim b.code hk; omega
 have h1 := ptAt_sum h hd k
 have h2 := sum_take_le (lens_pos h) k
 have h3 := (legs_sum h).1
 unfold Within at h1 ⊢
 omega
set_option maxRecDepth 100000 in
set_option maxHeartbeats 2000000 in
theorem rpath_yes (b : Bar) (A : Option Addr) (n c : Nat) (B : Nat) (w : World) (hB : B <= w.heap.size) (hA : BarAt w B A n b) (h : S.bar b = true) (L : Nat) (hL : (S.legsOf b.code).length = L) :
 Calls Tryz.prog 220 #[barV b A n c] w fun e w' => ∃ A' c', e = .returned (.slice A' (L + 1) c') /\ w'.ownsRow w.heap.size 76 3 (.slice A' (L + 1) c') (L + 1) ((S.path b).flatMap ptC) /\ Below w.heap.size w w' := by
 have HA := lh hA
 have hl6 := legs_len b.code
 have HM := lh (show ∀ k, k < (S.legsOf b.code).length -> _ from fun k hk => move_at b h hk)
 have HPI := lh (fun k hk => ptAt_in b h k hk)
 have HML := lh (moves_len b)
 have HSN := lh (fun m => pathTo_snoc b m)
 have HPA := lh (show S.path b = S.pathTo b ((S.legsOf b.code).length + 1) from rfl)
 have HL := lh hL
 rw [hL] at hl6
 clear hA hL
 unfold barV
 go_enter Tryz.func220, Tryz.ntmps220
 go_wp2_with (go_at_call 253; (with_reducible refine (rmoves_any b A n c B _ (by simp; omega) (BarAt.at_ HA.out hB bel) h).mono ?_); rintro e w2 ⟨A2, rfl, hs, hb2, hz2'⟩; obtain ⟨hcw2, hfw2⟩ := bcell hb2; have hz2 : w.heap.size < w2.heap.size := lt_via hb2 (by simp); have hlen : (S.moves b).length = L := HML.out.trans HL.out; simp only [hlen])
 have hbw2 : Below w.heap.size w w2 := bel
 have hbw : Below w.heap.size w ((w2.alloc (.cells #[.int .i64 0, .int .i64 0, .int .i64 0] 76)).alloc (.cells #[.int .i64 0, .int .i64 0, .int .i64 0] 76)) := bel
 have hK0 : Blk ((w2.alloc (.cells #[.int .i64 0, .int .i64 0, .int .i64 0] 76)).alloc (.cells #[.int .i64 0, .int .i64 0, .int .i64 0] 76)) w2.heap.size 76 #[.int .i64 0, .int .i64 0, .int .i64 0] := (Blk.new _ _ _).alloc _
 have hsM := (hs.alloc (Nat.le_refl _) (.cells #[.int .i64 0, .int .i64 0, .int .i64 0] 76)).alloc (by simp) (.cells #[.int .i64 0, .int .i64 0, .int .i64 0] 76)
 have hrow : Row ((w2.alloc (.cells #[.int .i64 0, .int .i64 0, .int .i64 0] 76)).alloc (.cells #[.int .i64 0, .int .i64 0, .int .i64 0] 76)) ((w2.alloc (.cells #[.int .i64 0, .int .i64 0, .int .i64 0] 76)).alloc (.cells #[.int .i64 0, .int .i64 0, .int .i64 0] 76)) (some (w2.heap.size + 1)) w.heap.size 76 3 (.slice (some ⟨w2.heap.size + 1, 0, none⟩) 1 1) 1 ((S.pathTo b 1).flatMap ptC) := by
  refine ⟨?_, fun k hk => .inl (by simpa [Value.ownBlock] using hk.symm)⟩
  have h1 := World.ownsRow_lit (base := w.heap.size) (e := 76) (size := 3) (w2.alloc (.cells #[.int .i64 0, .int .i64 0, .int .i64 0] 76)) #[.int .i64 0, .int .i64 0, .int .i64 0] 1 (by simp; omega) (by unfold maxLen; omega) rfl
  simpa [S.pathTo, S.ptAt, List.range_succ] using h1
 have hzW : ((w2.alloc (.cells #[.int .i64 0, .int .i64 0, .int .i64 0] 76)).alloc (.cells #[.int .i64 0, .int .i64 0, .int .i64 0] 76)).heap.size = w2.heap.size + 2 := by simp
 clear hcw2 hfw2 hb2
 generalize (w2.alloc (.cells #[.int .i64 0, .int .i64 0, .int .i64 0] 76)).alloc (.cells #[.int .i64 0, .int .i64 0, .int .i64 0] 76) = W0 at *
 go_loopw [5, 6] (fun v i wr => ∃ (k : Nat) (A3 : Option Addr) (c3 : Nat), k <= L /\ i = .int .i64 k /\ v = .slice A3 (k + 1) c3 /\ Row W0 wr (some (w2.heap.size + 1)) w.heap.size 76 3 (.slice A3 (k + 1) c3) (k + 1) ((S.pathTo b (k + 1)).flatMap ptC) /\ Exc [w2.heap.size, w2.heap.size + 1] W0 wr /\ Blk wr w2.heap.size 76 #[.int .i64 (S.ptAt b k).x, .int .i64 (S.ptAt b k).y, .int .i64 (S.ptAt b k).z]) (fun _ i _ => L - (intOf i).toNat)
 case atStart => exact ⟨0, _, 1, Nat.zero_le _, rfl, rfl, hrow, Exc.refl _ _, hK0⟩
 case round =>
  obtain ⟨k, A3, c3, hk, rfl, rfl, hR, hX, hK⟩ := hrel
  clear hrow hK0
  have hsz := hX.size
  by_cases hlt : k < L
  ·have hs' := hsM.below (hX.below (B := w2.heap.size) (by omega) (by intro j hj; simp at hj; omega))
   obtain ⟨b4, o4, rfl, hbl, _⟩ := hs'.at_ (by rw [flat_len ptC 3 ptC_len]; omega)
   obtain ⟨P, q, g1, g2, g3, g4, gw, _, _, _, _, gp⟩ := HM.out k (by have := HL.out; omega)
   obtain ⟨c1, c2, c3'⟩ := hs'.pts g1
   have hin := HPI.out k (by have := HL.out; omega)
   unfold Within at gw hin
   have k0 := hK.cell 0
   have k1 := hK.cell 1
   have k2 := hK.cell 2
   have kf0 := hK.frozen 0
   have kf1 := hK.frozen 1
   have kf2 := hK.frozen 2
   simp only [ga1, ga2, ga3] at k0 k1 k2
   have hown : ∀ j, Value.ownBlock (.slice A3 (k + 1) c3) = some j -> j ≠ w2.heap.size := fun j hj' => by
    rcases hR.place j hj' with h1 | h1
    ·injection h1 with h1; omega
    ·omega
   have HOWN := lh hown
   have HST := lh gp
   have HS1 := lh (HSN.out (k + 1))
   have hkl : (k : Int) < (L : Int) := by omega
   have hb4r : b4 < wr.heap.size := by omega
   have hg2 : w2.heap.size < wr.heap.size := hK.lt
   clear gp hown g1 g2
   generalize S.ptAt b k = p at *
   have e1 : IntKind.i64.wrap (p.x + P.x) = p.x + P.x := IntWalk.i64_in _ (by omega)
   have e2 : IntKind.i64.wrap (p.y + P.y) = p.y + P.y := IntWalk.i64_in _ (by omega)
   have e3 : IntKind.i64.wrap (p.z + P.z) = p.z + P.z := IntWalk.i64_in _ (by omega)
   go_wp2
   refine wp_region_grow_tail 25 (by kernel_rfl) (by kernel_rfl) ?_
   simp only [gt1, gt2, gt3, gt4]
   repeat (go_big_quiet_step (fail))
   all_goals (refine wpQuiet_nil ?_; intro wg hbwg; obtain ⟨hcwg, hfwg⟩ := bcell hbwg)
   have hK2 : Blk ((((wg.setCell ⟨w2.heap.size, 0, none⟩ (.int .i64 (p.x + P.x))).setCell ⟨w2.heap.size, 1, none⟩ (.int .i64 (p.y + P.y))).setCell ⟨w2.heap.size, 2, none⟩ (.int .i64 (p.z + P.z))).alloc (.cells #[.int .i64 (p.x + P.x), .int .i64 (p.y + P.y), .int .i64 (p.z + P.z)] 76)) w2.heap.size 76 #[.int .i64 (p.x + P.x), .int .i64 (p.y + P.y), .int .i64 (p.z + P.z)] := by
    have h6 := (((((hK.via hbwg).set 0 (.int .i64 (p.x + P.x))).set 1 (.int .i64 (p.y + P.y))).set 2 (.int .i64 (p.z + P.z))).alloc (.cells #[.int .i64 (p.x + P.x), .int .i64 (p.y + P.y), .int .i64 (p.z + P.z)] 76))
    simp only [List.setIfInBounds_toArray, List.set_cons_zero, List.set_cons_succ] at h6
    exact h6
   have hg3 : w2.heap.size < wg.heap.size := lt_via hbwg hg2
   go_wp2_with (at_builtin; refine wpList_push rfl (.tmp 43) (.tmp 45) _ rfl elemPt (((((hR.via hbwg).set (p := ⟨w2.heap.size, 0, none⟩) HOWN.out _).set (p := ⟨w2.heap.size, 1, none⟩) HOWN.out _).set (p := ⟨w2.heap.size, 2, none⟩) HOWN.out _).alloc _) (((((Exc.via hbwg hX).set (p := ⟨w2.heap.size, 0, none⟩) (.inl (by simp)) _).set (p := ⟨w2.heap.size, 1, none⟩) (.inl (by simp)) _).set (p := ⟨w2.heap.size, 2, none⟩) (.inl (by simp)) _).alloc _) (by simp) hbw.size rfl wg.heap.size 1 1 [.int .i64 (p.x + P.x), .int .i64 (p.y + P.y), .int .i64 (p.z + P.z)] rfl rfl ?_ (by simp [Value.oneCell']) (by unfold maxLen; omega) (by omega) ?_; (· intro j u hu; have := (Cells.newRow (((wg.setCell ⟨w2.heap.size, 0, none⟩ (.int .i64 (p.x + P.x))).setCell ⟨w2.heap.size, 1, none⟩ (.int .i64 (p.y + P.y))).setCell ⟨w2.heap.size, 2, none⟩ (.int .i64 (p.z + P.z))) #[.int .i64 (p.x + P.x), .int .i64 (p.y + P.y), .int .i64 (p.z + P.z)] 76 (0, 0)).get (k := j) (v := u) hu; simpa using this); intro v' w' hR' hX' hO')
   obtain ⟨A5, c5, rfl, _, _, _⟩ := own_form hR'.own
   go_roundw
   case rel => exact ⟨k + 1, A5, c5, by omega, by go_num, rfl, by rw [HS1.out, HST.out, List.flatMap_append]; exact hR', hX', by rw [HST.out]; exact (hO' _ hK2.lt (fun h => HOWN.out _ h rfl)).trans hK2⟩
   case measure => simp [intOf]; omega
  ·have he : k = L := by omega
   have HE := lh he
   clear he
   go_wp2
   go_ret
   refine ⟨A3, c3, by rw [HE.out]; rfl, ?_, ?_⟩
   ·have := hR.own
    rw [HPA.out, HL.out]
    rwa [HE.out] at this
   ·exact hbw.trans (hX.below (by have := hbw2.size; omega) (by intro j hj; simp at hj; have := hbw2.size; omega))
theorem length_bd {r : Rule} {d : Int} (hr : RuleOk r) (hd : 0 <= d) (hd' : d <= 40) (p b : Bool) : 0 <= S.length r d p b /\ S.length r d p b <= 40000000000 := by
 have h1 := basic_bd hr hd hd'
 have h2 := poorUp_bd hr p h1.1 h1.2
 have h3 := bentUp_bd hr b h2.1 h2.2
 have h4 := hr.least
 unfold S.length S.atLeast
 split <;> omega
section
variable {P : Program} {ops : Array Oper} {md : Region.Mode} {w0 : World}
def Gw (w w' : World) : Prop := Below w.heap.size w w'
theorem Gw.refl (w : World) : Gw w w := Below.refl _ _
theorem Gw.trans {w w' w'' : World} (h : Gw w w') (h' : Gw w' w'') : Gw w w'' := ba_via h' h
abbrev Cg (w0 w' : World) : Prop := ∃ g, w' = grow w0 g
theorem cg_iff {w' : World} : Cg w0 w' ↔ Gw w0 w' := by
 constructor
 ·rintro ⟨g, rfl⟩; exact grow_below w0 g
 ·intro h; exact ⟨w', (grow_eq h).symm⟩
theorem wpOp_slot {i : Nat} {oi oj : Oper} {v : Value} (hi : ops[i]? = some oi) (hap : oi.apart ops oj = true) (hsi : ∀ cs b, oi.op ≠ .select cs b) {K K' : Act -> World -> Prop} {a : Act} {w : World}
 (hK : ∀ a' w', K a' w' -> K' (a'.put oj.dst v) w') (h : wpOp P ops stopPost i K a w) : wpOp P ops stopPost i K' (a.put oj.dst v) w := by
 obtain ⟨h3, h2, h1⟩ := Oper.apart_spec hap
 have h2' : ∀ d, oj.dst = some d -> oi.dst ≠ some d := fun d hd he => h2 d he hd
 unfold wpOp at *
 simp only [hi] at *
 rw [wanted_put oi a oj.dst v h1]
 split
 ·rename_i hw
  simp only [hw, if_true] at h
  rcases h with h | ⟨hasks, hlets⟩
  case inr => exact (lets_stop hlets).elim
  refine .inl ?_
  unfold Oper.wp at *
  rw [execOp_put oi hsi a oj.dst v h1]
  generalize (execOp a.eval oi).run P w = r at *
  cases r with
  | ok n w' =>
   cases n <;> simp only [Oper.upon] at h ⊢
   case value u => rw [Act.put_comm a v u h2']; exact hK _ _ h
   case skip => rw [Act.put_comm a v undef h2']; exact hK _ _ h
   case defer d =>
    have := hK _ _ h
    rw [<- Act.put_comm _ v undef h2', <- Act.put_defers] at this
    exact this
   case enter f args =>
    refine Calls.mono h fun e w'' he => ?_
    cases e with
    | returned u =>
     simp only [] at he ⊢
     rw [Act.put_comm a v u h2']; exact hK _ _ he
    | panicked c => exact he
    | outgrown => exact he
   case row row args => exact Rows.mono h fun u w'' he => by rw [Act.put_comm a v u h2']; exact hK _ _ he
  | halt x w' =>
   cases x <;> simp only [Oper.upon] at h ⊢
   case panic u => exact h
 ·rename_i hw
  simp only [hw] at h
  rw [Act.put_comm a v undef h2']
  exact hK _ _ h
def wpFr (P : Program) (ops : Array Oper) (w0 : World) (ks : Nat -> Bool) (K : Act -> World -> Prop) (listed : Array Bool) : List Nat -> Act -> World -> Prop
 | [], a, w => K a w
 | i :: R, a, w => if listed.getD i false = true then wpFr P ops w0 ks K listed R a w
  else if ks i = true then ∀ w', Cg w0 w' -> Gw w w' -> wpOp P ops stopPost i (fun a' w'' => Gw w' w'' /\ wpFr P ops w0 ks K listed R a' w'') a w'
  else qOp P ops (Cg w0) i (fun a' => wpFr P ops w0 ks K listed R a' w) a
theorem wpFr_congr {ks : Nat -> Bool} {K : Act -> World -> Prop} {l1 l2 : Array Bool} : ∀ {R : List Nat}, (∀ i, i ∈ R -> l1.getD i false = l2.getD i false) -> wpFr P ops w0 ks K l1 R = wpFr P ops w0 ks K l2 R := by
 intro R
 induction R with
 | nil => intro _; rfl
 | cons i R ih =>
  intro h
  have e := ih (fun i hi => h i (List.mem_cons_of_mem _ hi))
  funext a w
  simp only [wpFr, e, h i List.mem_cons_self]
theorem wpFr_weak {ks : Nat -> Bool} {K : Act -> World -> Prop} {listed : Array Bool} (hK : ∀ a w w', K a w -> Gw w w' -> K a w') : ∀ {R : List Nat} {a : Act} {w w' : World}, wpFr P ops w0 ks K listed R a w -> Gw w w' -> wpFr P ops w0 ks K listed R a w' := by
 intro R
 induction R with
 | nil => intro a w w' h hg; exact hK a w w' h hg
 | cons i R ih =>
  intro a w w' h hg
  simp only [wpFr] at h ⊢
  split
  ·rename_i hl; rw [if_pos hl] at h; exact ih h hg
  ·rename_i hl
   rw [if_neg hl] at h
   split
   ·rename_i hk; rw [if_pos hk] at h
    exact fun w'' hc hg' => h w'' hc (hg.trans hg')
   ·rename_i hk; rw [if_neg hk] at h
    exact qOp_mono (fun a' h' => ih h' hg) h
theorem wpFr_slot {ks : Nat -> Bool} {K K' : Act -> World -> Prop} {listed : Array Bool} {oj : Oper} {v : Value} (hsel : ∀ (j : Nat) (o : Oper) cs b, ops[j]? = some o -> o.op ≠ .select cs b) (hK : ∀ a w, K a w -> K' (a.put oj.dst v) w) :
 ∀ {R : List Nat}, (∀ i, i ∈ R -> ∃ oi, ops[i]? = some oi /\ oi.apart ops oj = true) -> ∀ {a : Act} {w : World}, wpFr P ops w0 ks K listed R a w -> wpFr P ops w0 ks K' listed R (a.put oj.dst v) w := by
 intro R
 induction R with
 | nil => intro _ a w h; exact hK a w h
 | cons i R ih =>
  intro hR a w h
  have ih' := fun {a : Act} {w : World} => ih (fun k hk => hR k (List.mem_cons_of_mem _ hk)) (a := a) (w := w)
  obtain ⟨oi, hoi, hap⟩ := hR i List.mem_cons_self
  simp only [wpFr] at h ⊢
  split
  ·rename_i hl; rw [if_pos hl] at h; exact ih' h
  ·rename_i hl
   rw [if_neg hl] at h
   split
   ·rename_i hk; rw [if_pos hk] at h
    exact fun w' hc hg => wpOp_slot hoi hap (fun cs b => hsel i oi cs b hoi) (fun a' w'' hh => ⟨hh.1, ih' hh.2⟩) (h w' hc hg)
   ·rename_i hk; rw [if_neg hk] at h
    obtain ⟨u, hy, hn⟩ := yieldsIn_of_qOp hoi h
    obtain ⟨h3, h2, h1⟩ := Oper.apart_spec hap
    have h2' : ∀ d, oj.dst = some d -> oi.dst ≠ some d := fun d hd he => h2 d he hd
    have hy' : YieldsIn P ops (Cg w0) oi u (a.put oj.dst v) := hy.of_same (execOp_put oi (fun cs b => hsel i oi cs b hoi) a oj.dst v h1) (wanted_put oi a oj.dst v h1)
    refine hy'.qOp hoi ?_
    rw [Act.put_comm a v u h2']
    exact ih' hn
theorem pullF {ks : Nat -> Bool} {K : Act -> World -> Prop} (hsel : ∀ (j : Nat) (o : Oper) cs b, ops[j]? = some o -> o.op ≠ .select cs b) (hcalm : ∀ i o, ops[i]? = some o -> ks i = false -> calmB o = true)
 {listed : Array Bool} {j : Nat} {oj : Oper} (hj : ops[j]? = some oj) (hjl : listed.getD j false = false) (hjs : j < listed.size) :
 ∀ R : List Nat, R.Pairwise (· < ·) -> j ∈ R -> (∀ i, i ∈ R -> i < j -> listed.getD i false = false -> (ks j = false ∨ ks j = true) -> ∃ oi, ops[i]? = some oi /\ oi.apart ops oj = true) -> (ks j = true -> ∀ i, i ∈ R -> i < j -> listed.getD i false = false -> ks i = false) ->
 ∀ (a : Act) (w : World), Cg w0 w -> wpFr P ops w0 ks K listed R a w -> if ks j = true then ∀ w', Cg w0 w' -> Gw w w' -> wpOp P ops stopPost j (fun a' w'' => Gw w' w'' /\ wpFr P ops w0 ks K (listed.setIfInBounds j true) R a' w'') a w' else qOp P ops (Cg w0) j (fun a' => wpFr P ops w0 ks K (listed.setIfInBounds j true) R a' w) a := by
 intro R
 induction R with
 | nil => intro _ h; cases h
 | cons i R ih =>
  intro hp hm hap hch a w hC h
  have hjt : (listed.setIfInBounds j true).getD j false = true := by simp [Array.getD_eq_getD_getElem?, hjs]
  obtain ⟨hlt, hpR⟩ := List.pairwise_cons.1 hp
  by_cases hij : i = j
  ·subst hij
   have hni : i ∉ R := fun hi => absurd (hlt i hi) (Nat.lt_irrefl _)
   have e : wpFr P ops w0 ks K (listed.setIfInBounds i true) (i :: R) = wpFr P ops w0 ks K listed R := by
    funext a w
    simp only [wpFr, hjt, if_true]
    rw [wpFr_congr (fun k hk => getD_set_ne false (fun (e : i = k) => hni (by rw [e]; exact hk)))]
   rw [e]
   simp only [wpFr, hjl, Bool.false_eq_true, if_false] at h
   exact h
  ·have hjR : j ∈ R := by
    rcases List.mem_cons.1 hm with h1 | h1
    ·exact absurd h1.symm hij
    ·exact h1
   have hi_lt := hlt j hjR
   have ih' := ih hpR hjR (fun k hk => hap k (List.mem_cons_of_mem _ hk)) (fun h k hk => hch h k (List.mem_cons_of_mem _ hk))
   have hset : (listed.setIfInBounds j true).getD i false = listed.getD i false := getD_set_ne false (fun e => hij e.symm)
   by_cases hl : listed.getD i false = true
   ·simp only [wpFr, hset, hl, if_true] at h ⊢
    exact ih' a w hC h
   ·have hl' : listed.getD i false = false := by simpa using hl
    obtain ⟨oi, hoi, hapi⟩ := hap i List.mem_cons_self hi_lt hl' (by cases ks j <;> simp)
    simp only [wpFr, hset, hl', Bool.false_eq_true, if_false] at h ⊢
    by_cases hk : ks i = true
    ·have hkj : ks j = false := by
      cases hkj : ks j with
      | false => rfl
      | true =>
       have := hch hkj i List.mem_cons_self hi_lt hl'
       rw [hk] at this
       cases this
     simp only [hkj, Bool.false_eq_true, if_false] at ih' ⊢
     rw [if_pos hk] at h
     obtain ⟨a0, u, w1, ⟨hG1, h1⟩, ha0⟩ := wpOp_some hoi (h w hC (Gw.refl w))
     obtain ⟨v, hy, _⟩ := yieldsIn_of_qOp hj (ih' _ _ (cg_iff.2 ((cg_iff.1 hC).trans hG1)) h1)
     obtain ⟨g1, g2, g3⟩ := Oper.apart_spec hapi
     have hy0 : YieldsIn P ops (Cg w0) oj v a0 := hy.of_same (execOp_put oj (fun cs b => hsel j oj cs b hj) a0 oi.dst u g1).symm (wanted_put oj a0 oi.dst u g1).symm
     have hya : YieldsIn P ops (Cg w0) oj v a := by
      rcases ha0 with rfl | ⟨d, rfl⟩
      ·exact hy0
      ·exact hy0.of_same rfl rfl
     refine hya.qOp hj ?_
     rw [if_pos hk]
     intro w' hC' hG'
     refine wpOp_back hoi hapi (fun cs b => hsel i oi cs b hoi) (fun cs b => hsel j oj cs b hj) hya (fun a' w'' hy' hh => ⟨hh.1, ?_⟩) (h w' hC' hG')
     have hC'' : Cg w0 w'' := cg_iff.2 ((cg_iff.1 hC').trans hh.1)
     obtain ⟨v', hv', hn⟩ := yieldsIn_of_qOp hj (ih' _ _ hC'' hh.2)
     rw [yields_one (hcalm j oj hj hkj) hC'' hy' hv']
     exact hn
    ·have hk' : ks i = false := by simpa using hk
     simp only [hk', Bool.false_eq_true, if_false] at h ⊢
     obtain ⟨v, hy, hn⟩ := yieldsIn_of_qOp hoi h
     have h2 := ih' _ _ hC hn
     by_cases hkj : ks j = true
     ·rw [if_pos hkj] at h2 ⊢
      intro w' hC' hG'
      refine wpOp_mono ?_ (wpOp_putC hj hapi (fun cs b => hsel i oi cs b hoi) (fun cs b => hsel j oj cs b hj) hy (h2 w' hC' hG'))
      rintro a' w'' ⟨hy', hg', hm'⟩
      exact ⟨hg', hy'.qOp hoi hm'⟩
     ·rw [if_neg hkj] at h2 ⊢
      refine qOp_mono ?_ (qOp_put hj hapi (fun cs b => hsel i oi cs b hoi) (fun cs b => hsel j oj cs b hj) hy h2)
      rintro a' ⟨hy', hm'⟩
      exact hy'.qOp hoi hm'
def pureB (o : Oper) : Bool := match o.op with | .move _ | .assign _ | .extract _ _ => true | _ => false
theorem extract_any {v u : Value} {ix : Nat} {w w' : World} (h : (Instr.extract v ix).run P w = .ok u w') (W : World) : (Instr.extract v ix).run P W = .ok u W := by
 unfold Instr.extract at h ⊢
 split at h
 ·split at h
  ·simp only [Sem.run_pure, Result.ok.injEq] at h ⊢
   first | exact ⟨h.1, trivial⟩ | exact h.1
  ·cases h
 ·cases h
theorem pure_any {o : Oper} (hp : pureB o = true) {a : Act} {v : Value} {w w' : World} (h : (execOp a.eval o).run P w = .ok (.value v) w') (W : World) : (execOp a.eval o).run P W = .ok (.value v) W := by
 unfold pureB at hp
 unfold execOp at h ⊢
 split at hp
 all_goals (first | (rename_i ho; rw [ho] at h ⊢) | cases hp)
 ·simp only [Sem.run_pure, Result.ok.injEq] at h ⊢
  exact ⟨h.1, trivial⟩
 ·simp only [Sem.run_pure, Result.ok.injEq] at h ⊢
  exact ⟨h.1, trivial⟩
 ·rw [Sem.run_bind] at h ⊢
  generalize hr : Instr.extract _ _ = I at h ⊢
  cases hx : I.run P w with
  | halt x w1 => rw [hx] at h; cases h
  | ok u w1 =>
   subst hr
   rw [hx] at h
   rw [extract_any hx W]
   have h' : Result.ok (Next.value u) w1 = Result.ok (Next.value v) w' := h
   injection h' with h1 h2
   injection h1 with h3
   subst h3
   rfl
theorem pure_yields {o : Oper} (hp : pureB o = true) (hc : calmB o = true) {a : Act} {v : Value} {w : World} (hw : Cg w0 w) (h : YieldsIn P ops (Cg w0) o v a) : Yields P ops o v a := by
 rcases h with ⟨h1, h2⟩ | ⟨h1, h2⟩
 ·exact .inl ⟨h1, fun W => pure_any hp (calm_at hc (h2 w hw)) W⟩
 ·exact .inr ⟨h1, h2⟩
theorem apart_comm {x y : Oper} (h : x.apart ops y = true) : y.apart ops x = true := by
 obtain ⟨h1, h2, h3⟩ := Oper.apart_spec h
 unfold Oper.apart
 rw [Bool.and_eq_true]
 constructor
 ·cases hy : y.dst with
  | none => rfl
  | some d =>
   have a1 := h3 d hy
   have a2 : x.dst ≠ some d := fun e => h2 d e hy
   simp [a1, a2]
 ·cases hx : x.dst with
  | none => rfl
  | some d =>
   have a1 := h1 d hx
   simp [a1]
def sinkLB (md : Region.Mode) (ops : Array Oper) (n : Nat) (ls : List Nat) : Bool :=
 (List.range n).all fun i => ls.contains i || (List.range (n + 1)).any fun j => decide (i < j) && !ls.contains j && Region.waitsFor md ops j i
theorem tail_waitsL {n : Nat} {ls : List Nat} {listed : Array Bool} (hs : sinkLB md ops n ls = true) (hc : Region.chainB md ops n = true) (hn : n < ops.size) (inv : HeadInv md ops n listed) :
 ∀ (d i : Nat), n - i = d -> ls.contains i = false -> i < n -> listed.getD i true = false -> ∀ t, n <= t -> t ∉ Region.ready md ops listed := by
 intro d
 induction d using Nat.strongRecOn with
 | _ d ih =>
  intro i hd hli hi hun t ht hr
  obtain ⟨_, ot, hot, hall⟩ := mem_ready.1 hr
  have htlt : t < ops.size := (Array.getElem?_eq_some_iff.1 hot).1
  by_cases htn : t = n
  ·subst htn
   have h1 := List.all_eq_true.1 hs i (List.mem_range.2 hi)
   rw [hli, Bool.false_or] at h1
   obtain ⟨j, hj, hj2⟩ := List.any_eq_true.1 h1
   simp only [Bool.and_eq_true, decide_eq_true_eq, Bool.not_eq_true'] at hj2
   obtain ⟨oj, hoj, e, he, hb, hon⟩ := Region.waitsFor_spec hj2.2
   have hjle : j <= t := by have := List.mem_range.1 hj; omega
   by_cases hjt : j = t
   ·subst hjt
    have : oj = ot := Option.some.inj (hoj.symm.trans hot)
    subst this
    have h2 := hall e he hb
    rw [hon, getD_both hun] at h2
    cases h2
   ·cases hl : listed.getD j false with
    | true =>
     have h2 := inv.closed j oj hoj hl e he hb
     rw [hon, getD_both hun] at h2
     cases h2
    | false =>
     have hjs : j < listed.size := by rw [inv.size]; omega
     exact ih (t - j) (by omega) j rfl hj2.1.2 (by omega) (getD_in hjs hl) t (Nat.le_refl _) hr
  ·have h1 := List.all_eq_true.1 hc t (List.mem_range.2 htlt)
   simp only [Bool.or_eq_true, decide_eq_true_eq] at h1
   rcases h1 with h1 | h1
   ·omega
   ·obtain ⟨o', ho', e, he, hb, hon⟩ := Region.waitsFor_spec h1
    have : o' = ot := Option.some.inj (ho'.symm.trans hot)
    subst this
    have h2 := hall e he hb
    rw [hon, getD_both (inv.tail (t - 1) (by omega) (by omega))] at h2
    cases h2
def mixFB (md : Region.Mode) (ops : Array Oper) (t f : Nat) (l ls : List Nat) : Bool :=
 ls.all (fun i => decide (i < f) && !l.contains i && (match ops[i]? with | some o => pureB o | none => false)) && Region.noSelect ops && decide (t < ops.size) && sinkLB md ops t ls && Region.chainB md ops t && apartAllB md ops && earlyB md ops.toList && linksB md ops l && (List.range f).all (fun i => l.contains i || (match ops[i]? with | some o => calmB o | none => true)) && Region.seqB md ops (ops.size - t) t (canonL t ops.size) && decide (t = f + 1) && (List.range f).all (fun i => !Region.waitsFor md ops f i)
def FrK (P : Program) (ops : Array Oper) (w0 : World) (Q : Exit -> Act -> World -> Prop) (t : Nat) (of : Oper) (T : TypeId) (zs : Array Value) : Act -> World -> Prop := fun a w =>
 ∀ b w', Cg w0 w' -> Gw w w' -> w0.heap.size <= b -> Blk w' b T zs -> wpList P ops Q (ops.toList.drop t) (a.put of.dst (.pointer (some ⟨b, 0, none⟩))) w'
def FrB (P : Program) (ops : Array Oper) (w0 : World) (Q : Exit -> Act -> World -> Prop) (t : Nat) (b : Nat) (T : TypeId) (zs : Array Value) : Act -> World -> Prop := fun a w =>
 ∀ w', Cg w0 w' -> Gw w w' -> Blk w' b T zs -> wpList P ops Q (ops.toList.drop t) a w'
theorem mixF_any {Q : Exit -> Act -> World -> Prop} {t f : Nat} {l ls : List Nat} {of : Oper} {T : TypeId} {zs : Array Value} (hQ : ∀ c a d v w, Q (.panic c) (Act.put a d v) w -> Q (.panic c) a w) (hB : mixFB md ops t f l ls = true) (hof : ops[f]? = some of) (hg : of.guard = none)
 (hfr : ∀ (a : Act) (w : World), (execOp a.eval of).run P w = .ok (.value (.pointer (some ⟨w.heap.size, 0, none⟩))) (w.alloc (.cells zs T))) :
 ∀ (n : Nat) (listed : Array Bool) (a : Act) (w : World), listed.toList.count false = n -> HeadInv md ops t listed -> Cg w0 w ->
  ((listed.getD f false = false /\ wpFr P ops w0 (fun i => l.contains i || decide (f <= i)) (FrK P ops w0 Q t of T zs) listed (List.range f) a w) ∨
   (∃ b, listed.getD f false = true /\ w0.heap.size <= b /\ Blk w b T zs /\ wpFr P ops w0 (fun i => l.contains i || decide (f <= i)) (FrB P ops w0 Q t b T zs) listed (List.range f) a w)) -> wpAny P md ops Q n listed a w := by
 simp only [mixFB, Bool.and_eq_true, decide_eq_true_eq] at hB
 obtain ⟨⟨⟨⟨⟨⟨⟨⟨⟨⟨⟨hloo, hsel⟩, hn⟩, hs⟩, hc⟩, hap⟩, hear⟩, hl⟩, hcm⟩, hseq⟩, htf⟩, hfd⟩ := hB
 have hsel' := Region.noSelect_spec hsel
 have hcalm : ∀ i o, ops[i]? = some o -> (l.contains i || decide (f <= i)) = false -> calmB o = true := fun i o ho hk => by
  rw [Bool.or_eq_false_iff, decide_eq_false_iff_not] at hk
  rw [List.all_eq_true] at hcm
  have := hcm i (List.mem_range.2 (by omega))
  rw [hk.1, ho] at this
  simpa using this
 have hwf : ∀ i, i < f -> Region.waitsFor md ops f i = false := fun i hi => by
  rw [List.all_eq_true] at hfd
  simpa using hfd i (List.mem_range.2 hi)
 have hKw : ∀ a w w', FrK P ops w0 Q t of T zs a w -> Gw w w' -> FrK P ops w0 Q t of T zs a w' := fun a w w' h hg b w'' hc' hg' => h b w'' hc' (hg.trans hg')
 have hBw : ∀ b a w w', FrB P ops w0 Q t b T zs a w -> Gw w w' -> FrB P ops w0 Q t b T zs a w' := fun b a w w' h hg w'' hc' hg' => h w'' hc' (hg.trans hg')
 intro n
 induction n with
 | zero =>
  intro listed a w hf inv hC h
  exfalso
  have h1 := inv.tail t (Nat.le_refl _) hn
  have h2 : t < listed.size := by rw [inv.size]; exact hn
  have h3 : listed[t] = false := by simpa [Array.getD_eq_getD_getElem?, h2] using h1
  have h4 : false ∈ listed.toList := by rw [<- h3]; simp
  have := List.count_pos_iff.2 h4
  omega
 | succ n ih =>
  intro listed a w hf inv hC h
  by_cases hall : ∀ i, i < t -> listed.getD i false = true
  ·have hcan : listed = canonL t ops.size := by
    apply Array.ext
    ·rw [inv.size]; simp [canonL]; omega
    ·intro i h1 h2
     by_cases hi : i < t
     ·have := hall i hi
      have e : listed[i] = true := by simpa [Array.getD_eq_getD_getElem?, h1] using this
      rw [e]
      simp [canonL, hi, List.getElem_append]
     ·have := inv.tail i (by omega) (by rw [<- inv.size]; exact h1)
      have e : listed[i] = false := by simpa [Array.getD_eq_getD_getElem?, h1] using this
      rw [e]
      simp [canonL, hi, List.getElem_append]
   have hK : wpList P ops Q (ops.toList.drop t) a w := by
    rcases h with ⟨h1, _⟩ | ⟨b, _, hb0, hbk, h⟩
    ·rw [hall f (by omega)] at h1; cases h1
    ·have : ∀ R : List Nat, (∀ i, i ∈ R -> i < t) -> wpFr P ops w0 (fun i => l.contains i || decide (f <= i)) (FrB P ops w0 Q t b T zs) listed R a w -> FrB P ops w0 Q t b T zs a w := by
      intro R
      induction R with
      | nil => intro _ h; exact h
      | cons i R ihR =>
       intro hR h
       simp only [wpFr, hall i (hR i List.mem_cons_self), if_true] at h
       exact ihR (fun k hk => hR k (List.mem_cons_of_mem _ hk)) h
     exact this _ (fun i hi => by have := List.mem_range.1 hi; omega) h w hC (Gw.refl w) hbk
   have hlen : (ops.toList.drop t).length = n + 1 := by
    rw [<- hf, hcan]
    simp [canonL, List.count_append, List.count_replicate]
   have hdl : (ops.toList.drop t).length = ops.size - t := by simp
   have := wpAny_of_seq (P := P) (md := md) (Q' := Q) (ops.toList.drop t) t listed a w (fun j => by simp [List.getElem?_drop]) (by rw [hdl, hcan]; exact hseq) hK
   rwa [hlen] at this
  ·have hex : ∃ i, i < t /\ listed.getD i false = false := by
    apply Classical.byContradiction
    intro hno
    refine hall fun i hi => ?_
    cases hg : listed.getD i false with
    | true => rfl
    | false => exact (hno ⟨i, hi, hg⟩).elim
   obtain ⟨i0, hi0, hg0⟩ := hex
   have hun0 : listed.getD i0 true = false := getD_in (by rw [inv.size]; omega) hg0
   by_cases hlr : ∃ p, ls.contains p = true /\ p ∈ Region.ready md ops listed
   ·obtain ⟨p, hpl, hpr⟩ := hlr
    rw [List.all_eq_true] at hloo
    have hp1 := hloo p (by simpa using hpl)
    simp only [Bool.and_eq_true, decide_eq_true_eq, Bool.not_eq_true'] at hp1
    obtain ⟨⟨hpf, hpnl⟩, hpp⟩ := hp1
    obtain ⟨hpun, op, hop, hpdep⟩ := mem_ready.1 hpr
    rw [hop] at hpp
    have hps : p < listed.size := by rw [inv.size]; omega
    have hpun' : listed.getD p false = false := getD_both hpun
    have hkp : (l.contains p || decide (f <= p)) = false := by rw [hpnl]; simp; omega
    have hwtp : ∀ i, listed.getD i false = false -> Region.waitsFor md ops p i = false := fun i hi => by
     cases hw : Region.waitsFor md ops p i with
     | false => rfl
     | true =>
      obtain ⟨o', ho', e, he, hb, hon⟩ := Region.waitsFor_spec hw
      obtain rfl : o' = op := Option.some.inj (ho'.symm.trans hop)
      have := hpdep e he hb
      rw [hon, hi] at this
      cases this
    have hfirst := fun (v : Value) => wpAny_first (P := P) (md := md) (Q := Q) (v := v) hop hsel' (fun c a w h => hQ c a _ _ w h) n listed a w (fun j oj hoj hne hun hno => by
     have hjf := getD_both hun
     rcases Nat.lt_or_gt_of_ne hne with hlt | hlt
     ·exact apart_comm (apartAll_out hap hlt hoj hop (hwtp j hjf))
     ·refine apartAll_out hap hlt hop hoj ?_
      cases hw : Region.waitsFor md ops j p with
      | false => rfl
      | true =>
       obtain ⟨o', ho', e, he, hb, hon⟩ := Region.waitsFor_spec hw
       obtain rfl : o' = oj := Option.some.inj (ho'.symm.trans hoj)
       exact absurd hon (hno e he hb)) hpr
    have hcs : (listed.setIfInBounds p true).toList.count false = n := by
     have h3 : listed[p] = false := by simpa [Array.getD_eq_getD_getElem?, hps] using hpun
     have := cnt_set listed.toList p (by simp [hps, h3])
     rw [Array.toList_setIfInBounds]
     omega
    have hfs : (listed.setIfInBounds p true).getD f false = listed.getD f false := getD_set_ne false (by omega)
    have key : ∀ (K : Act -> World -> Prop), wpFr P ops w0 (fun i => l.contains i || decide (f <= i)) K listed (List.range f) a w -> ∃ v, Yields P ops op v a /\ wpFr P ops w0 (fun i => l.contains i || decide (f <= i)) K (listed.setIfInBounds p true) (List.range f) (a.put op.dst v) w := by
     intro K hK
     have hp := pullF (P := P) (ops := ops) (w0 := w0) (ks := fun i => l.contains i || decide (f <= i)) (K := K) hsel' hcalm hop hpun' hps (List.range f) List.pairwise_lt_range (List.mem_range.2 hpf)
      (fun i hi hij hil _ => by
        have his : i < ops.size := by omega
        exact ⟨ops[i], by simp [his], apartAll_out hap hij (by simp [his]) hop (hwtp i hil)⟩)
      (fun hk => by rw [hkp] at hk; cases hk) a w hC hK
     rw [if_neg (by rw [hkp]; decide)] at hp
     obtain ⟨v, hy, hn'⟩ := yieldsIn_of_qOp hop hp
     exact ⟨v, pure_yields hpp (hcalm p op hop hkp) hC hy, hn'⟩
    rcases h with ⟨h1, h⟩ | ⟨b, h1, hb0, hbk, h⟩
    ·obtain ⟨v, hy, hh⟩ := key _ h
     exact hfirst v hy (ih _ _ w hcs (inv.set hpr (by omega)) hC (.inl ⟨by rw [hfs]; exact h1, hh⟩))
    ·obtain ⟨v, hy, hh⟩ := key _ h
     exact hfirst v hy (ih _ _ w hcs (inv.set hpr (by omega)) hC (.inr ⟨b, by rw [hfs]; exact h1, hb0, hbk, hh⟩))
   have hjt : ∀ j, j ∈ Region.ready md ops listed -> j < t := fun j hj => Nat.lt_of_not_le fun hle => by
    have hnl : ∀ i, i < t -> ls.contains i = false -> listed.getD i false = true := fun i hi hli => by
     cases hg : listed.getD i false with
     | true => rfl
     | false => exact (tail_waitsL hs hc hn inv _ i rfl hli hi (getD_in (by rw [inv.size]; omega) hg) j hle hj).elim
    have hlow : ∀ n, n <= t -> ∀ i, i < n -> listed.getD i false = true := by
     intro n
     induction n with
     | zero => intro _ i hi; omega
     | succ n ihn =>
      intro hn' i hi
      by_cases hin : i < n
      ·exact ihn (by omega) i hin
      ·obtain rfl : i = n := by omega
       cases hg : listed.getD i false with
       | true => rfl
       | false =>
        exfalso
        have his : i < ops.size := by omega
        cases hli : ls.contains i with
        | false =>
         have := hnl i (by omega) hli
         rw [hg] at this
         cases this
        | true =>
         refine hlr ⟨i, hli, ?_⟩
         rw [mem_ready]
         refine ⟨getD_in (by rw [inv.size]; exact his) hg, ops[i], by simp [his], fun e he hb => ?_⟩
         exact ihn (by omega) e.on (earlyB_out hear i ops[i] (by simp [his]) e he hb)
    have := hlow t (Nat.le_refl _) i0 hi0
    rw [hg0] at this
    cases this
   refine ⟨fun hr => ?_, fun j hj => ?_⟩
   ·exfalso
    have hlow : ∀ n, n <= t -> ∀ i, i < n -> listed.getD i false = true := by
     intro n
     induction n with
     | zero => intro _ i hi; omega
     | succ n ihn =>
      intro hn' i hi
      by_cases hin : i < n
      ·exact ihn (by omega) i hin
      ·obtain rfl : i = n := by omega
       cases hg : listed.getD i false with
       | true => rfl
       | false =>
        exfalso
        have hm : i ∈ Region.ready md ops listed := by
         rw [mem_ready]
         have his : i < ops.size := by omega
         refine ⟨getD_in (by rw [inv.size]; exact his) hg, ops[i], by simp [his], fun e he hb => ?_⟩
         exact ihn (by omega) e.on (earlyB_out hear i ops[i] (by simp [his]) e he hb)
        rw [hr] at hm
        cases hm
    have := hlow t (Nat.le_refl _) i0 hi0
    rw [hg0] at this
    cases this
   ·have hj' := hjt j hj
    obtain ⟨hun, oj, hoj, hdep⟩ := mem_ready.1 hj
    have hjs : j < listed.size := by rw [inv.size]; omega
    have hjl : listed.getD j false = false := getD_both hun
    have hwt : ∀ i, listed.getD i false = false -> Region.waitsFor md ops j i = false := fun i hi => by
     cases hw : Region.waitsFor md ops j i with
     | false => rfl
     | true =>
      obtain ⟨o', ho', e, he, hb, hon⟩ := Region.waitsFor_spec hw
      obtain rfl : o' = oj := Option.some.inj (ho'.symm.trans hoj)
      have := hdep e he hb
      rw [hon, hi] at this
      cases this
    have hcs : (listed.setIfInBounds j true).toList.count false = n := by
     have h3 : listed[j] = false := by simpa [Array.getD_eq_getD_getElem?, hjs] using hun
     have := cnt_set listed.toList j (by simp [hjs, h3])
     rw [Array.toList_setIfInBounds]
     omega
    by_cases hjf : j = f
    ·subst hjf
     obtain rfl : oj = of := Option.some.inj (hoj.symm.trans hof)
     rcases h with ⟨_, h⟩ | ⟨b, h1, _⟩
     rotate_left
     ·rw [hjl] at h1; cases h1
     have hle : w0.heap.size <= w.heap.size := (cg_iff.1 hC).size
     have hga : Gw w (w.alloc (.cells zs T)) := ba_alloc (Below.refl _ _) _
     unfold wpOp
     simp only [hoj]
     rw [if_pos (by simp [Region.wanted, hg])]
     refine .inl ?_
     unfold Oper.wp
     rw [hfr a w]
     refine ih _ _ _ hcs (inv.set hj hj') (cg_iff.2 ((cg_iff.1 hC).trans hga)) (.inr ⟨w.heap.size, by simp [Array.getD_eq_getD_getElem?, hjs], hle, Blk.new _ _ _, ?_⟩)
     have h2 := wpFr_slot (P := P) (ops := ops) (w0 := w0) (ks := fun i => l.contains i || decide (j <= i)) (K := FrK P ops w0 Q t oj T zs) (K' := FrB P ops w0 Q t w.heap.size T zs) (listed := listed) (oj := oj) (v := .pointer (some ⟨w.heap.size, 0, none⟩)) hsel'
      (fun a' w' hh w'' hc' hg' hb' => hh w.heap.size w'' hc' hg' hle hb') (R := List.range j) (fun i hi => by
       have hij := List.mem_range.1 hi
       have his : i < ops.size := by omega
       exact ⟨ops[i], by simp [his], apartAll_out hap hij (by simp [his]) hoj (hwf i hij)⟩) h
     rw [wpFr_congr (l2 := listed.setIfInBounds j true) (fun i hi => (getD_set_ne false (fun e => by have := List.mem_range.1 hi; omega)).symm)] at h2
     exact wpFr_weak (hBw _) h2 hga
    ·have hjf' : j < f := by omega
     have key : ∀ (K : Act -> World -> Prop), wpFr P ops w0 (fun i => l.contains i || decide (f <= i)) K listed (List.range f) a w -> wpOp P ops Q j (fun a' w' => Gw w w' /\ wpFr P ops w0 (fun i => l.contains i || decide (f <= i)) K (listed.setIfInBounds j true) (List.range f) a' w') a w := by
      intro K hK
      have hp := pullF (P := P) (ops := ops) (w0 := w0) (ks := fun i => l.contains i || decide (f <= i)) (K := K) hsel' hcalm hoj hjl hjs (List.range f) List.pairwise_lt_range (List.mem_range.2 hjf')
       (fun i hi hij hil _ => by
         have his : i < ops.size := by omega
         exact ⟨ops[i], by simp [his], apartAll_out hap hij (by simp [his]) hoj (hwt i hil)⟩)
       (fun hk i hi hij hil => by
         simp only [Bool.or_eq_true, List.contains_iff_mem, decide_eq_true_eq] at hk
         rw [Bool.or_eq_false_iff, decide_eq_false_iff_not]
         refine ⟨?_, by omega⟩
         cases hci : l.contains i with
         | false => rfl
         | true =>
          have := links_order inv hl i j (by simpa using hci) (by rcases hk with hk | hk; exact hk; omega) hij (.inl hj)
          rw [hil] at this
          cases this) a w hC hK
      by_cases hk : (l.contains j || decide (f <= j)) = true
      ·rw [if_pos hk] at hp
       exact wpOp_stop (hp w hC (Gw.refl w))
      ·rw [if_neg hk] at hp
       refine wpOp_mono ?_ (wpOp_calm hoj (hcalm j oj hoj (by simpa using hk)) hC hp)
       rintro a' w' ⟨rfl, hh⟩
       exact ⟨Gw.refl _, hh⟩
     have hfs : (listed.setIfInBounds j true).getD f false = listed.getD f false := getD_set_ne false hjf
     rcases h with ⟨h1, h⟩ | ⟨b, h1, hb0, hbk, h⟩
     ·refine wpOp_mono ?_ (key _ h)
      rintro a' w' ⟨hg', hh⟩
      exact ih _ a' w' hcs (inv.set hj hj') (cg_iff.2 ((cg_iff.1 hC).trans hg')) (.inl ⟨by rw [hfs]; exact h1, hh⟩)
     ·refine wpOp_mono ?_ (key _ h)
      rintro a' w' ⟨hg', hh⟩
      exact ih _ a' w' hcs (inv.set hj hj') (cg_iff.2 ((cg_iff.1 hC).trans hg')) (.inr ⟨b, by rw [hfs]; exact h1, hb0, hbk.via hg', hh⟩)
def segPostF (next : Act -> World -> Prop) (w0 : World) : Exit -> Act -> World -> Prop
 | .normal, a, w => Gw w0 w /\ next a w
 | _, _, _ => False
theorem segF_next {next : Act -> World -> Prop} {w0 : World} {a : Act} {w : World} (hC : Gw w0 w) (h : next a w) : segPostF next w0 .normal a w := ⟨hC, h⟩
def wpSegsF (P : Program) (ops : Array Oper) (w0 : World) (K : Act -> World -> Prop) (r : Nat) : List Nat -> List Oper -> Act -> World -> Prop
 | [], l, a, w => wpQuiet P ops (Cg w0) (fun a' => K a' w) (l.take r) a
 | m :: ms, l, a, w => wpQuiet P ops (Cg w0) (fun a' => ∀ w', Gw w0 w' -> Gw w w' -> wpList P ops (segPostF (wpSegsF P ops w0 K r ms (l.drop (m + 1))) w') ((l.drop m).take 1) a' w') (l.take m) a
theorem quiet_mixF {ks : Nat -> Bool} {K : Act -> World -> Prop} {listed : Array Bool} {N : Act -> Prop} {w : World} {R : List Nat} (hlist : ∀ i, listed.getD i false = false) :
 ∀ (m p : Nat) (a : Act), p + m <= ops.size -> (∀ i, p <= i -> i < p + m -> ks i = false) -> (∀ a, N a -> wpFr P ops w0 ks K listed R a w) -> wpQuiet P ops (Cg w0) N ((ops.toList.drop p).take m) a ->
  wpFr P ops w0 ks K listed (List.range' p m ++ R) a w := by
 intro m
 induction m with
 | zero =>
  intro p a _ _ hN h
  simp only [List.take_zero] at h
  exact hN a h
 | succ m ih =>
  intro p a hp hk hN h
  have hps : p < ops.size := by omega
  have e : (ops.toList.drop p).take (m + 1) = ops[p] :: (ops.toList.drop (p + 1)).take m := by
   rw [List.drop_eq_getElem_cons (by simpa using hps), List.take_succ_cons]
   rfl
  rw [e] at h
  rw [List.range'_succ, List.cons_append]
  simp only [wpFr, hlist p, hk p (Nat.le_refl _) (by omega), Bool.false_eq_true, if_false]
  unfold wpQuiet at h
  unfold qOp
  simp only [show ops[p]? = some ops[p] by simp [hps]]
  have ih' : ∀ a, wpQuiet P ops (Cg w0) N ((ops.toList.drop (p + 1)).take m) a -> wpFr P ops w0 ks K listed (List.range' (p + 1) m ++ R) a w := fun a' h' => ih (p + 1) a' (by omega) (fun i h1 h2 => hk i (by omega) (by omega)) hN h'
  split
  ·rename_i hw
   rw [if_pos hw] at h
   exact Oper.quiet_mono ih' h
  ·rename_i hw
   rw [if_neg hw] at h
   exact ih' _ h
theorem segsF_mix {ks : Nat -> Bool} {K : Act -> World -> Prop} {listed : Array Bool} {t : Nat} (r : Nat) (ht : t <= ops.size) (hlist : ∀ i, listed.getD i false = false) :
 ∀ (ms : List Nat) (p : Nat) (a : Act) (w : World), endAt r p ms = t -> (∀ i, p <= i -> i < t -> ks i = (chainAt p ms).contains i) -> wpSegsF P ops w0 K r ms (ops.toList.drop p) a w ->
  wpFr P ops w0 ks K listed (List.range' p (t - p)) a w := by
 intro ms
 induction ms with
 | nil =>
  intro p a w he hk h
  simp only [endAt] at he
  subst he
  have e : List.range' p (p + r - p) = List.range' p r ++ [] := by simp
  rw [e]
  refine quiet_mixF hlist r p a ht (fun i h1 h2 => by rw [hk i h1 h2]; simp [chainAt]) ?_ h
  intro a' h'
  simpa only [wpFr] using h'
 | cons m ms ih =>
  intro p a w he hk h
  simp only [endAt] at he
  have hle := endAt_le r ms (p + m + 1)
  have e : List.range' p (t - p) = List.range' p m ++ ((p + m) :: List.range' (p + m + 1) (t - (p + m + 1))) := by
   have e1 : t - p = m + (1 + (t - (p + m + 1))) := by omega
   rw [e1, <- List.range'_append_1, <- List.range'_append_1]
   simp
  rw [e]
  refine quiet_mixF hlist m p a (by omega) (fun i h1 h2 => ?_) ?_ h
  ·rw [hk i h1 (by omega)]
   simp only [chainAt]
   cases hc : ((p + m) :: chainAt (p + m + 1) ms).contains i with
   | false => rfl
   | true =>
    exfalso
    have hm : i ∈ (p + m) :: chainAt (p + m + 1) ms := by simpa using hc
    rcases List.mem_cons.1 hm with h3 | h3
    ·omega
    ·have := chainAt_ge _ _ _ h3; omega
  ·intro a' h'
   have hps : p + m < ops.size := by omega
   have hkp : ks (p + m) = true := by rw [hk (p + m) (by omega) (by omega)]; simp [chainAt]
   simp only [wpFr, hlist (p + m), hkp, Bool.false_eq_true, if_false, if_true]
   intro w' hC' hG'
   have h' := h' w' (cg_iff.1 hC') hG'
   have e2 : ((ops.toList.drop p).drop m).take 1 = [ops[p + m]] := by
    rw [List.drop_drop, List.drop_eq_getElem_cons (by simpa using hps), List.take_succ_cons, List.take_zero]
    rfl
   rw [e2] at h'
   have ih' := fun a w h => ih (p + m + 1) a w he (fun i h1 h2 => by
    rw [hk i (by omega) h2]
    simp only [chainAt, List.contains_cons]
    rw [show (i == p + m) = false by simp; omega]
    rfl) h
   have e3 : (ops.toList.drop p).drop (m + 1) = ops.toList.drop (p + m + 1) := by rw [List.drop_drop]; rfl
   rw [e3] at h'
   unfold wpList at h'
   unfold wpOp
   simp only [show ops[p + m]? = some ops[p + m] by simp [hps]]
   have hfin : ∀ a w, wpList P ops (segPostF (wpSegsF P ops w0 K r ms (ops.toList.drop (p + m + 1))) w') [] a w -> Gw w' w /\ wpFr P ops w0 ks K listed (List.range' (p + m + 1) (t - (p + m + 1))) a w := fun a w h => ⟨h.1, ih' a w h.2⟩
   have hlets : LetsOut (segPostF (wpSegsF P ops w0 K r ms (ops.toList.drop (p + m + 1))) w') -> LetsOut stopPost := fun ⟨_, _, h⟩ => (show False from h).elim
   split
   ·rename_i hw
    rw [if_pos hw] at h'
    rcases h' with h' | ⟨h1, h2⟩
    ·refine .inl (Oper.wp_mono hfin ?_)
     unfold Oper.wp at *
     generalize (execOp a'.eval ops[p + m]).run P w' = rr at *
     cases rr with
     | ok n w'' =>
      cases n <;> simp only [Oper.upon] at h' ⊢ <;> try exact h'
     | halt x w'' =>
      cases x <;> simp only [Oper.upon] at h' ⊢
      all_goals (try exact (show False from h').elim)
    ·exact .inr ⟨h1, hlets h2⟩
   ·rename_i hw
    rw [if_neg hw] at h'
    exact hfin _ _ h'
theorem wp_region_mixF {id : Nat} {Q : Exit -> Act -> World -> Prop} {a : Act} {w : World} {l : List Oper} (r : Nat) (ms ls : List Nat) (of : Oper) (T : TypeId) (zs : Array Value) (hm : P.follows .mixedOrders = true) (hB : mixFB .any l.toArray (endAt r 0 ms + 1) (endAt r 0 ms) (chainAt 0 ms) ls = true)
 (hend : endAt r 0 ms <= l.length) (hof : l[endAt r 0 ms]? = some of) (hg : of.guard = none) (hfr : ∀ (a : Act) (w : World), (execOp a.eval of).run P w = .ok (.value (.pointer (some ⟨w.heap.size, 0, none⟩))) (w.alloc (.cells zs T)))
 (hQ : ∀ c a d v w, Q (.panic c) (Act.put a d v) w -> Q (.panic c) a w) (h : wpSegsF P l.toArray w (fun a' w' => ∀ b w'', Gw w w'' -> Gw w' w'' -> w.heap.size <= b -> Blk w'' b T zs -> wpList P l.toArray Q (l.drop (endAt r 0 ms + 1)) (a'.put of.dst (.pointer (some ⟨b, 0, none⟩))) w'') r ms l a w.drew) : (Code.region id l.toArray true).wp P Q a w := by
 refine wp_region_any hm ?_
 have hin : ∀ i, (Array.replicate l.toArray.size false).getD i false = false := fun i => getD_replicate_false _ _
 refine mixF_any (w0 := w) (T := T) (zs := zs) (of := of) hQ hB (by simpa using hof) hg hfr _ _ a w.drew (by simp [List.count_replicate]) ⟨by simp, fun j oj _ hl => (by rw [hin] at hl; cases hl), fun t _ ht => getD_in (by simpa using ht) (hin t)⟩ ⟨w.drew, (grow_eq (Below.drew (Below.refl _ _))).symm⟩ (.inl ⟨hin _, ?_⟩)
 have hK : ∀ a' w', (∀ b w'', Gw w w'' -> Gw w' w'' -> w.heap.size <= b -> Blk w'' b T zs -> wpList P l.toArray Q (l.drop (endAt r 0 ms + 1)) (a'.put of.dst (.pointer (some ⟨b, 0, none⟩))) w'') = FrK P l.toArray w Q (endAt r 0 ms + 1) of T zs a' w' := fun a' w' => by
  unfold FrK
  simp only [cg_iff, List.toList_toArray]
 have hKf : (fun a' w' => ∀ b w'', Gw w w'' -> Gw w' w'' -> w.heap.size <= b -> Blk w'' b T zs -> wpList P l.toArray Q (l.drop (endAt r 0 ms + 1)) (a'.put of.dst (.pointer (some ⟨b, 0, none⟩))) w'') = FrK P l.toArray w Q (endAt r 0 ms + 1) of T zs := by
  funext a' w'
  exact hK a' w'
 rw [hKf] at h
 have := segsF_mix (P := P) (ops := l.toArray) (w0 := w) (K := FrK P l.toArray w Q (endAt r 0 ms + 1) of T zs) (ks := fun i => (chainAt 0 ms).contains i || decide (endAt r 0 ms <= i)) (listed := Array.replicate l.toArray.size false) (t := endAt r 0 ms) r (by simpa using hend) hin ms 0 a w.drew rfl
  (fun i _ h2 => by simp [Nat.not_le.2 h2]) (by simpa using h)
 rwa [Nat.sub_zero, <- List.range_eq_range'] at this
end
theorem run_eq_u (a b : Nat) (W : World) : (binOp .eql 126 (uV a) (uV b)).run Tryz.prog W = .ok (.bool (a == b)) W := by
 by_cases h : a = b
 ·subst h; simp [go_sem]
 ·have h2 : ((a : Int) == (b : Int)) = false := by simp; omega
  have h3 : (a == b) = false := by simp [h]
  simp [go_sem, h2, h3, h]
theorem run_neq_u (a b : Nat) (W : World) : (binOp .neq 126 (uV a) (uV b)).run Tryz.prog W = .ok (.bool (a != b)) W := by
 by_cases h : a = b
 ·subst h; simp [go_sem]
 ·have h2 : ((a : Int) == (b : Int)) = false := by simp; omega
  have h3 : (a == b) = false := by simp [h]
  simp [go_sem, h2, h3, h, bne]
structure Two (s : Nat) (W0 w : World) (x y : Nat) : Prop where
 fst : Blk w s 126 #[.int .u64 0, .int .u64 (x : Int)]
 snd : Blk w (s + 1) 126 #[.int .u64 0, .int .u64 (y : Int)]
 exc : Exc [s, s + 1] W0 w
theorem Two.via {s : Nat} {W0 w w' : World} {x y : Nat} (h : Two s W0 w x y) (hb : Below w.heap.size w w') : Two s W0 w' x y := ⟨h.fst.via hb, h.snd.via hb, Exc.via hb h.exc⟩
theorem Two.drew {s : Nat} {W0 w : World} {x y : Nat} (h : Two s W0 w x y) : Two s W0 w.drew x y := ⟨h.fst, h.snd, h.exc.drew⟩
theorem Two.setx {s : Nat} {W0 w : World} {x y : Nat} (h : Two s W0 w x y) (z : Nat) : Two s W0 ((w.setCell ⟨s, 0, none⟩ (.int .u64 0)).setCell ⟨s, 1, none⟩ (.int .u64 (z : Int))) z y := by
 refine ⟨?_, (h.snd.far (by simp) _).far (by simp) _, (h.exc.set (.inl (by simp)) _).set (.inl (by simp)) _⟩
 have h6 := (h.fst.set 0 (.int .u64 0)).set 1 (.int .u64 (z : Int))
 simp only [List.setIfInBounds_toArray, List.set_cons_zero, List.set_cons_succ] at h6
 exact h6
theorem Two.sety {s : Nat} {W0 w : World} {x y : Nat} (h : Two s W0 w x y) (z : Nat) : Two s W0 ((w.setCell ⟨s + 1, 0, none⟩ (.int .u64 0)).setCell ⟨s + 1, 1, none⟩ (.int .u64 (z : Int))) x z := by
 refine ⟨(h.fst.far (by simp) _).far (by simp) _, ?_, (h.exc.set (.inl (by simp)) _).set (.inl (by simp)) _⟩
 have h6 := (h.snd.set 0 (.int .u64 0)).set 1 (.int .u64 (z : Int))
 simp only [List.setIfInBounds_toArray, List.set_cons_zero, List.set_cons_succ] at h6
 exact h6
structure TwoC (s : Nat) (w : World) (x y : Nat) : Prop where
 a0 : w.cell? ⟨s, 0, none⟩ = some (.int .u64 0)
 a1 : w.cell? ⟨s, 1, none⟩ = some (.int .u64 (x : Int))
 b0 : w.cell? ⟨s + 1, 0, none⟩ = some (.int .u64 0)
 b1 : w.cell? ⟨s + 1, 1, none⟩ = some (.int .u64 (y : Int))
 f0 : w.frozen? ⟨s, 0, none⟩ = false
 f1 : w.frozen? ⟨s, 1, none⟩ = false
 g0 : w.frozen? ⟨s + 1, 0, none⟩ = false
 g1 : w.frozen? ⟨s + 1, 1, none⟩ = false
 la : s < w.heap.size
 lb : s + 1 < w.heap.size
theorem Two.cells {s : Nat} {W0 w : World} {x y : Nat} (h : Two s W0 w x y) : TwoC s w x y :=
 ⟨h.fst.cell 0, h.fst.cell 1, h.snd.cell 0, h.snd.cell 1, h.fst.frozen 0, h.fst.frozen 1, h.snd.frozen 0, h.snd.frozen 1, h.fst.lt, h.snd.lt⟩
theorem and_one (x : Nat) (h : x <= 1152921504606846976) : bits BinOp.and IntKind.u64 (x : Int) 1 = (x : Int) % 2 := and_one_u64 _ (by omega) (by omega)
theorem even_b {x : Nat} (h : x % 2 = 0) : ((x : Int) % 2 == 0) = true := by simp; omega
theorem odd_b {x : Nat} (h : x % 2 = 1) : ((x : Int) % 2 == 0) = false := by simp; omega
set_option maxRecDepth 100000 in
set_option maxHeartbeats 4000000 in
theorem gcd2_any (a b : Nat) (w : World) (ha : a <= 1152921504606846976) (hb : b <= 1152921504606846976) (hb0 : 1 <= b) :
 Calls Tryz.prog 106 #[uV a, uV b] w fun e w' => e = .returned (uV (Nat.gcd a b)) /\ Below w.heap.size w w' := by
 have hgb := Nat.gcd_le_right a (show 0 < b by omega)
 have HG := lh (show Nat.gcd 0 b = b from Nat.gcd_zero_left b)
 have q0 := run_eq_u a 0
 unfold uV at q0 ⊢
 by_cases hz : a = 0
 ·have q1 : (a == 0) = true := by simp [hz]
  rw [q1] at q0
  have HZ := lh hz
  clear hz q1
  go_enter Tryz.func106, Tryz.ntmps106
  go_wp2
  exact bodyPost_ret (v := uV b) (by simp [results, Tryz.results106, go_sem, *]) rfl ⟨by rw [HZ.out, HG.out], bel⟩
 ·have q1 : (a == 0) = false := by simp [hz]
  rw [q1] at q0
  have ha1 : 1 <= a := by omega
  clear hz q1
  generalize hGG : Nat.gcd a b = G at *
  have HGG := lh hGG
  clear hGG
  go_enter Tryz.func106, Tryz.ntmps106
  go_wp2
  have hW : Below w.heap.size w (((w.alloc (.cells #[.int .u64 0, .int .u64 (a : Int)] 126)).alloc (.cells #[.int .u64 0, .int .u64 (b : Int)] 126)).alloc (.cells #[.int .u64 0, .int .u64 0] 126)) := bel
  have hT0 : Two w.heap.size (((w.alloc (.cells #[.int .u64 0, .int .u64 (a : Int)] 126)).alloc (.cells #[.int .u64 0, .int .u64 (b : Int)] 126)).alloc (.cells #[.int .u64 0, .int .u64 0] 126)) (((w.alloc (.cells #[.int .u64 0, .int .u64 (a : Int)] 126)).alloc (.cells #[.int .u64 0, .int .u64 (b : Int)] 126)).alloc (.cells #[.int .u64 0, .int .u64 0] 126)) a b :=
   ⟨((Blk.new w _ _).alloc _).alloc _, by simpa using (Blk.new (w.alloc (.cells #[.int .u64 0, .int .u64 (a : Int)] 126)) 126 #[.int .u64 0, .int .u64 (b : Int)]).alloc (.cells #[.int .u64 0, .int .u64 0] 126), Exc.refl _ _⟩
  have hR0 : Blk (((w.alloc (.cells #[.int .u64 0, .int .u64 (a : Int)] 126)).alloc (.cells #[.int .u64 0, .int .u64 (b : Int)] 126)).alloc (.cells #[.int .u64 0, .int .u64 0] 126)) (w.heap.size + 1 + 1) 126 #[.int .u64 0, .int .u64 0] := by
   simpa using Blk.new ((w.alloc (.cells #[.int .u64 0, .int .u64 (a : Int)] 126)).alloc (.cells #[.int .u64 0, .int .u64 (b : Int)] 126)) 126 #[.int .u64 0, .int .u64 0]
  have HR0 := lh hR0
  have HT0 := lh hT0
  clear hR0 hT0
  generalize (((w.alloc (.cells #[.int .u64 0, .int .u64 (a : Int)] 126)).alloc (.cells #[.int .u64 0, .int .u64 (b : Int)] 126)).alloc (.cells #[.int .u64 0, .int .u64 0] 126)) = W0 at *
  go_loopg [5] a (fun g i wr => ∃ t x y : Nat, i = .int .i64 t /\ g + t = a /\ t + x <= a /\ 1 <= x /\ 1 <= y /\ y <= b /\ Hid (Nat.gcd x y * 2 ^ t = G) /\ Hid (Two w.heap.size W0 wr x y))
  case atStart => exact ⟨0, a, b, rfl, by omega, by omega, ha1, hb0, Nat.le_refl _, lh (by rw [HGG.out]; simp), HT0⟩
  case round =>
   obtain ⟨t, x, y, rfl, hg, htx, hx1, hy1, hyb, HI, HT⟩ := hrel
   obtain ⟨a0, a1, b0, b1, f0, f1, g0, g1, la, lb⟩ := HT.out.cells
   have ex := and_one x (by omega)
   have ey := and_one y (by omega)
   have hcase : (x % 2 = 0 /\ y % 2 = 0) ∨ x % 2 = 1 ∨ (x % 2 = 0 /\ y % 2 = 1) := by omega
   rcases hcase with ⟨hx, hy⟩ | hx | ⟨hx, hy⟩
   ·have bx := even_b hx
    have by' := even_b hy
    have HX := lh (fun w => half_any x w (by omega))
    have HY := lh (fun w => half_any y w (by omega))
    unfold uV at HX HY
    have HN := lh (show Nat.gcd (x / 2) (y / 2) * 2 ^ (t + 1) = G by
     rw [<- HI.out, <- g_both x y hx hy, Nat.pow_succ, Nat.mul_assoc, Nat.mul_comm 2])
    have hti : IntKind.i64.wrap ((t : Int) + 1) = (t : Int) + 1 := IntWalk.i64_in _ (by omega)
    go_wp2
    go_region_with (first | (go_at_call 151; (with_reducible refine (HX.out _).mono ?_); rintro e w1 ⟨rfl, hbw1⟩; have hT1 : Two w.heap.size W0 w1 x y := (by first | exact HT.out.via hbw1 | exact (HT.out.drew).via hbw1 | exact (HT.out.drewN _).via hbw1); obtain ⟨a0, a1, b0, b1, f0, f1, g0, g1, la, lb⟩ := hT1.cells) | (go_at_call 151; (with_reducible refine (HY.out _).mono ?_); rintro e w2 ⟨rfl, hbw2⟩; have hT2 : Two w.heap.size W0 w2 x y := (by first | exact hT1.via hbw2 | exact (hT1.drew).via hbw2 | exact (hT1.drewN _).via hbw2); obtain ⟨a0, a1, b0, b1, f0, f1, g0, g1, la, lb⟩ := hT2.cells))
    all_goals go_wp2
    all_goals (
     go_roundg (a - (t + 1))
     case measure => omega
     case rel => exact ⟨t + 1, x / 2, y / 2, by go_num, by omega, by omega, by omega, by omega, by omega, HN, lh ((hT2.setx (x / 2)).sety (y / 2))⟩)
   all_goals (
    have hodd : x % 2 = 1 ∨ y % 2 = 1 := (by omega)
    first
     | (have bx := odd_b (by assumption : x % 2 = 1))
     | (have bx := even_b (by assumption : x % 2 = 0); have by' := odd_b (by assumption : y % 2 = 1))
    have HTo := HT
    have HIo := HI
    go_wp2
    go_loopg [26] (x + y) (fun g i wr => ∃ x y : Nat, g = x + y /\ x <= 1152921504606846976 /\ 1 <= y /\ y <= 1152921504606846976 /\ (x % 2 = 1 ∨ y % 2 = 1) /\ Hid (Nat.gcd x y * 2 ^ t = G) /\ Hid (Two w.heap.size W0 wr x y))
    case atStart => exact ⟨x, y, rfl, by omega, hy1, by omega, hodd, HIo, HTo⟩
    case round =>
     obtain ⟨x2, y2, hg2, hx2, hy2, hy2b, hodd2, HI2, HT2⟩ := hrel
     obtain ⟨a0, a1, b0, b1, f0, f1, g0, g1, la, lb⟩ := HT2.out.cells
     have q2 := run_neq_u x2 0
     unfold uV at q2
     by_cases hxz : x2 = 0
     ·have q3 : (x2 != 0) = false := by simp [hxz]
      rw [q3] at q2
      have HXZ := lh hxz
      have hxz' : (x2 : Int) = 0 := by omega
      clear q3
      go_wp2
      go_loopg [5] t (fun g i wr => ∃ s z : Nat, i = .int .i64 s /\ g = s /\ s <= a /\ Hid (z * 2 ^ s = G) /\ Hid (Two w.heap.size W0 wr x2 z))
      case atStart => exact ⟨t, y2, rfl, rfl, by omega, lh (by rw [<- HI2.out, HXZ.out, Nat.gcd_zero_left]), HT2⟩
      case round =>
       obtain ⟨s, z, rfl, hgs, hsa, HI3, HT3⟩ := hrel
       obtain ⟨a0, a1, b0, b1, f0, f1, g0, g1, la, lb⟩ := HT3.out.cells
       by_cases hs0 : s = 0
       ·subst hs0
        have hzG : z = G := by have := HI3.out; simpa using this
        have hRr := ((HT3.out.exc).block (w.heap.size + 1 + 1) HR0.out.lt (by simp; omega)).trans HR0.out
        have hRr : Blk wr (w.heap.size + 1 + 1) 126 #[.int .u64 0, .int .u64 0] := hRr
        have r0 := hRr.cell 0
        have r1 := hRr.cell 1
        have s0 := hRr.frozen 0
        have s1 := hRr.frozen 1
        simp only [ga1, ga2, ga3] at r0 r1
        have hrl := hRr.lt
        have hbel : Below w.heap.size w wr := hW.trans (HT3.out.exc.below (by have := hW.size; omega) (by intro k hk; simp at hk; omega))
        subst hzG
        clear hRr
        go_wp2
        exact bodyPost_ret (v := uV z) (by simp [results, Tryz.results106, go_sem, *]) rfl ⟨rfl, ((hbel.setCell (by simp; omega) _).setCell (by simp; omega) _)⟩
       ·have hs1 : (0 : Int) < (s : Int) := by omega
        have hzb : z + z <= 1152921504606846976 := by
         have h := HI3.out
         have : 2 <= 2 ^ s := by
          have := Nat.pow_le_pow_right (show 0 < 2 by omega) (show 1 <= s by omega)
          omega
         have h2 := Nat.mul_le_mul_left z this
         omega
        have HN := lh (show (z + z) * 2 ^ (s - 1) = G by
         have h := HI3.out
         rw [show s = (s - 1) + 1 by omega, Nat.pow_succ] at h
         rw [<- h, <- Nat.two_mul]
         simp only [Nat.mul_comm, Nat.mul_left_comm, Nat.mul_assoc, Nat.add_sub_cancel])
        have hsw : (s : Int) - 1 = ((s - 1 : Nat) : Int) := by omega
        have HSW := lh hsw
        clear hsw
        have HP := lh (fun w => plus02_any z z w (by omega) (by omega))
        unfold uV at HP
        go_wp2_with (go_at_call 153; (with_reducible refine (HP.out _).mono ?_); rintro e w1 ⟨rfl, hbw1⟩; obtain ⟨hcw1, hfw1⟩ := bcell hbw1)
        go_roundg (s - 1)
        case measure => omega
        case rel => exact ⟨s - 1, z + z, by rw [<- HSW.out], rfl, by omega, HN, lh ((HT3.out.via hbw1).sety (z + z))⟩
     ·have q3 : (x2 != 0) = true := by simp [hxz]
      rw [q3] at q2
      clear q3
      go_wp2
      go_loopg [29] x2 (fun g i wr => ∃ x3 : Nat, g = x3 /\ 1 <= x3 /\ x3 <= x2 /\ (x3 % 2 = 1 ∨ y2 % 2 = 1) /\ Hid (Nat.gcd x3 y2 * 2 ^ t = G) /\ Hid (Two w.heap.size W0 wr x3 y2))
      case atStart => exact ⟨x2, rfl, by omega, by omega, hodd2, HI2, HT2⟩
      case round =>
       obtain ⟨x3, hg3, hx3, hx3b, hodd3, HI3, HT3⟩ := hrel
       obtain ⟨a0, a1, b0, b1, f0, f1, g0, g1, la, lb⟩ := HT3.out.cells
       have ex3 := and_one x3 (by omega)
       rcases Nat.mod_two_eq_zero_or_one x3 with hx | hx
       ·have bx3 := even_b hx
        have HX := lh (fun w => half_any x3 w (by omega))
        unfold uV at HX
        have HN := lh (show Nat.gcd (x3 / 2) y2 * 2 ^ t = G by rw [g_left x3 y2 hx (by omega)]; exact HI3.out)
        go_wp2_with (go_at_call 151; (with_reducible refine (HX.out _).mono ?_); rintro e w1 ⟨rfl, hbw1⟩; obtain ⟨hcw1, hfw1⟩ := bcell hbw1)
        go_roundg (x3 / 2)
        case measure => omega
        case rel => exact ⟨x3 / 2, rfl, by omega, by omega, by omega, HN, lh ((HT3.out.via hbw1).setx (x3 / 2))⟩
       ·have bx3 := odd_b hx
        go_wp2
        go_loopg [35] y2 (fun g i wr => ∃ y4 : Nat, g = y4 /\ 1 <= y4 /\ y4 <= y2 /\ Hid (Nat.gcd x3 y4 * 2 ^ t = G) /\ Hid (Two w.heap.size W0 wr x3 y4))
        case atStart => exact ⟨y2, rfl, by omega, by omega, HI3, HT3⟩
        case round =>
         obtain ⟨y4, hg4, hy4, hy4b, HI4, HT4⟩ := hrel
         obtain ⟨a0, a1, b0, b1, f0, f1, g0, g1, la, lb⟩ := HT4.out.cells
         have ey4 := and_one y4 (by omega)
         rcases Nat.mod_two_eq_zero_or_one y4 with hy | hy
         ·have by4 := even_b hy
          have HY := lh (fun w => half_any y4 w (by omega))
          unfold uV at HY
          have HN := lh (show Nat.gcd x3 (y4 / 2) * 2 ^ t = G by rw [g_right x3 y4 hx hy]; exact HI4.out)
          go_wp2_with (go_at_call 151; (with_reducible refine (HY.out _).mono ?_); rintro e w1 ⟨rfl, hbw1⟩; obtain ⟨hcw1, hfw1⟩ := bcell hbw1)
          go_roundg (y4 / 2)
          case measure => omega
          case rel => exact ⟨y4 / 2, rfl, by omega, by omega, HN, lh ((HT4.out.via hbw1).sety (y4 / 2))⟩
         ·have by4 := odd_b hy
          have HL := lh (fun w => less_any x3 y4 w)
          unfold uV at HL
          by_cases hlt : x3 < y4
          ·have hd : decide (x3 < y4) = true := by simpa using hlt
           rw [hd] at HL
           clear hd
           have HM := lh (fun w => minus_any y4 x3 w (by omega) (by omega))
           unfold uV at HM
           have HN := lh (show Nat.gcd (y4 - x3) x3 * 2 ^ t = G by rw [g_sub y4 x3 (by omega), Nat.gcd_comm]; exact HI4.out)
           go_wp2_with (first
            | (go_at_call 62; (with_reducible refine (HL.out _).mono ?_); rintro e w1 ⟨rfl, hbw1⟩; obtain ⟨hcw1, hfw1⟩ := bcell hbw1; have hzw1_0 : w.heap.size < w1.heap.size := lt_via hbw1 sz; have hzw1_1 : w.heap.size + 1 < w1.heap.size := lt_via hbw1 sz)
            | (go_at_call 152; (with_reducible refine (HM.out _).mono ?_); rintro e w2 ⟨rfl, hbw2⟩; obtain ⟨hcw2, hfw2⟩ := bcell hbw2; have hzw2_0 : w.heap.size < w2.heap.size := lt_via hbw2 sz; have hzw2_1 : w.heap.size + 1 < w2.heap.size := lt_via hbw2 sz))
           go_roundg (y4 - x3 + x3)
           case measure => omega
           case rel => exact ⟨y4 - x3, x3, rfl, by omega, by omega, by omega, .inr hx, HN, lh ((((((HT4.out.via hbw1).setx y4).sety x3)).via hbw2).setx (y4 - x3))⟩
          ·have hd : decide (x3 < y4) = false := by simpa using hlt
           rw [hd] at HL
           clear hd
           have HM := lh (fun w => minus_any x3 y4 w (by omega) (by omega))
           unfold uV at HM
           have HN := lh (show Nat.gcd (x3 - y4) y4 * 2 ^ t = G by rw [g_sub x3 y4 (by omega)]; exact HI4.out)
           go_wp2_with (first
            | (go_at_call 62; (with_reducible refine (HL.out _).mono ?_); rintro e w1 ⟨rfl, hbw1⟩; obtain ⟨hcw1, hfw1⟩ := bcell hbw1; have hzw1_0 : w.heap.size < w1.heap.size := lt_via hbw1 sz; have hzw1_1 : w.heap.size + 1 < w1.heap.size := lt_via hbw1 sz)
            | (go_at_call 152; (with_reducible refine (HM.out _).mono ?_); rintro e w2 ⟨rfl, hbw2⟩; obtain ⟨hcw2, hfw2⟩ := bcell hbw2; have hzw2_0 : w.heap.size < w2.heap.size := lt_via hbw2 sz; have hzw2_1 : w.heap.size + 1 < w2.heap.size := lt_via hbw2 sz))
           go_roundg (x3 - y4 + y4)
           case measure => omega
           case rel => exact ⟨x3 - y4, y4, rfl, by omega, by omega, by omega, .inr hy, HN, lh (((HT4.out.via hbw1).via hbw2).setx (x3 - y4))⟩)
end Go.Proofs.YtmfpbafpnoomeaaGreat
