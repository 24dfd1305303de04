/- Contracts of the reference for layer 15: axis, Valid, Unit, cross, Plus, times, Image, Near. Contracts: Main and MainLeg of the reference for layer 24. Contracts of the reference for layer 9: With, Hu -/
import Derived.Deep.Slices
import Derived.Test.YtffkmgjmlahfpaaGreatYM
import Derived.Test.YtffkmgjmlahfpaaGreatYN
import Derived.Test.YtffkmgjmlahfpaaGreatYK
import Derived.Test.YtffkmgjmlahfpaaGreatYR
import Derived.Test.YtffkmgjmlahfpaaGreatYD
import Derived.Test.YtffkmgjmlahfpaaGreatYA
import Derived.Test.YtffkmgjmlahfpaaGreatYG
import Derived.Test.YtffkmgjmlahfpaaGreatYC
import Derived.Test.YtffkmgjmlahfpaaGreatYO
import Derived.Test.YtffkmgjmlahfpaaGreatYP
set_option linter.unusedVariables false
set_option linter.unusedSimpArgs false
namespace Go.Proofs.YtffkmgjmlahfpaaGreat
open Go.RowKit
theorem rwithin_any (n : Int) (w : World) :
    Calls Tryz.prog 233 #[.int .i64 n] w fun e w' => e = .returned (.bool (S.place n)) ∧ w = w' := by
  have H := Lib.hid (show S.place n = (decide (-1048576 ≤ n) && decide (n ≤ 1048576)) from rfl)
  go_enter Tryz.func233, Tryz.ntmps233
  go_wp2
  all_goals (go_ret; exact ⟨ret_b (by rw [H.out, Bool.eq_iff_iff]; all_goals (first | (simp; done) | (simp; omega))), rfl⟩)
theorem rnear1_any (p : Pt) (w : World) :
    Calls Tryz.prog 176 #[ptV p] w fun e w' => e = .returned (.bool (S.near1 p 1048576)) ∧ Below w.heap.size w w' := by
  have H := Lib.hid (show S.near1 p 1048576 = (S.place p.x && S.place p.y && S.place p.z) by simp [S.near1, S.place, Bool.and_assoc])
  have H0 := Lib.hid (fun w => rwithin_any p.x w)
  have H1 := Lib.hid (fun w => rwithin_any p.y w)
  have H2 := Lib.hid (fun w => rwithin_any p.z w)
  generalize S.place p.x = t0 at *
  generalize S.place p.y = t1 at *
  generalize S.place p.z = t2 at *
  unfold ptV
  cases t0 <;> cases t1
  all_goals (
    go_enter Tryz.func176, Tryz.ntmps176
    go_wp2_with (first
      | (go_at_call 233; (with_reducible refine (H0.out _).mono ?_); rintro e w' ⟨rfl, rfl⟩)
      | (go_at_call 233; (with_reducible refine (H1.out _).mono ?_); rintro e w' ⟨rfl, rfl⟩)
      | (go_at_call 233; (with_reducible refine (H2.out _).mono ?_); rintro e w' ⟨rfl, rfl⟩))
    all_goals (go_ret; refine ⟨ret_b ?_, bel⟩; rw [H.out]; simp))
end Go.Proofs.YtffkmgjmlahfpaaGreat
namespace Go.Proofs.YtffkmgjmlahfpaaGreat
open Go.RowKit
def S.isMainB (b : Bx) : Bool := decide (b.lo.x < b.hi.x) && decide (b.lo.y = b.hi.y) && decide (b.lo.z = b.hi.z)
end Go.Proofs.YtffkmgjmlahfpaaGreat
namespace Go.Proofs.YtffkmgjmlahfpaaGreat
open Go.RowKit
namespace S
def setc (p : Pt) (k : Nat) (n : Int) : Pt := if k = 0 then ⟨n, p.y, p.z⟩ else if k = 1 then ⟨p.x, n, p.z⟩ else ⟨p.x, p.y, n⟩
def mn (a b : Int) : Int := if b < a then b else a
def mx (a b : Int) : Int := if a < b then b else a
end S
theorem with_any (p : Pt) (k : Nat) (n : Int) (hk : k < 3) (w : World) :
    Calls Tryz.prog 251 #[ptVal p, .int .i64 k, .int .i64 n] w fun e w' => e = .returned (ptVal (S.setc p k n)) ∧ Below w.heap.size w w' := by
  have : k = 0 ∨ k = 1 ∨ k = 2 := by omega
  unfold ptVal
  rcases this with rfl | rfl | rfl
  · go_enter Tryz.func251, Tryz.ntmps251
    go_wp2
    exact bodyPost_ret (v := ptVal ⟨n, p.y, p.z⟩) (by simp [results, Tryz.results251, go_sem, *]) rfl ⟨rfl, bel⟩
  · go_enter Tryz.func251, Tryz.ntmps251
    go_wp2
    exact bodyPost_ret (v := ptVal ⟨p.x, n, p.z⟩) (by simp [results, Tryz.results251, go_sem, *]) rfl ⟨rfl, bel⟩
  · go_enter Tryz.func251, Tryz.ntmps251
    go_wp2
    exact bodyPost_ret (v := ptVal ⟨p.x, p.y, n⟩) (by simp [results, Tryz.results251, go_sem, *]) rfl ⟨rfl, bel⟩
end Go.Proofs.YtffkmgjmlahfpaaGreat
namespace Go.Proofs.YtffkmgjmlahfpaaGreat
open Go.RowKit
namespace S
def cont (a b : Bx) : Bool := decide (a.lo.x ≤ b.lo.x) && decide (b.hi.x ≤ a.hi.x) && (decide (a.lo.y ≤ b.lo.y) && decide (b.hi.y ≤ a.hi.y)) && (decide (a.lo.z ≤ b.lo.z) && decide (b.hi.z ≤ a.hi.z))
def zbox : Bx := ⟨⟨0, 0, 0⟩, ⟨0, 0, 0⟩⟩
def mlo (a b : Bx) (k : Nat) : Int := mx (co a.lo k) (co b.lo k)
def mhi (a b : Bx) (k : Nat) : Int := mn (co a.hi k) (co b.hi k)
def meet1 (a b o : Bx) (k : Nat) : Bx := ⟨setc o.lo k (mlo a b k), setc o.hi k (mhi a b k)⟩
def meetK (a b : Bx) : Nat → Bx
  | 0 => zbox
  | k + 1 => meet1 a b (meetK a b k) k
def meets (a b : Bx) : Bool := decide (mlo a b 0 ≤ mhi a b 0) && decide (mlo a b 1 ≤ mhi a b 1) && decide (mlo a b 2 ≤ mhi a b 2)
def meet (a b : Bx) : Bx := if meets a b then meetK a b 3 else zbox
def eqbox (a b : Bx) : Bool := eqpt a.lo b.lo && eqpt a.hi b.hi
end S
theorem run_eq_box (a b : Bx) (W : World) : (binOp .eql 89 (boxV a) (boxV b)).run Tryz.prog W = .ok (.bool (S.eqbox a b)) W := by
  by_cases h1 : a.lo.x = b.lo.x
  · by_cases h2 : a.lo.y = b.lo.y
    · by_cases h3 : a.lo.z = b.lo.z
      · by_cases h4 : a.hi.x = b.hi.x
        · by_cases h5 : a.hi.y = b.hi.y
          · by_cases h6 : a.hi.z = b.hi.z
            · simp [go_sem, S.eqbox, S.eqpt, h1, h2, h3, h4, h5, h6]
            · simp [go_sem, S.eqbox, S.eqpt, h1, h2, h3, h4, h5, h6]
          · simp [go_sem, S.eqbox, S.eqpt, h1, h2, h3, h4, h5]
        · simp [go_sem, S.eqbox, S.eqpt, h1, h2, h3, h4]
      · simp [go_sem, S.eqbox, S.eqpt, h1, h2, h3]
    · simp [go_sem, S.eqbox, S.eqpt, h1, h2]
  · simp [go_sem, S.eqbox, S.eqpt, h1]
theorem meets_no {a b : Bx} {k : Nat} (hk : k < 3) (h : S.mhi a b k < S.mlo a b k) : S.meets a b = false := by
  have : k = 0 ∨ k = 1 ∨ k = 2 := by omega
  have hn : ¬ S.mlo a b k ≤ S.mhi a b k := by omega
  rcases this with rfl | rfl | rfl <;> simp [S.meets, hn]
theorem meets_yes {a b : Bx} (h : ∀ k, k < 3 → S.mlo a b k ≤ S.mhi a b k) : S.meets a b = true := by
  simp [S.meets, h 0 (by omega), h 1 (by omega), h 2 (by omega)]
theorem meetK_3 (a b : Bx) : S.meetK a b 3 = ⟨⟨S.mx a.lo.x b.lo.x, S.mx a.lo.y b.lo.y, S.mx a.lo.z b.lo.z⟩, ⟨S.mn a.hi.x b.hi.x, S.mn a.hi.y b.hi.y, S.mn a.hi.z b.hi.z⟩⟩ := by
  simp [S.meetK, S.meet1, S.mlo, S.mhi, S.setc, S.co]
theorem mx_eq {a b : Int} : S.mx a b = b ↔ a ≤ b := by unfold S.mx; split <;> omega
theorem mn_eq {a b : Int} : S.mn a b = b ↔ b ≤ a := by unfold S.mn; split <;> omega
theorem mx_le_mn {a b c d : Int} (h1 : a ≤ b) (h2 : b ≤ d) (h3 : d ≤ c) : S.mx a b ≤ S.mn c d := by rw [mx_eq.2 h1, mn_eq.2 h3]; exact h2
theorem eqbox_iff {p q : Bx} : S.eqbox p q = true ↔ p.lo.x = q.lo.x ∧ p.lo.y = q.lo.y ∧ p.lo.z = q.lo.z ∧ p.hi.x = q.hi.x ∧ p.hi.y = q.hi.y ∧ p.hi.z = q.hi.z := by
  simp [S.eqbox, S.eqpt, and_assoc]
theorem cont_iff {a b : Bx} : S.cont a b = true ↔ a.lo.x ≤ b.lo.x ∧ b.hi.x ≤ a.hi.x ∧ a.lo.y ≤ b.lo.y ∧ b.hi.y ≤ a.hi.y ∧ a.lo.z ≤ b.lo.z ∧ b.hi.z ≤ a.hi.z := by
  simp [S.cont, and_assoc]
theorem meet_cont (a b : Bx) (hx : b.lo.x ≤ b.hi.x) (hy : b.lo.y ≤ b.hi.y) (hz : b.lo.z ≤ b.hi.z) : (S.meets a b && S.eqbox (S.meet a b) b) = S.cont a b := by
  rw [Bool.eq_iff_iff, Bool.and_eq_true, cont_iff]
  constructor
  · rintro ⟨h1, h2⟩
    rw [S.meet, if_pos h1, meetK_3] at h2
    obtain ⟨h3, h4, h5, h6, h7, h8⟩ : S.mx a.lo.x b.lo.x = b.lo.x ∧ S.mx a.lo.y b.lo.y = b.lo.y ∧ S.mx a.lo.z b.lo.z = b.lo.z ∧ S.mn a.hi.x b.hi.x = b.hi.x ∧ S.mn a.hi.y b.hi.y = b.hi.y ∧ S.mn a.hi.z b.hi.z = b.hi.z := eqbox_iff.1 h2
    exact ⟨mx_eq.1 h3, mn_eq.1 h6, mx_eq.1 h4, mn_eq.1 h7, mx_eq.1 h5, mn_eq.1 h8⟩
  · rintro ⟨h1, h2, h3, h4, h5, h6⟩
    have hm : S.meets a b = true := by
      have g1 : S.mlo a b 0 ≤ S.mhi a b 0 := mx_le_mn h1 hx h2
      have g2 : S.mlo a b 1 ≤ S.mhi a b 1 := mx_le_mn h3 hy h4
      have g3 : S.mlo a b 2 ≤ S.mhi a b 2 := mx_le_mn h5 hz h6
      simp [S.meets, g1, g2, g3]
    refine ⟨hm, ?_⟩
    rw [S.meet, if_pos hm, meetK_3]
    exact eqbox_iff.2 ⟨mx_eq.2 h1, mx_eq.2 h3, mx_eq.2 h5, mn_eq.2 h2, mn_eq.2 h4, mn_eq.2 h6⟩
set_option maxRecDepth 100000 in
set_option maxHeartbeats 4000000 in
theorem meet_any (a b : Bx) (w : World) :
    Calls Tryz.prog 276 #[boxV a, boxV b] w fun e w' => e = .returned (.tuple #[boxV (S.meet a b), .bool (S.meets a b)]) ∧ Below w.heap.size w w' := by
  have HNO := Lib.hid (fun k hk h => meets_no (a := a) (b := b) (k := k) hk h)
  have HYES := Lib.hid (fun h => meets_yes (a := a) (b := b) h)
  have HMT := Lib.hid (show ∀ t, S.meets a b = t → S.meet a b = if t then S.meetK a b 3 else S.zbox from fun t h => by rw [← h]; rfl)
  have HWI := Lib.hid (fun (p : Pt) (k : Nat) (n : Int) (hk : k < 3) (w : World) => with_any p k n hk w)
  have HCA := Lib.hid (fun (k : Nat) (hk : k < 3) (w : World) => coord_any a.lo k hk w)
  have HCB := Lib.hid (fun (k : Nat) (hk : k < 3) (w : World) => coord_any b.lo k hk w)
  have HDA := Lib.hid (fun (k : Nat) (hk : k < 3) (w : World) => coord_any a.hi k hk w)
  have HDB := Lib.hid (fun (k : Nat) (hk : k < 3) (w : World) => coord_any b.hi k hk w)
  unfold ptVal at HWI HCA HCB HDA HDB
  unfold boxV
  go_enter Tryz.func276, Tryz.ntmps276
  go_wp2
  have hW : Below w.heap.size w ((((w.alloc (.cells #[.int .i64 a.lo.x, .int .i64 a.lo.y, .int .i64 a.lo.z, .int .i64 a.hi.x, .int .i64 a.hi.y, .int .i64 a.hi.z] 89)).alloc (.cells #[.int .i64 b.lo.x, .int .i64 b.lo.y, .int .i64 b.lo.z, .int .i64 b.hi.x, .int .i64 b.hi.y, .int .i64 b.hi.z] 89)).alloc (.cells #[.int .i64 0, .int .i64 0, .int .i64 0, .int .i64 0, .int .i64 0, .int .i64 0] 89)).alloc (.cells #[.int .i64 0, .int .i64 0, .int .i64 0, .int .i64 0, .int .i64 0, .int .i64 0] 89)) := bel
  have hA0 : Blk ((((w.alloc (.cells #[.int .i64 a.lo.x, .int .i64 a.lo.y, .int .i64 a.lo.z, .int .i64 a.hi.x, .int .i64 a.hi.y, .int .i64 a.hi.z] 89)).alloc (.cells #[.int .i64 b.lo.x, .int .i64 b.lo.y, .int .i64 b.lo.z, .int .i64 b.hi.x, .int .i64 b.hi.y, .int .i64 b.hi.z] 89)).alloc (.cells #[.int .i64 0, .int .i64 0, .int .i64 0, .int .i64 0, .int .i64 0, .int .i64 0] 89)).alloc (.cells #[.int .i64 0, .int .i64 0, .int .i64 0, .int .i64 0, .int .i64 0, .int .i64 0] 89)) w.heap.size 89 #[.int .i64 a.lo.x, .int .i64 a.lo.y, .int .i64 a.lo.z, .int .i64 a.hi.x, .int .i64 a.hi.y, .int .i64 a.hi.z] := (((Blk.new w _ _).alloc _).alloc _).alloc _
  have hB0 : Blk ((((w.alloc (.cells #[.int .i64 a.lo.x, .int .i64 a.lo.y, .int .i64 a.lo.z, .int .i64 a.hi.x, .int .i64 a.hi.y, .int .i64 a.hi.z] 89)).alloc (.cells #[.int .i64 b.lo.x, .int .i64 b.lo.y, .int .i64 b.lo.z, .int .i64 b.hi.x, .int .i64 b.hi.y, .int .i64 b.hi.z] 89)).alloc (.cells #[.int .i64 0, .int .i64 0, .int .i64 0, .int .i64 0, .int .i64 0, .int .i64 0] 89)).alloc (.cells #[.int .i64 0, .int .i64 0, .int .i64 0, .int .i64 0, .int .i64 0, .int .i64 0] 89)) (w.heap.size + 1) 89 #[.int .i64 b.lo.x, .int .i64 b.lo.y, .int .i64 b.lo.z, .int .i64 b.hi.x, .int .i64 b.hi.y, .int .i64 b.hi.z] := by simpa using ((Blk.new (w.alloc (.cells #[.int .i64 a.lo.x, .int .i64 a.lo.y, .int .i64 a.lo.z, .int .i64 a.hi.x, .int .i64 a.hi.y, .int .i64 a.hi.z] 89)) 89 #[.int .i64 b.lo.x, .int .i64 b.lo.y, .int .i64 b.lo.z, .int .i64 b.hi.x, .int .i64 b.hi.y, .int .i64 b.hi.z]).alloc (.cells #[.int .i64 0, .int .i64 0, .int .i64 0, .int .i64 0, .int .i64 0, .int .i64 0] 89)).alloc (.cells #[.int .i64 0, .int .i64 0, .int .i64 0, .int .i64 0, .int .i64 0, .int .i64 0] 89)
  have hR0 : Blk ((((w.alloc (.cells #[.int .i64 a.lo.x, .int .i64 a.lo.y, .int .i64 a.lo.z, .int .i64 a.hi.x, .int .i64 a.hi.y, .int .i64 a.hi.z] 89)).alloc (.cells #[.int .i64 b.lo.x, .int .i64 b.lo.y, .int .i64 b.lo.z, .int .i64 b.hi.x, .int .i64 b.hi.y, .int .i64 b.hi.z] 89)).alloc (.cells #[.int .i64 0, .int .i64 0, .int .i64 0, .int .i64 0, .int .i64 0, .int .i64 0] 89)).alloc (.cells #[.int .i64 0, .int .i64 0, .int .i64 0, .int .i64 0, .int .i64 0, .int .i64 0] 89)) (w.heap.size + 1 + 1) 89 #[.int .i64 0, .int .i64 0, .int .i64 0, .int .i64 0, .int .i64 0, .int .i64 0] := by simpa using (Blk.new ((w.alloc (.cells #[.int .i64 a.lo.x, .int .i64 a.lo.y, .int .i64 a.lo.z, .int .i64 a.hi.x, .int .i64 a.hi.y, .int .i64 a.hi.z] 89)).alloc (.cells #[.int .i64 b.lo.x, .int .i64 b.lo.y, .int .i64 b.lo.z, .int .i64 b.hi.x, .int .i64 b.hi.y, .int .i64 b.hi.z] 89)) 89 #[.int .i64 0, .int .i64 0, .int .i64 0, .int .i64 0, .int .i64 0, .int .i64 0]).alloc (.cells #[.int .i64 0, .int .i64 0, .int .i64 0, .int .i64 0, .int .i64 0, .int .i64 0] 89)
  have hO0 : Blk ((((w.alloc (.cells #[.int .i64 a.lo.x, .int .i64 a.lo.y, .int .i64 a.lo.z, .int .i64 a.hi.x, .int .i64 a.hi.y, .int .i64 a.hi.z] 89)).alloc (.cells #[.int .i64 b.lo.x, .int .i64 b.lo.y, .int .i64 b.lo.z, .int .i64 b.hi.x, .int .i64 b.hi.y, .int .i64 b.hi.z] 89)).alloc (.cells #[.int .i64 0, .int .i64 0, .int .i64 0, .int .i64 0, .int .i64 0, .int .i64 0] 89)).alloc (.cells #[.int .i64 0, .int .i64 0, .int .i64 0, .int .i64 0, .int .i64 0, .int .i64 0] 89)) (w.heap.size + 1 + 1 + 1) 89 #[.int .i64 0, .int .i64 0, .int .i64 0, .int .i64 0, .int .i64 0, .int .i64 0] := by simpa using Blk.new (((w.alloc (.cells #[.int .i64 a.lo.x, .int .i64 a.lo.y, .int .i64 a.lo.z, .int .i64 a.hi.x, .int .i64 a.hi.y, .int .i64 a.hi.z] 89)).alloc (.cells #[.int .i64 b.lo.x, .int .i64 b.lo.y, .int .i64 b.lo.z, .int .i64 b.hi.x, .int .i64 b.hi.y, .int .i64 b.hi.z] 89)).alloc (.cells #[.int .i64 0, .int .i64 0, .int .i64 0, .int .i64 0, .int .i64 0, .int .i64 0] 89)) 89 #[.int .i64 0, .int .i64 0, .int .i64 0, .int .i64 0, .int .i64 0, .int .i64 0]
  have hzW : ((((w.alloc (.cells #[.int .i64 a.lo.x, .int .i64 a.lo.y, .int .i64 a.lo.z, .int .i64 a.hi.x, .int .i64 a.hi.y, .int .i64 a.hi.z] 89)).alloc (.cells #[.int .i64 b.lo.x, .int .i64 b.lo.y, .int .i64 b.lo.z, .int .i64 b.hi.x, .int .i64 b.hi.y, .int .i64 b.hi.z] 89)).alloc (.cells #[.int .i64 0, .int .i64 0, .int .i64 0, .int .i64 0, .int .i64 0, .int .i64 0] 89)).alloc (.cells #[.int .i64 0, .int .i64 0, .int .i64 0, .int .i64 0, .int .i64 0, .int .i64 0] 89)).heap.size = w.heap.size + 1 + 1 + 1 + 1 := by simp
  have HA0 := Lib.hid hA0
  have HB0 := Lib.hid hB0
  have HR0 := Lib.hid hR0
  clear hA0 hB0 hR0
  generalize ((((w.alloc (.cells #[.int .i64 a.lo.x, .int .i64 a.lo.y, .int .i64 a.lo.z, .int .i64 a.hi.x, .int .i64 a.hi.y, .int .i64 a.hi.z] 89)).alloc (.cells #[.int .i64 b.lo.x, .int .i64 b.lo.y, .int .i64 b.lo.z, .int .i64 b.hi.x, .int .i64 b.hi.y, .int .i64 b.hi.z] 89)).alloc (.cells #[.int .i64 0, .int .i64 0, .int .i64 0, .int .i64 0, .int .i64 0, .int .i64 0] 89)).alloc (.cells #[.int .i64 0, .int .i64 0, .int .i64 0, .int .i64 0, .int .i64 0, .int .i64 0] 89)) = W1 at *
  go_loopw [7] (fun i wr => ∃ k : Nat, k ≤ 3 ∧ i = .int .i64 k ∧ Hid (∀ j, j < k → S.mlo a b j ≤ S.mhi a b j) ∧ Blk wr (w.heap.size + 1 + 1 + 1) 89 #[.int .i64 (S.meetK a b k).lo.x, .int .i64 (S.meetK a b k).lo.y, .int .i64 (S.meetK a b k).lo.z, .int .i64 (S.meetK a b k).hi.x, .int .i64 (S.meetK a b k).hi.y, .int .i64 (S.meetK a b k).hi.z] ∧ Exc [(w.heap.size + 1 + 1 + 1)] W1 wr) (fun i _ => 3 - (intOf i).toNat)
  case atStart => exact ⟨0, by omega, rfl, Lib.hid fun j hj => absurd hj (by omega), hO0, Exc.refl _ _⟩
  case round =>
    obtain ⟨k, hk, rfl, HALL, hK, hX⟩ := hrel
    have HK := Lib.hid hK
    have hsz := hX.size
    have hA1 : Blk wr w.heap.size 89 #[.int .i64 a.lo.x, .int .i64 a.lo.y, .int .i64 a.lo.z, .int .i64 a.hi.x, .int .i64 a.hi.y, .int .i64 a.hi.z] := (hX.block w.heap.size (by omega) (by simp; omega)).trans HA0.out
    have hB1 : Blk wr (w.heap.size + 1) 89 #[.int .i64 b.lo.x, .int .i64 b.lo.y, .int .i64 b.lo.z, .int .i64 b.hi.x, .int .i64 b.hi.y, .int .i64 b.hi.z] := (hX.block (w.heap.size + 1) (by omega) (by simp)).trans HB0.out
    have hR1 : Blk wr (w.heap.size + 1 + 1) 89 #[.int .i64 0, .int .i64 0, .int .i64 0, .int .i64 0, .int .i64 0, .int .i64 0] := (hX.block (w.heap.size + 1 + 1) (by omega) (by simp)).trans HR0.out
    have x0 := hA1.cell 0
    have x1 := hA1.cell 1
    have x2 := hA1.cell 2
    have x3 := hA1.cell 3
    have x4 := hA1.cell 4
    have x5 := hA1.cell 5
    simp only [List.getElem?_toArray, List.getElem?_cons_zero, List.getElem?_cons_succ] at x0 x1 x2 x3 x4 x5
    have y0 := hB1.cell 0
    have y1 := hB1.cell 1
    have y2 := hB1.cell 2
    have y3 := hB1.cell 3
    have y4 := hB1.cell 4
    have y5 := hB1.cell 5
    simp only [List.getElem?_toArray, List.getElem?_cons_zero, List.getElem?_cons_succ] at y0 y1 y2 y3 y4 y5
    have z0 := hR1.cell 0
    have z1 := hR1.cell 1
    have z2 := hR1.cell 2
    have z3 := hR1.cell 3
    have z4 := hR1.cell 4
    have z5 := hR1.cell 5
    have fz0 := hR1.frozen 0
    have fz1 := hR1.frozen 1
    have fz2 := hR1.frozen 2
    have fz3 := hR1.frozen 3
    have fz4 := hR1.frozen 4
    have fz5 := hR1.frozen 5
    simp only [List.getElem?_toArray, List.getElem?_cons_zero, List.getElem?_cons_succ] at z0 z1 z2 z3 z4 z5
    have hla := hA1.lt
    have hlb := hB1.lt
    have hlr := hR1.lt
    have hbel : Below w.heap.size w wr := hW.trans (hX.below (by omega) (by intro x hx; simp at hx; omega))
    clear hA1 hB1 hR1
    by_cases hlt : k < 3
    · have hki : (k : Int) < 3 := by omega
      have HJ := Lib.hid (show S.meetK a b (k + 1) = S.meet1 a b (S.meetK a b k) k from rfl)
      have HNk := Lib.hid (HNO.out k hlt)
      generalize S.meetK a b k = O at *
      have hgr := hK.lt
      have o0 := hK.cell 0
      have o1 := hK.cell 1
      have o2 := hK.cell 2
      have o3 := hK.cell 3
      have o4 := hK.cell 4
      have o5 := hK.cell 5
      have fo0 := hK.frozen 0
      have fo1 := hK.frozen 1
      have fo2 := hK.frozen 2
      have fo3 := hK.frozen 3
      have fo4 := hK.frozen 4
      have fo5 := hK.frozen 5
      simp only [List.getElem?_toArray, List.getElem?_cons_zero, List.getElem?_cons_succ] at o0 o1 o2 o3 o4 o5
      have HCAk := Lib.hid (HCA.out k hlt)
      have HCBk := Lib.hid (HCB.out k hlt)
      have HDAk := Lib.hid (HDA.out k hlt)
      have HDBk := Lib.hid (HDB.out k hlt)
      obtain ⟨P, hP⟩ : ∃ P, P = S.mlo a b k := ⟨_, rfl⟩
      obtain ⟨Q, hQ⟩ : ∃ Q, Q = S.mhi a b k := ⟨_, rfl⟩
      have HM1 := Lib.hid (show S.meet1 a b O k = ⟨S.setc O.lo k P, S.setc O.hi k Q⟩ by rw [hP, hQ]; rfl)
      have HP := Lib.hid hP
      have HQ := Lib.hid hQ
      unfold S.mlo S.mx at hP
      unfold S.mhi S.mn at hQ
      generalize S.co a.lo k = la at *
      generalize S.co b.lo k = lb at *
      generalize S.co a.hi k = ha at *
      generalize S.co b.hi k = hb at *
      have HWL := Lib.hid (fun w => HWI.out O.lo k P hlt w)
      have HWH := Lib.hid (fun w => HWI.out O.hi k Q hlt w)
      have HPP := Lib.hid hP
      have HQQ := Lib.hid hQ
      clear hP hQ
      clear hK
      by_cases hbad : Q < P
      · have HBAD := Lib.hid (HNk.out (by rw [← HP.out, ← HQ.out]; exact hbad))
        go_wp2
        refine wp_region_grow (by kernel_rfl) (by kernel_rfl) ?_
        repeat (go_big_quiet_step ((first | (go_at_call 180; with_reducible exact grow_of (HCAk.out _)) | (go_at_call 180; with_reducible exact grow_of (HCBk.out _)) | (go_at_call 180; with_reducible exact grow_of (HDAk.out _)) | (go_at_call 180; with_reducible exact grow_of (HDBk.out _)))))
        all_goals (refine wpQuiet_nil ?_; intro wg hbwg; obtain ⟨hcwg, hfwg⟩ := bcell hbwg; have hzwg_0 : w.heap.size < wg.heap.size := lt_via hbwg (by first | omega | (simp; done) | (simp; omega)); have hzwg_1 : w.heap.size + 1 < wg.heap.size := lt_via hbwg (by first | omega | (simp; done) | (simp; omega)); have hzwg_2 : w.heap.size + 2 < wg.heap.size := lt_via hbwg (by first | omega | (simp; done) | (simp; omega)); have hzwg_3 : w.heap.size + 3 < wg.heap.size := lt_via hbwg (by first | omega | (simp; done) | (simp; omega)))
        rw [show (if la < lb then lb else la) = P from HPP.out.symm, show (if hb < ha then hb else ha) = Q from HQQ.out.symm]
        go_wp2
        exact bodyPost_ret (v := .tuple #[.agg #[.int .i64 0, .int .i64 0, .int .i64 0, .int .i64 0, .int .i64 0, .int .i64 0], .bool false]) (by simp [results, Tryz.results276, go_sem, *]) rfl ⟨by rw [HMT.out _ HBAD.out, HBAD.out]; rfl, ((((((((ba_via hbwg hbel).setCell (by simp; omega) _).setCell (by simp; omega) _).setCell (by simp; omega) _).setCell (by simp; omega) _).setCell (by simp; omega) _).setCell (by simp; omega) _))⟩
      · have hg : ¬ Q < P := hbad
        go_wp2
        refine wp_region_grow (by kernel_rfl) (by kernel_rfl) ?_
        repeat (go_big_quiet_step ((first | (go_at_call 180; with_reducible exact grow_of (HCAk.out _)) | (go_at_call 180; with_reducible exact grow_of (HCBk.out _)) | (go_at_call 180; with_reducible exact grow_of (HDAk.out _)) | (go_at_call 180; with_reducible exact grow_of (HDBk.out _)))))
        all_goals (refine wpQuiet_nil ?_; intro wg hbwg; obtain ⟨hcwg, hfwg⟩ := bcell hbwg; have hzwg_0 : w.heap.size < wg.heap.size := lt_via hbwg (by first | omega | (simp; done) | (simp; omega)); have hzwg_1 : w.heap.size + 1 < wg.heap.size := lt_via hbwg (by first | omega | (simp; done) | (simp; omega)); have hzwg_2 : w.heap.size + 2 < wg.heap.size := lt_via hbwg (by first | omega | (simp; done) | (simp; omega)); have hzwg_3 : w.heap.size + 3 < wg.heap.size := lt_via hbwg (by first | omega | (simp; done) | (simp; omega)))
        rw [show (if la < lb then lb else la) = P from HPP.out.symm, show (if hb < ha then hb else ha) = Q from HQQ.out.symm]
        go_wp2_with (first
          | (go_at_call 251; (with_reducible refine (HWL.out _).mono ?_); rintro e w2 ⟨rfl, hbw2⟩; obtain ⟨hcw2, hfw2⟩ := bcell hbw2; have hzw2_0 : w.heap.size < w2.heap.size := lt_via hbw2 (by first | omega | (simp; done) | (simp; omega)); have hzw2_1 : w.heap.size + 1 < w2.heap.size := lt_via hbw2 (by first | omega | (simp; done) | (simp; omega)); have hzw2_2 : w.heap.size + 2 < w2.heap.size := lt_via hbw2 (by first | omega | (simp; done) | (simp; omega)); have hzw2_3 : w.heap.size + 3 < w2.heap.size := lt_via hbw2 (by first | omega | (simp; done) | (simp; omega)))
          | (go_at_call 251; (with_reducible refine (HWH.out _).mono ?_); rintro e w3 ⟨rfl, hbw3⟩; obtain ⟨hcw3, hfw3⟩ := bcell hbw3; have hzw3_0 : w.heap.size < w3.heap.size := lt_via hbw3 (by first | omega | (simp; done) | (simp; omega)); have hzw3_1 : w.heap.size + 1 < w3.heap.size := lt_via hbw3 (by first | omega | (simp; done) | (simp; omega)); have hzw3_2 : w.heap.size + 2 < w3.heap.size := lt_via hbw3 (by first | omega | (simp; done) | (simp; omega)); have hzw3_3 : w.heap.size + 3 < w3.heap.size := lt_via hbw3 (by first | omega | (simp; done) | (simp; omega))))
        go_roundw
        case rel =>
          refine ⟨k + 1, by omega, by go_num, Lib.hid fun j hj => ?_, ?_, ?_⟩
          · by_cases hjk : j = k
            · subst hjk; rw [← HP.out, ← HQ.out]; omega
            · exact HALL.out j (by omega)
          · rw [HJ.out, HM1.out]
            have h3 := ((((HK.out.via hbwg).via hbw2).set 0 (.int .i64 (S.setc O.lo k P).x)).set 1 (.int .i64 (S.setc O.lo k P).y)).set 2 (.int .i64 (S.setc O.lo k P).z)
            simp only [List.setIfInBounds_toArray, List.set_cons_zero, List.set_cons_succ] at h3
            have h6 := (((h3.via hbw3).set 3 (.int .i64 (S.setc O.hi k Q).x)).set 4 (.int .i64 (S.setc O.hi k Q).y)).set 5 (.int .i64 (S.setc O.hi k Q).z)
            simp only [List.setIfInBounds_toArray, List.set_cons_zero, List.set_cons_succ] at h6
            exact h6
          · exact (((Exc.via hbw3 ((((Exc.via hbw2 (Exc.via hbwg hX)).set (.inl (by simp)) _).set (.inl (by simp)) _).set (.inl (by simp)) _)).set (.inl (by simp)) _).set (.inl (by simp)) _).set (.inl (by simp)) _
        case measure => simp [intOf]; omega
    · have he : k = 3 := by omega
      subst he
      have HB := Lib.hid (HYES.out HALL.out)
      have HMM := Lib.hid (HMT.out _ HB.out)
      generalize S.meetK a b 3 = O at *
      have hgr := hK.lt
      have o0 := hK.cell 0
      have o1 := hK.cell 1
      have o2 := hK.cell 2
      have o3 := hK.cell 3
      have o4 := hK.cell 4
      have o5 := hK.cell 5
      have fo0 := hK.frozen 0
      have fo1 := hK.frozen 1
      have fo2 := hK.frozen 2
      have fo3 := hK.frozen 3
      have fo4 := hK.frozen 4
      have fo5 := hK.frozen 5
      simp only [List.getElem?_toArray, List.getElem?_cons_zero, List.getElem?_cons_succ] at o0 o1 o2 o3 o4 o5
      go_wp2
      exact bodyPost_ret (v := .tuple #[boxV O, .bool true]) (by simp [results, Tryz.results276, go_sem, *]) rfl ⟨by rw [HMM.out, HB.out]; rfl, ((((((hbel.setCell (by simp; omega) _).setCell (by simp; omega) _).setCell (by simp; omega) _).setCell (by simp; omega) _).setCell (by simp; omega) _).setCell (by simp; omega) _)⟩
set_option maxHeartbeats 1000000 in
theorem rcontains_any (a b : Bx) (w : World) (hx : b.lo.x ≤ b.hi.x) (hy : b.lo.y ≤ b.hi.y) (hz : b.lo.z ≤ b.hi.z) :
    Calls Tryz.prog 261 #[boxV a, boxV b] w fun e w' => e = .returned (.bool (S.cont a b)) ∧ Below w.heap.size w w' := by
  have H := Lib.hid (meet_cont a b hx hy hz)
  have HM := Lib.hid (fun w => meet_any a b w)
  clear hx hy hz
  have q := run_eq_box (S.meet a b) b
  generalize S.meet a b = M at *
  generalize S.meets a b = t at *
  unfold boxV at HM q ⊢
  cases t
  all_goals (
    go_enter Tryz.func261, Tryz.ntmps261
    go_wp2_with (go_at_call 276; (with_reducible refine (HM.out _).mono ?_); rintro e w1 ⟨rfl, hbw1⟩; obtain ⟨hcw1, hfw1⟩ := bcell hbw1; have hzw1_0 : w.heap.size < w1.heap.size := lt_via hbw1 (by first | omega | (simp; done) | (simp; omega)); have hzw1_1 : w.heap.size + 1 < w1.heap.size := lt_via hbw1 (by first | omega | (simp; done) | (simp; omega)))
    go_ret
    exact ⟨ret_b (by rw [← H.out]; simp), bel⟩)
set_option maxHeartbeats 4000000 in
theorem bcont_any (a b : Bx) (w : World) :
    Calls Tryz.prog 260 #[boxV a, boxV b] w fun e w' => e = .returned (.bool (S.cont a b)) ∧ Below w.heap.size w w' := by
  have H := Lib.hid (show ∀ t : Bool, (t = true ↔ a.lo.x ≤ b.lo.x ∧ b.hi.x ≤ a.hi.x ∧ a.lo.y ≤ b.lo.y ∧ b.hi.y ≤ a.hi.y ∧ a.lo.z ≤ b.lo.z ∧ b.hi.z ≤ a.hi.z) → t = S.cont a b from fun t ht => by rw [Bool.eq_iff_iff, ht, cont_iff])
  have HXA := Lib.hid (fun w => ends_x a w)
  have HYA := Lib.hid (fun w => ends_y a w)
  have HZA := Lib.hid (fun w => ends_z a w)
  have HXB := Lib.hid (fun w => ends_x b w)
  have HYB := Lib.hid (fun w => ends_y b w)
  have HZB := Lib.hid (fun w => ends_z b w)
  unfold boxV
  go_enter Tryz.func260, Tryz.ntmps260
  go_wp2
  refine wp_loop_rounds 4 ?_
  rw [rounds_succ]
  go_wp2_with (first | (go_at_call 167; (with_reducible refine (HXA.out _).mono ?_); rintro e w1 ⟨rfl, hbw1⟩; obtain ⟨hcw1, hfw1⟩ := bcell hbw1; have hzw1_0 : w.heap.size < w1.heap.size := lt_via hbw1 (by first | omega | (simp; done) | (simp; omega)); have hzw1_1 : w.heap.size + 1 < w1.heap.size := lt_via hbw1 (by first | omega | (simp; done) | (simp; omega))) | (go_at_call 167; (with_reducible refine (HXB.out _).mono ?_); rintro e w2 ⟨rfl, hbw2⟩; obtain ⟨hcw2, hfw2⟩ := bcell hbw2; have hzw2_0 : w.heap.size < w2.heap.size := lt_via hbw2 (by first | omega | (simp; done) | (simp; omega)); have hzw2_1 : w.heap.size + 1 < w2.heap.size := lt_via hbw2 (by first | omega | (simp; done) | (simp; omega))))
  all_goals (try (go_ret; exact ⟨ret_b (H.out _ (by simp only [decide_eq_true_eq, decide_eq_false_iff_not, Bool.false_eq_true, true_iff, false_iff] at *; omega)), bel⟩))
  rw [rounds_succ]
  go_wp2_with (first | (go_at_call 167; (with_reducible refine (HYA.out _).mono ?_); rintro e w3 ⟨rfl, hbw3⟩; obtain ⟨hcw3, hfw3⟩ := bcell hbw3; have hzw3_0 : w.heap.size < w3.heap.size := lt_via hbw3 (by first | omega | (simp; done) | (simp; omega)); have hzw3_1 : w.heap.size + 1 < w3.heap.size := lt_via hbw3 (by first | omega | (simp; done) | (simp; omega))) | (go_at_call 167; (with_reducible refine (HYB.out _).mono ?_); rintro e w4 ⟨rfl, hbw4⟩; obtain ⟨hcw4, hfw4⟩ := bcell hbw4; have hzw4_0 : w.heap.size < w4.heap.size := lt_via hbw4 (by first | omega | (simp; done) | (simp; omega)); have hzw4_1 : w.heap.size + 1 < w4.heap.size := lt_via hbw4 (by first | omega | (simp; done) | (simp; omega))))
  all_goals (try (go_ret; exact ⟨ret_b (H.out _ (by simp only [decide_eq_true_eq, decide_eq_false_iff_not, Bool.false_eq_true, true_iff, false_iff] at *; omega)), bel⟩))
  rw [rounds_succ]
  go_wp2_with (first | (go_at_call 167; (with_reducible refine (HZA.out _).mono ?_); rintro e w5 ⟨rfl, hbw5⟩; obtain ⟨hcw5, hfw5⟩ := bcell hbw5; have hzw5_0 : w.heap.size < w5.heap.size := lt_via hbw5 (by first | omega | (simp; done) | (simp; omega)); have hzw5_1 : w.heap.size + 1 < w5.heap.size := lt_via hbw5 (by first | omega | (simp; done) | (simp; omega))) | (go_at_call 167; (with_reducible refine (HZB.out _).mono ?_); rintro e w6 ⟨rfl, hbw6⟩; obtain ⟨hcw6, hfw6⟩ := bcell hbw6; have hzw6_0 : w.heap.size < w6.heap.size := lt_via hbw6 (by first | omega | (simp; done) | (simp; omega)); have hzw6_1 : w.heap.size + 1 < w6.heap.size := lt_via hbw6 (by first | omega | (simp; done) | (simp; omega))))
  all_goals (try (go_ret; exact ⟨ret_b (H.out _ (by simp only [decide_eq_true_eq, decide_eq_false_iff_not, Bool.false_eq_true, true_iff, false_iff] at *; omega)), bel⟩))
  rw [rounds_succ]
  go_wp2
  (go_ret; exact ⟨ret_b (H.out _ (by simp only [decide_eq_true_eq, decide_eq_false_iff_not, Bool.false_eq_true, true_iff, false_iff] at *; omega)), bel⟩)
theorem bcontains_yes (a b : Bx) (w : World) (ha : S.boxOk a = true) (hb : S.boxOk b = true) :
    Calls Tryz.prog 220 #[boxV a, boxV b] w fun e w' => e = .returned (.tuple #[.bool (S.cont a b), .int .i64 0]) ∧ Below w.heap.size w w' := by
  have HA := Lib.hid (fun w => ha ▸ bvalid_any a w)
  have HB := Lib.hid (fun w => hb ▸ bvalid_any b w)
  have HC := Lib.hid (fun w => bcont_any a b w)
  generalize S.cont a b = t at *
  unfold boxV
  go_enter Tryz.func220, Tryz.ntmps220
  go_wp2_with (first
    | (go_at_call 107; (with_reducible refine (HA.out _).mono ?_); rintro e w1 ⟨rfl, hbw1⟩; obtain ⟨hcw1, hfw1⟩ := bcell hbw1; have hzw1_0 : w.heap.size < w1.heap.size := lt_via hbw1 (by first | omega | (simp; done) | (simp; omega)); have hzw1_1 : w.heap.size + 1 < w1.heap.size := lt_via hbw1 (by first | omega | (simp; done) | (simp; omega)))
    | (go_at_call 107; (with_reducible refine (HB.out _).mono ?_); rintro e w2 ⟨rfl, hbw2⟩; obtain ⟨hcw2, hfw2⟩ := bcell hbw2; have hzw2_0 : w.heap.size < w2.heap.size := lt_via hbw2 (by first | omega | (simp; done) | (simp; omega)); have hzw2_1 : w.heap.size + 1 < w2.heap.size := lt_via hbw2 (by first | omega | (simp; done) | (simp; omega)))
    | (go_at_call 260; (with_reducible refine (HC.out _).mono ?_); rintro e w3 ⟨rfl, hbw3⟩; obtain ⟨hcw3, hfw3⟩ := bcell hbw3; have hzw3_0 : w.heap.size < w3.heap.size := lt_via hbw3 (by first | omega | (simp; done) | (simp; omega)); have hzw3_1 : w.heap.size + 1 < w3.heap.size := lt_via hbw3 (by first | omega | (simp; done) | (simp; omega))))
  go_ret2
  exact ⟨rfl, bel⟩
end Go.Proofs.YtffkmgjmlahfpaaGreat
namespace Go.Proofs.YtffkmgjmlahfpaaGreat
open Go.RowKit
def S.poor (xs : List Bx) (leg : Bx) : Bool := decide (250 < leg.lo.z - (S.hull (xs.headD ⟨⟨0, 0, 0⟩, ⟨0, 0, 0⟩⟩) xs).lo.z)
theorem hull_lo_in (a : Bx) (l : List Bx) (h0 : -1048576 ≤ a.lo.z ∧ a.lo.z ≤ 1048576) (h : ∀ b, b ∈ l → -1048576 ≤ b.lo.z ∧ b.lo.z ≤ 1048576) : -1048576 ≤ (S.hull a l).lo.z ∧ (S.hull a l).lo.z ≤ 1048576 := by
  induction l generalizing a with
  | nil => exact h0
  | cons x l ih =>
    have e : S.hull a (x :: l) = S.hull (S.join a x) l := rfl
    rw [e]
    refine ih _ ?_ (fun b hb => h b (List.mem_cons_of_mem _ hb))
    have hx := h x List.mem_cons_self
    simp only [S.join]
    split <;> omega
theorem boxOk_z {b : Bx} (h : S.boxOk b = true) : -1048576 ≤ b.lo.z ∧ b.lo.z ≤ b.hi.z ∧ b.hi.z ≤ 1048576 := by
  simp only [S.boxOk, S.okAx, Bool.and_eq_true, decide_eq_true_eq] at h
  omega
theorem boxes_ok {xs : List Bx} (h : anyb xs S.boxNot = false) : ∀ b, b ∈ xs → S.boxOk b = true := by
  intro b hb
  unfold anyb at h
  rw [List.any_eq_false] at h
  have := h b hb
  simpa [S.boxNot] using this
theorem poor_yes (m : Mem) (leg : Bx) (A : Option Addr) (n c : Nat) (A' : Option Addr) (n' c' : Nat) (B : Nat) (w : World) (hB : B ≤ w.heap.size) (hA : SolAt w B A n A' n' m.boxes m.holes) (h : S.solid m.boxes m.holes = true) (hl : S.boxOk leg = true) :
    Calls Tryz.prog 125 #[memV m A n c A' n' c', boxV leg] w fun e w' => e = .returned (.bool (S.poor m.boxes leg)) ∧ Below w.heap.size w w' := by
  have HA := Lib.hid hA
  obtain ⟨hok, hlen⟩ := solid_ok h
  have h0 : m.boxes[0]? = some (m.boxes.headD ⟨⟨0, 0, 0⟩, ⟨0, 0, 0⟩⟩) := by
    cases hb : m.boxes with
    | nil => rw [hb] at hlen; simp at hlen
    | cons x l => rfl
  have hz := boxOk_z hl
  have hin := hull_lo_in (m.boxes.headD ⟨⟨0, 0, 0⟩, ⟨0, 0, 0⟩⟩) m.boxes (by have := boxOk_z (boxes_ok hok _ (List.mem_of_getElem? h0)); omega) (fun b hb => by have := boxOk_z (boxes_ok hok b hb); omega)
  have HP := Lib.hid (show S.poor m.boxes leg = decide (250 < leg.lo.z - (S.hull (m.boxes.headD ⟨⟨0, 0, 0⟩, ⟨0, 0, 0⟩⟩) m.boxes).lo.z) from rfl)
  have HH := Lib.hid (fun (W : World) (hw : B ≤ W.heap.size) (hh : SolAt W B A n A' n' m.boxes m.holes) => shull_yes A n c A' n' c' m.boxes m.holes _ B W hw hh h h0 hok)
  clear hA
  generalize S.hull (m.boxes.headD ⟨⟨0, 0, 0⟩, ⟨0, 0, 0⟩⟩) m.boxes = X at *
  have e1 : IntKind.i64.wrap (leg.lo.z - X.lo.z) = leg.lo.z - X.lo.z := IntWalk.i64_in _ (by omega)
  unfold memV boxV
  go_enter Tryz.func125, Tryz.ntmps125
  go_wp2_with (go_at_call 191; (with_reducible refine (HH.out _ (size_via hB bel) (SolAt.at_ HA.out hB bel)).mono ?_); rintro e w1 ⟨rfl, hbw1⟩; obtain ⟨hcw1, hfw1⟩ := bcell hbw1; have hzw1_0 : w.heap.size < w1.heap.size := lt_via hbw1 (by first | omega | (simp; done) | (simp; omega)); have hzw1_1 : w.heap.size + 1 < w1.heap.size := lt_via hbw1 (by first | omega | (simp; done) | (simp; omega)))
  go_ret
  exact ⟨ret_b HP.out.symm, bel⟩
end Go.Proofs.YtffkmgjmlahfpaaGreat
namespace Go.Proofs.YtffkmgjmlahfpaaGreat
open Go.RowKit
theorem anyb_not {α : Type} {xs : List α} {p : α → Bool} (h : ∀ j (hj : j < xs.length), p xs[j] = false) : anyb xs p = false := by
  unfold anyb
  rw [List.any_eq_false]
  intro x hx
  obtain ⟨j, hj, rfl⟩ := List.mem_iff_getElem.1 hx
  simp [h j hj]
end Go.Proofs.YtffkmgjmlahfpaaGreat
namespace Go.Proofs.YtffkmgjmlahfpaaGreat
open Go.RowKit
theorem size_cases {d : Int} (h : S.size d = true) : d = 6 ∨ d = 8 ∨ d = 10 ∨ d = 12 ∨ d = 16 ∨ d = 20 ∨ d = 25 ∨ d = 32 ∨ d = 40 := by
  simpa [S.size, S.has, S.sizes] using h
theorem boxOk_x {b : Bx} (h : S.boxOk b = true) : -1048576 ≤ b.lo.x ∧ b.lo.x ≤ b.hi.x ∧ b.hi.x ≤ 1048576 := by
  simp only [S.boxOk, S.okAx, Bool.and_eq_true, decide_eq_true_eq] at h
  omega
end Go.Proofs.YtffkmgjmlahfpaaGreat
namespace Go.Proofs.YtffkmgjmlahfpaaGreat
open Go.RowKit
theorem length_bd {r : Rule} {d : Int} (hr : RuleOk r) (hd : 0 ≤ d) (hd' : d ≤ 40) (p b : Bool) : 0 ≤ S.length r d p b ∧ S.length r d p b ≤ 40000000000 := by
  have h1 := basic_bd hr hd hd'
  have h2 := poorUp_bd hr p h1.1 h1.2
  have h3 := bentUp_bd hr b h2.1 h2.2
  have h4 := hr.least
  unfold S.length S.atLeast
  split <;> omega
end Go.Proofs.YtffkmgjmlahfpaaGreat
namespace Go.Proofs.YtffkmgjmlahfpaaGreat
open Go.RowKit
section
variable {P : Program} {ops : Array Oper} {md : Region.Mode} {w0 : World}
def Gw (w w' : World) : Prop := Below w.heap.size w w'
theorem Gw.refl (w : World) : Gw w w := Below.refl _ _
theorem Gw.trans {w w' w'' : World} (h : Gw w w') (h' : Gw w' w'') : Gw w w'' := ba_via h' h
abbrev Cg (w0 w' : World) : Prop := ∃ g, w' = grow w0 g
theorem cg_iff {w' : World} : Cg w0 w' ↔ Gw w0 w' := by
  constructor
  · rintro ⟨g, rfl⟩; exact grow_below w0 g
  · intro h; exact ⟨w', (grow_eq h).symm⟩
theorem wpOp_slot {i : Nat} {oi oj : Oper} {v : Value} (hi : ops[i]? = some oi) (hap : oi.apart ops oj = true) (hsi : ∀ cs b, oi.op ≠ .select cs b) {K K' : Act → World → Prop} {a : Act} {w : World}
    (hK : ∀ a' w', K a' w' → K' (a'.put oj.dst v) w') (h : wpOp P ops stopPost i K a w) : wpOp P ops stopPost i K' (a.put oj.dst v) w := by
  obtain ⟨h3, h2, h1⟩ := Oper.apart_spec hap
  have h2' : ∀ d, oj.dst = some d → oi.dst ≠ some d := fun d hd he => h2 d he hd
  unfold wpOp at *
  simp only [hi] at *
  rw [wanted_put oi a oj.dst v h1]
  split
  · rename_i hw
    simp only [hw, if_true] at h
    rcases h with h | ⟨hasks, hlets⟩
    case inr => exact (lets_stop hlets).elim
    refine .inl ?_
    unfold Oper.wp at *
    rw [execOp_put oi hsi a oj.dst v h1]
    generalize (execOp a.eval oi).run P w = r at *
    cases r with
    | ok n w' =>
      cases n <;> simp only [Oper.upon] at h ⊢
      case value u => rw [Act.put_comm a v u h2']; exact hK _ _ h
      case skip => rw [Act.put_comm a v undef h2']; exact hK _ _ h
      case defer d =>
        have := hK _ _ h
        rw [← Act.put_comm _ v undef h2', ← Act.put_defers] at this
        exact this
      case enter f args =>
        refine Calls.mono h fun e w'' he => ?_
        cases e with
        | returned u =>
          simp only [] at he ⊢
          rw [Act.put_comm a v u h2']; exact hK _ _ he
        | panicked c => exact he
        | outgrown => exact he
      case row row args => exact Rows.mono h fun u w'' he => by rw [Act.put_comm a v u h2']; exact hK _ _ he
    | halt x w' =>
      cases x <;> simp only [Oper.upon] at h ⊢
      case panic u => exact h
  · rename_i hw
    simp only [hw] at h
    rw [Act.put_comm a v undef h2']
    exact hK _ _ h
def wpFr (P : Program) (ops : Array Oper) (w0 : World) (ks : Nat → Bool) (K : Act → World → Prop) (listed : Array Bool) : List Nat → Act → World → Prop
  | [], a, w => K a w
  | i :: R, a, w => if listed.getD i false = true then wpFr P ops w0 ks K listed R a w
    else if ks i = true then ∀ w', Cg w0 w' → Gw w w' → wpOp P ops stopPost i (fun a' w'' => Gw w' w'' ∧ wpFr P ops w0 ks K listed R a' w'') a w'
    else qOp P ops (Cg w0) i (fun a' => wpFr P ops w0 ks K listed R a' w) a
theorem wpFr_congr {ks : Nat → Bool} {K : Act → World → Prop} {l1 l2 : Array Bool} : ∀ {R : List Nat}, (∀ i, i ∈ R → l1.getD i false = l2.getD i false) → wpFr P ops w0 ks K l1 R = wpFr P ops w0 ks K l2 R := by
  intro R
  induction R with
  | nil => intro _; rfl
  | cons i R ih =>
    intro h
    have e := ih (fun i hi => h i (List.mem_cons_of_mem _ hi))
    funext a w
    simp only [wpFr, e, h i List.mem_cons_self]
theorem wpFr_weak {ks : Nat → Bool} {K : Act → World → Prop} {listed : Array Bool} (hK : ∀ a w w', K a w → Gw w w' → K a w') : ∀ {R : List Nat} {a : Act} {w w' : World}, wpFr P ops w0 ks K listed R a w → Gw w w' → wpFr P ops w0 ks K listed R a w' := by
  intro R
  induction R with
  | nil => intro a w w' h hg; exact hK a w w' h hg
  | cons i R ih =>
    intro a w w' h hg
    simp only [wpFr] at h ⊢
    split
    · rename_i hl; rw [if_pos hl] at h; exact ih h hg
    · rename_i hl
      rw [if_neg hl] at h
      split
      · rename_i hk; rw [if_pos hk] at h
        exact fun w'' hc hg' => h w'' hc (hg.trans hg')
      · rename_i hk; rw [if_neg hk] at h
        exact qOp_mono (fun a' h' => ih h' hg) h
theorem wpFr_slot {ks : Nat → Bool} {K K' : Act → World → Prop} {listed : Array Bool} {oj : Oper} {v : Value} (hsel : ∀ (j : Nat) (o : Oper) cs b, ops[j]? = some o → o.op ≠ .select cs b) (hK : ∀ a w, K a w → K' (a.put oj.dst v) w) :
    ∀ {R : List Nat}, (∀ i, i ∈ R → ∃ oi, ops[i]? = some oi ∧ oi.apart ops oj = true) → ∀ {a : Act} {w : World}, wpFr P ops w0 ks K listed R a w → wpFr P ops w0 ks K' listed R (a.put oj.dst v) w := by
  intro R
  induction R with
  | nil => intro _ a w h; exact hK a w h
  | cons i R ih =>
    intro hR a w h
    have ih' := fun {a : Act} {w : World} => ih (fun k hk => hR k (List.mem_cons_of_mem _ hk)) (a := a) (w := w)
    obtain ⟨oi, hoi, hap⟩ := hR i List.mem_cons_self
    simp only [wpFr] at h ⊢
    split
    · rename_i hl; rw [if_pos hl] at h; exact ih' h
    · rename_i hl
      rw [if_neg hl] at h
      split
      · rename_i hk; rw [if_pos hk] at h
        exact fun w' hc hg => wpOp_slot hoi hap (fun cs b => hsel i oi cs b hoi) (fun a' w'' hh => ⟨hh.1, ih' hh.2⟩) (h w' hc hg)
      · rename_i hk; rw [if_neg hk] at h
        obtain ⟨u, hy, hn⟩ := yieldsIn_of_qOp hoi h
        obtain ⟨h3, h2, h1⟩ := Oper.apart_spec hap
        have h2' : ∀ d, oj.dst = some d → oi.dst ≠ some d := fun d hd he => h2 d he hd
        have hy' : YieldsIn P ops (Cg w0) oi u (a.put oj.dst v) := hy.of_same (execOp_put oi (fun cs b => hsel i oi cs b hoi) a oj.dst v h1) (wanted_put oi a oj.dst v h1)
        refine hy'.qOp hoi ?_
        rw [Act.put_comm a v u h2']
        exact ih' hn
theorem pullF {ks : Nat → Bool} {K : Act → World → Prop} (hsel : ∀ (j : Nat) (o : Oper) cs b, ops[j]? = some o → o.op ≠ .select cs b) (hcalm : ∀ i o, ops[i]? = some o → ks i = false → calmB o = true)
    {listed : Array Bool} {j : Nat} {oj : Oper} (hj : ops[j]? = some oj) (hjl : listed.getD j false = false) (hjs : j < listed.size) :
    ∀ R : List Nat, R.Pairwise (· < ·) → j ∈ R → (∀ i, i ∈ R → i < j → listed.getD i false = false → (ks j = false ∨ ks j = true) → ∃ oi, ops[i]? = some oi ∧ oi.apart ops oj = true) → (ks j = true → ∀ i, i ∈ R → i < j → listed.getD i false = false → ks i = false) →
    ∀ (a : Act) (w : World), Cg w0 w → wpFr P ops w0 ks K listed R a w → if ks j = true then ∀ w', Cg w0 w' → Gw w w' → wpOp P ops stopPost j (fun a' w'' => Gw w' w'' ∧ wpFr P ops w0 ks K (listed.setIfInBounds j true) R a' w'') a w' else qOp P ops (Cg w0) j (fun a' => wpFr P ops w0 ks K (listed.setIfInBounds j true) R a' w) a := by
  intro R
  induction R with
  | nil => intro _ h; cases h
  | cons i R ih =>
    intro hp hm hap hch a w hC h
    have hjt : (listed.setIfInBounds j true).getD j false = true := by simp [Array.getD_eq_getD_getElem?, hjs]
    obtain ⟨hlt, hpR⟩ := List.pairwise_cons.1 hp
    by_cases hij : i = j
    · subst hij
      have hni : i ∉ R := fun hi => absurd (hlt i hi) (Nat.lt_irrefl _)
      have e : wpFr P ops w0 ks K (listed.setIfInBounds i true) (i :: R) = wpFr P ops w0 ks K listed R := by
        funext a w
        simp only [wpFr, hjt, if_true]
        rw [wpFr_congr (fun k hk => getD_set_ne false (fun (e : i = k) => hni (by rw [e]; exact hk)))]
      rw [e]
      simp only [wpFr, hjl, Bool.false_eq_true, if_false] at h
      exact h
    · have hjR : j ∈ R := by
        rcases List.mem_cons.1 hm with h1 | h1
        · exact absurd h1.symm hij
        · exact h1
      have hi_lt := hlt j hjR
      have ih' := ih hpR hjR (fun k hk => hap k (List.mem_cons_of_mem _ hk)) (fun h k hk => hch h k (List.mem_cons_of_mem _ hk))
      have hset : (listed.setIfInBounds j true).getD i false = listed.getD i false := getD_set_ne false (fun e => hij e.symm)
      by_cases hl : listed.getD i false = true
      · simp only [wpFr, hset, hl, if_true] at h ⊢
        exact ih' a w hC h
      · have hl' : listed.getD i false = false := by simpa using hl
        obtain ⟨oi, hoi, hapi⟩ := hap i List.mem_cons_self hi_lt hl' (by cases ks j <;> simp)
        simp only [wpFr, hset, hl', Bool.false_eq_true, if_false] at h ⊢
        by_cases hk : ks i = true
        · have hkj : ks j = false := by
            cases hkj : ks j with
            | false => rfl
            | true =>
              have := hch hkj i List.mem_cons_self hi_lt hl'
              rw [hk] at this
              cases this
          simp only [hkj, Bool.false_eq_true, if_false] at ih' ⊢
          rw [if_pos hk] at h
          obtain ⟨a0, u, w1, ⟨hG1, h1⟩, ha0⟩ := wpOp_some hoi (h w hC (Gw.refl w))
          obtain ⟨v, hy, _⟩ := yieldsIn_of_qOp hj (ih' _ _ (cg_iff.2 ((cg_iff.1 hC).trans hG1)) h1)
          obtain ⟨g1, g2, g3⟩ := Oper.apart_spec hapi
          have hy0 : YieldsIn P ops (Cg w0) oj v a0 := hy.of_same (execOp_put oj (fun cs b => hsel j oj cs b hj) a0 oi.dst u g1).symm (wanted_put oj a0 oi.dst u g1).symm
          have hya : YieldsIn P ops (Cg w0) oj v a := by
            rcases ha0 with rfl | ⟨d, rfl⟩
            · exact hy0
            · exact hy0.of_same rfl rfl
          refine hya.qOp hj ?_
          rw [if_pos hk]
          intro w' hC' hG'
          refine wpOp_back hoi hapi (fun cs b => hsel i oi cs b hoi) (fun cs b => hsel j oj cs b hj) hya (fun a' w'' hy' hh => ⟨hh.1, ?_⟩) (h w' hC' hG')
          have hC'' : Cg w0 w'' := cg_iff.2 ((cg_iff.1 hC').trans hh.1)
          obtain ⟨v', hv', hn⟩ := yieldsIn_of_qOp hj (ih' _ _ hC'' hh.2)
          rw [yields_one (hcalm j oj hj hkj) hC'' hy' hv']
          exact hn
        · have hk' : ks i = false := by simpa using hk
          simp only [hk', Bool.false_eq_true, if_false] at h ⊢
          obtain ⟨v, hy, hn⟩ := yieldsIn_of_qOp hoi h
          have h2 := ih' _ _ hC hn
          by_cases hkj : ks j = true
          · rw [if_pos hkj] at h2 ⊢
            intro w' hC' hG'
            refine wpOp_mono ?_ (wpOp_putC hj hapi (fun cs b => hsel i oi cs b hoi) (fun cs b => hsel j oj cs b hj) hy (h2 w' hC' hG'))
            rintro a' w'' ⟨hy', hg', hm'⟩
            exact ⟨hg', hy'.qOp hoi hm'⟩
          · rw [if_neg hkj] at h2 ⊢
            refine qOp_mono ?_ (qOp_put hj hapi (fun cs b => hsel i oi cs b hoi) (fun cs b => hsel j oj cs b hj) hy h2)
            rintro a' ⟨hy', hm'⟩
            exact hy'.qOp hoi hm'
def pureB (o : Oper) : Bool := match o.op with | .move _ | .assign _ | .extract _ _ => true | _ => false
theorem extract_any {v u : Value} {ix : Nat} {w w' : World} (h : (Instr.extract v ix).run P w = .ok u w') (W : World) : (Instr.extract v ix).run P W = .ok u W := by
  unfold Instr.extract at h ⊢
  split at h
  · split at h
    · simp only [Sem.run_pure, Result.ok.injEq] at h ⊢
      first | exact ⟨h.1, trivial⟩ | exact h.1
    · cases h
  · cases h
theorem pure_any {o : Oper} (hp : pureB o = true) {a : Act} {v : Value} {w w' : World} (h : (execOp a.eval o).run P w = .ok (.value v) w') (W : World) : (execOp a.eval o).run P W = .ok (.value v) W := by
  unfold pureB at hp
  unfold execOp at h ⊢
  split at hp
  all_goals (first | (rename_i ho; rw [ho] at h ⊢) | cases hp)
  · simp only [Sem.run_pure, Result.ok.injEq] at h ⊢
    exact ⟨h.1, trivial⟩
  · simp only [Sem.run_pure, Result.ok.injEq] at h ⊢
    exact ⟨h.1, trivial⟩
  · rw [Sem.run_bind] at h ⊢
    generalize hr : Instr.extract _ _ = I at h ⊢
    cases hx : I.run P w with
    | halt x w1 => rw [hx] at h; cases h
    | ok u w1 =>
      subst hr
      rw [hx] at h
      rw [extract_any hx W]
      have h' : Result.ok (Next.value u) w1 = Result.ok (Next.value v) w' := h
      injection h' with h1 h2
      injection h1 with h3
      subst h3
      rfl
theorem pure_yields {o : Oper} (hp : pureB o = true) (hc : calmB o = true) {a : Act} {v : Value} {w : World} (hw : Cg w0 w) (h : YieldsIn P ops (Cg w0) o v a) : Yields P ops o v a := by
  rcases h with ⟨h1, h2⟩ | ⟨h1, h2⟩
  · exact .inl ⟨h1, fun W => pure_any hp (calm_at hc (h2 w hw)) W⟩
  · exact .inr ⟨h1, h2⟩
theorem apart_comm {x y : Oper} (h : x.apart ops y = true) : y.apart ops x = true := by
  obtain ⟨h1, h2, h3⟩ := Oper.apart_spec h
  unfold Oper.apart
  rw [Bool.and_eq_true]
  constructor
  · cases hy : y.dst with
    | none => rfl
    | some d =>
      have a1 := h3 d hy
      have a2 : x.dst ≠ some d := fun e => h2 d e hy
      simp [a1, a2]
  · cases hx : x.dst with
    | none => rfl
    | some d =>
      have a1 := h1 d hx
      simp [a1]
def sinkLB (md : Region.Mode) (ops : Array Oper) (n : Nat) (ls : List Nat) : Bool :=
  (List.range n).all fun i => ls.contains i || (List.range (n + 1)).any fun j => decide (i < j) && !ls.contains j && Region.waitsFor md ops j i
theorem tail_waitsL {n : Nat} {ls : List Nat} {listed : Array Bool} (hs : sinkLB md ops n ls = true) (hc : Region.chainB md ops n = true) (hn : n < ops.size) (inv : HeadInv md ops n listed) :
    ∀ (d i : Nat), n - i = d → ls.contains i = false → i < n → listed.getD i true = false → ∀ t, n ≤ t → t ∉ Region.ready md ops listed := by
  intro d
  induction d using Nat.strongRecOn with
  | _ d ih =>
    intro i hd hli hi hun t ht hr
    obtain ⟨_, ot, hot, hall⟩ := mem_ready.1 hr
    have htlt : t < ops.size := (Array.getElem?_eq_some_iff.1 hot).1
    by_cases htn : t = n
    · subst htn
      have h1 := List.all_eq_true.1 hs i (List.mem_range.2 hi)
      rw [hli, Bool.false_or] at h1
      obtain ⟨j, hj, hj2⟩ := List.any_eq_true.1 h1
      simp only [Bool.and_eq_true, decide_eq_true_eq, Bool.not_eq_true'] at hj2
      obtain ⟨oj, hoj, e, he, hb, hon⟩ := Region.waitsFor_spec hj2.2
      have hjle : j ≤ t := by have := List.mem_range.1 hj; omega
      by_cases hjt : j = t
      · subst hjt
        have : oj = ot := Option.some.inj (hoj.symm.trans hot)
        subst this
        have h2 := hall e he hb
        rw [hon, getD_both hun] at h2
        cases h2
      · cases hl : listed.getD j false with
        | true =>
          have h2 := inv.closed j oj hoj hl e he hb
          rw [hon, getD_both hun] at h2
          cases h2
        | false =>
          have hjs : j < listed.size := by rw [inv.size]; omega
          exact ih (t - j) (by omega) j rfl hj2.1.2 (by omega) (getD_in hjs hl) t (Nat.le_refl _) hr
    · have h1 := List.all_eq_true.1 hc t (List.mem_range.2 htlt)
      simp only [Bool.or_eq_true, decide_eq_true_eq] at h1
      rcases h1 with h1 | h1
      · omega
      · obtain ⟨o', ho', e, he, hb, hon⟩ := Region.waitsFor_spec h1
        have : o' = ot := Option.some.inj (ho'.symm.trans hot)
        subst this
        have h2 := hall e he hb
        rw [hon, getD_both (inv.tail (t - 1) (by omega) (by omega))] at h2
        cases h2
def mixFB (md : Region.Mode) (ops : Array Oper) (t f : Nat) (l ls : List Nat) : Bool :=
  ls.all (fun i => decide (i < f) && !l.contains i && (match ops[i]? with | some o => pureB o | none => false)) && Region.noSelect ops && decide (t < ops.size) && sinkLB md ops t ls && Region.chainB md ops t && apartAllB md ops && earlyB md ops.toList && linksB md ops l && (List.range f).all (fun i => l.contains i || (match ops[i]? with | some o => calmB o | none => true)) && Region.seqB md ops (ops.size - t) t (canonL t ops.size) && decide (t = f + 1) && (List.range f).all (fun i => !Region.waitsFor md ops f i)
def FrK (P : Program) (ops : Array Oper) (w0 : World) (Q : Exit → Act → World → Prop) (t : Nat) (of : Oper) (T : TypeId) (zs : Array Value) : Act → World → Prop := fun a w =>
  ∀ b w', Cg w0 w' → Gw w w' → w0.heap.size ≤ b → Blk w' b T zs → wpList P ops Q (ops.toList.drop t) (a.put of.dst (.pointer (some ⟨b, 0, none⟩))) w'
def FrB (P : Program) (ops : Array Oper) (w0 : World) (Q : Exit → Act → World → Prop) (t : Nat) (b : Nat) (T : TypeId) (zs : Array Value) : Act → World → Prop := fun a w =>
  ∀ w', Cg w0 w' → Gw w w' → Blk w' b T zs → wpList P ops Q (ops.toList.drop t) a w'
theorem mixF_any {Q : Exit → Act → World → Prop} {t f : Nat} {l ls : List Nat} {of : Oper} {T : TypeId} {zs : Array Value} (hQ : ∀ c a d v w, Q (.panic c) (Act.put a d v) w → Q (.panic c) a w) (hB : mixFB md ops t f l ls = true) (hof : ops[f]? = some of) (hg : of.guard = none)
    (hfr : ∀ (a : Act) (w : World), (execOp a.eval of).run P w = .ok (.value (.pointer (some ⟨w.heap.size, 0, none⟩))) (w.alloc (.cells zs T))) :
    ∀ (n : Nat) (listed : Array Bool) (a : Act) (w : World), listed.toList.count false = n → HeadInv md ops t listed → Cg w0 w →
      ((listed.getD f false = false ∧ wpFr P ops w0 (fun i => l.contains i || decide (f ≤ i)) (FrK P ops w0 Q t of T zs) listed (List.range f) a w) ∨
       (∃ b, listed.getD f false = true ∧ w0.heap.size ≤ b ∧ Blk w b T zs ∧ wpFr P ops w0 (fun i => l.contains i || decide (f ≤ i)) (FrB P ops w0 Q t b T zs) listed (List.range f) a w)) → wpAny P md ops Q n listed a w := by
  simp only [mixFB, Bool.and_eq_true, decide_eq_true_eq] at hB
  obtain ⟨⟨⟨⟨⟨⟨⟨⟨⟨⟨⟨hloo, hsel⟩, hn⟩, hs⟩, hc⟩, hap⟩, hear⟩, hl⟩, hcm⟩, hseq⟩, htf⟩, hfd⟩ := hB
  have hsel' := Region.noSelect_spec hsel
  have hcalm : ∀ i o, ops[i]? = some o → (l.contains i || decide (f ≤ i)) = false → calmB o = true := fun i o ho hk => by
    rw [Bool.or_eq_false_iff, decide_eq_false_iff_not] at hk
    rw [List.all_eq_true] at hcm
    have := hcm i (List.mem_range.2 (by omega))
    rw [hk.1, ho] at this
    simpa using this
  have hwf : ∀ i, i < f → Region.waitsFor md ops f i = false := fun i hi => by
    rw [List.all_eq_true] at hfd
    simpa using hfd i (List.mem_range.2 hi)
  have hKw : ∀ a w w', FrK P ops w0 Q t of T zs a w → Gw w w' → FrK P ops w0 Q t of T zs a w' := fun a w w' h hg b w'' hc' hg' => h b w'' hc' (hg.trans hg')
  have hBw : ∀ b a w w', FrB P ops w0 Q t b T zs a w → Gw w w' → FrB P ops w0 Q t b T zs a w' := fun b a w w' h hg w'' hc' hg' => h w'' hc' (hg.trans hg')
  intro n
  induction n with
  | zero =>
    intro listed a w hf inv hC h
    exfalso
    have h1 := inv.tail t (Nat.le_refl _) hn
    have h2 : t < listed.size := by rw [inv.size]; exact hn
    have h3 : listed[t] = false := by simpa [Array.getD_eq_getD_getElem?, h2] using h1
    have h4 : false ∈ listed.toList := by rw [← h3]; simp
    have := List.count_pos_iff.2 h4
    omega
  | succ n ih =>
    intro listed a w hf inv hC h
    by_cases hall : ∀ i, i < t → listed.getD i false = true
    · have hcan : listed = canonL t ops.size := by
        apply Array.ext
        · rw [inv.size]; simp [canonL]; omega
        · intro i h1 h2
          by_cases hi : i < t
          · have := hall i hi
            have e : listed[i] = true := by simpa [Array.getD_eq_getD_getElem?, h1] using this
            rw [e]
            simp [canonL, hi, List.getElem_append]
          · have := inv.tail i (by omega) (by rw [← inv.size]; exact h1)
            have e : listed[i] = false := by simpa [Array.getD_eq_getD_getElem?, h1] using this
            rw [e]
            simp [canonL, hi, List.getElem_append]
      have hK : wpList P ops Q (ops.toList.drop t) a w := by
        rcases h with ⟨h1, _⟩ | ⟨b, _, hb0, hbk, h⟩
        · rw [hall f (by omega)] at h1; cases h1
        · have : ∀ R : List Nat, (∀ i, i ∈ R → i < t) → wpFr P ops w0 (fun i => l.contains i || decide (f ≤ i)) (FrB P ops w0 Q t b T zs) listed R a w → FrB P ops w0 Q t b T zs a w := by
            intro R
            induction R with
            | nil => intro _ h; exact h
            | cons i R ihR =>
              intro hR h
              simp only [wpFr, hall i (hR i List.mem_cons_self), if_true] at h
              exact ihR (fun k hk => hR k (List.mem_cons_of_mem _ hk)) h
          exact this _ (fun i hi => by have := List.mem_range.1 hi; omega) h w hC (Gw.refl w) hbk
      have hlen : (ops.toList.drop t).length = n + 1 := by
        rw [← hf, hcan]
        simp [canonL, List.count_append, List.count_replicate]
      have hdl : (ops.toList.drop t).length = ops.size - t := by simp
      have := wpAny_of_seq (P := P) (md := md) (Q' := Q) (ops.toList.drop t) t listed a w (fun j => by simp [List.getElem?_drop]) (by rw [hdl, hcan]; exact hseq) hK
      rwa [hlen] at this
    · have hex : ∃ i, i < t ∧ listed.getD i false = false := by
        apply Classical.byContradiction
        intro hno
        refine hall fun i hi => ?_
        cases hg : listed.getD i false with
        | true => rfl
        | false => exact (hno ⟨i, hi, hg⟩).elim
      obtain ⟨i0, hi0, hg0⟩ := hex
      have hun0 : listed.getD i0 true = false := getD_in (by rw [inv.size]; omega) hg0
      by_cases hlr : ∃ p, ls.contains p = true ∧ p ∈ Region.ready md ops listed
      · obtain ⟨p, hpl, hpr⟩ := hlr
        rw [List.all_eq_true] at hloo
        have hp1 := hloo p (by simpa using hpl)
        simp only [Bool.and_eq_true, decide_eq_true_eq, Bool.not_eq_true'] at hp1
        obtain ⟨⟨hpf, hpnl⟩, hpp⟩ := hp1
        obtain ⟨hpun, op, hop, hpdep⟩ := mem_ready.1 hpr
        rw [hop] at hpp
        have hps : p < listed.size := by rw [inv.size]; omega
        have hpun' : listed.getD p false = false := getD_both hpun
        have hkp : (l.contains p || decide (f ≤ p)) = false := by rw [hpnl]; simp; omega
        have hwtp : ∀ i, listed.getD i false = false → Region.waitsFor md ops p i = false := fun i hi => by
          cases hw : Region.waitsFor md ops p i with
          | false => rfl
          | true =>
            obtain ⟨o', ho', e, he, hb, hon⟩ := Region.waitsFor_spec hw
            obtain rfl : o' = op := Option.some.inj (ho'.symm.trans hop)
            have := hpdep e he hb
            rw [hon, hi] at this
            cases this
        have hfirst := fun (v : Value) => wpAny_first (P := P) (md := md) (Q := Q) (v := v) hop hsel' (fun c a w h => hQ c a _ _ w h) n listed a w (fun j oj hoj hne hun hno => by
          have hjf := getD_both hun
          rcases Nat.lt_or_gt_of_ne hne with hlt | hlt
          · exact apart_comm (apartAll_out hap hlt hoj hop (hwtp j hjf))
          · refine apartAll_out hap hlt hop hoj ?_
            cases hw : Region.waitsFor md ops j p with
            | false => rfl
            | true =>
              obtain ⟨o', ho', e, he, hb, hon⟩ := Region.waitsFor_spec hw
              obtain rfl : o' = oj := Option.some.inj (ho'.symm.trans hoj)
              exact absurd hon (hno e he hb)) hpr
        have hcs : (listed.setIfInBounds p true).toList.count false = n := by
          have h3 : listed[p] = false := by simpa [Array.getD_eq_getD_getElem?, hps] using hpun
          have := cnt_set listed.toList p (by simp [hps, h3])
          rw [Array.toList_setIfInBounds]
          omega
        have hfs : (listed.setIfInBounds p true).getD f false = listed.getD f false := getD_set_ne false (by omega)
        have key : ∀ (K : Act → World → Prop), wpFr P ops w0 (fun i => l.contains i || decide (f ≤ i)) K listed (List.range f) a w → ∃ v, Yields P ops op v a ∧ wpFr P ops w0 (fun i => l.contains i || decide (f ≤ i)) K (listed.setIfInBounds p true) (List.range f) (a.put op.dst v) w := by
          intro K hK
          have hp := pullF (P := P) (ops := ops) (w0 := w0) (ks := fun i => l.contains i || decide (f ≤ i)) (K := K) hsel' hcalm hop hpun' hps (List.range f) List.pairwise_lt_range (List.mem_range.2 hpf)
            (fun i hi hij hil _ => by
              have his : i < ops.size := by omega
              exact ⟨ops[i], by simp [his], apartAll_out hap hij (by simp [his]) hop (hwtp i hil)⟩)
            (fun hk => by rw [hkp] at hk; cases hk) a w hC hK
          rw [if_neg (by rw [hkp]; decide)] at hp
          obtain ⟨v, hy, hn'⟩ := yieldsIn_of_qOp hop hp
          exact ⟨v, pure_yields hpp (hcalm p op hop hkp) hC hy, hn'⟩
        rcases h with ⟨h1, h⟩ | ⟨b, h1, hb0, hbk, h⟩
        · obtain ⟨v, hy, hh⟩ := key _ h
          exact hfirst v hy (ih _ _ w hcs (inv.set hpr (by omega)) hC (.inl ⟨by rw [hfs]; exact h1, hh⟩))
        · obtain ⟨v, hy, hh⟩ := key _ h
          exact hfirst v hy (ih _ _ w hcs (inv.set hpr (by omega)) hC (.inr ⟨b, by rw [hfs]; exact h1, hb0, hbk, hh⟩))
      have hjt : ∀ j, j ∈ Region.ready md ops listed → j < t := fun j hj => Nat.lt_of_not_le fun hle => by
        have hnl : ∀ i, i < t → ls.contains i = false → listed.getD i false = true := fun i hi hli => by
          cases hg : listed.getD i false with
          | true => rfl
          | false => exact (tail_waitsL hs hc hn inv _ i rfl hli hi (getD_in (by rw [inv.size]; omega) hg) j hle hj).elim
        have hlow : ∀ n, n ≤ t → ∀ i, i < n → listed.getD i false = true := by
          intro n
          induction n with
          | zero => intro _ i hi; omega
          | succ n ihn =>
            intro hn' i hi
            by_cases hin : i < n
            · exact ihn (by omega) i hin
            · obtain rfl : i = n := by omega
              cases hg : listed.getD i false with
              | true => rfl
              | false =>
                exfalso
                have his : i < ops.size := by omega
                cases hli : ls.contains i with
                | false =>
                  have := hnl i (by omega) hli
                  rw [hg] at this
                  cases this
                | true =>
                  refine hlr ⟨i, hli, ?_⟩
                  rw [mem_ready]
                  refine ⟨getD_in (by rw [inv.size]; exact his) hg, ops[i], by simp [his], fun e he hb => ?_⟩
                  exact ihn (by omega) e.on (earlyB_out hear i ops[i] (by simp [his]) e he hb)
        have := hlow t (Nat.le_refl _) i0 hi0
        rw [hg0] at this
        cases this
      refine ⟨fun hr => ?_, fun j hj => ?_⟩
      · exfalso
        have hlow : ∀ n, n ≤ t → ∀ i, i < n → listed.getD i false = true := by
          intro n
          induction n with
          | zero => intro _ i hi; omega
          | succ n ihn =>
            intro hn' i hi
            by_cases hin : i < n
            · exact ihn (by omega) i hin
            · obtain rfl : i = n := by omega
              cases hg : listed.getD i false with
              | true => rfl
              | false =>
                exfalso
                have hm : i ∈ Region.ready md ops listed := by
                  rw [mem_ready]
                  have his : i < ops.size := by omega
                  refine ⟨getD_in (by rw [inv.size]; exact his) hg, ops[i], by simp [his], fun e he hb => ?_⟩
                  exact ihn (by omega) e.on (earlyB_out hear i ops[i] (by simp [his]) e he hb)
                rw [hr] at hm
                cases hm
        have := hlow t (Nat.le_refl _) i0 hi0
        rw [hg0] at this
        cases this
      · have hj' := hjt j hj
        obtain ⟨hun, oj, hoj, hdep⟩ := mem_ready.1 hj
        have hjs : j < listed.size := by rw [inv.size]; omega
        have hjl : listed.getD j false = false := getD_both hun
        have hwt : ∀ i, listed.getD i false = false → Region.waitsFor md ops j i = false := fun i hi => by
          cases hw : Region.waitsFor md ops j i with
          | false => rfl
          | true =>
            obtain ⟨o', ho', e, he, hb, hon⟩ := Region.waitsFor_spec hw
            obtain rfl : o' = oj := Option.some.inj (ho'.symm.trans hoj)
            have := hdep e he hb
            rw [hon, hi] at this
            cases this
        have hcs : (listed.setIfInBounds j true).toList.count false = n := by
          have h3 : listed[j] = false := by simpa [Array.getD_eq_getD_getElem?, hjs] using hun
          have := cnt_set listed.toList j (by simp [hjs, h3])
          rw [Array.toList_setIfInBounds]
          omega
        by_cases hjf : j = f
        · subst hjf
          obtain rfl : oj = of := Option.some.inj (hoj.symm.trans hof)
          rcases h with ⟨_, h⟩ | ⟨b, h1, _⟩
          rotate_left
          · rw [hjl] at h1; cases h1
          have hle : w0.heap.size ≤ w.heap.size := (cg_iff.1 hC).size
          have hga : Gw w (w.alloc (.cells zs T)) := ba_alloc (Below.refl _ _) _
          unfold wpOp
          simp only [hoj]
          rw [if_pos (by simp [Region.wanted, hg])]
          refine .inl ?_
          unfold Oper.wp
          rw [hfr a w]
          refine ih _ _ _ hcs (inv.set hj hj') (cg_iff.2 ((cg_iff.1 hC).trans hga)) (.inr ⟨w.heap.size, by simp [Array.getD_eq_getD_getElem?, hjs], hle, Blk.new _ _ _, ?_⟩)
          have h2 := wpFr_slot (P := P) (ops := ops) (w0 := w0) (ks := fun i => l.contains i || decide (j ≤ i)) (K := FrK P ops w0 Q t oj T zs) (K' := FrB P ops w0 Q t w.heap.size T zs) (listed := listed) (oj := oj) (v := .pointer (some ⟨w.heap.size, 0, none⟩)) hsel'
            (fun a' w' hh w'' hc' hg' hb' => hh w.heap.size w'' hc' hg' hle hb') (R := List.range j) (fun i hi => by
              have hij := List.mem_range.1 hi
              have his : i < ops.size := by omega
              exact ⟨ops[i], by simp [his], apartAll_out hap hij (by simp [his]) hoj (hwf i hij)⟩) h
          rw [wpFr_congr (l2 := listed.setIfInBounds j true) (fun i hi => (getD_set_ne false (fun e => by have := List.mem_range.1 hi; omega)).symm)] at h2
          exact wpFr_weak (hBw _) h2 hga
        · have hjf' : j < f := by omega
          have key : ∀ (K : Act → World → Prop), wpFr P ops w0 (fun i => l.contains i || decide (f ≤ i)) K listed (List.range f) a w → wpOp P ops Q j (fun a' w' => Gw w w' ∧ wpFr P ops w0 (fun i => l.contains i || decide (f ≤ i)) K (listed.setIfInBounds j true) (List.range f) a' w') a w := by
            intro K hK
            have hp := pullF (P := P) (ops := ops) (w0 := w0) (ks := fun i => l.contains i || decide (f ≤ i)) (K := K) hsel' hcalm hoj hjl hjs (List.range f) List.pairwise_lt_range (List.mem_range.2 hjf')
              (fun i hi hij hil _ => by
                have his : i < ops.size := by omega
                exact ⟨ops[i], by simp [his], apartAll_out hap hij (by simp [his]) hoj (hwt i hil)⟩)
              (fun hk i hi hij hil => by
                simp only [Bool.or_eq_true, List.contains_iff_mem, decide_eq_true_eq] at hk
                rw [Bool.or_eq_false_iff, decide_eq_false_iff_not]
                refine ⟨?_, by omega⟩
                cases hci : l.contains i with
                | false => rfl
                | true =>
                  have := links_order inv hl i j (by simpa using hci) (by rcases hk with hk | hk; exact hk; omega) hij (.inl hj)
                  rw [hil] at this
                  cases this) a w hC hK
            by_cases hk : (l.contains j || decide (f ≤ j)) = true
            · rw [if_pos hk] at hp
              exact wpOp_stop (hp w hC (Gw.refl w))
            · rw [if_neg hk] at hp
              refine wpOp_mono ?_ (wpOp_calm hoj (hcalm j oj hoj (by simpa using hk)) hC hp)
              rintro a' w' ⟨rfl, hh⟩
              exact ⟨Gw.refl _, hh⟩
          have hfs : (listed.setIfInBounds j true).getD f false = listed.getD f false := getD_set_ne false hjf
          rcases h with ⟨h1, h⟩ | ⟨b, h1, hb0, hbk, h⟩
          · refine wpOp_mono ?_ (key _ h)
            rintro a' w' ⟨hg', hh⟩
            exact ih _ a' w' hcs (inv.set hj hj') (cg_iff.2 ((cg_iff.1 hC).trans hg')) (.inl ⟨by rw [hfs]; exact h1, hh⟩)
          · refine wpOp_mono ?_ (key _ h)
            rintro a' w' ⟨hg', hh⟩
            exact ih _ a' w' hcs (inv.set hj hj') (cg_iff.2 ((cg_iff.1 hC).trans hg')) (.inr ⟨b, by rw [hfs]; exact h1, hb0, hbk.via hg', hh⟩)
def segPostF (next : Act → World → Prop) (w0 : World) : Exit → Act → World → Prop
  | .normal, a, w => Gw w0 w ∧ next a w
  | _, _, _ => False
theorem segF_next {next : Act → World → Prop} {w0 : World} {a : Act} {w : World} (hC : Gw w0 w) (h : next a w) : segPostF next w0 .normal a w := ⟨hC, h⟩
def wpSegsF (P : Program) (ops : Array Oper) (w0 : World) (K : Act → World → Prop) (r : Nat) : List Nat → List Oper → Act → World → Prop
  | [], l, a, w => wpQuiet P ops (Cg w0) (fun a' => K a' w) (l.take r) a
  | m :: ms, l, a, w => wpQuiet P ops (Cg w0) (fun a' => ∀ w', Gw w0 w' → Gw w w' → wpList P ops (segPostF (wpSegsF P ops w0 K r ms (l.drop (m + 1))) w') ((l.drop m).take 1) a' w') (l.take m) a
theorem quiet_mixF {ks : Nat → Bool} {K : Act → World → Prop} {listed : Array Bool} {N : Act → Prop} {w : World} {R : List Nat} (hlist : ∀ i, listed.getD i false = false) :
    ∀ (m p : Nat) (a : Act), p + m ≤ ops.size → (∀ i, p ≤ i → i < p + m → ks i = false) → (∀ a, N a → wpFr P ops w0 ks K listed R a w) → wpQuiet P ops (Cg w0) N ((ops.toList.drop p).take m) a →
      wpFr P ops w0 ks K listed (List.range' p m ++ R) a w := by
  intro m
  induction m with
  | zero =>
    intro p a _ _ hN h
    simp only [List.take_zero] at h
    exact hN a h
  | succ m ih =>
    intro p a hp hk hN h
    have hps : p < ops.size := by omega
    have e : (ops.toList.drop p).take (m + 1) = ops[p] :: (ops.toList.drop (p + 1)).take m := by
      rw [List.drop_eq_getElem_cons (by simpa using hps), List.take_succ_cons]
      rfl
    rw [e] at h
    rw [List.range'_succ, List.cons_append]
    simp only [wpFr, hlist p, hk p (Nat.le_refl _) (by omega), Bool.false_eq_true, if_false]
    unfold wpQuiet at h
    unfold qOp
    simp only [show ops[p]? = some ops[p] by simp [hps]]
    have ih' : ∀ a, wpQuiet P ops (Cg w0) N ((ops.toList.drop (p + 1)).take m) a → wpFr P ops w0 ks K listed (List.range' (p + 1) m ++ R) a w := fun a' h' => ih (p + 1) a' (by omega) (fun i h1 h2 => hk i (by omega) (by omega)) hN h'
    split
    · rename_i hw
      rw [if_pos hw] at h
      exact Oper.quiet_mono ih' h
    · rename_i hw
      rw [if_neg hw] at h
      exact ih' _ h
theorem segsF_mix {ks : Nat → Bool} {K : Act → World → Prop} {listed : Array Bool} {t : Nat} (r : Nat) (ht : t ≤ ops.size) (hlist : ∀ i, listed.getD i false = false) :
    ∀ (ms : List Nat) (p : Nat) (a : Act) (w : World), endAt r p ms = t → (∀ i, p ≤ i → i < t → ks i = (chainAt p ms).contains i) → wpSegsF P ops w0 K r ms (ops.toList.drop p) a w →
      wpFr P ops w0 ks K listed (List.range' p (t - p)) a w := by
  intro ms
  induction ms with
  | nil =>
    intro p a w he hk h
    simp only [endAt] at he
    subst he
    have e : List.range' p (p + r - p) = List.range' p r ++ [] := by simp
    rw [e]
    refine quiet_mixF hlist r p a ht (fun i h1 h2 => by rw [hk i h1 h2]; simp [chainAt]) ?_ h
    intro a' h'
    simpa only [wpFr] using h'
  | cons m ms ih =>
    intro p a w he hk h
    simp only [endAt] at he
    have hle := endAt_le r ms (p + m + 1)
    have e : List.range' p (t - p) = List.range' p m ++ ((p + m) :: List.range' (p + m + 1) (t - (p + m + 1))) := by
      have e1 : t - p = m + (1 + (t - (p + m + 1))) := by omega
      rw [e1, ← List.range'_append_1, ← List.range'_append_1]
      simp
    rw [e]
    refine quiet_mixF hlist m p a (by omega) (fun i h1 h2 => ?_) ?_ h
    · rw [hk i h1 (by omega)]
      simp only [chainAt]
      cases hc : ((p + m) :: chainAt (p + m + 1) ms).contains i with
      | false => rfl
      | true =>
        exfalso
        have hm : i ∈ (p + m) :: chainAt (p + m + 1) ms := by simpa using hc
        rcases List.mem_cons.1 hm with h3 | h3
        · omega
        · have := chainAt_ge _ _ _ h3; omega
    · intro a' h'
      have hps : p + m < ops.size := by omega
      have hkp : ks (p + m) = true := by rw [hk (p + m) (by omega) (by omega)]; simp [chainAt]
      simp only [wpFr, hlist (p + m), hkp, Bool.false_eq_true, if_false, if_true]
      intro w' hC' hG'
      have h' := h' w' (cg_iff.1 hC') hG'
      have e2 : ((ops.toList.drop p).drop m).take 1 = [ops[p + m]] := by
        rw [List.drop_drop, List.drop_eq_getElem_cons (by simpa using hps), List.take_succ_cons, List.take_zero]
        rfl
      rw [e2] at h'
      have ih' := fun a w h => ih (p + m + 1) a w he (fun i h1 h2 => by
        rw [hk i (by omega) h2]
        simp only [chainAt, List.contains_cons]
        rw [show (i == p + m) = false by simp; omega]
        rfl) h
      have e3 : (ops.toList.drop p).drop (m + 1) = ops.toList.drop (p + m + 1) := by rw [List.drop_drop]; rfl
      rw [e3] at h'
      unfold wpList at h'
      unfold wpOp
      simp only [show ops[p + m]? = some ops[p + m] by simp [hps]]
      have hfin : ∀ a w, wpList P ops (segPostF (wpSegsF P ops w0 K r ms (ops.toList.drop (p + m + 1))) w') [] a w → Gw w' w ∧ wpFr P ops w0 ks K listed (List.range' (p + m + 1) (t - (p + m + 1))) a w := fun a w h => ⟨h.1, ih' a w h.2⟩
      have hlets : LetsOut (segPostF (wpSegsF P ops w0 K r ms (ops.toList.drop (p + m + 1))) w') → LetsOut stopPost := fun ⟨_, _, h⟩ => (show False from h).elim
      split
      · rename_i hw
        rw [if_pos hw] at h'
        rcases h' with h' | ⟨h1, h2⟩
        · refine .inl (Oper.wp_mono hfin ?_)
          unfold Oper.wp at *
          generalize (execOp a'.eval ops[p + m]).run P w' = rr at *
          cases rr with
          | ok n w'' =>
            cases n <;> simp only [Oper.upon] at h' ⊢ <;> try exact h'
          | halt x w'' =>
            cases x <;> simp only [Oper.upon] at h' ⊢
            all_goals (try exact (show False from h').elim)
        · exact .inr ⟨h1, hlets h2⟩
      · rename_i hw
        rw [if_neg hw] at h'
        exact hfin _ _ h'
theorem wp_region_mixF {id : Nat} {Q : Exit → Act → World → Prop} {a : Act} {w : World} {l : List Oper} (r : Nat) (ms ls : List Nat) (of : Oper) (T : TypeId) (zs : Array Value) (hm : P.follows .mixedOrders = true) (hB : mixFB .any l.toArray (endAt r 0 ms + 1) (endAt r 0 ms) (chainAt 0 ms) ls = true)
    (hend : endAt r 0 ms ≤ l.length) (hof : l[endAt r 0 ms]? = some of) (hg : of.guard = none) (hfr : ∀ (a : Act) (w : World), (execOp a.eval of).run P w = .ok (.value (.pointer (some ⟨w.heap.size, 0, none⟩))) (w.alloc (.cells zs T)))
    (hQ : ∀ c a d v w, Q (.panic c) (Act.put a d v) w → Q (.panic c) a w) (h : wpSegsF P l.toArray w (fun a' w' => ∀ b w'', Gw w w'' → Gw w' w'' → w.heap.size ≤ b → Blk w'' b T zs → wpList P l.toArray Q (l.drop (endAt r 0 ms + 1)) (a'.put of.dst (.pointer (some ⟨b, 0, none⟩))) w'') r ms l a w.drew) : (Code.region id l.toArray true).wp P Q a w := by
  refine wp_region_any hm ?_
  have hin : ∀ i, (Array.replicate l.toArray.size false).getD i false = false := fun i => getD_replicate_false _ _
  refine mixF_any (w0 := w) (T := T) (zs := zs) (of := of) hQ hB (by simpa using hof) hg hfr _ _ a w.drew (by simp [List.count_replicate]) ⟨by simp, fun j oj _ hl => (by rw [hin] at hl; cases hl), fun t _ ht => getD_in (by simpa using ht) (hin t)⟩ ⟨w.drew, (grow_eq (Below.drew (Below.refl _ _))).symm⟩ (.inl ⟨hin _, ?_⟩)
  have hK : ∀ a' w', (∀ b w'', Gw w w'' → Gw w' w'' → w.heap.size ≤ b → Blk w'' b T zs → wpList P l.toArray Q (l.drop (endAt r 0 ms + 1)) (a'.put of.dst (.pointer (some ⟨b, 0, none⟩))) w'') = FrK P l.toArray w Q (endAt r 0 ms + 1) of T zs a' w' := fun a' w' => by
    unfold FrK
    simp only [cg_iff, List.toList_toArray]
  have hKf : (fun a' w' => ∀ b w'', Gw w w'' → Gw w' w'' → w.heap.size ≤ b → Blk w'' b T zs → wpList P l.toArray Q (l.drop (endAt r 0 ms + 1)) (a'.put of.dst (.pointer (some ⟨b, 0, none⟩))) w'') = FrK P l.toArray w Q (endAt r 0 ms + 1) of T zs := by
    funext a' w'
    exact hK a' w'
  rw [hKf] at h
  have := segsF_mix (P := P) (ops := l.toArray) (w0 := w) (K := FrK P l.toArray w Q (endAt r 0 ms + 1) of T zs) (ks := fun i => (chainAt 0 ms).contains i || decide (endAt r 0 ms ≤ i)) (listed := Array.replicate l.toArray.size false) (t := endAt r 0 ms) r (by simpa using hend) hin ms 0 a w.drew rfl
    (fun i _ h2 => by simp [Nat.not_le.2 h2]) (by simpa using h)
  rwa [Nat.sub_zero, ← List.range_eq_range'] at this
end
end Go.Proofs.YtffkmgjmlahfpaaGreat
namespace Go.Proofs.YtffkmgjmlahfpaaGreat
open Go.ChangeShapes Go.WideShapes Go.ChangeAt Go.RowKit
section
variable {H : Type} {enc : TypeId × Value → H} {w : World} {base : Nat} {sp : Nat → Bool} {hd : Bool}
theorem own : ownKnob Tryz.prog.godebug = none := by kernel_rfl
theorem cellsInt : Tryz.prog.cellsOf 3 = 1 := by kernel_rfl
theorem cellsRule : Tryz.prog.cellsOf 32 = 9 := by kernel_rfl
def I64 (n : Int) : Prop := -9223372036854775808 ≤ n ∧ n ≤ 9223372036854775807
theorem opn_int {fuel : Nat} {cs : List Value} {y : Option (DataW H × List MemPlace)} (h : DataW.trod enc Tryz.prog w base sp hd fuel 3 cs = y) (hy : y.isSome = true) : ∃ n, cs = [.int .i64 n] ∧ I64 n := by
  obtain ⟨z, rfl⟩ := Option.isSome_iff_exists.1 hy
  obtain ⟨n, rfl, _, hw⟩ := DataW.trod_int Tryz.underlying3 h
  exact ⟨n, rfl, bounds_i64 hw⟩
theorem len9 {α : Type} {l : List α} (h : l.length = 9) : ∃ a b c d e f g i j, l = [a, b, c, d, e, f, g, i, j] := by
  match l, h with
  | [a, b, c, d, e, f, g, i, j], _ => exact ⟨a, b, c, d, e, f, g, i, j, rfl⟩
structure RuleI (r : Rule) : Prop where
  num : I64 r.num
  den : I64 r.den
  pnum : I64 r.pnum
  pden : I64 r.pden
  bnum : I64 r.bnum
  bden : I64 r.bden
  lnum : I64 r.lnum
  lden : I64 r.lden
  least : I64 r.least
theorem open_rule {fuel : Nat} {cs : List Value} {x : DataW H × List MemPlace} (h : DataW.trod enc Tryz.prog w base sp hd fuel 32 cs = some x) :
    ∃ r : Rule, cs = (ruleV r).cells.toList ∧ RuleI r := by
  obtain ⟨xs, n, _, _, hl, hxl, hg⟩ := DataW.trod_struct Tryz.underlying32 h
  rw [cellsRule] at hl
  obtain ⟨c0, c1, c2, c3, c4, c5, c6, c7, c8, rfl⟩ := len9 hl
  have hs : ∀ i, i < 9 → xs[i]?.isSome = true := fun i hi => by
    have : xs.length = 9 := hxl
    simp [this, hi]
  obtain ⟨n0, e0, b0⟩ := opn_int (hg 0 _ rfl) (hs 0 (by decide))
  obtain ⟨n1, e1, b1⟩ := opn_int (hg 1 _ rfl) (hs 1 (by decide))
  obtain ⟨n2, e2, b2⟩ := opn_int (hg 2 _ rfl) (hs 2 (by decide))
  obtain ⟨n3, e3, b3⟩ := opn_int (hg 3 _ rfl) (hs 3 (by decide))
  obtain ⟨n4, e4, b4⟩ := opn_int (hg 4 _ rfl) (hs 4 (by decide))
  obtain ⟨n5, e5, b5⟩ := opn_int (hg 5 _ rfl) (hs 5 (by decide))
  obtain ⟨n6, e6, b6⟩ := opn_int (hg 6 _ rfl) (hs 6 (by decide))
  obtain ⟨n7, e7, b7⟩ := opn_int (hg 7 _ rfl) (hs 7 (by decide))
  obtain ⟨n8, e8, b8⟩ := opn_int (hg 8 _ rfl) (hs 8 (by decide))
  simp [cellsInt] at e0 e1 e2 e3 e4 e5 e6 e7 e8
  subst e0 e1 e2 e3 e4 e5 e6 e7 e8
  exact ⟨⟨n0, n1, n2, n3, n4, n5, n6, n7, n8⟩, rfl, ⟨b0, b1, b2, b3, b4, b5, b6, b7, b8⟩⟩
end
end Go.Proofs.YtffkmgjmlahfpaaGreat
namespace Go.Proofs.YtffkmgjmlahfpaaGreat
open Go.ChangeShapes Go.WideShapes Go.ChangeAt Go.RowKit
section
variable {H : Type} {enc : TypeId × Value → H} {w : World} {base : Nat} {sp : Nat → Bool} {hd : Bool}
theorem cellsStr : Tryz.prog.cellsOf 9 = 1 := by kernel_rfl
theorem cellsPt : Tryz.prog.cellsOf 87 = 3 := by kernel_rfl
theorem cellsBox : Tryz.prog.cellsOf 89 = 6 := by kernel_rfl
theorem cellsBoxes : Tryz.prog.cellsOf 22 = 1 := by kernel_rfl
theorem cellsSolid : Tryz.prog.cellsOf 24 = 2 := by kernel_rfl
theorem cellsMember : Tryz.prog.cellsOf 26 = 6 := by kernel_rfl
theorem opn_str {fuel : Nat} {cs : List Value} {y : Option (DataW H × List MemPlace)} (h : DataW.trod enc Tryz.prog w base sp hd fuel 9 cs = y) (hy : y.isSome = true) : ∃ s : ByteArray, cs = [.string s] ∧ s.size ≤ maxLen := by
  obtain ⟨z, rfl⟩ := Option.isSome_iff_exists.1 hy
  obtain ⟨s, rfl, _, hw⟩ := DataW.trod_string Tryz.underlying9 h
  exact ⟨s, rfl, hw⟩
theorem len3 {α : Type} {l : List α} (h : l.length = 3) : ∃ a b c, l = [a, b, c] := by
  match l, h with
  | [a, b, c], _ => exact ⟨a, b, c, rfl⟩
theorem len2 {α : Type} {l : List α} (h : l.length = 2) : ∃ a b, l = [a, b] := by
  match l, h with
  | [a, b], _ => exact ⟨a, b, rfl⟩
theorem len6 {α : Type} {l : List α} (h : l.length = 6) : ∃ a b c d e f, l = [a, b, c, d, e, f] := by
  match l, h with
  | [a, b, c, d, e, f], _ => exact ⟨a, b, c, d, e, f, rfl⟩
structure PtI (p : Pt) : Prop where
  x : I64 p.x
  y : I64 p.y
  z : I64 p.z
structure BxI (b : Bx) : Prop where
  lo : PtI b.lo
  hi : PtI b.hi
theorem opn_pt {fuel : Nat} {cs : List Value} {y : Option (DataW H × List MemPlace)} (h : DataW.trod enc Tryz.prog w base sp hd fuel 87 cs = y) (hy : y.isSome = true) :
    ∃ p : Pt, cs = [.int .i64 p.x, .int .i64 p.y, .int .i64 p.z] ∧ PtI p := by
  obtain ⟨z, rfl⟩ := Option.isSome_iff_exists.1 hy
  obtain ⟨xs, n, _, _, hl, hxl, hg⟩ := DataW.trod_struct Tryz.underlying87 h
  rw [cellsPt] at hl
  obtain ⟨c0, c1, c2, rfl⟩ := len3 hl
  have hs : ∀ i, i < 3 → xs[i]?.isSome = true := fun i hi => by
    have : xs.length = 3 := hxl
    simp [this, hi]
  obtain ⟨n0, e0, b0⟩ := opn_int (hg 0 _ rfl) (hs 0 (by decide))
  obtain ⟨n1, e1, b1⟩ := opn_int (hg 1 _ rfl) (hs 1 (by decide))
  obtain ⟨n2, e2, b2⟩ := opn_int (hg 2 _ rfl) (hs 2 (by decide))
  simp [cellsInt] at e0 e1 e2
  subst e0 e1 e2
  exact ⟨⟨n0, n1, n2⟩, rfl, ⟨b0, b1, b2⟩⟩
theorem opn_box {fuel : Nat} {cs : List Value} {y : Option (DataW H × List MemPlace)} (h : DataW.trod enc Tryz.prog w base sp hd fuel 89 cs = y) (hy : y.isSome = true) :
    ∃ b : Bx, cs = boxC b ∧ BxI b := by
  obtain ⟨z, rfl⟩ := Option.isSome_iff_exists.1 hy
  obtain ⟨xs, n, _, _, hl, hxl, hg⟩ := DataW.trod_struct Tryz.underlying89 h
  rw [cellsBox] at hl
  obtain ⟨c0, c1, c2, c3, c4, c5, rfl⟩ := len6 hl
  have hs : ∀ i, i < 2 → xs[i]?.isSome = true := fun i hi => by
    have : xs.length = 2 := hxl
    simp [this, hi]
  obtain ⟨p0, e0, b0⟩ := opn_pt (hg 0 _ rfl) (hs 0 (by decide))
  obtain ⟨p1, e1, b1⟩ := opn_pt (hg 1 _ rfl) (hs 1 (by decide))
  simp [cellsPt] at e0 e1
  obtain ⟨rfl, rfl, rfl⟩ := e0
  obtain ⟨rfl, rfl, rfl⟩ := e1
  exact ⟨⟨p0, p1⟩, rfl, ⟨b0, b1⟩⟩
theorem opn_rows {α : Type} [Inhabited α] {t e : TypeId} (ht : Tryz.prog.underlying t = some (.slice e)) (enc' : α → List Value) (m : Nat) (hm0 : 0 < m) (hm : ∀ a, (enc' a).length = m) (ce : Tryz.prog.cellsOf e = m) (ok : α → Prop)
    (hop : ∀ {fuel : Nat} {cs : List Value} {y : Option (DataW H × List MemPlace)}, DataW.trod enc Tryz.prog w base sp hd fuel e cs = y → y.isSome = true → ∃ b : α, cs = enc' b ∧ ok b)
    {fuel : Nat} {cs : List Value} {y : Option (DataW H × List MemPlace)} (h : DataW.trod enc Tryz.prog w base sp hd fuel t cs = y) (hy : y.isSome = true) :
    ∃ (A : Option Addr) (n c : Nat) (xs : List α), cs = [.slice A n c] ∧ xs.length = n ∧ n ≤ c ∧ c ≤ maxLen ∧ Cells w w.heap.size A (xs.flatMap enc') ∧ ∀ x, x ∈ xs → ok x := by
  obtain ⟨z, rfl⟩ := Option.isSome_iff_exists.1 hy
  rcases DataW.trod_slice ht h with ⟨rfl, _⟩ | ⟨a, len, cap, elems, rest, n, _, rfl, _, _, hl, hc, hel, hx, _, _⟩
  · exact ⟨none, 0, 0, [], rfl, rfl, Nat.le_refl _, Nat.zero_le _, .inl rfl, by simp⟩
  · rw [ce] at hx
    have each : ∀ i, i < len → ∃ b : α, ok b ∧ ∀ j, j < m → w.cell? (a.add (i * m + j)) = (enc' b)[j]? := by
      intro i hi
      have h1 := hx i hi
      have h2 : elems[i]?.isSome = true := by simp [hel, hi]
      obtain ⟨q, hq⟩ := Option.isSome_iff_exists.1 h2
      rw [hq] at h1
      obtain ⟨cs', g1, g2⟩ := Option.bind_eq_some_iff.1 h1
      obtain ⟨_, _, hcell⟩ := World.cells?_some g1
      obtain ⟨b, rfl, hb⟩ := hop g2 rfl
      refine ⟨b, hb, fun j hj => ?_⟩
      rw [← Go.Deep.add_add]
      exact hcell j hj
    obtain ⟨q, hq⟩ := Go.Deep.choose_lt each
    refine ⟨some a, len, cap, (List.range len).map q, rfl, by simp, hl, hc, ?_, fun x hx => ?_⟩
    · by_cases h0 : len = 0
      · left; simp [h0]
      · right
        have h1 := (hq 0 (by omega)).2 0 hm0
        rw [List.getElem?_eq_getElem (by rw [hm]; exact hm0)] at h1
        have hsp : a.spot = none := by
          unfold World.cell? at h1
          split at h1
          · split at h1
            · cases h1
            · rename_i hn
              simpa [Addr.add] using hn
          · cases h1
        have hlt : a.block < w.heap.size := by
          unfold World.cell? at h1
          split at h1
          · rename_i hh
            have hh2 := (Array.getElem?_eq_some_iff.1 hh).1
            simpa [Addr.add] using hh2
          · cases h1
        obtain ⟨bb, o, s⟩ := a
        cases hsp
        refine ⟨bb, o, rfl, hlt, fun j v hv => ?_⟩
        have hjl := (List.getElem?_eq_some_iff.1 hv).1
        rw [flat_len enc' m hm] at hjl
        have hj : j < len * m := by simpa using hjl
        have hk : j / m < len := (Nat.div_lt_iff_lt_mul hm0).2 hj
        have hr : j % m < m := Nat.mod_lt _ hm0
        have hd := Nat.div_add_mod j m
        have hjm : j / m * m + j % m = j := by rw [Nat.mul_comm]; exact hd
        have h2 := (hq (j / m) hk).2 (j % m) hr
        have h3 := flat_get enc' m hm ((List.range len).map q) (j / m) (by simpa using hk) (j % m) hr
        rw [hjm] at h2 h3
        rw [h3] at hv
        have e : (Addr.add ⟨bb, o, none⟩ j) = ⟨bb, o + j, none⟩ := by unfold Addr.add; split <;> simp_all
        rw [e] at h2
        rw [h2, ← hv]
        simp
    · obtain ⟨i, hi, rfl⟩ := List.mem_map.1 hx
      exact (hq i (List.mem_range.1 hi)).1
instance : Inhabited Bx := ⟨⟨⟨0, 0, 0⟩, ⟨0, 0, 0⟩⟩⟩
theorem opn_boxes {fuel : Nat} {cs : List Value} {y : Option (DataW H × List MemPlace)} (h : DataW.trod enc Tryz.prog w base sp hd fuel 22 cs = y) (hy : y.isSome = true) :
    ∃ (A : Option Addr) (n c : Nat) (xs : List Bx), cs = [.slice A n c] ∧ xs.length = n ∧ n ≤ c ∧ c ≤ maxLen ∧ Cells w w.heap.size A (xs.flatMap boxC) ∧ ∀ x, x ∈ xs → BxI x :=
  opn_rows Tryz.underlying22 boxC 6 (by decide) boxC_len cellsBox BxI (fun h hy => opn_box h hy) h hy
theorem opn_solid {fuel : Nat} {cs : List Value} {y : Option (DataW H × List MemPlace)} (h : DataW.trod enc Tryz.prog w base sp hd fuel 24 cs = y) (hy : y.isSome = true) :
    ∃ (A : Option Addr) (n c : Nat) (A' : Option Addr) (n' c' : Nat) (xs hs : List Bx), cs = [.slice A n c, .slice A' n' c'] ∧ SolAt w w.heap.size A n A' n' xs hs ∧ n ≤ c ∧ c ≤ maxLen ∧ n' ≤ c' ∧ c' ≤ maxLen ∧ (∀ x, x ∈ xs → BxI x) ∧ ∀ x, x ∈ hs → BxI x := by
  obtain ⟨z, rfl⟩ := Option.isSome_iff_exists.1 hy
  obtain ⟨ys, n, _, _, hl, hxl, hg⟩ := DataW.trod_struct Tryz.underlying24 h
  rw [cellsSolid] at hl
  obtain ⟨c0, c1, rfl⟩ := len2 hl
  have hs : ∀ i, i < 2 → ys[i]?.isSome = true := fun i hi => by
    have : ys.length = 2 := hxl
    simp [this, hi]
  obtain ⟨A, n0, m0, xs, e0, h1, h2, h3, h4, h5⟩ := opn_boxes (hg 0 _ rfl) (hs 0 (by decide))
  obtain ⟨A', n1, m1, hs', e1, g1, g2, g3, g4, g5⟩ := opn_boxes (hg 1 _ rfl) (hs 1 (by decide))
  simp [cellsBoxes] at e0 e1
  subst e0 e1
  have hmx : maxLen ≤ 9223372036854775807 := by unfold maxLen; decide
  exact ⟨A, n0, m0, A', n1, m1, xs, hs', rfl, ⟨h1, by omega, g1, by omega, h4, g4⟩, h2, h3, g2, g3, h5, g5⟩
structure MemI (m : Mem) : Prop where
  name : m.name.size ≤ 9223372036854775807
  boxes : ∀ x, x ∈ m.boxes → BxI x
  holes : ∀ x, x ∈ m.holes → BxI x
  cover : I64 m.cover
  aggr : I64 m.aggr
  poker : I64 m.poker
theorem opn_member {fuel : Nat} {cs : List Value} {y : Option (DataW H × List MemPlace)} (h : DataW.trod enc Tryz.prog w base sp hd fuel 26 cs = y) (hy : y.isSome = true) :
    ∃ (m : Mem) (A : Option Addr) (n c : Nat) (A' : Option Addr) (n' c' : Nat), cs = (memV m A n c A' n' c').cells.toList ∧ SolAt w w.heap.size A n A' n' m.boxes m.holes ∧ n ≤ c ∧ c ≤ maxLen ∧ n' ≤ c' ∧ c' ≤ maxLen ∧ MemI m := by
  obtain ⟨z, rfl⟩ := Option.isSome_iff_exists.1 hy
  obtain ⟨ys, n, _, _, hl, hxl, hg⟩ := DataW.trod_struct Tryz.underlying26 h
  rw [cellsMember] at hl
  obtain ⟨c0, c1, c2, c3, c4, c5, rfl⟩ := len6 hl
  have hs : ∀ i, i < 5 → ys[i]?.isSome = true := fun i hi => by
    have : ys.length = 5 := hxl
    simp [this, hi]
  obtain ⟨s, e0, b0⟩ := opn_str (hg 0 _ rfl) (hs 0 (by decide))
  obtain ⟨A, n0, m0, A', n1, m1, xs, hs', e1, h1, h2, h3, h4, h5, h6, h7⟩ := opn_solid (hg 1 _ rfl) (hs 1 (by decide))
  obtain ⟨k2, e2, b2⟩ := opn_int (hg 2 _ rfl) (hs 2 (by decide))
  obtain ⟨k3, e3, b3⟩ := opn_int (hg 3 _ rfl) (hs 3 (by decide))
  obtain ⟨k4, e4, b4⟩ := opn_int (hg 4 _ rfl) (hs 4 (by decide))
  simp [cellsStr, cellsSolid, cellsInt] at e0 e1 e2 e3 e4
  obtain ⟨rfl, rfl⟩ := e1
  subst e0 e2 e3 e4
  have hmx : maxLen ≤ 9223372036854775807 := by unfold maxLen; decide
  exact ⟨⟨s, xs, hs', k2, k3, k4⟩, A, n0, m0, A', n1, m1, rfl, h1, h2, h3, h4, h5, ⟨by show s.size ≤ _; omega, h6, h7, b2, b3, b4⟩⟩
end
end Go.Proofs.YtffkmgjmlahfpaaGreat
