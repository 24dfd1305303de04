/- Contracts of the reference for layer 9: With, Hull. Contracts of the reference for layer 9: Meet, Contains; box.contains and Contains of the program. Contracts: Main and MainLeg of the reference for l -/
import Derived.Deep.MidRow
import Derived.Test.YtnmolefblaahmaaGreatML
import Derived.Test.YtnmolefblaahmaaGreatMK
set_option linter.unusedVariables false
set_option linter.unusedSimpArgs false
namespace Go.Proofs.YtnmolefblaahmaaGreat
open Go.RowKit
namespace S
def mn (a b : Int) : Int := if b < a then b else a
end S
namespace S
def cont (a b : Bx) : Bool := decide (a.lo.x ≤ b.lo.x) && decide (b.hi.x ≤ a.hi.x) && (decide (a.lo.y ≤ b.lo.y) && decide (b.hi.y ≤ a.hi.y)) && (decide (a.lo.z ≤ b.lo.z) && decide (b.hi.z ≤ a.hi.z))
def zbox : Bx := ⟨⟨0, 0, 0⟩, ⟨0, 0, 0⟩⟩
end S
def S.isMainB (b : Bx) : Bool := decide (b.lo.x < b.hi.x) && decide (b.lo.y = b.hi.y) && decide (b.lo.z = b.hi.z)
theorem Main_any (b : Bx) (w : World) :
 Calls Tryz.prog 225 #[boxV b] w fun e w' => e = .returned (.bool (S.isMainB b)) ∧ Below w.heap.size w w' := by
 have H := Lib.hid (show S.isMainB b = (decide (b.lo.x < b.hi.x) && decide (b.lo.y = b.hi.y) && decide (b.lo.z = b.hi.z)) from rfl)
 unfold boxV
 go_enter Tryz.func225, Tryz.ntmps225
 go_wp2
 all_goals (go_ret; exact ⟨ret_b (by rw [H.out, Bool.eq_iff_iff]; all_goals (first | (simp at *; done) | (simp at *; omega))), bel⟩)
theorem mainleg_any (A : Option Addr) (n c : Nat) (xs : List Bx) (B : Nat) (w : World) (hn : xs.length = n) (hm : n ≤ 9223372036854775807) (hB : B ≤ w.heap.size) (hs : Cells w B A (xs.flatMap boxC)) :
 Calls Tryz.prog 171 #[.slice A n c] w fun e w' => e = .returned (.int .i64 (idxf xs S.isMainB)) ∧ Below w.heap.size w w' := by
 have HN := Lib.hid hn
 clear hn
 go_enter Tryz.func171, Tryz.ntmps171
 go_wp2
 go_loopw [3] (fun i wr => ∃ k : Nat, k ≤ n ∧ i = .int .i64 k ∧ Hid (∀ j (h : j < xs.length), j < k → S.isMainB xs[j] = false) ∧ Below w.heap.size w wr) (fun i _ => n - (intOf i).toNat)
 case atStart => exact ⟨0, Nat.zero_le _, rfl, Lib.hid fun j _ hj => absurd hj (by omega), Below.refl _ _⟩
 case round =>
  obtain ⟨k, hk, rfl, HNO, hbr⟩ := hrel
  by_cases hlt : k < n
  ·have hki : (k : Int) < (n : Int) := by omega
   have hkx : k < xs.length := by have := HN.out; omega
   have hs' := hs.below (hbr.mono hB)
   obtain ⟨b, o, rfl, _, _⟩ := hs'.at_ (by rw [flat_len boxC 6 boxC_len]; omega)
   obtain ⟨c0, c1, c2, c3, c4, c5⟩ := hs'.boxes (List.getElem?_eq_getElem hkx)
   have HT := Lib.hid (Main_any xs[k])
   have HX := Lib.hid (fun hx => idxf_hit (p := S.isMainB) hkx hx HNO.out)
   generalize hq : S.isMainB xs[k] = q at *
   have HQ := Lib.hid hq
   clear hq
   cases q
   ·go_wp2_with (go_at_call 225; (with_reducible refine (HT.out _).mono ?_); rintro e w1 ⟨rfl, hbw1⟩; obtain ⟨hcw1, hfw1⟩ := bcell hbw1)
    go_roundw
    case rel =>
     refine ⟨k + 1, by omega, by go_num, Lib.hid fun j hj hjk => ?_, ba_via hbw1 hbr⟩
     by_cases hjk' : j = k
     ·subst hjk'; exact HQ.out
     ·exact HNO.out j hj (by omega)
    case measure => simp [intOf]; omega
   ·go_wp2_with (go_at_call 225; (with_reducible refine (HT.out _).mono ?_); rintro e w1 ⟨rfl, hbw1⟩; obtain ⟨hcw1, hfw1⟩ := bcell hbw1)
    go_ret
    exact ⟨ret_i (HX.out trivial).symm, ba_via hbw1 hbr⟩
  ·have HX := Lib.hid (idxf_miss (p := S.isMainB) (xs := xs) fun j hj => HNO.out j hj (by have := HN.out; omega))
   go_wp2
   go_ret
   exact ⟨ret_i HX.out.symm, hbr⟩
theorem BarAt.at_ {w w' : World} {B : Nat} {A : Option Addr} {n : Nat} {b : Bar} (h : BarAt w B A n b) (hB : B ≤ w.heap.size) (hb : Below w.heap.size w w') : BarAt w' B A n b := h.below (hb.mono hB)
theorem lens_get (b : Bar) (h : S.bar b = true) {k : Nat} (hk : k < (S.legsOf b.code).length) : ∃ n, (i64s (S.legLens b))[k]? = some (.int .i64 n) ∧ (S.legLens b)[k]? = some n ∧ 1 ≤ n ∧ n ≤ 262144 ∧ S.ptAt b (k + 1) = S.step (S.ptAt b k) (S.legsOf b.code)[k].2 n := by
 have hd : S.dimsOk b.dims = true := by simp only [S.bar, Bool.and_eq_true] at h; exact h.2
 have hl := bar_head h
 have h1 := legs_dim b.code hk
 have h2 : (S.legsOf b.code)[k].1 < b.dims.length := by omega
 have h3 := dim_bd hd h2
 have e : (S.legLens b)[k]? = some b.dims[(S.legsOf b.code)[k].1] := by
  simp [S.legLens, List.getElem?_eq_getElem hk, List.getD_eq_getElem?_getD, List.getElem?_eq_getElem h2]
 exact ⟨_, by simp [e], e, h3.1, h3.2, ptAt_succ b hk h2⟩
theorem Cells.pts {w : World} {B bb o : Nat} {l : List Pt} (h : Cells w B (some ⟨bb, o, none⟩) (l.flatMap ptC)) {k : Nat} {p : Pt} (hk : l[k]? = some p) :
 w.cell? ⟨bb, o + k * 3, none⟩ = some (.int .i64 p.x) ∧ w.cell? ⟨bb, o + k * 3 + 1, none⟩ = some (.int .i64 p.y) ∧ w.cell? ⟨bb, o + k * 3 + 2, none⟩ = some (.int .i64 p.z) := by
 obtain ⟨hk', rfl⟩ := List.getElem?_eq_some_iff.1 hk
 exact ⟨h.row0 ptC_len hk' rfl, h.rowj ptC_len hk' 1 rfl, h.rowj ptC_len hk' 2 rfl⟩
def S.padd (a b : Pt) : Pt := ⟨a.x + b.x, a.y + b.y, a.z + b.z⟩
def S.times (n : Int) (p : Pt) : Pt := ⟨n * p.x, n * p.y, n * p.z⟩
theorem runit_pos (n : Int) (h : n = 1 ∨ n = 2 ∨ n = 3) (w : World) : Calls Tryz.prog 211 #[.int .i64 n] w fun e w' => e = .returned (ptV (S.unit n)) ∧ Below w.heap.size w w' := by
 have u1 : S.unit 1 = ⟨1, 0, 0⟩ := rfl
 have u2 : S.unit 2 = ⟨0, 1, 0⟩ := rfl
 have u3 : S.unit 3 = ⟨0, 0, 1⟩ := rfl
 rcases h with rfl | rfl | rfl
 all_goals (
  go_enter Tryz.func211, Tryz.ntmps211
  go_wp2
  (first | rw [u1] | rw [u2] | rw [u3])
  (first
    | exact bodyPost_ret (v := ptV ⟨1, 0, 0⟩) (by simp [results, Tryz.results211, go_sem, *]) rfl ⟨rfl, bel⟩
    | exact bodyPost_ret (v := ptV ⟨0, 1, 0⟩) (by simp [results, Tryz.results211, go_sem, *]) rfl ⟨rfl, bel⟩
    | exact bodyPost_ret (v := ptV ⟨0, 0, 1⟩) (by simp [results, Tryz.results211, go_sem, *]) rfl ⟨rfl, bel⟩))
set_option maxHeartbeats 1000000 in
theorem runit_any (n : Int) (h : S.isAxis n = true) (w : World) : Calls Tryz.prog 211 #[.int .i64 n] w fun e w' => e = .returned (ptV (S.unit n)) ∧ Below w.heap.size w w' := by
 have h' : (n = 1 ∨ n = 2 ∨ n = 3) ∨ n = -1 ∨ n = -2 ∨ n = -3 := by
  simp only [S.isAxis, Bool.and_eq_true, decide_eq_true_eq, bne_iff_ne] at h
  omega
 have u1 : S.unit 1 = ⟨1, 0, 0⟩ := rfl
 have u2 : S.unit 2 = ⟨0, 1, 0⟩ := rfl
 have u3 : S.unit 3 = ⟨0, 0, 1⟩ := rfl
 have u4 : S.unit (-1) = ⟨-1, 0, 0⟩ := rfl
 have u5 : S.unit (-2) = ⟨0, -1, 0⟩ := rfl
 have u6 : S.unit (-3) = ⟨0, 0, -1⟩ := rfl
 have H1 := Lib.hid (fun w => u1 ▸ runit_pos 1 (by omega) w)
 have H2 := Lib.hid (fun w => u2 ▸ runit_pos 2 (by omega) w)
 have H3 := Lib.hid (fun w => u3 ▸ runit_pos 3 (by omega) w)
 unfold ptV at H1 H2 H3
 simp only [] at H1 H2 H3
 rcases h' with h1 | rfl | rfl | rfl
 ·exact runit_pos n h1 w
 ·rw [u4]
  go_enter Tryz.func211, Tryz.ntmps211
  go_wp2_with (go_at_call 211; (with_reducible refine (H1.out _).mono ?_); rintro e w1 ⟨rfl, hbw1⟩; obtain ⟨hcw1, hfw1⟩ := bcell hbw1; have hzw1_0 : w.heap.size < w1.heap.size := lt_via hbw1 sz)
  exact bodyPost_ret (v := ptV ⟨-1, 0, 0⟩) (by simp [results, Tryz.results211, go_sem, *]) rfl ⟨rfl, bel⟩
 ·rw [u5]
  go_enter Tryz.func211, Tryz.ntmps211
  go_wp2_with (go_at_call 211; (with_reducible refine (H2.out _).mono ?_); rintro e w1 ⟨rfl, hbw1⟩; obtain ⟨hcw1, hfw1⟩ := bcell hbw1; have hzw1_0 : w.heap.size < w1.heap.size := lt_via hbw1 sz)
  exact bodyPost_ret (v := ptV ⟨0, -1, 0⟩) (by simp [results, Tryz.results211, go_sem, *]) rfl ⟨rfl, bel⟩
 ·rw [u6]
  go_enter Tryz.func211, Tryz.ntmps211
  go_wp2_with (go_at_call 211; (with_reducible refine (H3.out _).mono ?_); rintro e w1 ⟨rfl, hbw1⟩; obtain ⟨hcw1, hfw1⟩ := bcell hbw1; have hzw1_0 : w.heap.size < w1.heap.size := lt_via hbw1 sz)
  exact bodyPost_ret (v := ptV ⟨0, 0, -1⟩) (by simp [results, Tryz.results211, go_sem, *]) rfl ⟨rfl, bel⟩
theorem rcross_any (a b : Pt) (ha : S.near1 a 1 = true) (hb : S.near1 b 1 = true) (w : World) : Calls Tryz.prog 213 #[ptV a, ptV b] w fun e w' => e = .returned (ptV (S.cross a b)) ∧ Below w.heap.size w w' := by
 simp only [S.near1, Bool.and_eq_true, decide_eq_true_eq] at ha hb
 have hm : ∀ u v : Int, -1 ≤ u ∧ u ≤ 1 → -1 ≤ v ∧ v ≤ 1 → -1 ≤ u * v ∧ u * v ≤ 1 := fun u v hu hv => by
  have h1 : u = -1 ∨ u = 0 ∨ u = 1 := by omega
  rcases h1 with rfl | rfl | rfl <;> omega
 have p0 := hm a.y b.z (by omega) (by omega)
 have p1 := hm a.z b.y (by omega) (by omega)
 have p2 := hm a.z b.x (by omega) (by omega)
 have p3 := hm a.x b.z (by omega) (by omega)
 have p4 := hm a.x b.y (by omega) (by omega)
 have p5 := hm a.y b.x (by omega) (by omega)
 clear hm
 have x0 : (S.cross a b).x = a.y * b.z - a.z * b.y := rfl
 have x1 : (S.cross a b).y = a.z * b.x - a.x * b.z := rfl
 have x2 : (S.cross a b).z = a.x * b.y - a.y * b.x := rfl
 unfold ptV
 go_enter Tryz.func213, Tryz.ntmps213
 go_wp2
 exact bodyPost_ret (v := .agg #[.int .i64 (S.cross a b).x, .int .i64 (S.cross a b).y, .int .i64 (S.cross a b).z]) (by simp [results, Tryz.results213, go_sem, *]) rfl ⟨rfl, bel⟩
theorem rplus_any (a b : Pt) (h : S.near1 (S.padd a b) 1000000000000 = true) (w : World) : Calls Tryz.prog 153 #[ptV a, ptV b] w fun e w' => e = .returned (ptV (S.padd a b)) ∧ Below w.heap.size w w' := by
 obtain ⟨hx, hy, hz⟩ := near1_out h
 clear h
 have x0 : (S.padd a b).x = a.x + b.x := rfl
 have x1 : (S.padd a b).y = a.y + b.y := rfl
 have x2 : (S.padd a b).z = a.z + b.z := rfl
 rw [x0] at hx
 rw [x1] at hy
 rw [x2] at hz
 unfold ptV
 go_enter Tryz.func153, Tryz.ntmps153
 go_wp2
 exact bodyPost_ret (v := .agg #[.int .i64 (S.padd a b).x, .int .i64 (S.padd a b).y, .int .i64 (S.padd a b).z]) (by simp [results, Tryz.results153, go_sem, *]) rfl ⟨rfl, bel⟩
theorem rtimes_any (n : Int) (p : Pt) (h : S.near1 (S.times n p) 1000000000000 = true) (w : World) : Calls Tryz.prog 212 #[.int .i64 n, ptV p] w fun e w' => e = .returned (ptV (S.times n p)) ∧ Below w.heap.size w w' := by
 obtain ⟨hx, hy, hz⟩ := near1_out h
 clear h
 have x0 : (S.times n p).x = n * p.x := rfl
 have x1 : (S.times n p).y = n * p.y := rfl
 have x2 : (S.times n p).z = n * p.z := rfl
 rw [x0] at hx
 rw [x1] at hy
 rw [x2] at hz
 unfold ptV
 go_enter Tryz.func212, Tryz.ntmps212
 go_wp2
 exact bodyPost_ret (v := .agg #[.int .i64 (S.times n p).x, .int .i64 (S.times n p).y, .int .i64 (S.times n p).z]) (by simp [results, Tryz.results212, go_sem, *]) rfl ⟨rfl, bel⟩
theorem rimage_eq (x y : Int) (p : Pt) : S.padd (S.times p.x (S.unit x)) (S.padd (S.times p.y (S.unit y)) (S.times p.z (S.cross (S.unit x) (S.unit y)))) = S.image x y p := by
 rw [show S.image x y p = ⟨(S.unit x).x * p.x + (S.unit y).x * p.y + (S.cross (S.unit x) (S.unit y)).x * p.z, (S.unit x).y * p.x + (S.unit y).y * p.y + (S.cross (S.unit x) (S.unit y)).y * p.z, (S.unit x).z * p.x + (S.unit y).z * p.y + (S.cross (S.unit x) (S.unit y)).z * p.z⟩ from rfl]
 simp only [S.padd, S.times, Int.mul_comm, Int.add_assoc]
theorem near1_mono0 {p : Pt} {a b : Int} (h : S.near1 p a = true) (hab : a ≤ b) : S.near1 p b = true := by
 simp only [S.near1, Bool.and_eq_true, decide_eq_true_eq] at h ⊢
 omega
theorem times_near {n m : Int} {p : Pt} (hn : -m ≤ n ∧ n ≤ m) (hp : S.near1 p 1 = true) : S.near1 (S.times n p) m = true := by
 obtain ⟨hx, hy, hz⟩ := near1_out hp
 have ax := mul_near hx hn
 have ay := mul_near hy hn
 have az := mul_near hz hn
 rw [Int.mul_comm] at ax ay az
 rw [show S.times n p = ⟨n * p.x, n * p.y, n * p.z⟩ from rfl]
 simp only [S.near1, Bool.and_eq_true, decide_eq_true_eq]
 generalize n * p.x = u1 at *
 generalize n * p.y = u2 at *
 generalize n * p.z = u3 at *
 omega
theorem padd_near {a b : Pt} {m k : Int} (ha : S.near1 a m = true) (hb : S.near1 b k = true) : S.near1 (S.padd a b) (m + k) = true := by
 obtain ⟨hx, hy, hz⟩ := near1_out ha
 obtain ⟨gx, gy, gz⟩ := near1_out hb
 rw [show S.padd a b = ⟨a.x + b.x, a.y + b.y, a.z + b.z⟩ from rfl]
 simp only [S.near1, Bool.and_eq_true, decide_eq_true_eq]
 omega
set_option maxRecDepth 20000 in
set_option maxHeartbeats 4000000 in
theorem rimage_any (x y : Int) (h : S.turn x y = true) (p : Pt) (hp : S.near1 p 1048576 = true) (w : World) : Calls Tryz.prog 155 #[turnV x y, ptV p] w fun e w' => e = .returned (ptV (S.image x y p)) ∧ Below w.heap.size w w' := by
 obtain ⟨hax, hay⟩ := turn_axes h
 obtain ⟨px, py, pz⟩ := near1_out hp
 have hn1 := times_near px (unit_near hax)
 have hn2 := times_near py (unit_near hay)
 have hn3 := times_near pz (cross_near h)
 have hn4 := padd_near hn2 hn3
 have hn5 := padd_near hn1 hn4
 have HUX := Lib.hid (fun w => runit_any x hax w)
 have HUY := Lib.hid (fun w => runit_any y hay w)
 have HC := Lib.hid (fun w => rcross_any (S.unit x) (S.unit y) (unit_near hax) (unit_near hay) w)
 have HT1 := Lib.hid (fun w => rtimes_any p.x (S.unit x) (near1_mono0 hn1 (by omega)) w)
 have HT2 := Lib.hid (fun w => rtimes_any p.y (S.unit y) (near1_mono0 hn2 (by omega)) w)
 have HT3 := Lib.hid (fun w => rtimes_any p.z (S.cross (S.unit x) (S.unit y)) (near1_mono0 hn3 (by omega)) w)
 have HP1 := Lib.hid (fun w => rplus_any (S.times p.y (S.unit y)) (S.times p.z (S.cross (S.unit x) (S.unit y))) (near1_mono0 hn4 (by omega)) w)
 have HP2 := Lib.hid (fun w => rplus_any (S.times p.x (S.unit x)) _ (near1_mono0 hn5 (by omega)) w)
 have HE := Lib.hid (rimage_eq x y p)
 clear h hp hax hay hn1 hn2 hn3 hn4 hn5 px py pz
 rw [← HE.out]
 clear HE
 generalize S.padd (S.times p.x (S.unit x)) (S.padd (S.times p.y (S.unit y)) (S.times p.z (S.cross (S.unit x) (S.unit y)))) = R at *
 generalize S.padd (S.times p.y (S.unit y)) (S.times p.z (S.cross (S.unit x) (S.unit y))) = P1 at *
 generalize S.times p.z (S.cross (S.unit x) (S.unit y)) = T3 at *
 generalize S.times p.y (S.unit y) = T2 at *
 generalize S.times p.x (S.unit x) = T1 at *
 generalize S.cross (S.unit x) (S.unit y) = C at *
 generalize S.unit x = U at *
 generalize S.unit y = V at *
 unfold ptV at HUX HUY HC HT1 HT2 HT3 HP1 HP2
 unfold turnV ptV
 go_enter Tryz.func155, Tryz.ntmps155
 go_wp2_with (first
  | (go_at_call 211; (with_reducible refine (HUX.out _).mono ?_); rintro e w1 ⟨rfl, hbw1⟩; obtain ⟨hcw1, hfw1⟩ := bcell hbw1; have hzw1_0 : w.heap.size < w1.heap.size := lt_via hbw1 sz; have hzw1_1 : w.heap.size + 1 < w1.heap.size := lt_via hbw1 sz; have hzw1_2 : w.heap.size + 2 < w1.heap.size := lt_via hbw1 sz)
  | (go_at_call 211; (with_reducible refine (HUY.out _).mono ?_); rintro e w2 ⟨rfl, hbw2⟩; obtain ⟨hcw2, hfw2⟩ := bcell hbw2; have hzw2_0 : w.heap.size < w2.heap.size := lt_via hbw2 sz; have hzw2_1 : w.heap.size + 1 < w2.heap.size := lt_via hbw2 sz; have hzw2_2 : w.heap.size + 2 < w2.heap.size := lt_via hbw2 sz; have hyw2_0 : w1.heap.size < w2.heap.size := lt_via hbw2 sz))
 have hbel : Below w.heap.size w w2 := bel
 refine wp_region_grow_tail 16 (by kernel_rfl) (by kernel_rfl) ?_
 simp only [List.take_succ_cons, List.take_zero, List.drop_succ_cons, List.drop_zero]
 repeat (go_big_quiet_step ((first
  | (go_at_call 212; with_reducible exact grow_of (HT1.out _))
  | (go_at_call 212; with_reducible exact grow_of (HT2.out _))
  | (go_at_call 212; with_reducible exact grow_of (HT3.out _))
  | (go_at_call 213; with_reducible exact grow_of (HC.out _))
  | (go_at_call 153; with_reducible exact grow_of (HP1.out _))
  | (go_at_call 153; with_reducible exact grow_of (HP2.out _)))))
 all_goals (refine wpQuiet_nil ?_; intro wg hbwg; obtain ⟨hcwg, hfwg⟩ := bcell hbwg; have hzwg_0 : w.heap.size < wg.heap.size := lt_via hbwg sz; have hzwg_1 : w.heap.size + 1 < wg.heap.size := lt_via hbwg sz; have hzwg_2 : w.heap.size + 2 < wg.heap.size := lt_via hbwg sz)
 go_wp2
 exact bodyPost_ret (v := .agg #[.int .i64 R.x, .int .i64 R.y, .int .i64 R.z]) (by simp [results, Tryz.results155, go_sem, *]) rfl ⟨rfl, bel⟩
def S.moves (b : Bar) : List Pt := (S.legsOf b.code).map fun l => S.step ⟨0, 0, 0⟩ l.2 (b.dims.getD l.1 0)
theorem moves_len (b : Bar) : (S.moves b).length = (S.legsOf b.code).length := by simp [S.moves]
def GivesPts (l : List Pt) (w : World) (e : Ending) (w' : World) : Prop :=
 ∃ A, e = .returned (.slice A l.length l.length) ∧ Cells w' w'.heap.size A (l.flatMap ptC) ∧ Below w.heap.size w w' ∧ w.heap.size < w'.heap.size
set_option maxRecDepth 100000 in
set_option maxHeartbeats 2000000 in
theorem rmoves_0 (mk : ByteArray) (sz ct : Int) (d0 : Int) (A : Option Addr) (c : Nat) (B : Nat) (w : World) (hB : B ≤ w.heap.size) (hA : BarAt w B A 1 ⟨mk, sz, ct, 0, [d0]⟩) (hd : 1 ≤ d0 ∧ d0 ≤ 262144) :
 Calls Tryz.prog 210 #[barV ⟨mk, sz, ct, 0, [d0]⟩ A 1 c] w (GivesPts (S.moves ⟨mk, sz, ct, 0, [d0]⟩) w) := by
 have hmv : S.moves ⟨mk, sz, ct, 0, [d0]⟩ = [⟨d0, 0, 0⟩] := by simp [S.moves, S.legsOf, S.step]
 obtain ⟨bd, od, rfl, hbd, hcd⟩ := hA.cells.at_ (by simp)
 have g0 := hcd 0 (.int .i64 d0) rfl
 simp only [Nat.add_zero] at g0
 rw [hmv]
 clear hcd hA hmv
 have hn0 : bd < w.heap.size := by omega
 unfold barV
 go_enter Tryz.func210, Tryz.ntmps210
 go_wp2
 go_ret
 refine ⟨some ⟨w.heap.size + 1, 0, none⟩, rfl, ?_, bel, by simp; omega⟩
 simpa using Cells.newRow (w.alloc (.cells #[.string mk, .int .i64 sz, .int .i64 ct, .int .i64 0, .slice (some ⟨bd, od, none⟩) 1 c] 133)) #[.int .i64 (d0), .int .i64 (0), .int .i64 (0)] 76 (0, 0)
set_option maxRecDepth 100000 in
set_option maxHeartbeats 2000000 in
theorem rmoves_11 (mk : ByteArray) (sz ct : Int) (d0 d1 : Int) (A : Option Addr) (c : Nat) (B : Nat) (w : World) (hB : B ≤ w.heap.size) (hA : BarAt w B A 2 ⟨mk, sz, ct, 11, [d0, d1]⟩) (hd : 1 ≤ d0 ∧ d0 ≤ 262144 ∧ 1 ≤ d1 ∧ d1 ≤ 262144) :
 Calls Tryz.prog 210 #[barV ⟨mk, sz, ct, 11, [d0, d1]⟩ A 2 c] w (GivesPts (S.moves ⟨mk, sz, ct, 11, [d0, d1]⟩) w) := by
 have hmv : S.moves ⟨mk, sz, ct, 11, [d0, d1]⟩ = [⟨d0, 0, 0⟩, ⟨0, d1, 0⟩] := by simp [S.moves, S.legsOf, S.step]
 obtain ⟨bd, od, rfl, hbd, hcd⟩ := hA.cells.at_ (by simp)
 have g0 := hcd 0 (.int .i64 d0) rfl
 have g1 := hcd 1 (.int .i64 d1) rfl
 simp only [Nat.add_zero] at g0
 rw [hmv]
 clear hcd hA hmv
 have hn0 : bd < w.heap.size := by omega
 unfold barV
 go_enter Tryz.func210, Tryz.ntmps210
 go_wp2
 refine wp_region_grow_tail 8 (by kernel_rfl) (by kernel_rfl) ?_
 simp only [List.take_succ_cons, List.take_zero, List.drop_succ_cons, List.drop_zero]
 repeat (go_big_quiet_step (fail))
 all_goals (refine wpQuiet_nil ?_; intro wg hbwg; obtain ⟨hcwg, hfwg⟩ := bcell hbwg; have hzwg_0 : w.heap.size < wg.heap.size := lt_via hbwg (by first | omega | (simp; done) | (simp; omega)))
 go_wp2
 go_ret
 refine ⟨some ⟨wg.heap.size, 0, none⟩, rfl, ?_, bel, by simp; omega⟩
 simpa using Cells.newRow wg #[.int .i64 (d0), .int .i64 (0), .int .i64 (0), .int .i64 (0), .int .i64 (d1), .int .i64 (0)] 76 (0, 0)
set_option maxRecDepth 100000 in
set_option maxHeartbeats 2000000 in
theorem rmoves_21 (mk : ByteArray) (sz ct : Int) (d0 d1 d2 : Int) (A : Option Addr) (c : Nat) (B : Nat) (w : World) (hB : B ≤ w.heap.size) (hA : BarAt w B A 3 ⟨mk, sz, ct, 21, [d0, d1, d2]⟩) (hd : 1 ≤ d0 ∧ d0 ≤ 262144 ∧ 1 ≤ d1 ∧ d1 ≤ 262144 ∧ 1 ≤ d2 ∧ d2 ≤ 262144) :
 Calls Tryz.prog 210 #[barV ⟨mk, sz, ct, 21, [d0, d1, d2]⟩ A 3 c] w (GivesPts (S.moves ⟨mk, sz, ct, 21, [d0, d1, d2]⟩) w) := by
 have hmv : S.moves ⟨mk, sz, ct, 21, [d0, d1, d2]⟩ = [⟨0, -d0, 0⟩, ⟨d1, 0, 0⟩, ⟨0, d2, 0⟩] := by simp [S.moves, S.legsOf, S.step]
 obtain ⟨bd, od, rfl, hbd, hcd⟩ := hA.cells.at_ (by simp)
 have g0 := hcd 0 (.int .i64 d0) rfl
 have g1 := hcd 1 (.int .i64 d1) rfl
 have g2 := hcd 2 (.int .i64 d2) rfl
 simp only [Nat.add_zero] at g0
 rw [hmv]
 clear hcd hA hmv
 have hn0 : bd < w.heap.size := by omega
 have hw0 : IntKind.i64.wrap (-d0) = -d0 := IntWalk.i64_in _ (by omega)
 unfold barV
 go_enter Tryz.func210, Tryz.ntmps210
 go_wp2
 refine wp_region_grow_tail 13 (by kernel_rfl) (by kernel_rfl) ?_
 simp only [List.take_succ_cons, List.take_zero, List.drop_succ_cons, List.drop_zero]
 repeat (go_big_quiet_step (fail))
 all_goals (refine wpQuiet_nil ?_; intro wg hbwg; obtain ⟨hcwg, hfwg⟩ := bcell hbwg; have hzwg_0 : w.heap.size < wg.heap.size := lt_via hbwg (by first | omega | (simp; done) | (simp; omega)))
 go_wp2
 go_ret
 refine ⟨some ⟨wg.heap.size, 0, none⟩, rfl, ?_, bel, by simp; omega⟩
 simpa using Cells.newRow wg #[.int .i64 (0), .int .i64 (-d0), .int .i64 (0), .int .i64 (d1), .int .i64 (0), .int .i64 (0), .int .i64 (0), .int .i64 (d2), .int .i64 (0)] 76 (0, 0)
set_option maxRecDepth 100000 in
set_option maxHeartbeats 2000000 in
theorem rmoves_26 (mk : ByteArray) (sz ct : Int) (d0 d1 d2 : Int) (A : Option Addr) (c : Nat) (B : Nat) (w : World) (hB : B ≤ w.heap.size) (hA : BarAt w B A 3 ⟨mk, sz, ct, 26, [d0, d1, d2]⟩) (hd : 1 ≤ d0 ∧ d0 ≤ 262144 ∧ 1 ≤ d1 ∧ d1 ≤ 262144 ∧ 1 ≤ d2 ∧ d2 ≤ 262144) :
 Calls Tryz.prog 210 #[barV ⟨mk, sz, ct, 26, [d0, d1, d2]⟩ A 3 c] w (GivesPts (S.moves ⟨mk, sz, ct, 26, [d0, d1, d2]⟩) w) := by
 have hmv : S.moves ⟨mk, sz, ct, 26, [d0, d1, d2]⟩ = [⟨d0, 0, 0⟩, ⟨0, d1, 0⟩, ⟨d2, 0, 0⟩] := by simp [S.moves, S.legsOf, S.step]
 obtain ⟨bd, od, rfl, hbd, hcd⟩ := hA.cells.at_ (by simp)
 have g0 := hcd 0 (.int .i64 d0) rfl
 have g1 := hcd 1 (.int .i64 d1) rfl
 have g2 := hcd 2 (.int .i64 d2) rfl
 simp only [Nat.add_zero] at g0
 rw [hmv]
 clear hcd hA hmv
 have hn0 : bd < w.heap.size := by omega
 unfold barV
 go_enter Tryz.func210, Tryz.ntmps210
 go_wp2
 refine wp_region_grow_tail 12 (by kernel_rfl) (by kernel_rfl) ?_
 simp only [List.take_succ_cons, List.take_zero, List.drop_succ_cons, List.drop_zero]
 repeat (go_big_quiet_step (fail))
 all_goals (refine wpQuiet_nil ?_; intro wg hbwg; obtain ⟨hcwg, hfwg⟩ := bcell hbwg; have hzwg_0 : w.heap.size < wg.heap.size := lt_via hbwg (by first | omega | (simp; done) | (simp; omega)))
 go_wp2
 go_ret
 refine ⟨some ⟨wg.heap.size, 0, none⟩, rfl, ?_, bel, by simp; omega⟩
 simpa using Cells.newRow wg #[.int .i64 (d0), .int .i64 (0), .int .i64 (0), .int .i64 (0), .int .i64 (d1), .int .i64 (0), .int .i64 (d2), .int .i64 (0), .int .i64 (0)] 76 (0, 0)
set_option maxRecDepth 100000 in
set_option maxHeartbeats 2000000 in
theorem rmoves_31 (mk : ByteArray) (sz ct : Int) (d0 d1 d2 : Int) (A : Option Addr) (c : Nat) (B : Nat) (w : World) (hB : B ≤ w.heap.size) (hA : BarAt w B A 3 ⟨mk, sz, ct, 31, [d0, d1, d2]⟩) (hd : 1 ≤ d0 ∧ d0 ≤ 262144 ∧ 1 ≤ d1 ∧ d1 ≤ 262144 ∧ 1 ≤ d2 ∧ d2 ≤ 262144) :
 Calls Tryz.prog 210 #[barV ⟨mk, sz, ct, 31, [d0, d1, d2]⟩ A 3 c] w (GivesPts (S.moves ⟨mk, sz, ct, 31, [d0, d1, d2]⟩) w) := by
 have hmv : S.moves ⟨mk, sz, ct, 31, [d0, d1, d2]⟩ = [⟨d0, 0, 0⟩, ⟨0, d1, 0⟩, ⟨0, 0, d2⟩] := by simp [S.moves, S.legsOf, S.step]
 obtain ⟨bd, od, rfl, hbd, hcd⟩ := hA.cells.at_ (by simp)
 have g0 := hcd 0 (.int .i64 d0) rfl
 have g1 := hcd 1 (.int .i64 d1) rfl
 have g2 := hcd 2 (.int .i64 d2) rfl
 simp only [Nat.add_zero] at g0
 rw [hmv]
 clear hcd hA hmv
 have hn0 : bd < w.heap.size := by omega
 unfold barV
 go_enter Tryz.func210, Tryz.ntmps210
 go_wp2
 refine wp_region_grow_tail 12 (by kernel_rfl) (by kernel_rfl) ?_
 simp only [List.take_succ_cons, List.take_zero, List.drop_succ_cons, List.drop_zero]
 repeat (go_big_quiet_step (fail))
 all_goals (refine wpQuiet_nil ?_; intro wg hbwg; obtain ⟨hcwg, hfwg⟩ := bcell hbwg; have hzwg_0 : w.heap.size < wg.heap.size := lt_via hbwg (by first | omega | (simp; done) | (simp; omega)))
 go_wp2
 go_ret
 refine ⟨some ⟨wg.heap.size, 0, none⟩, rfl, ?_, bel, by simp; omega⟩
 simpa using Cells.newRow wg #[.int .i64 (d0), .int .i64 (0), .int .i64 (0), .int .i64 (0), .int .i64 (d1), .int .i64 (0), .int .i64 (0), .int .i64 (0), .int .i64 (d2)] 76 (0, 0)
set_option maxRecDepth 100000 in
set_option maxHeartbeats 2000000 in
theorem rmoves_41 (mk : ByteArray) (sz ct : Int) (d0 d1 d2 d3 d4 : Int) (A : Option Addr) (c : Nat) (B : Nat) (w : World) (hB : B ≤ w.heap.size) (hA : BarAt w B A 5 ⟨mk, sz, ct, 41, [d0, d1, d2, d3, d4]⟩) (hd : 1 ≤ d0 ∧ d0 ≤ 262144 ∧ 1 ≤ d1 ∧ d1 ≤ 262144 ∧ 1 ≤ d2 ∧ d2 ≤ 262144 ∧ 1 ≤ d3 ∧ d3 ≤ 262144 ∧ 1 ≤ d4 ∧ d4 ≤ 262144) :
 Calls Tryz.prog 210 #[barV ⟨mk, sz, ct, 41, [d0, d1, d2, d3, d4]⟩ A 5 c] w (GivesPts (S.moves ⟨mk, sz, ct, 41, [d0, d1, d2, d3, d4]⟩) w) := by
 have hmv : S.moves ⟨mk, sz, ct, 41, [d0, d1, d2, d3, d4]⟩ = [⟨d0, 0, 0⟩, ⟨0, d1, 0⟩, ⟨d2, 0, 0⟩, ⟨0, -d3, 0⟩, ⟨d4, 0, 0⟩] := by simp [S.moves, S.legsOf, S.step]
 obtain ⟨bd, od, rfl, hbd, hcd⟩ := hA.cells.at_ (by simp)
 have g0 := hcd 0 (.int .i64 d0) rfl
 have g1 := hcd 1 (.int .i64 d1) rfl
 have g2 := hcd 2 (.int .i64 d2) rfl
 have g3 := hcd 3 (.int .i64 d3) rfl
 have g4 := hcd 4 (.int .i64 d4) rfl
 simp only [Nat.add_zero] at g0
 rw [hmv]
 clear hcd hA hmv
 have hn0 : bd < w.heap.size := by omega
 have hw0 : IntKind.i64.wrap (-d3) = -d3 := IntWalk.i64_in _ (by omega)
 unfold barV
 go_enter Tryz.func210, Tryz.ntmps210
 go_wp2
 refine wp_region_grow_tail 21 (by kernel_rfl) (by kernel_rfl) ?_
 simp only [List.take_succ_cons, List.take_zero, List.drop_succ_cons, List.drop_zero]
 repeat (go_big_quiet_step (fail))
 all_goals (refine wpQuiet_nil ?_; intro wg hbwg; obtain ⟨hcwg, hfwg⟩ := bcell hbwg; have hzwg_0 : w.heap.size < wg.heap.size := lt_via hbwg (by first | omega | (simp; done) | (simp; omega)))
 go_wp2
 go_ret
 refine ⟨some ⟨wg.heap.size, 0, none⟩, rfl, ?_, bel, by simp; omega⟩
 simpa using Cells.newRow wg #[.int .i64 (d0), .int .i64 (0), .int .i64 (0), .int .i64 (0), .int .i64 (d1), .int .i64 (0), .int .i64 (d2), .int .i64 (0), .int .i64 (0), .int .i64 (0), .int .i64 (-d3), .int .i64 (0), .int .i64 (d4), .int .i64 (0), .int .i64 (0)] 76 (0, 0)
set_option maxRecDepth 100000 in
set_option maxHeartbeats 2000000 in
theorem rmoves_51 (mk : ByteArray) (sz ct : Int) (d0 d1 d2 : Int) (A : Option Addr) (c : Nat) (B : Nat) (w : World) (hB : B ≤ w.heap.size) (hA : BarAt w B A 3 ⟨mk, sz, ct, 51, [d0, d1, d2]⟩) (hd : 1 ≤ d0 ∧ d0 ≤ 262144 ∧ 1 ≤ d1 ∧ d1 ≤ 262144 ∧ 1 ≤ d2 ∧ d2 ≤ 262144) :
 Calls Tryz.prog 210 #[barV ⟨mk, sz, ct, 51, [d0, d1, d2]⟩ A 3 c] w (GivesPts (S.moves ⟨mk, sz, ct, 51, [d0, d1, d2]⟩) w) := by
 have hmv : S.moves ⟨mk, sz, ct, 51, [d0, d1, d2]⟩ = [⟨0, -d2, 0⟩, ⟨d0, 0, 0⟩, ⟨0, d1, 0⟩, ⟨-d0, 0, 0⟩, ⟨0, -d1, 0⟩, ⟨d2, 0, 0⟩] := by simp [S.moves, S.legsOf, S.step]
 obtain ⟨bd, od, rfl, hbd, hcd⟩ := hA.cells.at_ (by simp)
 have g0 := hcd 0 (.int .i64 d0) rfl
 have g1 := hcd 1 (.int .i64 d1) rfl
 have g2 := hcd 2 (.int .i64 d2) rfl
 simp only [Nat.add_zero] at g0
 rw [hmv]
 clear hcd hA hmv
 have hn0 : bd < w.heap.size := by omega
 have hw0 : IntKind.i64.wrap (-d2) = -d2 := IntWalk.i64_in _ (by omega)
 have hw1 : IntKind.i64.wrap (-d0) = -d0 := IntWalk.i64_in _ (by omega)
 have hw2 : IntKind.i64.wrap (-d1) = -d1 := IntWalk.i64_in _ (by omega)
 unfold barV
 go_enter Tryz.func210, Tryz.ntmps210
 go_wp2
 refine wp_region_grow_tail 27 (by kernel_rfl) (by kernel_rfl) ?_
 simp only [List.take_succ_cons, List.take_zero, List.drop_succ_cons, List.drop_zero]
 repeat (go_big_quiet_step (fail))
 all_goals (refine wpQuiet_nil ?_; intro wg hbwg; obtain ⟨hcwg, hfwg⟩ := bcell hbwg; have hzwg_0 : w.heap.size < wg.heap.size := lt_via hbwg (by first | omega | (simp; done) | (simp; omega)))
 go_wp2
 go_ret
 refine ⟨some ⟨wg.heap.size, 0, none⟩, rfl, ?_, bel, by simp; omega⟩
 simpa using Cells.newRow wg #[.int .i64 (0), .int .i64 (-d2), .int .i64 (0), .int .i64 (d0), .int .i64 (0), .int .i64 (0), .int .i64 (0), .int .i64 (d1), .int .i64 (0), .int .i64 (-d0), .int .i64 (0), .int .i64 (0), .int .i64 (0), .int .i64 (-d1), .int .i64 (0), .int .i64 (d2), .int .i64 (0), .int .i64 (0)] 76 (0, 0)
set_option maxRecDepth 100000 in
set_option maxHeartbeats 2000000 in
theorem rmoves_98 (mk : ByteArray) (sz ct : Int) (d0 d1 d2 : Int) (A : Option Addr) (c : Nat) (B : Nat) (w : World) (hB : B ≤ w.heap.size) (hA : BarAt w B A 3 ⟨mk, sz, ct, 98, [d0, d1, d2]⟩) (hd : 1 ≤ d0 ∧ d0 ≤ 262144 ∧ 1 ≤ d1 ∧ d1 ≤ 262144 ∧ 1 ≤ d2 ∧ d2 ≤ 262144) :
 Calls Tryz.prog 210 #[barV ⟨mk, sz, ct, 98, [d0, d1, d2]⟩ A 3 c] w (GivesPts (S.moves ⟨mk, sz, ct, 98, [d0, d1, d2]⟩) w) := by
 have hmv : S.moves ⟨mk, sz, ct, 98, [d0, d1, d2]⟩ = [⟨0, 0, d0⟩, ⟨0, -d1, 0⟩, ⟨d2, 0, 0⟩, ⟨0, d1, 0⟩, ⟨0, 0, d0⟩] := by simp [S.moves, S.legsOf, S.step]
 obtain ⟨bd, od, rfl, hbd, hcd⟩ := hA.cells.at_ (by simp)
 have g0 := hcd 0 (.int .i64 d0) rfl
 have g1 := hcd 1 (.int .i64 d1) rfl
 have g2 := hcd 2 (.int .i64 d2) rfl
 simp only [Nat.add_zero] at g0
 rw [hmv]
 clear hcd hA hmv
 have hn0 : bd < w.heap.size := by omega
 have hw0 : IntKind.i64.wrap (-d1) = -d1 := IntWalk.i64_in _ (by omega)
 unfold barV
 go_enter Tryz.func210, Tryz.ntmps210
 go_wp2
 refine wp_region_grow_tail 21 (by kernel_rfl) (by kernel_rfl) ?_
 simp only [List.take_succ_cons, List.take_zero, List.drop_succ_cons, List.drop_zero]
 repeat (go_big_quiet_step (fail))
 all_goals (refine wpQuiet_nil ?_; intro wg hbwg; obtain ⟨hcwg, hfwg⟩ := bcell hbwg; have hzwg_0 : w.heap.size < wg.heap.size := lt_via hbwg (by first | omega | (simp; done) | (simp; omega)))
 go_wp2
 go_ret
 refine ⟨some ⟨wg.heap.size, 0, none⟩, rfl, ?_, bel, by simp; omega⟩
 simpa using Cells.newRow wg #[.int .i64 (0), .int .i64 (0), .int .i64 (d0), .int .i64 (0), .int .i64 (-d1), .int .i64 (0), .int .i64 (d2), .int .i64 (0), .int .i64 (0), .int .i64 (0), .int .i64 (d1), .int .i64 (0), .int .i64 (0), .int .i64 (0), .int .i64 (d0)] 76 (0, 0)
theorem rmoves_any (b : Bar) (A : Option Addr) (n c : Nat) (B : Nat) (w : World) (hB : B ≤ w.heap.size) (hA : BarAt w B A n b) (h : S.bar b = true) :
 Calls Tryz.prog 210 #[barV b A n c] w (GivesPts (S.moves b) w) := by
 obtain rfl := hA.len
 obtain ⟨mk, sz, ct, cd, ds⟩ := b
 rcases bar_codes h with ⟨hc, a, e, h1, h2⟩ | ⟨hc, a, a2, e, h1, h2, h3⟩ | ⟨hc, a, a2, a3, e, h1, h2, h3, h4⟩ | ⟨hc, a, a2, a3, a4, a5, e, h1, h2, h3, h4, h5, h6⟩
 ·simp only [] at hc e
  subst hc e
  exact rmoves_0 mk sz ct a A c B w hB hA (by omega)
 ·simp only [] at hc e
  subst hc e
  exact rmoves_11 mk sz ct a a2 A c B w hB hA (by omega)
 ·simp only [] at hc e
  rcases hc with hc | hc | hc | hc | hc <;> subst hc e
  ·exact rmoves_21 mk sz ct a a2 a3 A c B w hB hA (by omega)
  ·exact rmoves_26 mk sz ct a a2 a3 A c B w hB hA (by omega)
  ·exact rmoves_31 mk sz ct a a2 a3 A c B w hB hA (by omega)
  ·exact rmoves_51 mk sz ct a a2 a3 A c B w hB hA (by omega)
  ·exact rmoves_98 mk sz ct a a2 a3 A c B w hB hA (by omega)
 ·simp only [] at hc e
  subst hc e
  exact rmoves_41 mk sz ct a a2 a3 a4 a5 A c B w hB hA (by omega)
def S.abs (n : Int) : Int := if n < 0 then 0 - n else n
section
variable {P : Program} {ops : Array Oper} {md : Region.Mode} {C : World → Prop} {n : Nat}
def sink1B (md : Region.Mode) (ops : Array Oper) (n : Nat) : Bool :=
 (List.range n).all fun i => decide (i < 1) || (List.range (n + 1)).any fun j => decide (i < j) && Region.waitsFor md ops j i
theorem tail_waits1 {listed : Array Bool} (hs : sink1B md ops n = true) (hc : Region.chainB md ops n = true) (hn : n < ops.size) (inv : HeadInv md ops n listed) :
 ∀ (d i : Nat), n - i = d → 1 ≤ i → i < n → listed.getD i true = false → ∀ t, n ≤ t → t ∉ Region.ready md ops listed := by
 intro d
 induction d using Nat.strongRecOn with
 | _ d ih =>
  intro i hd h1i hi hun t ht hr
  obtain ⟨_, ot, hot, hall⟩ := mem_ready.1 hr
  have htlt : t < ops.size := (Array.getElem?_eq_some_iff.1 hot).1
  by_cases htn : t = n
  ·subst htn
   have h1 := List.all_eq_true.1 hs i (List.mem_range.2 hi)
   simp only [Bool.or_eq_true, decide_eq_true_eq] at h1
   replace h1 := h1.resolve_left (by omega)
   obtain ⟨j, hj, hj2⟩ := List.any_eq_true.1 h1
   simp only [Bool.and_eq_true, decide_eq_true_eq] at hj2
   obtain ⟨oj, hoj, e, he, hb, hon⟩ := Region.waitsFor_spec hj2.2
   have hjle : j ≤ t := by have := List.mem_range.1 hj; omega
   by_cases hjt : j = t
   ·subst hjt
    have : oj = ot := Option.some.inj (hoj.symm.trans hot)
    subst this
    have h2 := hall e he hb
    rw [hon, getD_both hun] at h2
    cases h2
   ·cases hl : listed.getD j false with
    | true =>
     have h2 := inv.closed j oj hoj hl e he hb
     rw [hon, getD_both hun] at h2
     cases h2
    | false =>
     have hjs : j < listed.size := by rw [inv.size]; omega
     exact ih (t - j) (by omega) j rfl (by omega) (by omega) (getD_in hjs hl) t (Nat.le_refl _) hr
  ·have h1 := List.all_eq_true.1 hc t (List.mem_range.2 htlt)
   simp only [Bool.or_eq_true, decide_eq_true_eq] at h1
   rcases h1 with h1 | h1
   ·omega
   ·obtain ⟨o', ho', e, he, hb, hon⟩ := Region.waitsFor_spec h1
    have : o' = ot := Option.some.inj (ho'.symm.trans hot)
    subst this
    have h2 := hall e he hb
    rw [hon, getD_both (inv.tail (t - 1) (by omega) (by omega))] at h2
    cases h2
theorem headQ_first1 {i : Nat} {oi : Oper} {v : Value} {L : Array Bool → Act → Prop} (hi : ops[i]? = some oi) (hsel : ∀ (j : Nat) (o : Oper) cs b, ops[j]? = some o → o.op ≠ .select cs b)
 (hs : sink1B md ops n = true) (hc : Region.chainB md ops n = true) (hn : n < ops.size) (h1i : 1 ≤ i) (hin : i < n) (hdone : ∀ listed a, L listed a → ∀ j, j ∈ Region.ready md ops listed → n ≤ j) :
 ∀ (f : Nat) (listed : Array Bool) (a : Act), HeadInv md ops n listed →
  (∀ j oj, ops[j]? = some oj → j ≠ i → listed.getD j true = false → (∀ e ∈ oj.after, Region.binds md e = true → e.on ≠ i) → oi.apart ops oj = true) →
  i ∈ Region.ready md ops listed → YieldsIn P ops C oi v a → headQ P md ops C n L f (listed.setIfInBounds i true) (a.put oi.dst v) → headQ P md ops C n L (f + 1) listed a := by
 intro f
 induction f with
 | zero =>
  intro listed a inv _ hr hy H
  refine ⟨fun h => by rw [h] at hr; exact absurd hr (by simp), fun j hj => ?_⟩
  have hjn : j < n := Nat.lt_of_not_le fun h => tail_waits1 hs hc hn inv _ i rfl h1i hin (mem_ready.1 hr).1 j h hj
  refine ⟨hjn, ?_⟩
  by_cases hji : j = i
  ·subst hji
   exact hy.qOp hi H
  ·exact absurd (hdone _ _ H j (ready_mono hj hji)) (by omega)
 | succ f ih =>
  intro listed a inv hfree hr hy H
  refine ⟨fun h => by rw [h] at hr; exact absurd hr (by simp), fun j hj => ?_⟩
  have hjn : j < n := Nat.lt_of_not_le fun h => tail_waits1 hs hc hn inv _ i rfl h1i hin (mem_ready.1 hr).1 j h hj
  refine ⟨hjn, ?_⟩
  by_cases hji : j = i
  ·subst hji
   exact hy.qOp hi H
  ·obtain ⟨hjun, oj, hoj, hall⟩ := mem_ready.1 hj
   have hnot : ∀ e ∈ oj.after, Region.binds md e = true → e.on ≠ i := fun e he hb heq => by
    have h1 := hall e he hb
    rw [heq, getD_both (mem_ready.1 hr).1] at h1
    exact absurd h1 (by simp)
   have h2 := qOp_put hoj (hfree j oj hoj hji hjun hnot) (fun cs b => hsel i oi cs b hi) (fun cs b => hsel j oj cs b hoj) hy (H.2 j (ready_mono hj hji)).2
   refine qOp_mono (fun a' h3 => ih (listed.setIfInBounds j true) a' (inv.set hj hjn) (fun k ok hk hki hun hno => ?_) (ready_mono hr (Ne.symm hji)) h3.1 ?_) h2
   ·refine hfree k ok hk hki ?_ hno
    by_cases hjk : j = k
    ·subst hjk
     exact hjun
    ·rwa [getD_set_ne true hjk] at hun
   ·rw [Array.setIfInBounds_comm _ _ hji]
    exact h3.2
theorem headQ_lex1 {g : Nat} {Lq : Act → Prop} (hsel : Region.noSelect ops = true) (hs : sink1B md ops n = true) (hc : Region.chainB md ops n = true) (hn : n < ops.size) :
 ∀ (l : List Oper) (k : Nat) (listed : Array Bool) (a : Act), 1 ≤ k → (∀ j, j < l.length → l[j]? = ops[k + j]?) → k + l.length = n → HeadInv md ops n listed →
 Region.lexHead md ops g l.length k listed = true → wpQuiet P ops C Lq l a →
 headQ P md ops C n (fun listed' a' => Region.seqB md ops g n listed' = true ∧ Lq a') l.length listed a := by
 intro l
 induction l with
 | nil =>
  intro k listed a _ _ hk _ hB h
  obtain rfl : k = n := by simpa using hk
  exact ⟨by simpa [Region.lexHead] using hB, h⟩
 | cons o l ih =>
  intro k listed a hk1 hl hk inv hB h
  have h0 : ops[k]? = some o := by simpa using (hl 0 (by simp)).symm
  simp only [List.length_cons, Region.lexHead, Bool.and_eq_true] at hB
  simp only [List.length_cons] at hk
  have hr' : k ∈ Region.ready md ops listed := by simpa using hB.1.1
  have hst : qOp P ops C k (wpQuiet P ops C Lq l) a := by
   unfold qOp
   simp only [h0]
   exact h
  obtain ⟨v, hy, hK⟩ := yieldsIn_of_qOp h0 hst
  refine headQ_first1 h0 (Region.noSelect_spec hsel) hs hc hn hk1 (by omega) (fun listed' a' hL => seqB_ready hL.1) l.length listed a inv (Region.free_spec h0 hB.1.2) hr' hy ?_
  refine ih (k + 1) _ _ (by omega) (fun j hj => ?_) (by omega) (inv.set hr' (by omega)) hB.2 hK
  have := hl (j + 1) (by simp; omega)
  simpa [Nat.add_assoc, Nat.add_comm 1 j] using this
end
def lexTail1B (md : Region.Mode) (ops : Array Oper) (n : Nat) : Bool :=
 Region.noSelect ops && decide (1 ≤ n) && decide (n < ops.size) && sink1B md ops n && Region.chainB md ops n && Region.free md ops (Array.replicate ops.size false) 0 && (Region.ready md ops (Array.replicate ops.size false)).contains 0 &&
  Region.lexHead md ops (ops.size - n) (n - 1) 1 ((Array.replicate ops.size false).setIfInBounds 0 true)
theorem wp_region_grow_tail1 {P : Program} {id : Nat} {Q : Exit → Act → World → Prop} {a : Act} {w : World} {o : Oper} {l : List Oper} {v : Value} (m : Nat) (hm : P.follows .mixedOrders = true) (hB : lexTail1B .any (o :: l).toArray m = true)
 (hQ : ∀ c a w, Q (.panic c) (a.put o.dst v) w → Q (.panic c) a w) (hy : Yields P (o :: l).toArray o v a)
 (h : wpQuiet P (o :: l).toArray (fun w' => ∃ g, w' = grow w g) (fun a' => ∀ w', Below w.heap.size w w' → wpList P (o :: l).toArray Q ((o :: l).drop m) a' w') (((o :: l).take m).drop 1) (a.put o.dst v)) : (Code.region id (o :: l).toArray true).wp P Q a w := by
 simp only [lexTail1B, Bool.and_eq_true, decide_eq_true_eq] at hB
 obtain ⟨⟨⟨⟨⟨⟨⟨hsel, h1⟩, hn⟩, hs⟩, hc⟩, hfr⟩, hrd⟩, hlex⟩ := hB
 have hn' : m < l.length + 1 := by simpa using hn
 have htl : (((o :: l).take m).drop 1).length = m - 1 := by simp; omega
 have hdl : ((o :: l).drop m).length = (o :: l).toArray.size - m := by simp
 have h00 : (o :: l).toArray[0]? = some o := by simp
 have inv0 : HeadInv .any (o :: l).toArray m (Array.replicate (o :: l).toArray.size false) :=
  ⟨by simp, fun j oj _ hl => by rw [getD_replicate_false] at hl; exact absurd hl (by simp), fun t _ ht => getD_in (by simpa using ht) (getD_replicate_false _ _)⟩
 have inv1 := inv0.set (i := 0) (by simpa using hrd) (by omega)
 have H := headQ_lex1 (C := fun w' => ∃ g, w' = grow w g) (md := .any) (g := (o :: l).toArray.size - m) hsel hs hc hn (((o :: l).take m).drop 1) 1 _ (a.put o.dst v) (Nat.le_refl _) (fun j hj => by
  have hj' : j < m - 1 := by rw [htl] at hj; exact hj
  rw [List.getElem?_drop, List.getElem?_take_of_lt (by omega)]; simp) (by rw [htl]; omega) inv1 (by rw [htl]; exact hlex) h
 refine wp_region_any hm ?_
 have h3 := headQ_any (Q' := Q) (g := (o :: l).toArray.size - m) (fun listed a' w' hw' hL => by
  obtain ⟨g, rfl⟩ := hw'
  have := wpAny_of_seq (md := .any) (Q' := Q) ((o :: l).drop m) m listed a' (grow w g) (fun j => by simp [List.getElem?_drop]) (by rw [hdl]; exact hL.1) (hL.2 _ (grow_below w g))
  rwa [hdl] at this) _ _ _ w.drew ⟨w.drew, (grow_eq (Below.drew (Below.refl _ _))).symm⟩ H
 have h4 := wpAny_take (Q := Q) h00 hsel hfr hrd hQ hy h3
 rw [htl, show m - 1 + ((o :: l).toArray.size - m) + 1 = (o :: l).toArray.size by omega] at h4
 exact h4
theorem cnt_set : ∀ (l : List Bool) (i : Nat), l[i]? = some false → (l.set i true).count false + 1 = l.count false := by
 intro l
 induction l with
 | nil => intro i h; simp at h
 | cons b l ih =>
  intro i h
  cases i with
  | zero =>
   simp only [List.getElem?_cons_zero, Option.some.injEq] at h
   subst h
   simp
  | succ i =>
   simp only [List.getElem?_cons_succ] at h
   have := ih i h
   cases b <;> simp <;> omega
section
variable {P : Program} {l : List Oper} {V : Nat → Value → World → Prop} {S : Act → World → Prop} {G : World → World → Prop} {Q : Exit → Act → World → Prop}
end
def earlyB (md : Region.Mode) (l : List Oper) : Bool := (List.range l.length).all fun j => match l[j]? with | some o => o.after.all (fun e => !Region.binds md e || decide (e.on < j)) | none => true
theorem earlyB_out {md : Region.Mode} {l : List Oper} (h : earlyB md l = true) : ∀ (j : Nat) (oj : Oper), l[j]? = some oj → ∀ e ∈ oj.after, Region.binds md e = true → e.on < j := by
 intro j oj hj e he hb
 unfold earlyB at h
 rw [List.all_eq_true] at h
 have := h j (by simpa using (List.getElem?_eq_some_iff.1 hj).1)
 rw [hj] at this
 simp only [Array.all_eq_true_iff_forall_mem] at this
 have := this e he
 simp only [hb, Bool.not_true, Bool.false_or, decide_eq_true_eq] at this
 exact this
theorem exc_setCells (b : Nat) : ∀ (vs : List Value) (o : Nat) (w : World), Exc [b] w (w.setCells b o vs) := by
 intro vs
 induction vs with
 | nil => intro o w; exact Exc.refl _ _
 | cons v r ih =>
  intro o w
  have h1 : Exc [b] w (w.setCell ⟨b, o, none⟩ v) := (Exc.refl _ _).set (.inl (by simp)) v
  have h2 := ih (o + 1) (w.setCell ⟨b, o, none⟩ v)
  exact ⟨h2.os.trans h1.os, h2.tape.trans h1.tape, h2.output.trans h1.output, Nat.le_trans h1.size h2.size, fun k hk hm => (h2.block k (Nat.lt_of_lt_of_le hk h1.size) hm).trans (h1.block k hk hm)⟩
section
variable {P : Program} {ops : Array Oper} {md : Region.Mode} {C : World → Prop}
def calmB (o : Oper) : Bool := match o.op with
 | .move _ | .assign _ | .pick _ _ _ | .build _ _ | .load _ _ | .binOp _ _ _ _ _ | .unOp _ _ _ | .convert _ _ _ | .slice _ _ _ _ _ | .fieldAddr _ _ _ | .field _ _ _ | .indexAddr _ _ _ | .index _ _ _ | .extract _ _ | .lookup _ _ _ _ => true
 | .call c => (match c.callee with | .builtin .len => true | .builtin .cap => true | .builtin .max => true | .builtin .min => true | _ => false)
 | _ => false
theorem v_value {s : Sem Value} {n : Next} {w w' : World} (h : (do pure (Next.value (← s)) : Sem Next).run P w = .ok n w') : ∃ v, n = .value v := by
 rw [Sem.run_bind] at h
 cases hs : s.run P w with
 | ok u w1 =>
  rw [hs] at h
  simp only [Result.andThen_ok, Sem.run_pure] at h
  injection h with h1 h2
  exact ⟨u, h1.symm⟩
 | halt x w1 =>
  rw [hs] at h
  cases h
theorem p_value {s : Sem Bool} {a b : Value} {n : Next} {w w' : World} (h : (do pure (Next.value (if ← s then a else b)) : Sem Next).run P w = .ok n w') : ∃ v, n = .value v := by
 rw [Sem.run_bind] at h
 cases hs : s.run P w with
 | ok u w1 =>
  rw [hs] at h
  simp only [Result.andThen_ok, Sem.run_pure] at h
  injection h with h1 h2
  exact ⟨_, h1.symm⟩
 | halt x w1 =>
  rw [hs] at h
  cases h
theorem call_value {ρ : Operand → Value} {c : Call} {t : TypeId} {b : Builtin} (hb : b = .len ∨ b = .cap ∨ b = .max ∨ b = .min) (hc : c.callee = .builtin b) {n : Next} {w w' : World}
 (h : (do let d ← resolve ρ c t; invoke d.target d.args : Sem Next).run P w = .ok n w') : ∃ v, n = .value v := by
 rw [Sem.run_bind] at h
 unfold resolve at h
 simp only [hc, Sem.run_pure, Result.andThen_ok, invoke] at h
 rcases hb with rfl | rfl | rfl | rfl
 all_goals (simp only [builtin] at h; exact v_value h)
theorem calm_value {o : Oper} (hc : calmB o = true) {ρ : Operand → Value} {n : Next} {w w' : World} (h : (execOp ρ o).run P w = .ok n w') : ∃ v, n = .value v := by
 unfold calmB at hc
 unfold execOp at h
 split at hc
 all_goals (rename_i ho; try (rw [ho] at h))
 all_goals (first | exact v_value h | (simp only [Sem.run_pure] at h; injection h with h1 h2; exact ⟨_, h1.symm⟩) | exact p_value h | skip)
 ·split at hc
  ·rename_i hb; exact call_value (.inl rfl) hb h
  ·rename_i hb; exact call_value (.inr (.inl rfl)) hb h
  ·rename_i hb; exact call_value (.inr (.inr (.inl rfl))) hb h
  ·rename_i hb; exact call_value (.inr (.inr (.inr rfl))) hb h
  ·cases hc
 ·cases hc
def stopPost : Exit → Act → World → Prop := fun _ _ _ => False
def segPost (C : World → Prop) (next : Act → World → Prop) : Exit → Act → World → Prop
 | .normal, a, w => C w ∧ next a w
 | _, _, _ => False
theorem calm_at {o : Oper} {a : Act} {w : World} {v : Value} (hc : calmB o = true) (h : o.quietAt P a C w v) : (execOp a.eval o).run P w = .ok (.value v) w := by
 unfold Oper.quietAt at h
 generalize hr : (execOp a.eval o).run P w = r at h
 cases r with
 | ok n w' =>
  obtain ⟨u, rfl⟩ := calm_value hc hr
  obtain ⟨rfl, rfl⟩ := h
  rfl
 | halt x w' => exact (show False from h).elim
theorem yields_one {o : Oper} {a : Act} {w : World} {v v' : Value} (hc : calmB o = true) (hw : C w) (h : YieldsIn P ops C o v a) (h' : YieldsIn P ops C o v' a) : v = v' := by
 rcases h with ⟨h1, h2⟩ | ⟨h1, rfl⟩ <;> rcases h' with ⟨g1, g2⟩ | ⟨g1, rfl⟩
 ·have e1 := calm_at hc (h2 w hw)
  rw [calm_at hc (g2 w hw)] at e1
  injection e1 with e1 _
  injection e1 with e1
  exact e1.symm
 ·rw [h1] at g1; cases g1
 ·rw [h1] at g1; cases g1
 ·rfl
theorem lets_stop (h : LetsOut stopPost) : False := by
 obtain ⟨_, _, h⟩ := h
 exact h
theorem wpOp_putC {j : Nat} {oi oj : Oper} {v : Value} (hj : ops[j]? = some oj) (hap : oi.apart ops oj = true) (hsi : ∀ cs b, oi.op ≠ .select cs b) (hsj : ∀ cs b, oj.op ≠ .select cs b) {K : Act → World → Prop} {a : Act} {w : World}
 (hy : YieldsIn P ops C oi v a) (h : wpOp P ops stopPost j K (a.put oi.dst v) w) : wpOp P ops stopPost j (fun a' w' => YieldsIn P ops C oi v a' ∧ K (a'.put oi.dst v) w') a w := by
 obtain ⟨h1, h2, h3⟩ := Oper.apart_spec hap
 have keep : ∀ (a : Act), YieldsIn P ops C oi v a → ∀ u, YieldsIn P ops C oi v (a.put oj.dst u) := fun a hy u =>
  hy.of_same (execOp_put oi hsi a oj.dst u h3) (wanted_put oi a oj.dst u h3)
 have keepD : ∀ d, YieldsIn P ops C oi v { a with defers := d :: a.defers } := fun d => hy.of_same rfl rfl
 unfold wpOp at *
 simp only [hj] at *
 rw [wanted_put oj a oi.dst v h1] at h
 split
 ·rename_i hw
  simp only [hw, if_true] at h
  rcases h with h | ⟨hasks, hlets⟩
  case inr => exact (lets_stop hlets).elim
  refine .inl ?_
  unfold Oper.wp at *
  rw [execOp_put oj hsj a oi.dst v h1] at h
  generalize (execOp a.eval oj).run P w = r at *
  cases r with
  | ok n w' =>
   cases n <;> simp only [Oper.upon] at h ⊢
   case value u => exact ⟨keep a hy u, by rw [← Act.put_comm a v u h2]; exact h⟩
   case skip => exact ⟨keep a hy _, by rw [← Act.put_comm a v undef h2]; exact h⟩
   case defer d =>
    refine ⟨keep _ (keepD d) _, ?_⟩
    rw [← Act.put_comm _ v undef h2, ← Act.put_defers]
    exact h
   case enter f args =>
    refine Calls.mono h fun e w'' he => ?_
    cases e with
    | returned u => exact ⟨keep a hy u, by rw [← Act.put_comm a v u h2]; exact he⟩
    | panicked c => exact he
    | outgrown => exact he
   case row row args => exact Rows.mono h fun u w'' he => ⟨keep a hy u, by rw [← Act.put_comm a v u h2]; exact he⟩
  | halt x w' =>
   cases x <;> simp only [Oper.upon] at h ⊢
   case panic u => exact h
 ·rename_i hw
  simp only [hw] at h
  exact ⟨keep a hy _, by rw [← Act.put_comm a v undef h2]; exact h⟩
theorem wpOp_back {i : Nat} {oi oj : Oper} {v : Value} (hi : ops[i]? = some oi) (hap : oi.apart ops oj = true) (hsi : ∀ cs b, oi.op ≠ .select cs b) (hsj : ∀ cs b, oj.op ≠ .select cs b) {K K' : Act → World → Prop} {a : Act} {w : World}
 (hy : YieldsIn P ops C oj v a) (hK : ∀ a' w', YieldsIn P ops C oj v a' → K a' w' → K' (a'.put oj.dst v) w') (h : wpOp P ops stopPost i K a w) : wpOp P ops stopPost i K' (a.put oj.dst v) w := by
 obtain ⟨h3, h2, h1⟩ := Oper.apart_spec hap
 have h2' : ∀ d, oj.dst = some d → oi.dst ≠ some d := fun d hd he => h2 d he hd
 have keep : ∀ (a : Act), YieldsIn P ops C oj v a → ∀ u, YieldsIn P ops C oj v (a.put oi.dst u) := fun a hy u =>
  hy.of_same (execOp_put oj hsj a oi.dst u h3) (wanted_put oj a oi.dst u h3)
 have keepD : ∀ d, YieldsIn P ops C oj v { a with defers := d :: a.defers } := fun d => hy.of_same rfl rfl
 unfold wpOp at *
 simp only [hi] at *
 rw [wanted_put oi a oj.dst v h1]
 split
 ·rename_i hw
  simp only [hw, if_true] at h
  rcases h with h | ⟨hasks, hlets⟩
  case inr => exact (lets_stop hlets).elim
  refine .inl ?_
  unfold Oper.wp at *
  rw [execOp_put oi hsi a oj.dst v h1]
  generalize (execOp a.eval oi).run P w = r at *
  cases r with
  | ok n w' =>
   cases n <;> simp only [Oper.upon] at h ⊢
   case value u => rw [Act.put_comm a v u h2']; exact hK _ _ (keep a hy u) h
   case skip => rw [Act.put_comm a v undef h2']; exact hK _ _ (keep a hy _) h
   case defer d =>
    have := hK _ _ (keep _ (keepD d) _) h
    rw [← Act.put_comm _ v undef h2', ← Act.put_defers] at this
    exact this
   case enter f args =>
    refine Calls.mono h fun e w'' he => ?_
    cases e with
    | returned u =>
     simp only [] at he ⊢
     rw [Act.put_comm a v u h2']; exact hK _ _ (keep a hy u) he
    | panicked c => exact he
    | outgrown => exact he
   case row row args => exact Rows.mono h fun u w'' he => by rw [Act.put_comm a v u h2']; exact hK _ _ (keep a hy u) he
  | halt x w' =>
   cases x <;> simp only [Oper.upon] at h ⊢
   case panic u => exact h
 ·rename_i hw
  simp only [hw] at h
  rw [Act.put_comm a v undef h2']
  exact hK _ _ (keep a hy _) h
theorem wpOp_some {i : Nat} {oi : Oper} (hi : ops[i]? = some oi) {K : Act → World → Prop} {a : Act} {w : World} (h : wpOp P ops stopPost i K a w) :
 ∃ a0 u w', K (a0.put oi.dst u) w' ∧ (a0 = a ∨ ∃ d, a0 = { a with defers := d :: a.defers }) := by
 unfold wpOp at h
 simp only [hi] at h
 split at h
 ·rcases h with h | ⟨_, hlets⟩
  case inr => exact (lets_stop hlets).elim
  unfold Oper.wp at h
  generalize (execOp a.eval oi).run P w = r at *
  cases r with
  | ok n w' =>
   cases n <;> simp only [Oper.upon] at h
   case value u => exact ⟨a, u, w', h, .inl rfl⟩
   case skip => exact ⟨a, _, w', h, .inl rfl⟩
   case defer d => exact ⟨_, _, w', h, .inr ⟨d, rfl⟩⟩
   case enter f args =>
    obtain ⟨e, w'', fr, he, _⟩ := h []
    cases e with
    | returned u => exact ⟨a, u, w'', he, .inl rfl⟩
    | panicked c => exact (show False from he).elim
    | outgrown => exact (lets_stop he).elim
   case row row args =>
    obtain ⟨v, w'', he, _⟩ := h (Frame.ofRow P row args .normal) []
    exact ⟨a, v, w'', he, .inl rfl⟩
  | halt x w' =>
   cases x <;> simp only [Oper.upon] at h
   case panic u => exact (show False from h).elim
 ·exact ⟨a, _, w, h, .inl rfl⟩
theorem wp_stop {o : Oper} {K : Act → World → Prop} {Q : Exit → Act → World → Prop} {a : Act} {w : World} (h : o.wp P a w K stopPost) : o.wp P a w K Q := by
 unfold Oper.wp at *
 generalize (execOp a.eval o).run P w = r at *
 cases r with
 | ok n w' =>
  cases n <;> simp only [Oper.upon] at h ⊢ <;> try exact h
  refine Calls.mono h fun e w'' he => ?_
  cases e with
  | returned u => exact he
  | panicked c => exact (show False from he).elim
  | outgrown => exact (lets_stop he).elim
 | halt x w' =>
  cases x <;> simp only [Oper.upon] at h ⊢
  case panic u => exact (show False from h).elim
theorem wpOp_stop {i : Nat} {K : Act → World → Prop} {Q : Exit → Act → World → Prop} {a : Act} {w : World} (h : wpOp P ops stopPost i K a w) : wpOp P ops Q i K a w := by
 unfold wpOp at *
 split
 ·rename_i ho; simp only [ho] at h; exact h
 ·rename_i o ho
  simp only [ho] at h
  split
  ·rename_i hw
   simp only [hw, if_true] at h
   rcases h with h | ⟨_, hlets⟩
   ·exact .inl (wp_stop h)
   ·exact (lets_stop hlets).elim
  ·rename_i hw
   simp only [hw] at h
   exact h
def wpMix (P : Program) (ops : Array Oper) (C : World → Prop) (ks : Nat → Bool) (K : Act → World → Prop) (listed : Array Bool) : List Nat → Act → World → Prop
 | [], a, w => K a w
 | i :: R, a, w => if listed.getD i false = true then wpMix P ops C ks K listed R a w
  else if ks i = true then wpOp P ops stopPost i (fun a' w' => C w' ∧ wpMix P ops C ks K listed R a' w') a w
  else qOp P ops C i (fun a' => wpMix P ops C ks K listed R a' w) a
theorem wpMix_congr {ks : Nat → Bool} {K : Act → World → Prop} {l1 l2 : Array Bool} : ∀ {R : List Nat}, (∀ i, i ∈ R → l1.getD i false = l2.getD i false) → wpMix P ops C ks K l1 R = wpMix P ops C ks K l2 R := by
 intro R
 induction R with
 | nil => intro _; rfl
 | cons i R ih =>
  intro h
  have e := ih (fun i hi => h i (List.mem_cons_of_mem _ hi))
  funext a w
  simp only [wpMix, e, h i List.mem_cons_self]
theorem pull {ks : Nat → Bool} {K : Act → World → Prop} (hsel : ∀ (j : Nat) (o : Oper) cs b, ops[j]? = some o → o.op ≠ .select cs b) (hcalm : ∀ i o, ops[i]? = some o → ks i = false → calmB o = true)
 {listed : Array Bool} {j : Nat} {oj : Oper} (hj : ops[j]? = some oj) (hjl : listed.getD j false = false) (hjs : j < listed.size) :
 ∀ R : List Nat, R.Pairwise (· < ·) → j ∈ R → (∀ i, i ∈ R → i < j → listed.getD i false = false → ∃ oi, ops[i]? = some oi ∧ oi.apart ops oj = true) → (ks j = true → ∀ i, i ∈ R → i < j → listed.getD i false = false → ks i = false) →
 ∀ (a : Act) (w : World), C w → wpMix P ops C ks K listed R a w → if ks j = true then wpOp P ops stopPost j (fun a' w' => C w' ∧ wpMix P ops C ks K (listed.setIfInBounds j true) R a' w') a w else qOp P ops C j (fun a' => wpMix P ops C ks K (listed.setIfInBounds j true) R a' w) a := by
 intro R
 induction R with
 | nil => intro _ h; cases h
 | cons i R ih =>
  intro hp hm hap hch a w hC h
  have hjt : (listed.setIfInBounds j true).getD j false = true := by simp [Array.getD_eq_getD_getElem?, hjs]
  obtain ⟨hlt, hpR⟩ := List.pairwise_cons.1 hp
  by_cases hij : i = j
  ·subst hij
   have hni : i ∉ R := fun hi => absurd (hlt i hi) (Nat.lt_irrefl _)
   have e : wpMix P ops C ks K (listed.setIfInBounds i true) (i :: R) = wpMix P ops C ks K listed R := by
    funext a w
    simp only [wpMix, hjt, if_true]
    rw [wpMix_congr (fun k hk => getD_set_ne false (fun (e : i = k) => hni (by rw [e]; exact hk)))]
   rw [e]
   simp only [wpMix, hjl, Bool.false_eq_true, if_false] at h
   exact h
  ·have hjR : j ∈ R := by
    rcases List.mem_cons.1 hm with h1 | h1
    ·exact absurd h1.symm hij
    ·exact h1
   have hi_lt := hlt j hjR
   have ih' := ih hpR hjR (fun k hk => hap k (List.mem_cons_of_mem _ hk)) (fun h k hk => hch h k (List.mem_cons_of_mem _ hk))
   have hset : (listed.setIfInBounds j true).getD i false = listed.getD i false := getD_set_ne false (fun e => hij e.symm)
   by_cases hl : listed.getD i false = true
   ·simp only [wpMix, hset, hl, if_true] at h ⊢
    exact ih' a w hC h
   ·have hl' : listed.getD i false = false := by simpa using hl
    obtain ⟨oi, hoi, hapi⟩ := hap i List.mem_cons_self hi_lt hl'
    simp only [wpMix, hset, hl', Bool.false_eq_true, if_false] at h ⊢
    by_cases hk : ks i = true
    ·have hkj : ks j = false := by
      cases hkj : ks j with
      | false => rfl
      | true =>
       have := hch hkj i List.mem_cons_self hi_lt hl'
       rw [hk] at this
       cases this
     simp only [hkj, Bool.false_eq_true, if_false] at ih' ⊢
     rw [if_pos hk] at h
     obtain ⟨a0, u, w1, ⟨hC1, h1⟩, ha0⟩ := wpOp_some hoi h
     obtain ⟨v, hy, _⟩ := yieldsIn_of_qOp hj (ih' _ _ hC1 h1)
     obtain ⟨g1, g2, g3⟩ := Oper.apart_spec hapi
     have hy0 : YieldsIn P ops C oj v a0 := hy.of_same (execOp_put oj (fun cs b => hsel j oj cs b hj) a0 oi.dst u g1).symm (wanted_put oj a0 oi.dst u g1).symm
     have hya : YieldsIn P ops C oj v a := by
      rcases ha0 with rfl | ⟨d, rfl⟩
      ·exact hy0
      ·exact hy0.of_same rfl rfl
     refine hya.qOp hj ?_
     rw [if_pos hk]
     refine wpOp_back hoi hapi (fun cs b => hsel i oi cs b hoi) (fun cs b => hsel j oj cs b hj) hya (fun a' w' hy' hh => ⟨hh.1, ?_⟩) h
     obtain ⟨v', hv', hn⟩ := yieldsIn_of_qOp hj (ih' _ _ hh.1 hh.2)
     rw [yields_one (hcalm j oj hj hkj) hh.1 hy' hv']
     exact hn
    ·have hk' : ks i = false := by simpa using hk
     simp only [hk', Bool.false_eq_true, if_false] at h ⊢
     obtain ⟨v, hy, hn⟩ := yieldsIn_of_qOp hoi h
     have h2 := ih' _ _ hC hn
     by_cases hkj : ks j = true
     ·rw [if_pos hkj] at h2 ⊢
      refine wpOp_mono ?_ (wpOp_putC hj hapi (fun cs b => hsel i oi cs b hoi) (fun cs b => hsel j oj cs b hj) hy h2)
      rintro a' w' ⟨hy', hC', hm'⟩
      exact ⟨hC', hy'.qOp hoi hm'⟩
     ·rw [if_neg hkj] at h2 ⊢
      refine qOp_mono ?_ (qOp_put hj hapi (fun cs b => hsel i oi cs b hoi) (fun cs b => hsel j oj cs b hj) hy h2)
      rintro a' ⟨hy', hm'⟩
      exact hy'.qOp hoi hm'
theorem wpOp_calm {i : Nat} {oi : Oper} {Q : Exit → Act → World → Prop} {K : Act → Prop} {a : Act} {w : World} (hi : ops[i]? = some oi) (hc : calmB oi = true) (hC : C w) (h : qOp P ops C i K a) : wpOp P ops Q i (fun a' w' => w' = w ∧ K a') a w := by
 obtain ⟨v, hy, hK⟩ := yieldsIn_of_qOp hi h
 unfold wpOp
 simp only [hi]
 rcases hy with ⟨hw, hv⟩ | ⟨hw, rfl⟩
 ·rw [if_pos hw]
  refine .inl ?_
  unfold Oper.wp
  rw [calm_at hc (hv w hC)]
  exact ⟨by first | rfl | trivial, hK⟩
 ·rw [if_neg (by simp [hw])]
  exact ⟨by first | rfl | trivial, hK⟩
def linkB (md : Region.Mode) (ops : Array Oper) : Nat → Nat → Nat → Bool
 | 0, _, _ => false
 | f + 1, j, i => Region.waitsFor md ops j i || (List.range' (i + 1) (j - (i + 1))).any (fun k => Region.waitsFor md ops j k && linkB md ops f k i)
theorem link_listed {n : Nat} {listed : Array Bool} (inv : HeadInv md ops n listed) : ∀ (f j i : Nat), linkB md ops f j i = true → listed.getD j false = true → listed.getD i false = true := by
 have hw : ∀ j i, Region.waitsFor md ops j i = true → listed.getD j false = true → listed.getD i false = true := fun j i h hj => by
  obtain ⟨oj, hoj, e, he, hb, hon⟩ := Region.waitsFor_spec h
  have := inv.closed j oj hoj hj e he hb
  rwa [hon] at this
 intro f
 induction f with
 | zero => intro j i h; cases h
 | succ f ih =>
  intro j i h hj
  simp only [linkB, Bool.or_eq_true, List.any_eq_true, Bool.and_eq_true] at h
  rcases h with h | ⟨k, _, h1, h2⟩
  ·exact hw j i h hj
  ·exact ih k i h2 (hw j k h1 hj)
theorem link_ready {n : Nat} {listed : Array Bool} (inv : HeadInv md ops n listed) {f j i : Nat} (h : linkB md ops f j i = true) (hj : j ∈ Region.ready md ops listed) : listed.getD i false = true := by
 obtain ⟨_, oj, hoj, hall⟩ := mem_ready.1 hj
 have hw : ∀ i, Region.waitsFor md ops j i = true → listed.getD i false = true := fun i h => by
  obtain ⟨o', ho', e, he, hb, hon⟩ := Region.waitsFor_spec h
  obtain rfl : o' = oj := Option.some.inj (ho'.symm.trans hoj)
  have := hall e he hb
  rwa [hon] at this
 cases f with
 | zero => cases h
 | succ f =>
  simp only [linkB, Bool.or_eq_true, List.any_eq_true, Bool.and_eq_true] at h
  rcases h with h | ⟨k, _, h1, h2⟩
  ·exact hw i h
  ·exact link_listed inv f k i h2 (hw k h1)
def linksB (md : Region.Mode) (ops : Array Oper) : List Nat → Bool
 | a :: b :: r => decide (a < b) && linkB md ops (b - a) b a && linksB md ops (b :: r)
 | _ => true
theorem links_order {n : Nat} {listed : Array Bool} (inv : HeadInv md ops n listed) : ∀ {l : List Nat}, linksB md ops l = true → ∀ i j, i ∈ l → j ∈ l → i < j → (j ∈ Region.ready md ops listed ∨ listed.getD j false = true) → listed.getD i false = true := by
 intro l
 induction l with
 | nil => intro _ i j hi; cases hi
 | cons a l ih =>
  intro h i j hi hj hlt hr
  cases l with
  | nil =>
   simp only [List.mem_cons, List.not_mem_nil, or_false] at hi hj
   omega
  | cons b r =>
   simp only [linksB, Bool.and_eq_true, decide_eq_true_eq] at h
   obtain ⟨⟨hab, hl⟩, hb⟩ := h
   have hsorted : ∀ k, k ∈ b :: r → b ≤ k := by
    have : ∀ (l : List Nat) (b : Nat), linksB md ops (b :: l) = true → ∀ k, k ∈ b :: l → b ≤ k := by
     intro l
     induction l with
     | nil => intro b _ k hk; simp at hk; omega
     | cons c l ih =>
      intro b h k hk
      simp only [linksB, Bool.and_eq_true, decide_eq_true_eq] at h
      rcases List.mem_cons.1 hk with rfl | hk
      ·exact Nat.le_refl _
      ·have := ih c h.2 k hk; omega
    exact this r b hb
   rcases List.mem_cons.1 hi with rfl | hi'
   ·have hjb : j ∈ b :: r := by
     rcases List.mem_cons.1 hj with h1 | h1
     ·omega
     ·exact h1
    have hbj := hsorted j hjb
    by_cases hbe : j = b
    ·subst hbe
     rcases hr with hr | hr
     ·exact link_ready inv hl hr
     ·exact link_listed inv _ _ _ hl hr
    ·have := ih hb b j List.mem_cons_self hjb (by omega) hr
     exact link_listed inv _ _ _ hl this
   ·have hib := hsorted i hi'
    refine ih hb i j hi' ?_ hlt hr
    rcases List.mem_cons.1 hj with h1 | h1
    ·omega
    ·exact h1
def apartAllB (md : Region.Mode) (ops : Array Oper) : Bool := (List.range ops.size).all fun j => (List.range j).all fun i => Region.waitsFor md ops j i || (match ops[i]?, ops[j]? with | some oi, some oj => oi.apart ops oj | _, _ => true)
theorem apartAll_out (h : apartAllB md ops = true) {i j : Nat} {oi oj : Oper} (hij : i < j) (hi : ops[i]? = some oi) (hj : ops[j]? = some oj) (hw : Region.waitsFor md ops j i = false) : oi.apart ops oj = true := by
 unfold apartAllB at h
 rw [List.all_eq_true] at h
 have h1 := h j (List.mem_range.2 (Array.getElem?_eq_some_iff.1 hj).1)
 rw [List.all_eq_true] at h1
 have h2 := h1 i (List.mem_range.2 hij)
 rw [hw, hi, hj] at h2
 simpa using h2
def canonL (t n : Nat) : Array Bool := (List.replicate t true ++ List.replicate (n - t) false).toArray
def mixB (md : Region.Mode) (ops : Array Oper) (t : Nat) (l : List Nat) : Bool :=
 Region.noSelect ops && decide (t < ops.size) && Region.sinkB md ops t && Region.chainB md ops t && apartAllB md ops && earlyB md ops.toList && linksB md ops l && (List.range t).all (fun i => l.contains i || (match ops[i]? with | some o => calmB o | none => true)) && Region.seqB md ops (ops.size - t) t (canonL t ops.size)
theorem mix_any {Q : Exit → Act → World → Prop} {t : Nat} {l : List Nat} (hB : mixB md ops t l = true) :
 ∀ (f : Nat) (listed : Array Bool) (a : Act) (w : World), listed.toList.count false = f → HeadInv md ops t listed → C w →
  wpMix P ops C (fun i => l.contains i || decide (t ≤ i)) (wpList P ops Q (ops.toList.drop t)) listed (List.range t) a w → wpAny P md ops Q f listed a w := by
 simp only [mixB, Bool.and_eq_true, decide_eq_true_eq] at hB
 obtain ⟨⟨⟨⟨⟨⟨⟨⟨hsel, hn⟩, hs⟩, hc⟩, hap⟩, hear⟩, hl⟩, hcm⟩, hseq⟩ := hB
 have hsel' := Region.noSelect_spec hsel
 have hcalm : ∀ i o, ops[i]? = some o → (l.contains i || decide (t ≤ i)) = false → calmB o = true := fun i o ho hk => by
  rw [Bool.or_eq_false_iff, decide_eq_false_iff_not] at hk
  rw [List.all_eq_true] at hcm
  have := hcm i (List.mem_range.2 (by omega))
  rw [hk.1, ho] at this
  simpa using this
 intro f
 induction f with
 | zero =>
  intro listed a w hf inv hC h
  exfalso
  have h1 := inv.tail t (Nat.le_refl _) hn
  have h2 : t < listed.size := by rw [inv.size]; exact hn
  have h3 : listed[t] = false := by simpa [Array.getD_eq_getD_getElem?, h2] using h1
  have h4 : false ∈ listed.toList := by rw [← h3]; simp
  have := List.count_pos_iff.2 h4
  omega
 | succ f ih =>
  intro listed a w hf inv hC h
  by_cases hall : ∀ i, i < t → listed.getD i false = true
  ·have hcan : listed = canonL t ops.size := by
    apply Array.ext
    ·rw [inv.size]; simp [canonL]; omega
    ·intro i h1 h2
     by_cases hi : i < t
     ·have := hall i hi
      have e : listed[i] = true := by simpa [Array.getD_eq_getD_getElem?, h1] using this
      rw [e]
      simp [canonL, hi, List.getElem_append]
     ·have := inv.tail i (by omega) (by rw [← inv.size]; exact h1)
      have e : listed[i] = false := by simpa [Array.getD_eq_getD_getElem?, h1] using this
      rw [e]
      simp [canonL, hi, List.getElem_append]
   have hK : wpList P ops Q (ops.toList.drop t) a w := by
    have : ∀ R : List Nat, (∀ i, i ∈ R → i < t) → wpMix P ops C (fun i => l.contains i || decide (t ≤ i)) (wpList P ops Q (ops.toList.drop t)) listed R a w → wpList P ops Q (ops.toList.drop t) a w := by
     intro R
     induction R with
     | nil => intro _ h; exact h
     | cons i R ihR =>
      intro hR h
      simp only [wpMix, hall i (hR i List.mem_cons_self), if_true] at h
      exact ihR (fun k hk => hR k (List.mem_cons_of_mem _ hk)) h
    exact this _ (fun i hi => List.mem_range.1 hi) h
   have hlen : (ops.toList.drop t).length = f + 1 := by
    rw [← hf, hcan]
    simp [canonL, List.count_append, List.count_replicate]
   have hdl : (ops.toList.drop t).length = ops.size - t := by simp
   have := wpAny_of_seq (P := P) (md := md) (Q' := Q) (ops.toList.drop t) t listed a w (fun j => by simp [List.getElem?_drop]) (by rw [hdl, hcan]; exact hseq) hK
   rwa [hlen] at this
  ·have hex : ∃ i, i < t ∧ listed.getD i false = false := by
    apply Classical.byContradiction
    intro hno
    refine hall fun i hi => ?_
    cases hg : listed.getD i false with
    | true => rfl
    | false => exact (hno ⟨i, hi, hg⟩).elim
   obtain ⟨i0, hi0, hg0⟩ := hex
   have hun0 : listed.getD i0 true = false := getD_in (by rw [inv.size]; omega) hg0
   have hjt : ∀ j, j ∈ Region.ready md ops listed → j < t := fun j hj => Nat.lt_of_not_le fun hle => tail_waits hs hc hn inv _ i0 rfl hi0 hun0 j hle hj
   refine ⟨fun hr => ?_, fun j hj => ?_⟩
   ·-- something is ready: the first one that is not listed
    exfalso
    have hlow : ∀ n, n ≤ t → ∀ i, i < n → listed.getD i false = true := by
     intro n
     induction n with
     | zero => intro _ i hi; omega
     | succ n ihn =>
      intro hn' i hi
      by_cases hin : i < n
      ·exact ihn (by omega) i hin
      ·obtain rfl : i = n := by omega
       cases hg : listed.getD i false with
       | true => rfl
       | false =>
        exfalso
        have hm : i ∈ Region.ready md ops listed := by
         rw [mem_ready]
         have his : i < ops.size := by omega
         refine ⟨getD_in (by rw [inv.size]; exact his) hg, ops[i], by simp [his], fun e he hb => ?_⟩
         exact ihn (by omega) e.on (earlyB_out hear i ops[i] (by simp [his]) e he hb)
        rw [hr] at hm
        cases hm
    have := hlow t (Nat.le_refl _) i0 hi0
    rw [hg0] at this
    cases this
   ·have hj' := hjt j hj
    obtain ⟨hun, oj, hoj, hdep⟩ := mem_ready.1 hj
    have hjs : j < listed.size := by rw [inv.size]; omega
    have hjl : listed.getD j false = false := getD_both hun
    have hwt : ∀ i, listed.getD i false = false → Region.waitsFor md ops j i = false := fun i hi => by
     cases hw : Region.waitsFor md ops j i with
     | false => rfl
     | true =>
      obtain ⟨o', ho', e, he, hb, hon⟩ := Region.waitsFor_spec hw
      obtain rfl : o' = oj := Option.some.inj (ho'.symm.trans hoj)
      have := hdep e he hb
      rw [hon, hi] at this
      cases this
    have hp := pull (P := P) (ops := ops) (C := C) (ks := fun i => l.contains i || decide (t ≤ i)) (K := wpList P ops Q (ops.toList.drop t)) hsel' hcalm hoj hjl hjs (List.range t) List.pairwise_lt_range (List.mem_range.2 hj')
     (fun i hi hij hil => by
       have his : i < ops.size := by omega
       exact ⟨ops[i], by simp [his], apartAll_out hap hij (by simp [his]) hoj (hwt i hil)⟩)
     (fun hk i hi hij hil => by
       simp only [Bool.or_eq_true, List.contains_iff_mem, decide_eq_true_eq] at hk
       rw [Bool.or_eq_false_iff, decide_eq_false_iff_not]
       refine ⟨?_, by omega⟩
       cases hci : l.contains i with
       | false => rfl
       | true =>
        have := links_order inv hl i j (by simpa using hci) (by rcases hk with hk | hk; exact hk; omega) hij (.inl hj)
        rw [hil] at this
        cases this) a w hC h
    have hcs : (listed.setIfInBounds j true).toList.count false = f := by
     have h3 : listed[j] = false := by simpa [Array.getD_eq_getD_getElem?, hjs] using hun
     have := cnt_set listed.toList j (by simp [hjs, h3])
     rw [Array.toList_setIfInBounds]
     omega
    by_cases hk : (l.contains j || decide (t ≤ j)) = true
    ·rw [if_pos hk] at hp
     exact wpOp_stop (wpOp_mono (fun a' w' hh => ih _ a' w' hcs (inv.set hj hj') hh.1 hh.2) hp)
    ·rw [if_neg hk] at hp
     refine wpOp_mono ?_ (wpOp_calm hoj (hcalm j oj hoj (by simpa using hk)) hC hp)
     rintro a' w' ⟨rfl, hh⟩
     exact ih _ a' _ hcs (inv.set hj hj') hC hh
def wpSegs (P : Program) (ops : Array Oper) (C : World → Prop) (Q : Exit → Act → World → Prop) (r : Nat) : List Nat → List Oper → Act → World → Prop
 | [], l, a, w => wpQuiet P ops C (fun a' => wpList P ops Q (l.drop r) a' w) (l.take r) a
 | m :: ms, l, a, w => wpQuiet P ops C (fun a' => wpList P ops (segPost C (wpSegs P ops C Q r ms (l.drop (m + 1)))) ((l.drop m).take 1) a' w) (l.take m) a
theorem seg_next {next : Act → World → Prop} {a : Act} {w : World} (hC : C w) (h : next a w) : segPost C next .normal a w := ⟨hC, h⟩
def chainAt : Nat → List Nat → List Nat
 | _, [] => []
 | p, m :: ms => (p + m) :: chainAt (p + m + 1) ms
def endAt (r : Nat) : Nat → List Nat → Nat
 | p, [] => p + r
 | p, m :: ms => endAt r (p + m + 1) ms
theorem endAt_le (r : Nat) : ∀ (ms : List Nat) (p : Nat), p ≤ endAt r p ms := by
 intro ms
 induction ms with
 | nil => intro p; exact Nat.le_add_right _ _
 | cons m ms ih => intro p; have := ih (p + m + 1); simp only [endAt]; omega
theorem chainAt_ge : ∀ (ms : List Nat) (p i : Nat), i ∈ chainAt p ms → p ≤ i := by
 intro ms
 induction ms with
 | nil => intro p i h; cases h
 | cons m ms ih =>
  intro p i h
  rcases List.mem_cons.1 h with rfl | h
  ·exact Nat.le_add_right _ _
  ·have := ih _ _ h; omega
theorem quiet_mix {ks : Nat → Bool} {K : Act → World → Prop} {listed : Array Bool} {N : Act → Prop} {w : World} {R : List Nat} (hlist : ∀ i, listed.getD i false = false) :
 ∀ (m p : Nat) (a : Act), p + m ≤ ops.size → (∀ i, p ≤ i → i < p + m → ks i = false) → (∀ a, N a → wpMix P ops C ks K listed R a w) → wpQuiet P ops C N ((ops.toList.drop p).take m) a →
  wpMix P ops C ks K listed (List.range' p m ++ R) a w := by
 intro m
 induction m with
 | zero =>
  intro p a _ _ hN h
  simp only [List.take_zero] at h
  exact hN a h
 | succ m ih =>
  intro p a hp hk hN h
  have hps : p < ops.size := by omega
  have e : (ops.toList.drop p).take (m + 1) = ops[p] :: (ops.toList.drop (p + 1)).take m := by
   rw [List.drop_eq_getElem_cons (by simpa using hps), List.take_succ_cons]
   rfl
  rw [e] at h
  rw [List.range'_succ, List.cons_append]
  simp only [wpMix, hlist p, hk p (Nat.le_refl _) (by omega), Bool.false_eq_true, if_false]
  unfold wpQuiet at h
  unfold qOp
  simp only [show ops[p]? = some ops[p] by simp [hps]]
  have ih' : ∀ a, wpQuiet P ops C N ((ops.toList.drop (p + 1)).take m) a → wpMix P ops C ks K listed (List.range' (p + 1) m ++ R) a w := fun a' h' => ih (p + 1) a' (by omega) (fun i h1 h2 => hk i (by omega) (by omega)) hN h'
  split
  ·rename_i hw
   rw [if_pos hw] at h
   exact Oper.quiet_mono ih' h
  ·rename_i hw
   rw [if_neg hw] at h
   exact ih' _ h
theorem segs_mix {Q : Exit → Act → World → Prop} {ks : Nat → Bool} {listed : Array Bool} {t : Nat} (r : Nat) (ht : t ≤ ops.size) (hlist : ∀ i, listed.getD i false = false) :
 ∀ (ms : List Nat) (p : Nat) (a : Act) (w : World), endAt r p ms = t → (∀ i, p ≤ i → i < t → ks i = (chainAt p ms).contains i) → wpSegs P ops C Q r ms (ops.toList.drop p) a w →
  wpMix P ops C ks (wpList P ops Q (ops.toList.drop t)) listed (List.range' p (t - p)) a w := by
 intro ms
 induction ms with
 | nil =>
  intro p a w he hk h
  simp only [endAt] at he
  subst he
  have e : List.range' p (p + r - p) = List.range' p r ++ [] := by simp
  rw [e]
  refine quiet_mix hlist r p a ht (fun i h1 h2 => by rw [hk i h1 h2]; simp [chainAt]) ?_ h
  intro a' h'
  simp only [wpMix]
  rwa [List.drop_drop] at h'
 | cons m ms ih =>
  intro p a w he hk h
  simp only [endAt] at he
  have hle := endAt_le r ms (p + m + 1)
  have e : List.range' p (t - p) = List.range' p m ++ ((p + m) :: List.range' (p + m + 1) (t - (p + m + 1))) := by
   have e1 : t - p = m + (1 + (t - (p + m + 1))) := by omega
   rw [e1, ← List.range'_append_1, ← List.range'_append_1]
   simp
  rw [e]
  refine quiet_mix hlist m p a (by omega) (fun i h1 h2 => ?_) ?_ h
  ·rw [hk i h1 (by omega)]
   simp only [chainAt]
   cases hc : ((p + m) :: chainAt (p + m + 1) ms).contains i with
   | false => rfl
   | true =>
    exfalso
    have hm : i ∈ (p + m) :: chainAt (p + m + 1) ms := by simpa using hc
    rcases List.mem_cons.1 hm with h3 | h3
    ·omega
    ·have := chainAt_ge _ _ _ h3; omega
  ·intro a' h'
   have hps : p + m < ops.size := by omega
   have hkp : ks (p + m) = true := by rw [hk (p + m) (by omega) (by omega)]; simp [chainAt]
   simp only [wpMix, hlist (p + m), hkp, Bool.false_eq_true, if_false, if_true]
   have e2 : ((ops.toList.drop p).drop m).take 1 = [ops[p + m]] := by
    rw [List.drop_drop, List.drop_eq_getElem_cons (by simpa using hps), List.take_succ_cons, List.take_zero]
    rfl
   rw [e2] at h'
   have ih' := fun a w h => ih (p + m + 1) a w he (fun i h1 h2 => by
    rw [hk i (by omega) h2]
    simp only [chainAt, List.contains_cons]
    rw [show (i == p + m) = false by simp; omega]
    rfl) h
   have e3 : (ops.toList.drop p).drop (m + 1) = ops.toList.drop (p + m + 1) := by rw [List.drop_drop]; rfl
   rw [e3] at h'
   unfold wpList at h'
   unfold wpOp
   simp only [show ops[p + m]? = some ops[p + m] by simp [hps]]
   have hfin : ∀ a w, wpList P ops (segPost C (wpSegs P ops C Q r ms (ops.toList.drop (p + m + 1)))) [] a w → C w ∧ wpMix P ops C ks (wpList P ops Q (ops.toList.drop t)) listed (List.range' (p + m + 1) (t - (p + m + 1))) a w := fun a w h => ⟨h.1, ih' a w h.2⟩
   have hlets : LetsOut (segPost C (wpSegs P ops C Q r ms (ops.toList.drop (p + m + 1)))) → LetsOut stopPost := fun ⟨_, _, h⟩ => (show False from h).elim
   split
   ·rename_i hw
    rw [if_pos hw] at h'
    rcases h' with h' | ⟨h1, h2⟩
    ·refine .inl (Oper.wp_mono hfin ?_)
     unfold Oper.wp at *
     generalize (execOp a'.eval ops[p + m]).run P w = rr at *
     cases rr with
     | ok n w' =>
      cases n <;> simp only [Oper.upon] at h' ⊢ <;> try exact h'
     | halt x w' =>
      cases x <;> simp only [Oper.upon] at h' ⊢
      all_goals (try exact (show False from h').elim)
    ·exact .inr ⟨h1, hlets h2⟩
   ·rename_i hw
    rw [if_neg hw] at h'
    exact hfin _ _ h'
theorem wp_region_mix {id : Nat} {Q : Exit → Act → World → Prop} {a : Act} {w : World} {l : List Oper} (r : Nat) (ms : List Nat) (hm : P.follows .mixedOrders = true) (hB : mixB .any l.toArray (endAt r 0 ms) (chainAt 0 ms) = true)
 (hend : endAt r 0 ms ≤ l.length) (h : wpSegs P l.toArray (fun w' => ∃ g, w' = grow w g) Q r ms l a w.drew) : (Code.region id l.toArray true).wp P Q a w := by
 refine wp_region_any hm ?_
 have hin : ∀ i, (Array.replicate l.toArray.size false).getD i false = false := fun i => getD_replicate_false _ _
 refine mix_any (C := fun w' => ∃ g, w' = grow w g) hB _ _ a w.drew (by simp [List.count_replicate]) ⟨by simp, fun j oj _ hl => (by rw [hin] at hl; cases hl), fun t _ ht => getD_in (by simpa using ht) (hin t)⟩ ⟨w.drew, (grow_eq (Below.drew (Below.refl _ _))).symm⟩ ?_
 have := segs_mix (P := P) (ops := l.toArray) (C := fun w' => ∃ g, w' = grow w g) (Q := Q) (ks := fun i => (chainAt 0 ms).contains i || decide (endAt r 0 ms ≤ i)) (listed := Array.replicate l.toArray.size false) (t := endAt r 0 ms) r (by simpa using hend) hin ms 0 a w.drew rfl
  (fun i _ h2 => by simp [Nat.not_le.2 h2]) (by simpa using h)
 rwa [Nat.sub_zero, ← List.range_eq_range'] at this
theorem grow_to {w w' : World} (h : Below w.heap.size w w') : ∃ g, w' = grow w g := ⟨w', (grow_eq h).symm⟩
end
end Go.Proofs.YtnmolefblaahmaaGreat
