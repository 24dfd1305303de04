/- Lemmas. -/
import Derived.Test.YtmfpbafpnoomeaaGreatMN
import Derived.Test.YtmfpbafpnoomeaaGreatMM
set_option linter.unusedVariables false
set_option linter.unusedSimpArgs false
namespace Go.Proofs.YtmfpbafpnoomeaaGreat
open Go.RowKit
namespace S
def eqpt (p q : Pt) : Bool := decide (p.x = q.x) && decide (p.y = q.y) && decide (p.z = q.z)
end S
def S.poor (xs : List Bx) (leg : Bx) : Bool := decide (250 < leg.lo.z - (S.hull (xs.headD ⟨⟨0, 0, 0⟩, ⟨0, 0, 0⟩⟩) xs).lo.z)
theorem hull_lo_in (a : Bx) (l : List Bx) (h0 : -1048576 <= a.lo.z /\ a.lo.z <= 1048576) (h : ∀ b, b ∈ l -> -1048576 <= b.lo.z /\ b.lo.z <= 1048576) : -1048576 <= (S.hull a l).lo.z /\ (S.hull a l).lo.z <= 1048576 := by
 induction l generalizing a with
 | nil => exact h0
 | cons x l ih =>
  have e : S.hull a (x :: l) = S.hull (S.join a x) l := rfl
  rw [e]
  refine ih _ ?_ (fun b hb => h b (List.mem_cons_of_mem _ hb))
  have hx := h x List.mem_cons_self
  simp only [S.join]
  split <;> omega
theorem boxOk_z {b : Bx} (h : S.boxOk b = true) : -1048576 <= b.lo.z /\ b.lo.z <= b.hi.z /\ b.hi.z <= 1048576 := by
 simp only [S.boxOk, S.okAx, Bool.and_eq_true, decide_eq_true_eq] at h
 omega
theorem boxes_ok {xs : List Bx} (h : anyb xs S.boxNot = false) : ∀ b, b ∈ xs -> S.boxOk b = true := by
 intro b hb
 unfold anyb at h
 rw [List.any_eq_false] at h
 have := h b hb
 simpa [S.boxNot] using this
theorem poor_yes (m : Mem) (leg : Bx) (A : Option Addr) (n c : Nat) (A' : Option Addr) (n' c' : Nat) (B : Nat) (w : World) (hB : B <= w.heap.size) (hA : SolAt w B A n A' n' m.boxes m.holes) (h : S.solid m.boxes m.holes = true) (hl : S.boxOk leg = true) :
 Calls Tryz.prog 239 #[memV m A n c A' n' c', boxV leg] w fun e w' => e = .returned (.bool (S.poor m.boxes leg)) /\ Below w.heap.size w w' := by
 have HA := lh hA
 obtain ⟨hok, hlen⟩ := solid_ok h
 have h0 : m.boxes[0]? = some (m.boxes.headD ⟨⟨0, 0, 0⟩, ⟨0, 0, 0⟩⟩) := by
  cases hb : m.boxes with
  | nil => rw [hb] at hlen; simp at hlen
  | cons x l => rfl
 have hz := boxOk_z hl
 have hin := hull_lo_in (m.boxes.headD ⟨⟨0, 0, 0⟩, ⟨0, 0, 0⟩⟩) m.boxes (by have := boxOk_z (boxes_ok hok _ (List.mem_of_getElem? h0)); omega) (fun b hb => by have := boxOk_z (boxes_ok hok b hb); omega)
 have HP := lh (show S.poor m.boxes leg = decide (250 < leg.lo.z - (S.hull (m.boxes.headD ⟨⟨0, 0, 0⟩, ⟨0, 0, 0⟩⟩) m.boxes).lo.z) from rfl)
 have HH := lh (fun (W : World) (hw : B <= W.heap.size) (hh : SolAt W B A n A' n' m.boxes m.holes) => shull_yes A n c A' n' c' m.boxes m.holes _ B W hw hh h h0 hok)
 clear hA
 generalize S.hull (m.boxes.headD ⟨⟨0, 0, 0⟩, ⟨0, 0, 0⟩⟩) m.boxes = X at *
 have e1 : IntKind.i64.wrap (leg.lo.z - X.lo.z) = leg.lo.z - X.lo.z := IntWalk.i64_in _ (by omega)
 unfold memV boxV
 go_enter Tryz.func239, Tryz.ntmps239
 go_wp2_with (go_at_call 261; (with_reducible refine (HH.out _ (size_via hB bel) (SolAt.at_ HA.out hB bel)).mono ?_); rintro e w1 ⟨rfl, hbw1⟩; obtain ⟨hcw1, hfw1⟩ := bcell hbw1; have hzw1_0 : w.heap.size < w1.heap.size := lt_via hbw1 sz; have hzw1_1 : w.heap.size + 1 < w1.heap.size := lt_via hbw1 sz)
 go_ret
 exact ⟨ret_b HP.out.symm, bel⟩
theorem BarAt.at_ {w w' : World} {B : Nat} {A : Option Addr} {n : Nat} {b : Bar} (h : BarAt w B A n b) (hB : B <= w.heap.size) (hb : Below w.heap.size w w') : BarAt w' B A n b := h.below (hb.mono hB)
theorem lens_get (b : Bar) (h : S.bar b = true) {k : Nat} (hk : k < (S.legsOf b.code).length) : ∃ n, (i64s (S.legLens b))[k]? = some (.int .i64 n) /\ (S.legLens b)[k]? = some n /\ 1 <= n /\ n <= 262144 /\ S.ptAt b (k + 1) = S.step (S.ptAt b k) (S.legsOf b.code)[k].2 n := by
 have hd : S.dimsOk b.dims = true := by simp only [S.bar, Bool.and_eq_true] at h; exact h.2
 have hl := bar_head h
 have h1 := legs_dim b.code hk
 have h2 : (S.legsOf b.code)[k].1 < b.dims.length := by omega
 have h3 := dim_bd hd h2
 have e : (S.legLens b)[k]? = some b.dims[(S.legsOf b.code)[k].1] := by
  simp [S.legLens, List.getElem?_eq_getElem hk, List.getD_eq_getElem?_getD, List.getElem?_eq_getElem h2]
 exact ⟨_, by simp [e], e, h3.1, h3.2, ptAt_succ b hk h2⟩
theorem Cells.pts {w : World} {B bb o : Nat} {l : List Pt} (h : Cells w B (some ⟨bb, o, none⟩) (l.flatMap ptC)) {k : Nat} {p : Pt} (hk : l[k]? = some p) :
 w.cell? ⟨bb, o + k * 3, none⟩ = some (.int .i64 p.x) /\ w.cell? ⟨bb, o + k * 3 + 1, none⟩ = some (.int .i64 p.y) /\ w.cell? ⟨bb, o + k * 3 + 2, none⟩ = some (.int .i64 p.z) := by
 obtain ⟨hk', rfl⟩ := List.getElem?_eq_some_iff.1 hk
 exact ⟨h.row0 ptC_len hk' rfl, h.rowj ptC_len hk' 1 rfl, h.rowj ptC_len hk' 2 rfl⟩
def S.padd (a b : Pt) : Pt := ⟨a.x + b.x, a.y + b.y, a.z + b.z⟩
def S.times (n : Int) (p : Pt) : Pt := ⟨n * p.x, n * p.y, n * p.z⟩
theorem raxis_any (n : Int) (w : World) : Calls Tryz.prog 218 #[.int .i64 n] w fun e w' => e = .returned (.bool (S.isAxis n)) /\ w = w' := by
 have H := lh (show S.isAxis n = ((n != 0) && decide (-3 <= n) && decide (n <= 3)) from rfl)
 generalize hu : (n != 0) = u at H
 have hu' := lh hu
 go_enter Tryz.func218, Tryz.ntmps218
 go_wp2
 all_goals (go_ret; refine ⟨ret_b ?_, rfl⟩; rw [H.out]; have := hu'.out; simp_all; try omega)
theorem rturn_any (x y : Int) (w : World) : Calls Tryz.prog 169 #[turnV x y] w fun e w' => e = .returned (.bool (S.turn x y)) /\ Below w.heap.size w w' := by
 have H := lh (show S.turn x y = (S.isAxis x && S.isAxis y && (x != y) && (x != -y)) from rfl)
 have HX := lh (fun w => raxis_any x w)
 have HY := lh (fun w => raxis_any y w)
 unfold turnV
 by_cases hb : S.isAxis y = true
 ·have hy : -3 <= y /\ y <= 3 := by
   simp only [S.isAxis, Bool.and_eq_true, decide_eq_true_eq] at hb
   omega
  have hn : IntKind.i64.wrap (0 - y) = -y := by rw [IntWalk.i64_in _ (by omega)]; omega
  rw [hb] at HY H
  clear hb
  generalize S.isAxis x = a at *
  cases a
  all_goals (
   go_enter Tryz.func169, Tryz.ntmps169
   go_wp2_with (first
    | (go_at_call 218; (with_reducible refine (HX.out _).mono ?_); rintro e w' ⟨rfl, rfl⟩)
    | (go_at_call 218; (with_reducible refine (HY.out _).mono ?_); rintro e w' ⟨rfl, rfl⟩))
   all_goals (go_ret; refine ⟨ret_b ?_, bel⟩; rw [H.out]; simp_all))
 ·have hb' : S.isAxis y = false := by simpa using hb
  rw [hb'] at HY H
  clear hb hb'
  generalize S.isAxis x = a at *
  cases a
  all_goals (
   go_enter Tryz.func169, Tryz.ntmps169
   go_wp2_with (first
    | (go_at_call 218; (with_reducible refine (HX.out _).mono ?_); rintro e w' ⟨rfl, rfl⟩)
    | (go_at_call 218; (with_reducible refine (HY.out _).mono ?_); rintro e w' ⟨rfl, rfl⟩))
   all_goals (go_ret; refine ⟨ret_b ?_, bel⟩; rw [H.out]; simp_all))
theorem runit_pos (n : Int) (h : n = 1 ∨ n = 2 ∨ n = 3) (w : World) : Calls Tryz.prog 254 #[.int .i64 n] w fun e w' => e = .returned (ptV (S.unit n)) /\ Below w.heap.size w w' := by
 have u1 : S.unit 1 = ⟨1, 0, 0⟩ := rfl
 have u2 : S.unit 2 = ⟨0, 1, 0⟩ := rfl
 have u3 : S.unit 3 = ⟨0, 0, 1⟩ := rfl
 rcases h with rfl | rfl | rfl
 all_goals (
  go_enter Tryz.func254, Tryz.ntmps254
  go_wp2
  (first | rw [u1] | rw [u2] | rw [u3])
  (first
    | exact bodyPost_ret (v := ptV ⟨1, 0, 0⟩) (by simp [results, Tryz.results254, go_sem, *]) rfl ⟨rfl, bel⟩
    | exact bodyPost_ret (v := ptV ⟨0, 1, 0⟩) (by simp [results, Tryz.results254, go_sem, *]) rfl ⟨rfl, bel⟩
    | exact bodyPost_ret (v := ptV ⟨0, 0, 1⟩) (by simp [results, Tryz.results254, go_sem, *]) rfl ⟨rfl, bel⟩))
set_option maxHeartbeats 1000000 in
theorem runit_any (n : Int) (h : S.isAxis n = true) (w : World) : Calls Tryz.prog 254 #[.int .i64 n] w fun e w' => e = .returned (ptV (S.unit n)) /\ Below w.heap.size w w' := by
 have h' : (n = 1 ∨ n = 2 ∨ n = 3) ∨ n = -1 ∨ n = -2 ∨ n = -3 := by
  simp only [S.isAxis, Bool.and_eq_true, decide_eq_true_eq, bne_iff_ne] at h
  omega
 have u1 : S.unit 1 = ⟨1, 0, 0⟩ := rfl
 have u2 : S.unit 2 = ⟨0, 1, 0⟩ := rfl
 have u3 : S.unit 3 = ⟨0, 0, 1⟩ := rfl
 have u4 : S.unit (-1) = ⟨-1, 0, 0⟩ := rfl
 have u5 : S.unit (-2) = ⟨0, -1, 0⟩ := rfl
 have u6 : S.unit (-3) = ⟨0, 0, -1⟩ := rfl
 have H1 := lh (fun w => u1 ▸ runit_pos 1 (by omega) w)
 have H2 := lh (fun w => u2 ▸ runit_pos 2 (by omega) w)
 have H3 := lh (fun w => u3 ▸ runit_pos 3 (by omega) w)
 unfold ptV at H1 H2 H3
 simp only [] at H1 H2 H3
 rcases h' with h1 | rfl | rfl | rfl
 ·exact runit_pos n h1 w
 ·rw [u4]
  go_enter Tryz.func254, Tryz.ntmps254
  go_wp2_with (go_at_call 254; (with_reducible refine (H1.out _).mono ?_); rintro e w1 ⟨rfl, hbw1⟩; obtain ⟨hcw1, hfw1⟩ := bcell hbw1; have hzw1_0 : w.heap.size < w1.heap.size := lt_via hbw1 sz)
  exact bodyPost_ret (v := ptV ⟨-1, 0, 0⟩) (by simp [results, Tryz.results254, go_sem, *]) rfl ⟨rfl, bel⟩
 ·rw [u5]
  go_enter Tryz.func254, Tryz.ntmps254
  go_wp2_with (go_at_call 254; (with_reducible refine (H2.out _).mono ?_); rintro e w1 ⟨rfl, hbw1⟩; obtain ⟨hcw1, hfw1⟩ := bcell hbw1; have hzw1_0 : w.heap.size < w1.heap.size := lt_via hbw1 sz)
  exact bodyPost_ret (v := ptV ⟨0, -1, 0⟩) (by simp [results, Tryz.results254, go_sem, *]) rfl ⟨rfl, bel⟩
 ·rw [u6]
  go_enter Tryz.func254, Tryz.ntmps254
  go_wp2_with (go_at_call 254; (with_reducible refine (H3.out _).mono ?_); rintro e w1 ⟨rfl, hbw1⟩; obtain ⟨hcw1, hfw1⟩ := bcell hbw1; have hzw1_0 : w.heap.size < w1.heap.size := lt_via hbw1 sz)
  exact bodyPost_ret (v := ptV ⟨0, 0, -1⟩) (by simp [results, Tryz.results254, go_sem, *]) rfl ⟨rfl, bel⟩
theorem rcross_any (a b : Pt) (ha : S.near1 a 1 = true) (hb : S.near1 b 1 = true) (w : World) : Calls Tryz.prog 256 #[ptV a, ptV b] w fun e w' => e = .returned (ptV (S.cross a b)) /\ Below w.heap.size w w' := by
 simp only [S.near1, Bool.and_eq_true, decide_eq_true_eq] at ha hb
 have hm : ∀ u v : Int, -1 <= u /\ u <= 1 -> -1 <= v /\ v <= 1 -> -1 <= u * v /\ u * v <= 1 := fun u v hu hv => by
  have h1 : u = -1 ∨ u = 0 ∨ u = 1 := by omega
  rcases h1 with rfl | rfl | rfl <;> omega
 have p0 := hm a.y b.z (by omega) (by omega)
 have p1 := hm a.z b.y (by omega) (by omega)
 have p2 := hm a.z b.x (by omega) (by omega)
 have p3 := hm a.x b.z (by omega) (by omega)
 have p4 := hm a.x b.y (by omega) (by omega)
 have p5 := hm a.y b.x (by omega) (by omega)
 clear hm
 have x0 : (S.cross a b).x = a.y * b.z - a.z * b.y := rfl
 have x1 : (S.cross a b).y = a.z * b.x - a.x * b.z := rfl
 have x2 : (S.cross a b).z = a.x * b.y - a.y * b.x := rfl
 unfold ptV
 go_enter Tryz.func256, Tryz.ntmps256
 go_wp2
 exact bodyPost_ret (v := .agg #[.int .i64 (S.cross a b).x, .int .i64 (S.cross a b).y, .int .i64 (S.cross a b).z]) (by simp [results, Tryz.results256, go_sem, *]) rfl ⟨rfl, bel⟩
theorem rplus_any (a b : Pt) (h : S.near1 (S.padd a b) 1000000000000 = true) (w : World) : Calls Tryz.prog 221 #[ptV a, ptV b] w fun e w' => e = .returned (ptV (S.padd a b)) /\ Below w.heap.size w w' := by
 obtain ⟨hx, hy, hz⟩ := near1_out h
 clear h
 have x0 : (S.padd a b).x = a.x + b.x := rfl
 have x1 : (S.padd a b).y = a.y + b.y := rfl
 have x2 : (S.padd a b).z = a.z + b.z := rfl
 rw [x0] at hx
 rw [x1] at hy
 rw [x2] at hz
 unfold ptV
 go_enter Tryz.func221, Tryz.ntmps221
 go_wp2
 exact bodyPost_ret (v := .agg #[.int .i64 (S.padd a b).x, .int .i64 (S.padd a b).y, .int .i64 (S.padd a b).z]) (by simp [results, Tryz.results221, go_sem, *]) rfl ⟨rfl, bel⟩
theorem rtimes_any (n : Int) (p : Pt) (h : S.near1 (S.times n p) 1000000000000 = true) (w : World) : Calls Tryz.prog 255 #[.int .i64 n, ptV p] w fun e w' => e = .returned (ptV (S.times n p)) /\ Below w.heap.size w w' := by
 obtain ⟨hx, hy, hz⟩ := near1_out h
 clear h
 have x0 : (S.times n p).x = n * p.x := rfl
 have x1 : (S.times n p).y = n * p.y := rfl
 have x2 : (S.times n p).z = n * p.z := rfl
 rw [x0] at hx
 rw [x1] at hy
 rw [x2] at hz
 unfold ptV
 go_enter Tryz.func255, Tryz.ntmps255
 go_wp2
 exact bodyPost_ret (v := .agg #[.int .i64 (S.times n p).x, .int .i64 (S.times n p).y, .int .i64 (S.times n p).z]) (by simp [results, Tryz.results255, go_sem, *]) rfl ⟨rfl, bel⟩
theorem rwithin_any (n : Int) (w : World) :
 Calls Tryz.prog 219 #[.int .i64 n] w fun e w' => e = .returned (.bool (S.place n)) /\ w = w' := by
 have H := lh (show S.place n = (decide (-1048576 <= n) && decide (n <= 1048576)) from rfl)
 go_enter Tryz.func219, Tryz.ntmps219
 go_wp2
 all_goals (go_ret; exact ⟨ret_b (by rw [H.out, Bool.eq_iff_iff]; all_goals (first | (simp; done) | (simp; omega))), rfl⟩)
theorem rnear1_any (p : Pt) (w : World) :
 Calls Tryz.prog 170 #[ptV p] w fun e w' => e = .returned (.bool (S.near1 p 1048576)) /\ Below w.heap.size w w' := by
 have H := lh (show S.near1 p 1048576 = (S.place p.x && S.place p.y && S.place p.z) by simp [S.near1, S.place, Bool.and_assoc])
 have H0 := lh (fun w => rwithin_any p.x w)
 have H1 := lh (fun w => rwithin_any p.y w)
 have H2 := lh (fun w => rwithin_any p.z w)
 generalize S.place p.x = t0 at *
 generalize S.place p.y = t1 at *
 generalize S.place p.z = t2 at *
 unfold ptV
 cases t0 <;> cases t1
 all_goals (
  go_enter Tryz.func170, Tryz.ntmps170
  go_wp2_with (first
   | (go_at_call 219; (with_reducible refine (H0.out _).mono ?_); rintro e w' ⟨rfl, rfl⟩)
   | (go_at_call 219; (with_reducible refine (H1.out _).mono ?_); rintro e w' ⟨rfl, rfl⟩)
   | (go_at_call 219; (with_reducible refine (H2.out _).mono ?_); rintro e w' ⟨rfl, rfl⟩))
  all_goals (go_ret; refine ⟨ret_b ?_, bel⟩; rw [H.out]; simp))
theorem rimage_eq (x y : Int) (p : Pt) : S.padd (S.times p.x (S.unit x)) (S.padd (S.times p.y (S.unit y)) (S.times p.z (S.cross (S.unit x) (S.unit y)))) = S.image x y p := by
 rw [show S.image x y p = ⟨(S.unit x).x * p.x + (S.unit y).x * p.y + (S.cross (S.unit x) (S.unit y)).x * p.z, (S.unit x).y * p.x + (S.unit y).y * p.y + (S.cross (S.unit x) (S.unit y)).y * p.z, (S.unit x).z * p.x + (S.unit y).z * p.y + (S.cross (S.unit x) (S.unit y)).z * p.z⟩ from rfl]
 simp only [S.padd, S.times, Int.mul_comm, Int.add_assoc]
theorem near1_mono0 {p : Pt} {a b : Int} (h : S.near1 p a = true) (hab : a <= b) : S.near1 p b = true := by
 simp only [S.near1, Bool.and_eq_true, decide_eq_true_eq] at h ⊢
 omega
theorem times_near {n m : Int} {p : Pt} (hn : -m <= n /\ n <= m) (hp : S.near1 p 1 = true) : S.near1 (S.times n p) m = true := by
 obtain ⟨hx, hy, hz⟩ := near1_out hp
 have ax := mul_near hx hn
 have ay := mul_near hy hn
 have az := mul_near hz hn
 rw [Int.mul_comm] at ax ay az
 rw [show S.times n p = ⟨n * p.x, n * p.y, n * p.z⟩ from rfl]
 simp only [S.near1, Bool.and_eq_true, decide_eq_true_eq]
 generalize n * p.x = u1 at *
 generalize n * p.y = u2 at *
 generalize n * p.z = u3 at *
 omega
theorem padd_near {a b : Pt} {m k : Int} (ha : S.near1 a m = true) (hb : S.near1 b k = true) : S.near1 (S.padd a b) (m + k) = true := by
 obtain ⟨hx, hy, hz⟩ := near1_out ha
 obtain ⟨gx, gy, gz⟩ := near1_out hb
 rw [show S.padd a b = ⟨a.x + b.x, a.y + b.y, a.z + b.z⟩ from rfl]
 simp only [S.near1, Bool.and_eq_true, decide_eq_true_eq]
 omega
set_option maxRecDepth 20000 in
set_option maxHeartbeats 4000000 in
theorem rimage_any (x y : Int) (h : S.turn x y = true) (p : Pt) (hp : S.near1 p 1048576 = true) (w : World) : Calls Tryz.prog 223 #[turnV x y, ptV p] w fun e w' => e = .returned (ptV (S.image x y p)) /\ Below w.heap.size w w' := by
 obtain ⟨hax, hay⟩ := turn_axes h
 obtain ⟨px, py, pz⟩ := near1_out hp
 have hn1 := times_near px (unit_near hax)
 have hn2 := times_near py (unit_near hay)
 have hn3 := times_near pz (cross_near h)
 have hn4 := padd_near hn2 hn3
 have hn5 := padd_near hn1 hn4
 have HUX := lh (fun w => runit_any x hax w)
 have HUY := lh (fun w => runit_any y hay w)
 have HC := lh (fun w => rcross_any (S.unit x) (S.unit y) (unit_near hax) (unit_near hay) w)
 have HT1 := lh (fun w => rtimes_any p.x (S.unit x) (near1_mono0 hn1 (by omega)) w)
 have HT2 := lh (fun w => rtimes_any p.y (S.unit y) (near1_mono0 hn2 (by omega)) w)
 have HT3 := lh (fun w => rtimes_any p.z (S.cross (S.unit x) (S.unit y)) (near1_mono0 hn3 (by omega)) w)
 have HP1 := lh (fun w => rplus_any (S.times p.y (S.unit y)) (S.times p.z (S.cross (S.unit x) (S.unit y))) (near1_mono0 hn4 (by omega)) w)
 have HP2 := lh (fun w => rplus_any (S.times p.x (S.unit x)) _ (near1_mono0 hn5 (by omega)) w)
 have HE := lh (rimage_eq x y p)
 clear h hp hax hay hn1 hn2 hn3 hn4 hn5 px py pz
 rw [<- HE.out]
 clear HE
 generalize S.padd (S.times p.x (S.unit x)) (S.padd (S.times p.y (S.unit y)) (S.times p.z (S.cross (S.unit x) (S.unit y)))) = R at *
 generalize S.padd (S.times p.y (S.unit y)) (S.times p.z (S.cross (S.unit x) (S.unit y))) = P1 at *
 generalize S.times p.z (S.cross (S.unit x) (S.unit y)) = T3 at *
 generalize S.times p.y (S.unit y) = T2 at *
 generalize S.times p.x (S.unit x) = T1 at *
 generalize S.cross (S.unit x) (S.unit y) = C at *
 generalize S.unit x = U at *
 generalize S.unit y = V at *
 unfold ptV at HUX HUY HC HT1 HT2 HT3 HP1 HP2
 unfold turnV ptV
 go_enter Tryz.func223, Tryz.ntmps223
 go_wp2_with (first
  | (go_at_call 254; (with_reducible refine (HUX.out _).mono ?_); rintro e w1 ⟨rfl, hbw1⟩; obtain ⟨hcw1, hfw1⟩ := bcell hbw1; have hzw1_0 : w.heap.size < w1.heap.size := lt_via hbw1 sz; have hzw1_1 : w.heap.size + 1 < w1.heap.size := lt_via hbw1 sz; have hzw1_2 : w.heap.size + 2 < w1.heap.size := lt_via hbw1 sz)
  | (go_at_call 254; (with_reducible refine (HUY.out _).mono ?_); rintro e w2 ⟨rfl, hbw2⟩; obtain ⟨hcw2, hfw2⟩ := bcell hbw2; have hzw2_0 : w.heap.size < w2.heap.size := lt_via hbw2 sz; have hzw2_1 : w.heap.size + 1 < w2.heap.size := lt_via hbw2 sz; have hzw2_2 : w.heap.size + 2 < w2.heap.size := lt_via hbw2 sz; have hyw2_0 : w1.heap.size < w2.heap.size := lt_via hbw2 sz))
 have hbel : Below w.heap.size w w2 := bel
 refine wp_region_grow_tail 16 (by kernel_rfl) (by kernel_rfl) ?_
 simp only [gt1, gt2, gt3, gt4]
 repeat (go_big_quiet_step ((first
  | (go_at_call 255; with_reducible exact grow_of (HT1.out _))
  | (go_at_call 255; with_reducible exact grow_of (HT2.out _))
  | (go_at_call 255; with_reducible exact grow_of (HT3.out _))
  | (go_at_call 256; with_reducible exact grow_of (HC.out _))
  | (go_at_call 221; with_reducible exact grow_of (HP1.out _))
  | (go_at_call 221; with_reducible exact grow_of (HP2.out _)))))
 all_goals (refine wpQuiet_nil ?_; intro wg hbwg; obtain ⟨hcwg, hfwg⟩ := bcell hbwg; have hzwg_0 : w.heap.size < wg.heap.size := lt_via hbwg sz; have hzwg_1 : w.heap.size + 1 < wg.heap.size := lt_via hbwg sz; have hzwg_2 : w.heap.size + 2 < wg.heap.size := lt_via hbwg sz)
 go_wp2
 exact bodyPost_ret (v := .agg #[.int .i64 R.x, .int .i64 R.y, .int .i64 R.z]) (by simp [results, Tryz.results223, go_sem, *]) rfl ⟨rfl, bel⟩

theorem rsz_any (n : Int) (w : World) (h0 : 0 <= n) (h1 : n <= 1152921504606846976) :
 Calls Tryz.prog 78 #[.int .i64 n] w fun e w' => e = .returned (.int .u64 n) /\ w = w' := by
 have e := PlainAid.u64_nonneg h0 (by omega)
 go_enter Tryz.func78, Tryz.ntmps78
 go_wp2
 go_ret
 exact ⟨rfl, rfl⟩
def gcdI (a b : Int) : Int := ((Nat.gcd a.toNat b.toNat : Nat) : Int)
theorem gcd_step (x y : Nat) (hy : 0 < y) : Nat.gcd y (x % y) = Nat.gcd x y := by
 rw [Nat.gcd_comm x y, Nat.gcd_rec y x, Nat.gcd_comm]
theorem gcd_any (a b : Nat) (w : World) (ha : a <= 1152921504606846976) (hb : b <= 1152921504606846976) :
 Calls Tryz.prog 79 #[.int .u64 a, .int .u64 b] w fun e w' => e = .returned (.int .u64 (Nat.gcd a b : Nat)) /\ Below w.heap.size w w' := by
 go_enter Tryz.func79, Tryz.ntmps79
 go_wp2
 go_loopw [0, 1] (fun u v wr => ∃ x y : Nat, x <= 1152921504606846976 /\ y <= 1152921504606846976 /\ u = .int .u64 x /\ v = .int .u64 y /\ Hid (Nat.gcd x y = Nat.gcd a b) /\ Below w.heap.size w wr) (fun _ v _ => (intOf v).toNat)
 case atStart => exact ⟨a, b, ha, hb, rfl, rfl, lh rfl, Below.refl _ _⟩
 case round =>
  obtain ⟨x, y, hx, hy, rfl, rfl, hg, hbr⟩ := hrel
  by_cases h0 : y = 0
  ·have hz : (((y : Nat) : Int) != 0) = false := by simp [h0]
   have hg2 := lh h0
   clear h0
   go_wp2
   go_ret
   refine ⟨?_, bel⟩
   have h := hg.out
   rw [hg2.out, Nat.gcd_zero_right] at h
   simp [h]
  ·have hz : (((y : Nat) : Int) != 0) = true := by simp; omega
   have hz' : (((y : Nat) : Int) == 0) = false := by simp; omega
   have hlt := Nat.mod_lt x (show 0 < y by omega)
   have hm : ((x : Int) % (y : Int)) = ((x % y : Nat) : Int) := by omega
   go_wp2_with fail
   go_quiet (fail)
   go_wp2
   go_roundw
   case rel => exact ⟨y, x % y, hy, by omega, rfl, rfl, lh ((gcd_step x y (by omega)).trans hg.out), bel⟩
   case measure => simp [intOf]; omega
theorem signed_any (a b : Int) (w : World) (ha0 : 0 <= a) (ha : a <= 1152921504606846976) (hb0 : 0 <= b) (hb : b <= 1152921504606846976) :
 Calls Tryz.prog 80 #[.bool false, .int .u64 a, .int .u64 b] w fun e w' => e = .returned (.tuple #[.agg #[.int .i64 a, .int .i64 b], .int .i64 0]) /\ Below w.heap.size w w' := by
 go_enter Tryz.func80, Tryz.ntmps80
 go_wp2
 go_returns
 exact ⟨rfl, bel⟩
theorem gcdI_pos {n d : Int} (h : 1 <= d) : 1 <= gcdI n d := by
 have : 0 < Nat.gcd n.toNat d.toNat := Nat.gcd_pos_of_pos_right _ (by omega)
 unfold gcdI
 omega
theorem gcdI_le {n d : Int} (h : 1 <= d) : gcdI n d <= d := by
 have := Nat.gcd_le_right n.toNat (show 0 < d.toNat by omega)
 unfold gcdI
 omega
theorem div_bd {n g : Int} (h0 : 0 <= n) (hg : 1 <= g) : 0 <= n / g /\ n / g <= n := ⟨Int.ediv_nonneg h0 (by omega), Int.ediv_le_self _ h0⟩
set_option maxRecDepth 10000 in
set_option maxHeartbeats 1000000 in
theorem make_any (n d : Int) (w : World) (h0 : 0 <= n) (h1 : n <= 1152921504606846976) (hd0 : 1 <= d) (hd : d <= 1152921504606846976) :
 Calls Tryz.prog 50 #[.int .i64 n, .int .i64 d] w fun e w' => e = .returned (.tuple #[.agg #[.int .i64 (n / gcdI n d), .int .i64 (d / gcdI n d)], .int .i64 0]) /\ Below w.heap.size w w' := by
 have g1 := gcdI_pos (n := n) hd0
 have g2 := gcdI_le (n := n) hd0
 have gz : (gcdI n d == 0) = false := by simp; omega
 have q1 := div_bd h0 g1
 have q2 := div_bd (show 0 <= d by omega) g1
 have dz : (d == 0) = false := by simp; omega
 have hG : ∀ w : World, Calls Tryz.prog 79 #[.int .u64 n, .int .u64 d] w fun e w' => e = .returned (.int .u64 (gcdI n d)) /\ Below w.heap.size w w' := fun w => by
  have := gcd_any n.toNat d.toNat w (by omega) (by omega)
  rw [Int.toNat_of_nonneg h0, Int.toNat_of_nonneg (by omega)] at this
  exact this
 have HG := lh hG
 clear hG
 have hn : decide (n < 0) = false := by simp; omega
 have hdn : decide (d < 0) = false := by simp; omega
 by_cases hz : n = 0
 ·have nz : (n != 0) = false := by simp [hz]
  have HZ := lh hz
  clear hz
  go_enter Tryz.func50, Tryz.ntmps50
  go_wp2_with (first
   | (go_at_call 78; (with_reducible refine (rsz_any _ _ (by omega) (by omega)).mono ?_); rintro e w' ⟨rfl, rfl⟩)
   | (go_at_call 79; (with_reducible refine (HG.out _).mono ?_); rintro e w1 ⟨rfl, hbw1⟩; obtain ⟨hcw1, hfw1⟩ := bcell hbw1; have hzw1_0 : w.heap.size < w1.heap.size := lt_via hbw1 sz))
  refine wp_region_grow_tail 18 (by kernel_rfl) (by kernel_rfl) ?_
  simp only [gt1, gt2, gt3, gt4]
  repeat (go_big_quiet_step ((go_at_call 80; exact grow_of (signed_any _ _ _ q1.1 (by omega) q2.1 (by omega)))))
  all_goals (refine wpQuiet_nil ?_; intro w2 hbw2; obtain ⟨hcw2, hfw2⟩ := bcell hbw2; have hzw2_0 : w.heap.size < w2.heap.size := lt_via hbw2 sz)
  go_wp2
  exact bodyPost_ret (v := .tuple #[.agg #[.int .i64 (n / gcdI n d), .int .i64 (d / gcdI n d)], .int .i64 0]) (by simp [results, Tryz.results50, go_sem, *]) rfl ⟨rfl, bel⟩
 ·have nz : (n != 0) = true := by simpa using hz
  go_enter Tryz.func50, Tryz.ntmps50
  go_wp2_with (first
   | (go_at_call 78; (with_reducible refine (rsz_any _ _ (by omega) (by omega)).mono ?_); rintro e w' ⟨rfl, rfl⟩)
   | (go_at_call 79; (with_reducible refine (HG.out _).mono ?_); rintro e w1 ⟨rfl, hbw1⟩; obtain ⟨hcw1, hfw1⟩ := bcell hbw1; have hzw1_0 : w.heap.size < w1.heap.size := lt_via hbw1 sz))
  refine wp_region_grow_tail 18 (by kernel_rfl) (by kernel_rfl) ?_
  simp only [gt1, gt2, gt3, gt4]
  repeat (go_big_quiet_step ((go_at_call 80; exact grow_of (signed_any _ _ _ q1.1 (by omega) q2.1 (by omega)))))
  all_goals (refine wpQuiet_nil ?_; intro w2 hbw2; obtain ⟨hcw2, hfw2⟩ := bcell hbw2; have hzw2_0 : w.heap.size < w2.heap.size := lt_via hbw2 sz)
  go_wp2
  exact bodyPost_ret (v := .tuple #[.agg #[.int .i64 (n / gcdI n d), .int .i64 (d / gcdI n d)], .int .i64 0]) (by simp [results, Tryz.results50, go_sem, *]) rfl ⟨rfl, bel⟩
end Go.Proofs.YtmfpbafpnoomeaaGreat
