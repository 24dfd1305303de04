/- Lemmas. -/
import Derived.Deep.Slices
import Derived.Test.YtmfpbafpnoomeaaGreatMC
import Derived.Test.YtmfpbafpnoomeaaGreatMM
import Derived.Test.YtmfpbafpnoomeaaGreatML
set_option linter.unusedVariables false
set_option linter.unusedSimpArgs false
namespace Go.Proofs.YtmfpbafpnoomeaaGreat
open Go.RowKit
namespace S
def setc (p : Pt) (k : Nat) (n : Int) : Pt := if k = 0 then ⟨n, p.y, p.z⟩ else if k = 1 then ⟨p.x, n, p.z⟩ else ⟨p.x, p.y, n⟩
def mn (a b : Int) : Int := if b < a then b else a
def mx (a b : Int) : Int := if a < b then b else a
end S
theorem with_any (p : Pt) (k : Nat) (n : Int) (hk : k < 3) (w : World) :
 Calls Tryz.prog 271 #[ptVal p, .int .i64 k, .int .i64 n] w fun e w' => e = .returned (ptVal (S.setc p k n)) /\ Below w.heap.size w w' := by
 have : k = 0 ∨ k = 1 ∨ k = 2 := by omega
 unfold ptVal
 rcases this with rfl | rfl | rfl
 ·go_enter Tryz.func271, Tryz.ntmps271
  go_wp2
  exact bodyPost_ret (v := ptVal ⟨n, p.y, p.z⟩) (by simp [results, Tryz.results271, go_sem, *]) rfl ⟨rfl, bel⟩
 ·go_enter Tryz.func271, Tryz.ntmps271
  go_wp2
  exact bodyPost_ret (v := ptVal ⟨p.x, n, p.z⟩) (by simp [results, Tryz.results271, go_sem, *]) rfl ⟨rfl, bel⟩
 ·go_enter Tryz.func271, Tryz.ntmps271
  go_wp2
  exact bodyPost_ret (v := ptVal ⟨p.x, p.y, n⟩) (by simp [results, Tryz.results271, go_sem, *]) rfl ⟨rfl, bel⟩
theorem anyb_of {α : Type} {xs : List α} {p : α -> Bool} {k : Nat} (hk : k < xs.length) (h : p xs[k] = true) : anyb xs p = true := by
 unfold anyb
 rw [List.any_eq_true]
 exact ⟨_, List.getElem_mem hk, h⟩
theorem anyb_not {α : Type} {xs : List α} {p : α -> Bool} (h : ∀ j (hj : j < xs.length), p xs[j] = false) : anyb xs p = false := by
 unfold anyb
 rw [List.any_eq_false]
 intro x hx
 obtain ⟨j, hj, rfl⟩ := List.mem_iff_getElem.1 hx
 simp [h j hj]
set_option maxHeartbeats 1000000 in
theorem rthick_any (b : Bx) (w : World) :
 Calls Tryz.prog 166 #[boxV b] w fun e w' => e = .returned (.bool (S.thick b)) /\ Below w.heap.size w w' := by
 have HV := lh (fun w => rbvalid_any b w)
 have H := lh (show S.thick b = (S.boxOk b && decide (b.lo.x < b.hi.x) && decide (b.lo.y < b.hi.y) && decide (b.lo.z < b.hi.z)) from rfl)
 generalize S.boxOk b = t at *
 unfold boxV
 cases t
 all_goals (
  go_enter Tryz.func166, Tryz.ntmps166
  go_wp2_with (go_at_call 123; (with_reducible refine (HV.out _).mono ?_); rintro e w1 ⟨rfl, hbw1⟩; obtain ⟨hcw1, hfw1⟩ := bcell hbw1; have hzw1_0 : w.heap.size < w1.heap.size := lt_via hbw1 sz)
  all_goals (go_ret; exact ⟨ret_b (by rw [H.out, Bool.eq_iff_iff]; all_goals (first | (simp; done) | (simp; omega))), bel⟩))
set_option maxRecDepth 100000 in
set_option maxHeartbeats 4000000 in
theorem rsvalid_any (A : Option Addr) (n c : Nat) (A' : Option Addr) (n' c' : Nat) (xs hs : List Bx) (B : Nat) (w : World) (hB : B <= w.heap.size) (hA : SolAt w B A n A' n' xs hs) :
 Calls Tryz.prog 118 #[solV A n c A' n' c'] w fun e w' => e = .returned (.bool (S.solid xs hs)) /\ Below w.heap.size w w' := by
 have HA := lh hA
 have hm := hA.max
 have hm' := hA.max'
 have H := lh (show S.solid xs hs = (decide (1 <= n) && decide (n <= 20) && decide (n' <= 20) && !anyb xs S.thin && !anyb hs S.thin) by unfold S.solid; rw [hA.len, hA.len'])
 clear hA
 unfold solV
 by_cases hbad : n < 1 ∨ 20 < n ∨ 20 < n'
 ·have HF : Hid (S.solid xs hs = false) := lh (by
   rw [H.out]
   rcases hbad with h | h | h
   ·have : decide (1 <= n) = false := by simp; omega
    simp [this]
   ·have : decide (n <= 20) = false := by simp; omega
    simp [this]
   ·have : decide (n' <= 20) = false := by simp; omega
    simp [this])
  by_cases h1 : (n : Int) < 1
  ·go_enter Tryz.func118, Tryz.ntmps118
   go_wp2
   go_ret
   exact ⟨ret_b HF.out.symm, bel⟩
  ·by_cases h2 : (20 : Int) < n
   ·go_enter Tryz.func118, Tryz.ntmps118
    go_wp2
    go_ret
    exact ⟨ret_b HF.out.symm, bel⟩
   ·have h3 : (20 : Int) < n' := by omega
    go_enter Tryz.func118, Tryz.ntmps118
    go_wp2
    go_ret
    exact ⟨ret_b HF.out.symm, bel⟩
 ·have g1 : ¬ (n : Int) < 1 := by omega
  have g2 : ¬ (20 : Int) < n := by omega
  have g3 : ¬ (20 : Int) < n' := by omega
  clear hbad
  go_enter Tryz.func118, Tryz.ntmps118
  go_wp2
  have hB0 : Blk (w.alloc (.cells #[.slice A n c, .slice A' n' c'] 24)) w.heap.size 24 #[.slice A n c, .slice A' n' c'] := Blk.new _ _ _
  have hW0 : Below w.heap.size w (w.alloc (.cells #[.slice A n c, .slice A' n' c'] 24)) := bel
  have HB0 := lh hB0
  clear hB0
  generalize w.alloc (.cells #[.slice A n c, .slice A' n' c'] 24) = W0 at *
  go_loopw [3] (fun i wr => ∃ k : Nat, k <= n /\ i = .int .i64 k /\ Hid (∀ j (h : j < xs.length), j < k -> S.thin xs[j] = false) /\ Below W0.heap.size W0 wr) (fun i _ => n - (intOf i).toNat)
  case atStart => exact ⟨0, Nat.zero_le _, rfl, lh fun j _ hj => absurd hj (by omega), Below.refl _ _⟩
  case round =>
   obtain ⟨k, hk, rfl, HNO, hbr⟩ := hrel
   have hBk := HB0.out.via hbr
   have x0 := hBk.cell 0
   have x1 := hBk.cell 1
   simp only [ga1, ga2, ga3] at x0 x1
   have hBl := hBk.lt
   clear hBk
   by_cases hlt : k < n
   ·have hki : (k : Int) < (n : Int) := by omega
    have hkx : k < xs.length := by have := HA.out.len; omega
    have hs' := (HA.out.below ((ba_via hbr hW0).mono hB)).cells
    obtain ⟨b, o, rfl, _, _⟩ := hs'.at_ (by rw [flat_len boxC 6 boxC_len]; omega)
    obtain ⟨c0, c1, c2, c3, c4, c5⟩ := hs'.boxes (List.getElem?_eq_getElem hkx)
    have HT := lh (rthick_any xs[k])
    have HTH := lh (show S.thin xs[k] = !S.thick xs[k] from rfl)
    generalize hq : S.thick xs[k] = q at *
    cases q
    ·go_wp2_with (go_at_call 166; (with_reducible refine (HT.out _).mono ?_); rintro e w1 ⟨rfl, hbw1⟩; obtain ⟨hcw1, hfw1⟩ := bcell hbw1)
     go_ret
     exact ⟨ret_b (by rw [H.out, anyb_of hkx HTH.out]; simp), ba_via hbw1 (ba_via hbr hW0)⟩
    ·go_wp2_with (go_at_call 166; (with_reducible refine (HT.out _).mono ?_); rintro e w1 ⟨rfl, hbw1⟩; obtain ⟨hcw1, hfw1⟩ := bcell hbw1)
     go_roundw
     case rel =>
      refine ⟨k + 1, by omega, by go_num, lh fun j hj hjk => ?_, ba_via hbw1 hbr⟩
      by_cases hjk' : j = k
      ·subst hjk'; exact HTH.out
      ·exact HNO.out j hj (by omega)
     case measure => simp [intOf]; omega
   ·have HX := lh (anyb_not (p := S.thin) (xs := xs) fun j hj => HNO.out j hj (by have := HA.out.len; omega))
    have hbx := hbr
    go_wp2
    go_loopw [4] (fun i wr => ∃ k : Nat, k <= n' /\ i = .int .i64 k /\ Hid (∀ j (h : j < hs.length), j < k -> S.thin hs[j] = false) /\ Below W0.heap.size W0 wr) (fun i _ => n' - (intOf i).toNat)
    case atStart => exact ⟨0, Nat.zero_le _, rfl, lh fun j _ hj => absurd hj (by omega), hbx⟩
    case round =>
     obtain ⟨k', hk', rfl, HNO', hbr'⟩ := hrel
     have hBk := HB0.out.via hbr'
     have y0 := hBk.cell 0
     have y1 := hBk.cell 1
     simp only [ga1, ga2, ga3] at y0 y1
     have hBl' := hBk.lt
     clear hBk
     by_cases hlt' : k' < n'
     ·have hki : (k' : Int) < (n' : Int) := by omega
      have hkx : k' < hs.length := by have := HA.out.len'; omega
      have hs' := (HA.out.below ((ba_via hbr' hW0).mono hB)).cells'
      obtain ⟨b, o, rfl, _, _⟩ := hs'.at_ (by rw [flat_len boxC 6 boxC_len]; omega)
      obtain ⟨c0, c1, c2, c3, c4, c5⟩ := hs'.boxes (List.getElem?_eq_getElem hkx)
      have HT := lh (rthick_any hs[k'])
      have HTH := lh (show S.thin hs[k'] = !S.thick hs[k'] from rfl)
      generalize hq : S.thick hs[k'] = q at *
      cases q
      ·go_wp2_with (go_at_call 166; (with_reducible refine (HT.out _).mono ?_); rintro e w1 ⟨rfl, hbw1⟩; obtain ⟨hcw1, hfw1⟩ := bcell hbw1)
       go_ret
       exact ⟨ret_b (by rw [H.out, HX.out, anyb_of hkx HTH.out]; simp), ba_via hbw1 (ba_via hbr' hW0)⟩
      ·go_wp2_with (go_at_call 166; (with_reducible refine (HT.out _).mono ?_); rintro e w1 ⟨rfl, hbw1⟩; obtain ⟨hcw1, hfw1⟩ := bcell hbw1)
       go_roundw
       case rel =>
        refine ⟨k' + 1, by omega, by go_num, lh fun j hj hjk => ?_, ba_via hbw1 hbr'⟩
        by_cases hjk' : j = k'
        ·subst hjk'; exact HTH.out
        ·exact HNO'.out j hj (by omega)
       case measure => simp [intOf]; omega
     ·go_wp2
      go_ret
      exact ⟨ret_b (by
       rw [H.out, HX.out, anyb_not (p := S.thin) (xs := hs) fun j hj => HNO'.out j hj (by have := HA.out.len'; omega)]
       simp; omega), ba_via hbr' hW0⟩
set_option maxHeartbeats 2000000 in
theorem rmember_any (m : Mem) (A : Option Addr) (n c : Nat) (A' : Option Addr) (n' c' : Nat) (B : Nat) (w : World) (hB : B <= w.heap.size) (hA : SolAt w B A n A' n' m.boxes m.holes) (hk : m.name.size <= 9223372036854775807) :
 Calls Tryz.prog 85 #[memV m A n c A' n' c'] w fun e w' => e = .returned (.bool (S.member m)) /\ Below w.heap.size w w' := by
 have HA := lh hA
 have H := lh (show S.member m = (S.isName m.name && S.solid m.boxes m.holes && (decide (0 <= m.cover) && decide (m.cover <= 200)) && (decide (1 <= m.aggr) && decide (m.aggr <= 100)) && (decide (1 <= m.poker) && decide (m.poker <= 200))) from rfl)
 have HN := lh (fun w => risname_any m.name w hk)
 have HS := lh (fun (W : World) (hw : B <= W.heap.size) (h : SolAt W B A n A' n' m.boxes m.holes) => rsvalid_any A n c A' n' c' m.boxes m.holes B W hw h)
 clear hA
 generalize S.isName m.name = t0 at *
 generalize S.solid m.boxes m.holes = t1 at *
 unfold memV
 cases t0 <;> cases t1
 all_goals (
  go_enter Tryz.func85, Tryz.ntmps85
  go_wp2_with (first
   | (go_at_call 117; (with_reducible refine (HN.out _).mono ?_); rintro e w' ⟨rfl, rfl⟩)
   | (go_at_call 118; (with_reducible refine (HS.out _ (size_via hB bel) (SolAt.at_ HA.out hB bel)).mono ?_); rintro e w1 ⟨rfl, hbw1⟩; obtain ⟨hcw1, hfw1⟩ := bcell hbw1; have hzw1_0 : w.heap.size < w1.heap.size := lt_via hbw1 sz))
  all_goals (go_ret; exact ⟨ret_b (by rw [H.out, Bool.eq_iff_iff]; all_goals (first | (simp; done) | (simp; omega))), bel⟩))
def S.padd (a b : Pt) : Pt := ⟨a.x + b.x, a.y + b.y, a.z + b.z⟩
def S.times (n : Int) (p : Pt) : Pt := ⟨n * p.x, n * p.y, n * p.z⟩
theorem raxis_any (n : Int) (w : World) : Calls Tryz.prog 218 #[.int .i64 n] w fun e w' => e = .returned (.bool (S.isAxis n)) /\ w = w' := by
 have H := lh (show S.isAxis n = ((n != 0) && decide (-3 <= n) && decide (n <= 3)) from rfl)
 generalize hu : (n != 0) = u at H
 have hu' := lh hu
 go_enter Tryz.func218, Tryz.ntmps218
 go_wp2
 all_goals (go_ret; refine ⟨ret_b ?_, rfl⟩; rw [H.out]; have := hu'.out; simp_all; try omega)
theorem rturn_any (x y : Int) (w : World) : Calls Tryz.prog 169 #[turnV x y] w fun e w' => e = .returned (.bool (S.turn x y)) /\ Below w.heap.size w w' := by
 have H := lh (show S.turn x y = (S.isAxis x && S.isAxis y && (x != y) && (x != -y)) from rfl)
 have HX := lh (fun w => raxis_any x w)
 have HY := lh (fun w => raxis_any y w)
 unfold turnV
 by_cases hb : S.isAxis y = true
 ·have hy : -3 <= y /\ y <= 3 := by
   simp only [S.isAxis, Bool.and_eq_true, decide_eq_true_eq] at hb
   omega
  have hn : IntKind.i64.wrap (0 - y) = -y := by rw [IntWalk.i64_in _ (by omega)]; omega
  rw [hb] at HY H
  clear hb
  generalize S.isAxis x = a at *
  cases a
  all_goals (
   go_enter Tryz.func169, Tryz.ntmps169
   go_wp2_with (first
    | (go_at_call 218; (with_reducible refine (HX.out _).mono ?_); rintro e w' ⟨rfl, rfl⟩)
    | (go_at_call 218; (with_reducible refine (HY.out _).mono ?_); rintro e w' ⟨rfl, rfl⟩))
   all_goals (go_ret; refine ⟨ret_b ?_, bel⟩; rw [H.out]; simp_all))
 ·have hb' : S.isAxis y = false := by simpa using hb
  rw [hb'] at HY H
  clear hb hb'
  generalize S.isAxis x = a at *
  cases a
  all_goals (
   go_enter Tryz.func169, Tryz.ntmps169
   go_wp2_with (first
    | (go_at_call 218; (with_reducible refine (HX.out _).mono ?_); rintro e w' ⟨rfl, rfl⟩)
    | (go_at_call 218; (with_reducible refine (HY.out _).mono ?_); rintro e w' ⟨rfl, rfl⟩))
   all_goals (go_ret; refine ⟨ret_b ?_, bel⟩; rw [H.out]; simp_all))
theorem runit_pos (n : Int) (h : n = 1 ∨ n = 2 ∨ n = 3) (w : World) : Calls Tryz.prog 254 #[.int .i64 n] w fun e w' => e = .returned (ptV (S.unit n)) /\ Below w.heap.size w w' := by
 have u1 : S.unit 1 = ⟨1, 0, 0⟩ := rfl
 have u2 : S.unit 2 = ⟨0, 1, 0⟩ := rfl
 have u3 : S.unit 3 = ⟨0, 0, 1⟩ := rfl
 rcases h with rfl | rfl | rfl
 all_goals (
  go_enter Tryz.func254, Tryz.ntmps254
  go_wp2
  (first | rw [u1] | rw [u2] | rw [u3])
  (first
    | exact bodyPost_ret (v := ptV ⟨1, 0, 0⟩) (by simp [results, Tryz.results254, go_sem, *]) rfl ⟨rfl, bel⟩
    | exact bodyPost_ret (v := ptV ⟨0, 1, 0⟩) (by simp [results, Tryz.results254, go_sem, *]) rfl ⟨rfl, bel⟩
    | exact bodyPost_ret (v := ptV ⟨0, 0, 1⟩) (by simp [results, Tryz.results254, go_sem, *]) rfl ⟨rfl, bel⟩))
set_option maxHeartbeats 1000000 in
theorem runit_any (n : Int) (h : S.isAxis n = true) (w : World) : Calls Tryz.prog 254 #[.int .i64 n] w fun e w' => e = .returned (ptV (S.unit n)) /\ Below w.heap.size w w' := by
 have h' : (n = 1 ∨ n = 2 ∨ n = 3) ∨ n = -1 ∨ n = -2 ∨ n = -3 := by
  simp only [S.isAxis, Bool.and_eq_true, decide_eq_true_eq, bne_iff_ne] at h
  omega
 have u1 : S.unit 1 = ⟨1, 0, 0⟩ := rfl
 have u2 : S.unit 2 = ⟨0, 1, 0⟩ := rfl
 have u3 : S.unit 3 = ⟨0, 0, 1⟩ := rfl
 have u4 : S.unit (-1) = ⟨-1, 0, 0⟩ := rfl
 have u5 : S.unit (-2) = ⟨0, -1, 0⟩ := rfl
 have u6 : S.unit (-3) = ⟨0, 0, -1⟩ := rfl
 have H1 := lh (fun w => u1 ▸ runit_pos 1 (by omega) w)
 have H2 := lh (fun w => u2 ▸ runit_pos 2 (by omega) w)
 have H3 := lh (fun w => u3 ▸ runit_pos 3 (by omega) w)
 unfold ptV at H1 H2 H3
 simp only [] at H1 H2 H3
 rcases h' with h1 | rfl | rfl | rfl
 ·exact runit_pos n h1 w
 ·rw [u4]
  go_enter Tryz.func254, Tryz.ntmps254
  go_wp2_with (go_at_call 254; (with_reducible refine (H1.out _).mono ?_); rintro e w1 ⟨rfl, hbw1⟩; obtain ⟨hcw1, hfw1⟩ := bcell hbw1; have hzw1_0 : w.heap.size < w1.heap.size := lt_via hbw1 sz)
  exact bodyPost_ret (v := ptV ⟨-1, 0, 0⟩) (by simp [results, Tryz.results254, go_sem, *]) rfl ⟨rfl, bel⟩
 ·rw [u5]
  go_enter Tryz.func254, Tryz.ntmps254
  go_wp2_with (go_at_call 254; (with_reducible refine (H2.out _).mono ?_); rintro e w1 ⟨rfl, hbw1⟩; obtain ⟨hcw1, hfw1⟩ := bcell hbw1; have hzw1_0 : w.heap.size < w1.heap.size := lt_via hbw1 sz)
  exact bodyPost_ret (v := ptV ⟨0, -1, 0⟩) (by simp [results, Tryz.results254, go_sem, *]) rfl ⟨rfl, bel⟩
 ·rw [u6]
  go_enter Tryz.func254, Tryz.ntmps254
  go_wp2_with (go_at_call 254; (with_reducible refine (H3.out _).mono ?_); rintro e w1 ⟨rfl, hbw1⟩; obtain ⟨hcw1, hfw1⟩ := bcell hbw1; have hzw1_0 : w.heap.size < w1.heap.size := lt_via hbw1 sz)
  exact bodyPost_ret (v := ptV ⟨0, 0, -1⟩) (by simp [results, Tryz.results254, go_sem, *]) rfl ⟨rfl, bel⟩
theorem rcross_any (a b : Pt) (ha : S.near1 a 1 = true) (hb : S.near1 b 1 = true) (w : World) : Calls Tryz.prog 256 #[ptV a, ptV b] w fun e w' => e = .returned (ptV (S.cross a b)) /\ Below w.heap.size w w' := by
 simp only [S.near1, Bool.and_eq_true, decide_eq_true_eq] at ha hb
 have hm : ∀ u v : Int, -1 <= u /\ u <= 1 -> -1 <= v /\ v <= 1 -> -1 <= u * v /\ u * v <= 1 := fun u v hu hv => by
  have h1 : u = -1 ∨ u = 0 ∨ u = 1 := by omega
  rcases h1 with rfl | rfl | rfl <;> omega
 have p0 := hm a.y b.z (by omega) (by omega)
 have p1 := hm a.z b.y (by omega) (by omega)
 have p2 := hm a.z b.x (by omega) (by omega)
 have p3 := hm a.x b.z (by omega) (by omega)
 have p4 := hm a.x b.y (by omega) (by omega)
 have p5 := hm a.y b.x (by omega) (by omega)
 clear hm
 have x0 : (S.cross a b).x = a.y * b.z - a.z * b.y := rfl
 have x1 : (S.cross a b).y = a.z * b.x - a.x * b.z := rfl
 have x2 : (S.cross a b).z = a.x * b.y - a.y * b.x := rfl
 unfold ptV
 go_enter Tryz.func256, Tryz.ntmps256
 go_wp2
 exact bodyPost_ret (v := .agg #[.int .i64 (S.cross a b).x, .int .i64 (S.cross a b).y, .int .i64 (S.cross a b).z]) (by simp [results, Tryz.results256, go_sem, *]) rfl ⟨rfl, bel⟩
theorem rplus_any (a b : Pt) (h : S.near1 (S.padd a b) 1000000000000 = true) (w : World) : Calls Tryz.prog 221 #[ptV a, ptV b] w fun e w' => e = .returned (ptV (S.padd a b)) /\ Below w.heap.size w w' := by
 obtain ⟨hx, hy, hz⟩ := near1_out h
 clear h
 have x0 : (S.padd a b).x = a.x + b.x := rfl
 have x1 : (S.padd a b).y = a.y + b.y := rfl
 have x2 : (S.padd a b).z = a.z + b.z := rfl
 rw [x0] at hx
 rw [x1] at hy
 rw [x2] at hz
 unfold ptV
 go_enter Tryz.func221, Tryz.ntmps221
 go_wp2
 exact bodyPost_ret (v := .agg #[.int .i64 (S.padd a b).x, .int .i64 (S.padd a b).y, .int .i64 (S.padd a b).z]) (by simp [results, Tryz.results221, go_sem, *]) rfl ⟨rfl, bel⟩
theorem rtimes_any (n : Int) (p : Pt) (h : S.near1 (S.times n p) 1000000000000 = true) (w : World) : Calls Tryz.prog 255 #[.int .i64 n, ptV p] w fun e w' => e = .returned (ptV (S.times n p)) /\ Below w.heap.size w w' := by
 obtain ⟨hx, hy, hz⟩ := near1_out h
 clear h
 have x0 : (S.times n p).x = n * p.x := rfl
 have x1 : (S.times n p).y = n * p.y := rfl
 have x2 : (S.times n p).z = n * p.z := rfl
 rw [x0] at hx
 rw [x1] at hy
 rw [x2] at hz
 unfold ptV
 go_enter Tryz.func255, Tryz.ntmps255
 go_wp2
 exact bodyPost_ret (v := .agg #[.int .i64 (S.times n p).x, .int .i64 (S.times n p).y, .int .i64 (S.times n p).z]) (by simp [results, Tryz.results255, go_sem, *]) rfl ⟨rfl, bel⟩
theorem rwithin_any (n : Int) (w : World) :
 Calls Tryz.prog 219 #[.int .i64 n] w fun e w' => e = .returned (.bool (S.place n)) /\ w = w' := by
 have H := lh (show S.place n = (decide (-1048576 <= n) && decide (n <= 1048576)) from rfl)
 go_enter Tryz.func219, Tryz.ntmps219
 go_wp2
 all_goals (go_ret; exact ⟨ret_b (by rw [H.out, Bool.eq_iff_iff]; all_goals (first | (simp; done) | (simp; omega))), rfl⟩)
theorem rnear1_any (p : Pt) (w : World) :
 Calls Tryz.prog 170 #[ptV p] w fun e w' => e = .returned (.bool (S.near1 p 1048576)) /\ Below w.heap.size w w' := by
 have H := lh (show S.near1 p 1048576 = (S.place p.x && S.place p.y && S.place p.z) by simp [S.near1, S.place, Bool.and_assoc])
 have H0 := lh (fun w => rwithin_any p.x w)
 have H1 := lh (fun w => rwithin_any p.y w)
 have H2 := lh (fun w => rwithin_any p.z w)
 generalize S.place p.x = t0 at *
 generalize S.place p.y = t1 at *
 generalize S.place p.z = t2 at *
 unfold ptV
 cases t0 <;> cases t1
 all_goals (
  go_enter Tryz.func170, Tryz.ntmps170
  go_wp2_with (first
   | (go_at_call 219; (with_reducible refine (H0.out _).mono ?_); rintro e w' ⟨rfl, rfl⟩)
   | (go_at_call 219; (with_reducible refine (H1.out _).mono ?_); rintro e w' ⟨rfl, rfl⟩)
   | (go_at_call 219; (with_reducible refine (H2.out _).mono ?_); rintro e w' ⟨rfl, rfl⟩))
  all_goals (go_ret; refine ⟨ret_b ?_, bel⟩; rw [H.out]; simp))
theorem rimage_eq (x y : Int) (p : Pt) : S.padd (S.times p.x (S.unit x)) (S.padd (S.times p.y (S.unit y)) (S.times p.z (S.cross (S.unit x) (S.unit y)))) = S.image x y p := by
 rw [show S.image x y p = ⟨(S.unit x).x * p.x + (S.unit y).x * p.y + (S.cross (S.unit x) (S.unit y)).x * p.z, (S.unit x).y * p.x + (S.unit y).y * p.y + (S.cross (S.unit x) (S.unit y)).y * p.z, (S.unit x).z * p.x + (S.unit y).z * p.y + (S.cross (S.unit x) (S.unit y)).z * p.z⟩ from rfl]
 simp only [S.padd, S.times, Int.mul_comm, Int.add_assoc]
theorem near1_mono0 {p : Pt} {a b : Int} (h : S.near1 p a = true) (hab : a <= b) : S.near1 p b = true := by
 simp only [S.near1, Bool.and_eq_true, decide_eq_true_eq] at h ⊢
 omega
theorem times_near {n m : Int} {p : Pt} (hn : -m <= n /\ n <= m) (hp : S.near1 p 1 = true) : S.near1 (S.times n p) m = true := by
 obtain ⟨hx, hy, hz⟩ := near1_out hp
 have ax := mul_near hx hn
 have ay := mul_near hy hn
 have az := mul_near hz hn
 rw [Int.mul_comm] at ax ay az
 rw [show S.times n p = ⟨n * p.x, n * p.y, n * p.z⟩ from rfl]
 simp only [S.near1, Bool.and_eq_true, decide_eq_true_eq]
 generalize n * p.x = u1 at *
 generalize n * p.y = u2 at *
 generalize n * p.z = u3 at *
 omega
theorem padd_near {a b : Pt} {m k : Int} (ha : S.near1 a m = true) (hb : S.near1 b k = true) : S.near1 (S.padd a b) (m + k) = true := by
 obtain ⟨hx, hy, hz⟩ := near1_out ha
 obtain ⟨gx, gy, gz⟩ := near1_out hb
 rw [show S.padd a b = ⟨a.x + b.x, a.y + b.y, a.z + b.z⟩ from rfl]
 simp only [S.near1, Bool.and_eq_true, decide_eq_true_eq]
 omega
set_option maxRecDepth 20000 in
set_option maxHeartbeats 4000000 in
theorem rimage_any (x y : Int) (h : S.turn x y = true) (p : Pt) (hp : S.near1 p 1048576 = true) (w : World) : Calls Tryz.prog 223 #[turnV x y, ptV p] w fun e w' => e = .returned (ptV (S.image x y p)) /\ Below w.heap.size w w' := by
 obtain ⟨hax, hay⟩ := turn_axes h
 obtain ⟨px, py, pz⟩ := near1_out hp
 have hn1 := times_near px (unit_near hax)
 have hn2 := times_near py (unit_near hay)
 have hn3 := times_near pz (cross_near h)
 have hn4 := padd_near hn2 hn3
 have hn5 := padd_near hn1 hn4
 have HUX := lh (fun w => runit_any x hax w)
 have HUY := lh (fun w => runit_any y hay w)
 have HC := lh (fun w => rcross_any (S.unit x) (S.unit y) (unit_near hax) (unit_near hay) w)
 have HT1 := lh (fun w => rtimes_any p.x (S.unit x) (near1_mono0 hn1 (by omega)) w)
 have HT2 := lh (fun w => rtimes_any p.y (S.unit y) (near1_mono0 hn2 (by omega)) w)
 have HT3 := lh (fun w => rtimes_any p.z (S.cross (S.unit x) (S.unit y)) (near1_mono0 hn3 (by omega)) w)
 have HP1 := lh (fun w => rplus_any (S.times p.y (S.unit y)) (S.times p.z (S.cross (S.unit x) (S.unit y))) (near1_mono0 hn4 (by omega)) w)
 have HP2 := lh (fun w => rplus_any (S.times p.x (S.unit x)) _ (near1_mono0 hn5 (by omega)) w)
 have HE := lh (rimage_eq x y p)
 clear h hp hax hay hn1 hn2 hn3 hn4 hn5 px py pz
 rw [<- HE.out]
 clear HE
 generalize S.padd (S.times p.x (S.unit x)) (S.padd (S.times p.y (S.unit y)) (S.times p.z (S.cross (S.unit x) (S.unit y)))) = R at *
 generalize S.padd (S.times p.y (S.unit y)) (S.times p.z (S.cross (S.unit x) (S.unit y))) = P1 at *
 generalize S.times p.z (S.cross (S.unit x) (S.unit y)) = T3 at *
 generalize S.times p.y (S.unit y) = T2 at *
 generalize S.times p.x (S.unit x) = T1 at *
 generalize S.cross (S.unit x) (S.unit y) = C at *
 generalize S.unit x = U at *
 generalize S.unit y = V at *
 unfold ptV at HUX HUY HC HT1 HT2 HT3 HP1 HP2
 unfold turnV ptV
 go_enter Tryz.func223, Tryz.ntmps223
 go_wp2_with (first
  | (go_at_call 254; (with_reducible refine (HUX.out _).mono ?_); rintro e w1 ⟨rfl, hbw1⟩; obtain ⟨hcw1, hfw1⟩ := bcell hbw1; have hzw1_0 : w.heap.size < w1.heap.size := lt_via hbw1 sz; have hzw1_1 : w.heap.size + 1 < w1.heap.size := lt_via hbw1 sz; have hzw1_2 : w.heap.size + 2 < w1.heap.size := lt_via hbw1 sz)
  | (go_at_call 254; (with_reducible refine (HUY.out _).mono ?_); rintro e w2 ⟨rfl, hbw2⟩; obtain ⟨hcw2, hfw2⟩ := bcell hbw2; have hzw2_0 : w.heap.size < w2.heap.size := lt_via hbw2 sz; have hzw2_1 : w.heap.size + 1 < w2.heap.size := lt_via hbw2 sz; have hzw2_2 : w.heap.size + 2 < w2.heap.size := lt_via hbw2 sz; have hyw2_0 : w1.heap.size < w2.heap.size := lt_via hbw2 sz))
 have hbel : Below w.heap.size w w2 := bel
 refine wp_region_grow_tail 16 (by kernel_rfl) (by kernel_rfl) ?_
 simp only [gt1, gt2, gt3, gt4]
 repeat (go_big_quiet_step ((first
  | (go_at_call 255; with_reducible exact grow_of (HT1.out _))
  | (go_at_call 255; with_reducible exact grow_of (HT2.out _))
  | (go_at_call 255; with_reducible exact grow_of (HT3.out _))
  | (go_at_call 256; with_reducible exact grow_of (HC.out _))
  | (go_at_call 221; with_reducible exact grow_of (HP1.out _))
  | (go_at_call 221; with_reducible exact grow_of (HP2.out _)))))
 all_goals (refine wpQuiet_nil ?_; intro wg hbwg; obtain ⟨hcwg, hfwg⟩ := bcell hbwg; have hzwg_0 : w.heap.size < wg.heap.size := lt_via hbwg sz; have hzwg_1 : w.heap.size + 1 < wg.heap.size := lt_via hbwg sz; have hzwg_2 : w.heap.size + 2 < wg.heap.size := lt_via hbwg sz)
 go_wp2
 exact bodyPost_ret (v := .agg #[.int .i64 R.x, .int .i64 R.y, .int .i64 R.z]) (by simp [results, Tryz.results223, go_sem, *]) rfl ⟨rfl, bel⟩
theorem move_at (b : Bar) (h : S.bar b = true) {k : Nat} (hk : k < (S.legsOf b.code).length) : ∃ P n, (S.moves b)[k]? = some P /\ (S.legLens b)[k]? = some n /\ 1 <= n /\ n <= 262144 /\ Within P 262144 /\
 S.abs P.x + S.abs P.y + S.abs P.z = n /\ 0 <= S.abs P.x /\ 0 <= S.abs P.y /\ 0 <= S.abs P.z /\ S.ptAt b (k + 1) = ⟨(S.ptAt b k).x + P.x, (S.ptAt b k).y + P.y, (S.ptAt b k).z + P.z⟩ := by
 obtain ⟨n, _, g2, g3, g4, g5⟩ := lens_get b h hk
 refine ⟨S.step ⟨0, 0, 0⟩ (S.legsOf b.code)[k].2 n, n, ?_, g2, g3, g4, ?_⟩
 ·unfold S.legLens at g2
  rw [List.getElem?_map, List.getElem?_eq_getElem hk] at g2
  unfold S.moves
  rw [List.getElem?_map, List.getElem?_eq_getElem hk]
  simp only [Option.map_some, Option.some.injEq] at g2 ⊢
  rw [g2]
 ·rw [g5]
  rcases legs_way b.code hk with hw | hw | hw | hw | hw
  all_goals (
   rw [hw]
   refine ⟨?_, ?_, ?_, ?_, ?_, ?_⟩
   ·simp [Within, S.step]; omega
   ·simp [S.abs, S.step]; try (first | omega | (intro _; omega) | (split <;> omega))
   ·simp [S.abs, S.step]; try (first | omega | (intro _; omega) | (split <;> omega))
   ·simp [S.abs, S.step]; try (first | omega | (intro _; omega) | (split <;> omega))
   ·simp [S.abs, S.step]; try (first | omega | (intro _; omega) | (split <;> omega))
   ·simp [S.step]; try omega)
theorem ptAt_in (b : Bar) (h : S.bar b = true) (k : Nat) (hk : k <= (S.legsOf b.code).length) : Within (S.ptAt b k) 524288 := by
 have hD := bar_head h
 have hd : ∀ k (hk : k < (S.legsOf b.code).length), (S.legsOf b.code)[k].1 < b.dims.length := fun k hk => by have := legs_dim b.code hk; omega
 have h1 := ptAt_sum h hd k
 have h2 := sum_take_le (lens_pos h) k
 have h3 := (legs_sum h).1
 unfold Within at h1 ⊢
 omega
set_option maxRecDepth 100000 in
set_option maxHeartbeats 2000000 in
theorem rpath_yes (b : Bar) (A : Option Addr) (n c : Nat) (B : Nat) (w : World) (hB : B <= w.heap.size) (hA : BarAt w B A n b) (h : S.bar b = true) (L : Nat) (hL : (S.legsOf b.code).length = L) :
 Calls Tryz.prog 220 #[barV b A n c] w fun e w' => ∃ A' c', e = .returned (.slice A' (L + 1) c') /\ w'.ownsRow w.heap.size 76 3 (.slice A' (L + 1) c') (L + 1) ((S.path b).flatMap ptC) /\ Below w.heap.size w w' := by
 have HA := lh hA
 have hl6 := legs_len b.code
 have HM := lh (show ∀ k, k < (S.legsOf b.code).length -> _ from fun k hk => move_at b h hk)
 have HPI := lh (fun k hk => ptAt_in b h k hk)
 have HML := lh (moves_len b)
 have HSN := lh (fun m => pathTo_snoc b m)
 have HPA := lh (show S.path b = S.pathTo b ((S.legsOf b.code).length + 1) from rfl)
 have HL := lh hL
 rw [hL] at hl6
 clear hA hL
 unfold barV
 go_enter Tryz.func220, Tryz.ntmps220
 go_wp2_with (go_at_call 253; (with_reducible refine (rmoves_any b A n c B _ (by simp; omega) (BarAt.at_ HA.out hB bel) h).mono ?_); rintro e w2 ⟨A2, rfl, hs, hb2, hz2'⟩; obtain ⟨hcw2, hfw2⟩ := bcell hb2; have hz2 : w.heap.size < w2.heap.size := lt_via hb2 (by simp); have hlen : (S.moves b).length = L := HML.out.trans HL.out; simp only [hlen])
 have hbw2 : Below w.heap.size w w2 := bel
 have hbw : Below w.heap.size w ((w2.alloc (.cells #[.int .i64 0, .int .i64 0, .int .i64 0] 76)).alloc (.cells #[.int .i64 0, .int .i64 0, .int .i64 0] 76)) := bel
 have hK0 : Blk ((w2.alloc (.cells #[.int .i64 0, .int .i64 0, .int .i64 0] 76)).alloc (.cells #[.int .i64 0, .int .i64 0, .int .i64 0] 76)) w2.heap.size 76 #[.int .i64 0, .int .i64 0, .int .i64 0] := (Blk.new _ _ _).alloc _
 have hsM := (hs.alloc (Nat.le_refl _) (.cells #[.int .i64 0, .int .i64 0, .int .i64 0] 76)).alloc (by simp) (.cells #[.int .i64 0, .int .i64 0, .int .i64 0] 76)
 have hrow : Row ((w2.alloc (.cells #[.int .i64 0, .int .i64 0, .int .i64 0] 76)).alloc (.cells #[.int .i64 0, .int .i64 0, .int .i64 0] 76)) ((w2.alloc (.cells #[.int .i64 0, .int .i64 0, .int .i64 0] 76)).alloc (.cells #[.int .i64 0, .int .i64 0, .int .i64 0] 76)) (some (w2.heap.size + 1)) w.heap.size 76 3 (.slice (some ⟨w2.heap.size + 1, 0, none⟩) 1 1) 1 ((S.pathTo b 1).flatMap ptC) := by
  refine ⟨?_, fun k hk => .inl (by simpa [Value.ownBlock] using hk.symm)⟩
  have h1 := World.ownsRow_lit (base := w.heap.size) (e := 76) (size := 3) (w2.alloc (.cells #[.int .i64 0, .int .i64 0, .int .i64 0] 76)) #[.int .i64 0, .int .i64 0, .int .i64 0] 1 (by simp; omega) (by unfold maxLen; omega) rfl
  simpa [S.pathTo, S.ptAt, List.range_succ] using h1
 have hzW : ((w2.alloc (.cells #[.int .i64 0, .int .i64 0, .int .i64 0] 76)).alloc (.cells #[.int .i64 0, .int .i64 0, .int .i64 0] 76)).heap.size = w2.heap.size + 2 := by simp
 clear hcw2 hfw2 hb2
 generalize (w2.alloc (.cells #[.int .i64 0, .int .i64 0, .int .i64 0] 76)).alloc (.cells #[.int .i64 0, .int .i64 0, .int .i64 0] 76) = W0 at *
 go_loopw [5, 6] (fun v i wr => ∃ (k : Nat) (A3 : Option Addr) (c3 : Nat), k <= L /\ i = .int .i64 k /\ v = .slice A3 (k + 1) c3 /\ Row W0 wr (some (w2.heap.size + 1)) w.heap.size 76 3 (.slice A3 (k + 1) c3) (k + 1) ((S.pathTo b (k + 1)).flatMap ptC) /\ Exc [w2.heap.size, w2.heap.size + 1] W0 wr /\ Blk wr w2.heap.size 76 #[.int .i64 (S.ptAt b k).x, .int .i64 (S.ptAt b k).y, .int .i64 (S.ptAt b k).z]) (fun _ i _ => L - (intOf i).toNat)
 case atStart => exact ⟨0, _, 1, Nat.zero_le _, rfl, rfl, hrow, Exc.refl _ _, hK0⟩
 case round =>
  obtain ⟨k, A3, c3, hk, rfl, rfl, hR, hX, hK⟩ := hrel
  clear hrow hK0
  have hsz := hX.size
  by_cases hlt : k < L
  ·have hs' := hsM.below (hX.below (B := w2.heap.size) (by omega) (by intro j hj; simp at hj; omega))
   obtain ⟨b4, o4, rfl, hbl, _⟩ := hs'.at_ (by rw [flat_len ptC 3 ptC_len]; omega)
   obtain ⟨P, q, g1, g2, g3, g4, gw, _, _, _, _, gp⟩ := HM.out k (by have := HL.out; omega)
   obtain ⟨c1, c2, c3'⟩ := hs'.pts g1
   have hin := HPI.out k (by have := HL.out; omega)
   unfold Within at gw hin
   have k0 := hK.cell 0
   have k1 := hK.cell 1
   have k2 := hK.cell 2
   have kf0 := hK.frozen 0
   have kf1 := hK.frozen 1
   have kf2 := hK.frozen 2
   simp only [ga1, ga2, ga3] at k0 k1 k2
   have hown : ∀ j, Value.ownBlock (.slice A3 (k + 1) c3) = some j -> j ≠ w2.heap.size := fun j hj' => by
    rcases hR.place j hj' with h1 | h1
    ·injection h1 with h1; omega
    ·omega
   have HOWN := lh hown
   have HST := lh gp
   have HS1 := lh (HSN.out (k + 1))
   have hkl : (k : Int) < (L : Int) := by omega
   have hb4r : b4 < wr.heap.size := by omega
   have hg2 : w2.heap.size < wr.heap.size := hK.lt
   clear gp hown g1 g2
   generalize S.ptAt b k = p at *
   have e1 : IntKind.i64.wrap (p.x + P.x) = p.x + P.x := IntWalk.i64_in _ (by omega)
   have e2 : IntKind.i64.wrap (p.y + P.y) = p.y + P.y := IntWalk.i64_in _ (by omega)
   have e3 : IntKind.i64.wrap (p.z + P.z) = p.z + P.z := IntWalk.i64_in _ (by omega)
   go_wp2
   refine wp_region_grow_tail 25 (by kernel_rfl) (by kernel_rfl) ?_
   simp only [gt1, gt2, gt3, gt4]
   repeat (go_big_quiet_step (fail))
   all_goals (refine wpQuiet_nil ?_; intro wg hbwg; obtain ⟨hcwg, hfwg⟩ := bcell hbwg)
   have hK2 : Blk ((((wg.setCell ⟨w2.heap.size, 0, none⟩ (.int .i64 (p.x + P.x))).setCell ⟨w2.heap.size, 1, none⟩ (.int .i64 (p.y + P.y))).setCell ⟨w2.heap.size, 2, none⟩ (.int .i64 (p.z + P.z))).alloc (.cells #[.int .i64 (p.x + P.x), .int .i64 (p.y + P.y), .int .i64 (p.z + P.z)] 76)) w2.heap.size 76 #[.int .i64 (p.x + P.x), .int .i64 (p.y + P.y), .int .i64 (p.z + P.z)] := by
    have h6 := (((((hK.via hbwg).set 0 (.int .i64 (p.x + P.x))).set 1 (.int .i64 (p.y + P.y))).set 2 (.int .i64 (p.z + P.z))).alloc (.cells #[.int .i64 (p.x + P.x), .int .i64 (p.y + P.y), .int .i64 (p.z + P.z)] 76))
    simp only [List.setIfInBounds_toArray, List.set_cons_zero, List.set_cons_succ] at h6
    exact h6
   have hg3 : w2.heap.size < wg.heap.size := lt_via hbwg hg2
   go_wp2_with (at_builtin; refine wpList_push rfl (.tmp 43) (.tmp 45) _ rfl elemPt (((((hR.via hbwg).set (p := ⟨w2.heap.size, 0, none⟩) HOWN.out _).set (p := ⟨w2.heap.size, 1, none⟩) HOWN.out _).set (p := ⟨w2.heap.size, 2, none⟩) HOWN.out _).alloc _) (((((Exc.via hbwg hX).set (p := ⟨w2.heap.size, 0, none⟩) (.inl (by simp)) _).set (p := ⟨w2.heap.size, 1, none⟩) (.inl (by simp)) _).set (p := ⟨w2.heap.size, 2, none⟩) (.inl (by simp)) _).alloc _) (by simp) hbw.size rfl wg.heap.size 1 1 [.int .i64 (p.x + P.x), .int .i64 (p.y + P.y), .int .i64 (p.z + P.z)] rfl rfl ?_ (by simp [Value.oneCell']) (by unfold maxLen; omega) (by omega) ?_; (· intro j u hu; have := (Cells.newRow (((wg.setCell ⟨w2.heap.size, 0, none⟩ (.int .i64 (p.x + P.x))).setCell ⟨w2.heap.size, 1, none⟩ (.int .i64 (p.y + P.y))).setCell ⟨w2.heap.size, 2, none⟩ (.int .i64 (p.z + P.z))) #[.int .i64 (p.x + P.x), .int .i64 (p.y + P.y), .int .i64 (p.z + P.z)] 76 (0, 0)).get (k := j) (v := u) hu; simpa using this); intro v' w' hR' hX' hO')
   obtain ⟨A5, c5, rfl, _, _, _⟩ := own_form hR'.own
   go_roundw
   case rel => exact ⟨k + 1, A5, c5, by omega, by go_num, rfl, by rw [HS1.out, HST.out, List.flatMap_append]; exact hR', hX', by rw [HST.out]; exact (hO' _ hK2.lt (fun h => HOWN.out _ h rfl)).trans hK2⟩
   case measure => simp [intOf]; omega
  ·have he : k = L := by omega
   have HE := lh he
   clear he
   go_wp2
   go_ret
   refine ⟨A3, c3, by rw [HE.out]; rfl, ?_, ?_⟩
   ·have := hR.own
    rw [HPA.out, HL.out]
    rwa [HE.out] at this
   ·exact hbw.trans (hX.below (by have := hbw2.size; omega) (by intro j hj; simp at hj; have := hbw2.size; omega))
end Go.Proofs.YtmfpbafpnoomeaaGreat
namespace Go.Proofs.YtmfpbafpnoomeaaGreat
open Go.ChangeShapes Go.WideShapes Go.ChangeAt Go.RowKit
section
variable {H : Type} {enc : TypeId × Value -> H} {w : World} {base : Nat} {sp : Nat -> Bool} {hd : Bool}
theorem own : ownKnob Tryz.prog.godebug = none := by kernel_rfl
theorem cellsInt : Tryz.prog.cellsOf 3 = 1 := by kernel_rfl
theorem cellsRule : Tryz.prog.cellsOf 32 = 9 := by kernel_rfl
def I64 (n : Int) : Prop := -9223372036854775808 <= n /\ n <= 9223372036854775807
theorem opn_int {fuel : Nat} {cs : List Value} {y : Option (DataW H × List MemPlace)} (h : DataW.trod enc Tryz.prog w base sp hd fuel 3 cs = y) (hy : y.isSome = true) : ∃ n, cs = [.int .i64 n] /\ I64 n := by
 obtain ⟨z, rfl⟩ := Option.isSome_iff_exists.1 hy
 obtain ⟨n, rfl, _, hw⟩ := DataW.trod_int Tryz.underlying3 h
 exact ⟨n, rfl, bounds_i64 hw⟩
theorem len9 {α : Type} {l : List α} (h : l.length = 9) : ∃ a b c d e f g i j, l = [a, b, c, d, e, f, g, i, j] := by
 match l, h with
 | [a, b, c, d, e, f, g, i, j], _ => exact ⟨a, b, c, d, e, f, g, i, j, rfl⟩
structure RuleI (r : Rule) : Prop where
 num : I64 r.num
 den : I64 r.den
 pnum : I64 r.pnum
 pden : I64 r.pden
 bnum : I64 r.bnum
 bden : I64 r.bden
 lnum : I64 r.lnum
 lden : I64 r.lden
 least : I64 r.least
theorem open_rule {fuel : Nat} {cs : List Value} {x : DataW H × List MemPlace} (h : DataW.trod enc Tryz.prog w base sp hd fuel 32 cs = some x) :
 ∃ r : Rule, cs = (ruleV r).cells.toList /\ RuleI r := by
 obtain ⟨xs, n, _, _, hl, hxl, hg⟩ := DataW.trod_struct Tryz.underlying32 h
 rw [cellsRule] at hl
 obtain ⟨c0, c1, c2, c3, c4, c5, c6, c7, c8, rfl⟩ := len9 hl
 have hs : ∀ i, i < 9 -> xs[i]?.isSome = true := fun i hi => by
  have : xs.length = 9 := hxl
  simp [this, hi]
 obtain ⟨n0, e0, b0⟩ := opn_int (hg 0 _ rfl) (hs 0 (by decide))
 obtain ⟨n1, e1, b1⟩ := opn_int (hg 1 _ rfl) (hs 1 (by decide))
 obtain ⟨n2, e2, b2⟩ := opn_int (hg 2 _ rfl) (hs 2 (by decide))
 obtain ⟨n3, e3, b3⟩ := opn_int (hg 3 _ rfl) (hs 3 (by decide))
 obtain ⟨n4, e4, b4⟩ := opn_int (hg 4 _ rfl) (hs 4 (by decide))
 obtain ⟨n5, e5, b5⟩ := opn_int (hg 5 _ rfl) (hs 5 (by decide))
 obtain ⟨n6, e6, b6⟩ := opn_int (hg 6 _ rfl) (hs 6 (by decide))
 obtain ⟨n7, e7, b7⟩ := opn_int (hg 7 _ rfl) (hs 7 (by decide))
 obtain ⟨n8, e8, b8⟩ := opn_int (hg 8 _ rfl) (hs 8 (by decide))
 simp [cellsInt] at e0 e1 e2 e3 e4 e5 e6 e7 e8
 subst e0 e1 e2 e3 e4 e5 e6 e7 e8
 exact ⟨⟨n0, n1, n2, n3, n4, n5, n6, n7, n8⟩, rfl, ⟨b0, b1, b2, b3, b4, b5, b6, b7, b8⟩⟩
end
end Go.Proofs.YtmfpbafpnoomeaaGreat
namespace Go.Proofs.YtmfpbafpnoomeaaGreat
open Go.ChangeShapes Go.WideShapes Go.ChangeAt Go.RowKit
section
variable {H : Type} {enc : TypeId × Value -> H} {w : World} {base : Nat} {sp : Nat -> Bool} {hd : Bool}
theorem cellsStr : Tryz.prog.cellsOf 9 = 1 := by kernel_rfl
theorem cellsPt : Tryz.prog.cellsOf 76 = 3 := by kernel_rfl
theorem cellsBox : Tryz.prog.cellsOf 78 = 6 := by kernel_rfl
theorem cellsBoxes : Tryz.prog.cellsOf 22 = 1 := by kernel_rfl
theorem cellsSolid : Tryz.prog.cellsOf 24 = 2 := by kernel_rfl
theorem cellsMember : Tryz.prog.cellsOf 26 = 6 := by kernel_rfl
theorem opn_str {fuel : Nat} {cs : List Value} {y : Option (DataW H × List MemPlace)} (h : DataW.trod enc Tryz.prog w base sp hd fuel 9 cs = y) (hy : y.isSome = true) : ∃ s : ByteArray, cs = [.string s] /\ s.size <= maxLen := by
 obtain ⟨z, rfl⟩ := Option.isSome_iff_exists.1 hy
 obtain ⟨s, rfl, _, hw⟩ := DataW.trod_string Tryz.underlying9 h
 exact ⟨s, rfl, hw⟩
theorem len3 {α : Type} {l : List α} (h : l.length = 3) : ∃ a b c, l = [a, b, c] := by
 match l, h with
 | [a, b, c], _ => exact ⟨a, b, c, rfl⟩
theorem len2 {α : Type} {l : List α} (h : l.length = 2) : ∃ a b, l = [a, b] := by
 match l, h with
 | [a, b], _ => exact ⟨a, b, rfl⟩
theorem len6 {α : Type} {l : List α} (h : l.length = 6) : ∃ a b c d e f, l = [a, b, c, d, e, f] := by
 match l, h with
 | [a, b, c, d, e, f], _ => exact ⟨a, b, c, d, e, f, rfl⟩
structure PtI (p : Pt) : Prop where
 x : I64 p.x
 y : I64 p.y
 z : I64 p.z
structure BxI (b : Bx) : Prop where
 lo : PtI b.lo
 hi : PtI b.hi
theorem opn_pt {fuel : Nat} {cs : List Value} {y : Option (DataW H × List MemPlace)} (h : DataW.trod enc Tryz.prog w base sp hd fuel 76 cs = y) (hy : y.isSome = true) :
 ∃ p : Pt, cs = [.int .i64 p.x, .int .i64 p.y, .int .i64 p.z] /\ PtI p := by
 obtain ⟨z, rfl⟩ := Option.isSome_iff_exists.1 hy
 obtain ⟨xs, n, _, _, hl, hxl, hg⟩ := DataW.trod_struct Tryz.underlying76 h
 rw [cellsPt] at hl
 obtain ⟨c0, c1, c2, rfl⟩ := len3 hl
 have hs : ∀ i, i < 3 -> xs[i]?.isSome = true := fun i hi => by
  have : xs.length = 3 := hxl
  simp [this, hi]
 obtain ⟨n0, e0, b0⟩ := opn_int (hg 0 _ rfl) (hs 0 (by decide))
 obtain ⟨n1, e1, b1⟩ := opn_int (hg 1 _ rfl) (hs 1 (by decide))
 obtain ⟨n2, e2, b2⟩ := opn_int (hg 2 _ rfl) (hs 2 (by decide))
 simp [cellsInt] at e0 e1 e2
 subst e0 e1 e2
 exact ⟨⟨n0, n1, n2⟩, rfl, ⟨b0, b1, b2⟩⟩
theorem opn_box {fuel : Nat} {cs : List Value} {y : Option (DataW H × List MemPlace)} (h : DataW.trod enc Tryz.prog w base sp hd fuel 78 cs = y) (hy : y.isSome = true) :
 ∃ b : Bx, cs = boxC b /\ BxI b := by
 obtain ⟨z, rfl⟩ := Option.isSome_iff_exists.1 hy
 obtain ⟨xs, n, _, _, hl, hxl, hg⟩ := DataW.trod_struct Tryz.underlying78 h
 rw [cellsBox] at hl
 obtain ⟨c0, c1, c2, c3, c4, c5, rfl⟩ := len6 hl
 have hs : ∀ i, i < 2 -> xs[i]?.isSome = true := fun i hi => by
  have : xs.length = 2 := hxl
  simp [this, hi]
 obtain ⟨p0, e0, b0⟩ := opn_pt (hg 0 _ rfl) (hs 0 (by decide))
 obtain ⟨p1, e1, b1⟩ := opn_pt (hg 1 _ rfl) (hs 1 (by decide))
 simp [cellsPt] at e0 e1
 obtain ⟨rfl, rfl, rfl⟩ := e0
 obtain ⟨rfl, rfl, rfl⟩ := e1
 exact ⟨⟨p0, p1⟩, rfl, ⟨b0, b1⟩⟩
theorem opn_rows {α : Type} [Inhabited α] {t e : TypeId} (ht : Tryz.prog.underlying t = some (.slice e)) (enc' : α -> List Value) (m : Nat) (hm0 : 0 < m) (hm : ∀ a, (enc' a).length = m) (ce : Tryz.prog.cellsOf e = m) (ok : α -> Prop)
 (hop : ∀ {fuel : Nat} {cs : List Value} {y : Option (DataW H × List MemPlace)}, DataW.trod enc Tryz.prog w base sp hd fuel e cs = y -> y.isSome = true -> ∃ b : α, cs = enc' b /\ ok b)
 {fuel : Nat} {cs : List Value} {y : Option (DataW H × List MemPlace)} (h : DataW.trod enc Tryz.prog w base sp hd fuel t cs = y) (hy : y.isSome = true) :
 ∃ (A : Option Addr) (n c : Nat) (xs : List α), cs = [.slice A n c] /\ xs.length = n /\ n <= c /\ c <= maxLen /\ Cells w w.heap.size A (xs.flatMap enc') /\ ∀ x, x ∈ xs -> ok x := by
 obtain ⟨z, rfl⟩ := Option.isSome_iff_exists.1 hy
 rcases DataW.trod_slice ht h with ⟨rfl, _⟩ | ⟨a, len, cap, elems, rest, n, _, rfl, _, _, hl, hc, hel, hx, _, _⟩
 ·exact ⟨none, 0, 0, [], rfl, rfl, Nat.le_refl _, Nat.zero_le _, .inl rfl, by simp⟩
 ·rw [ce] at hx
  have each : ∀ i, i < len -> ∃ b : α, ok b /\ ∀ j, j < m -> w.cell? (a.add (i * m + j)) = (enc' b)[j]? := by
   intro i hi
   have h1 := hx i hi
   have h2 : elems[i]?.isSome = true := by simp [hel, hi]
   obtain ⟨q, hq⟩ := Option.isSome_iff_exists.1 h2
   rw [hq] at h1
   obtain ⟨cs', g1, g2⟩ := Option.bind_eq_some_iff.1 h1
   obtain ⟨_, _, hcell⟩ := World.cells?_some g1
   obtain ⟨b, rfl, hb⟩ := hop g2 rfl
   refine ⟨b, hb, fun j hj => ?_⟩
   rw [<- Go.Deep.add_add]
   exact hcell j hj
  obtain ⟨q, hq⟩ := Go.Deep.choose_lt each
  refine ⟨some a, len, cap, (List.range len).map q, rfl, by simp, hl, hc, ?_, fun x hx => ?_⟩
  ·by_cases h0 : len = 0
   ·left; simp [h0]
   ·right
    have h1 := (hq 0 (by omega)).2 0 hm0
    rw [List.getElem?_eq_getElem (by rw [hm]; exact hm0)] at h1
    have hsp : a.spot = none := by
     unfold World.cell? at h1
     split at h1
     ·split at h1
      ·cases h1
      ·rename_i hn
       simpa [Addr.add] using hn
     ·cases h1
    have hlt : a.block < w.heap.size := by
     unfold World.cell? at h1
     split at h1
     ·rename_i hh
      have hh2 := (Array.getElem?_eq_some_iff.1 hh).1
      simpa [Addr.add] using hh2
     ·cases h1
    obtain ⟨bb, o, s⟩ := a
    cases hsp
    refine ⟨bb, o, rfl, hlt, fun j v hv => ?_⟩
    have hjl := (List.getElem?_eq_some_iff.1 hv).1
    rw [flat_len enc' m hm] at hjl
    have hj : j < len * m := by simpa using hjl
    have hk : j / m < len := (Nat.div_lt_iff_lt_mul hm0).2 hj
    have hr : j % m < m := Nat.mod_lt _ hm0
    have hd := Nat.div_add_mod j m
    have hjm : j / m * m + j % m = j := by rw [Nat.mul_comm]; exact hd
    have h2 := (hq (j / m) hk).2 (j % m) hr
    have h3 := flat_get enc' m hm ((List.range len).map q) (j / m) (by simpa using hk) (j % m) hr
    rw [hjm] at h2 h3
    rw [h3] at hv
    have e : (Addr.add ⟨bb, o, none⟩ j) = ⟨bb, o + j, none⟩ := by unfold Addr.add; split <;> simp_all
    rw [e] at h2
    rw [h2, <- hv]
    simp
  ·obtain ⟨i, hi, rfl⟩ := List.mem_map.1 hx
   exact (hq i (List.mem_range.1 hi)).1
instance : Inhabited Bx := ⟨⟨⟨0, 0, 0⟩, ⟨0, 0, 0⟩⟩⟩
theorem opn_boxes {fuel : Nat} {cs : List Value} {y : Option (DataW H × List MemPlace)} (h : DataW.trod enc Tryz.prog w base sp hd fuel 22 cs = y) (hy : y.isSome = true) :
 ∃ (A : Option Addr) (n c : Nat) (xs : List Bx), cs = [.slice A n c] /\ xs.length = n /\ n <= c /\ c <= maxLen /\ Cells w w.heap.size A (xs.flatMap boxC) /\ ∀ x, x ∈ xs -> BxI x :=
 opn_rows Tryz.underlying22 boxC 6 (by decide) boxC_len cellsBox BxI (fun h hy => opn_box h hy) h hy
theorem opn_solid {fuel : Nat} {cs : List Value} {y : Option (DataW H × List MemPlace)} (h : DataW.trod enc Tryz.prog w base sp hd fuel 24 cs = y) (hy : y.isSome = true) :
 ∃ (A : Option Addr) (n c : Nat) (A' : Option Addr) (n' c' : Nat) (xs hs : List Bx), cs = [.slice A n c, .slice A' n' c'] /\ SolAt w w.heap.size A n A' n' xs hs /\ n <= c /\ c <= maxLen /\ n' <= c' /\ c' <= maxLen /\ (∀ x, x ∈ xs -> BxI x) /\ ∀ x, x ∈ hs -> BxI x := by
 obtain ⟨z, rfl⟩ := Option.isSome_iff_exists.1 hy
 obtain ⟨ys, n, _, _, hl, hxl, hg⟩ := DataW.trod_struct Tryz.underlying24 h
 rw [cellsSolid] at hl
 obtain ⟨c0, c1, rfl⟩ := len2 hl
 have hs : ∀ i, i < 2 -> ys[i]?.isSome = true := fun i hi => by
  have : ys.length = 2 := hxl
  simp [this, hi]
 obtain ⟨A, n0, m0, xs, e0, h1, h2, h3, h4, h5⟩ := opn_boxes (hg 0 _ rfl) (hs 0 (by decide))
 obtain ⟨A', n1, m1, hs', e1, g1, g2, g3, g4, g5⟩ := opn_boxes (hg 1 _ rfl) (hs 1 (by decide))
 simp [cellsBoxes] at e0 e1
 subst e0 e1
 have hmx : maxLen <= 9223372036854775807 := by unfold maxLen; decide
 exact ⟨A, n0, m0, A', n1, m1, xs, hs', rfl, ⟨h1, by omega, g1, by omega, h4, g4⟩, h2, h3, g2, g3, h5, g5⟩
structure MemI (m : Mem) : Prop where
 name : m.name.size <= 9223372036854775807
 boxes : ∀ x, x ∈ m.boxes -> BxI x
 holes : ∀ x, x ∈ m.holes -> BxI x
 cover : I64 m.cover
 aggr : I64 m.aggr
 poker : I64 m.poker
theorem opn_member {fuel : Nat} {cs : List Value} {y : Option (DataW H × List MemPlace)} (h : DataW.trod enc Tryz.prog w base sp hd fuel 26 cs = y) (hy : y.isSome = true) :
 ∃ (m : Mem) (A : Option Addr) (n c : Nat) (A' : Option Addr) (n' c' : Nat), cs = (memV m A n c A' n' c').cells.toList /\ SolAt w w.heap.size A n A' n' m.boxes m.holes /\ n <= c /\ c <= maxLen /\ n' <= c' /\ c' <= maxLen /\ MemI m := by
 obtain ⟨z, rfl⟩ := Option.isSome_iff_exists.1 hy
 obtain ⟨ys, n, _, _, hl, hxl, hg⟩ := DataW.trod_struct Tryz.underlying26 h
 rw [cellsMember] at hl
 obtain ⟨c0, c1, c2, c3, c4, c5, rfl⟩ := len6 hl
 have hs : ∀ i, i < 5 -> ys[i]?.isSome = true := fun i hi => by
  have : ys.length = 5 := hxl
  simp [this, hi]
 obtain ⟨s, e0, b0⟩ := opn_str (hg 0 _ rfl) (hs 0 (by decide))
 obtain ⟨A, n0, m0, A', n1, m1, xs, hs', e1, h1, h2, h3, h4, h5, h6, h7⟩ := opn_solid (hg 1 _ rfl) (hs 1 (by decide))
 obtain ⟨k2, e2, b2⟩ := opn_int (hg 2 _ rfl) (hs 2 (by decide))
 obtain ⟨k3, e3, b3⟩ := opn_int (hg 3 _ rfl) (hs 3 (by decide))
 obtain ⟨k4, e4, b4⟩ := opn_int (hg 4 _ rfl) (hs 4 (by decide))
 simp [cellsStr, cellsSolid, cellsInt] at e0 e1 e2 e3 e4
 obtain ⟨rfl, rfl⟩ := e1
 subst e0 e2 e3 e4
 have hmx : maxLen <= 9223372036854775807 := by unfold maxLen; decide
 exact ⟨⟨s, xs, hs', k2, k3, k4⟩, A, n0, m0, A', n1, m1, rfl, h1, h2, h3, h4, h5, ⟨by show s.size <= _; omega, h6, h7, b2, b3, b4⟩⟩
end
end Go.Proofs.YtmfpbafpnoomeaaGreat
namespace Go.Proofs.YtmfpbafpnoomeaaGreat
open Go.ChangeShapes Go.WideShapes Go.ChangeAt Go.RowKit
section
variable {H : Type} {enc : TypeId × Value -> H} {w : World} {base : Nat} {sp : Nat -> Bool} {hd : Bool}
instance : Inhabited Sp := ⟨⟨0, 0⟩⟩
structure SpI (s : Sp) : Prop where
 lo : I64 s.lo
 hi : I64 s.hi
end
end Go.Proofs.YtmfpbafpnoomeaaGreat
