/- Lemmas. -/
import Derived.Test.YtmfpbafpnoomeaaGreatMT
import Derived.Test.YtmfpbafpnoomeaaGreatMQ
set_option linter.unusedVariables false
set_option linter.unusedSimpArgs false
namespace Go.Proofs.YtmfpbafpnoomeaaGreat
open Go.RowKit
theorem anyb_of {α : Type} {xs : List α} {p : α -> Bool} {k : Nat} (hk : k < xs.length) (h : p xs[k] = true) : anyb xs p = true := by
 unfold anyb
 rw [List.any_eq_true]
 exact ⟨_, List.getElem_mem hk, h⟩
theorem anyb_not {α : Type} {xs : List α} {p : α -> Bool} (h : ∀ j (hj : j < xs.length), p xs[j] = false) : anyb xs p = false := by
 unfold anyb
 rw [List.any_eq_false]
 intro x hx
 obtain ⟨j, hj, rfl⟩ := List.mem_iff_getElem.1 hx
 simp [h j hj]
set_option maxHeartbeats 1000000 in
theorem rthick_any (b : Bx) (w : World) :
 Calls Tryz.prog 166 #[boxV b] w fun e w' => e = .returned (.bool (S.thick b)) /\ Below w.heap.size w w' := by
 have HV := lh (fun w => rbvalid_any b w)
 have H := lh (show S.thick b = (S.boxOk b && decide (b.lo.x < b.hi.x) && decide (b.lo.y < b.hi.y) && decide (b.lo.z < b.hi.z)) from rfl)
 generalize S.boxOk b = t at *
 unfold boxV
 cases t
 all_goals (
  go_enter Tryz.func166, Tryz.ntmps166
  go_wp2_with (go_at_call 123; (with_reducible refine (HV.out _).mono ?_); rintro e w1 ⟨rfl, hbw1⟩; obtain ⟨hcw1, hfw1⟩ := bcell hbw1; have hzw1_0 : w.heap.size < w1.heap.size := lt_via hbw1 sz)
  all_goals (go_ret; exact ⟨ret_b (by rw [H.out, Bool.eq_iff_iff]; all_goals (first | (simp; done) | (simp; omega))), bel⟩))
set_option maxRecDepth 100000 in
set_option maxHeartbeats 4000000 in
theorem rsvalid_any (A : Option Addr) (n c : Nat) (A' : Option Addr) (n' c' : Nat) (xs hs : List Bx) (B : Nat) (w : World) (hB : B <= w.heap.size) (hA : SolAt w B A n A' n' xs hs) :
 Calls Tryz.prog 118 #[solV A n c A' n' c'] w fun e w' => e = .returned (.bool (S.solid xs hs)) /\ Below w.heap.size w w' := by
 have HA := lh hA
 have hm := hA.max
 have hm' := hA.max'
 have H := lh (show S.solid xs hs = (decide (1 <= n) && decide (n <= 20) && decide (n' <= 20) && !anyb xs S.thin && !anyb hs S.thin) by unfold S.solid; rw [hA.len, hA.len'])
 clear hA
 unfold solV
 by_cases hbad : n < 1 ∨ 20 < n ∨ 20 < n'
 ·have HF : Hid (S.solid xs hs = false) := lh (by
   rw [H.out]
   rcases hbad with h | h | h
   ·have : decide (1 <= n) = false := by simp; omega
    simp [this]
   ·have : decide (n <= 20) = false := by simp; omega
    simp [this]
   ·have : decide (n' <= 20) = false := by simp; omega
    simp [this])
  by_cases h1 : (n : Int) < 1
  ·go_enter Tryz.func118, Tryz.ntmps118
   go_wp2
   go_ret
   exact ⟨ret_b HF.out.symm, bel⟩
  ·by_cases h2 : (20 : Int) < n
   ·go_enter Tryz.func118, Tryz.ntmps118
    go_wp2
    go_ret
    exact ⟨ret_b HF.out.symm, bel⟩
   ·have h3 : (20 : Int) < n' := by omega
    go_enter Tryz.func118, Tryz.ntmps118
    go_wp2
    go_ret
    exact ⟨ret_b HF.out.symm, bel⟩
 ·have g1 : ¬ (n : Int) < 1 := by omega
  have g2 : ¬ (20 : Int) < n := by omega
  have g3 : ¬ (20 : Int) < n' := by omega
  clear hbad
  go_enter Tryz.func118, Tryz.ntmps118
  go_wp2
  have hB0 : Blk (w.alloc (.cells #[.slice A n c, .slice A' n' c'] 24)) w.heap.size 24 #[.slice A n c, .slice A' n' c'] := Blk.new _ _ _
  have hW0 : Below w.heap.size w (w.alloc (.cells #[.slice A n c, .slice A' n' c'] 24)) := bel
  have HB0 := lh hB0
  clear hB0
  generalize w.alloc (.cells #[.slice A n c, .slice A' n' c'] 24) = W0 at *
  go_loopw [3] (fun i wr => ∃ k : Nat, k <= n /\ i = .int .i64 k /\ Hid (∀ j (h : j < xs.length), j < k -> S.thin xs[j] = false) /\ Below W0.heap.size W0 wr) (fun i _ => n - (intOf i).toNat)
  case atStart => exact ⟨0, Nat.zero_le _, rfl, lh fun j _ hj => absurd hj (by omega), Below.refl _ _⟩
  case round =>
   obtain ⟨k, hk, rfl, HNO, hbr⟩ := hrel
   have hBk := HB0.out.via hbr
   have x0 := hBk.cell 0
   have x1 := hBk.cell 1
   simp only [ga1, ga2, ga3] at x0 x1
   have hBl := hBk.lt
   clear hBk
   by_cases hlt : k < n
   ·have hki : (k : Int) < (n : Int) := by omega
    have hkx : k < xs.length := by have := HA.out.len; omega
    have hs' := (HA.out.below ((ba_via hbr hW0).mono hB)).cells
    obtain ⟨b, o, rfl, _, _⟩ := hs'.at_ (by rw [flat_len boxC 6 boxC_len]; omega)
    obtain ⟨c0, c1, c2, c3, c4, c5⟩ := hs'.boxes (List.getElem?_eq_getElem hkx)
    have HT := lh (rthick_any xs[k])
    have HTH := lh (show S.thin xs[k] = !S.thick xs[k] from rfl)
    generalize hq : S.thick xs[k] = q at *
    cases q
    ·go_wp2_with (go_at_call 166; (with_reducible refine (HT.out _).mono ?_); rintro e w1 ⟨rfl, hbw1⟩; obtain ⟨hcw1, hfw1⟩ := bcell hbw1)
     go_ret
     exact ⟨ret_b (by rw [H.out, anyb_of hkx HTH.out]; simp), ba_via hbw1 (ba_via hbr hW0)⟩
    ·go_wp2_with (go_at_call 166; (with_reducible refine (HT.out _).mono ?_); rintro e w1 ⟨rfl, hbw1⟩; obtain ⟨hcw1, hfw1⟩ := bcell hbw1)
     go_roundw
     case rel =>
      refine ⟨k + 1, by omega, by go_num, lh fun j hj hjk => ?_, ba_via hbw1 hbr⟩
      by_cases hjk' : j = k
      ·subst hjk'; exact HTH.out
      ·exact HNO.out j hj (by omega)
     case measure => simp [intOf]; omega
   ·have HX := lh (anyb_not (p := S.thin) (xs := xs) fun j hj => HNO.out j hj (by have := HA.out.len; omega))
    have hbx := hbr
    go_wp2
    go_loopw [4] (fun i wr => ∃ k : Nat, k <= n' /\ i = .int .i64 k /\ Hid (∀ j (h : j < hs.length), j < k -> S.thin hs[j] = false) /\ Below W0.heap.size W0 wr) (fun i _ => n' - (intOf i).toNat)
    case atStart => exact ⟨0, Nat.zero_le _, rfl, lh fun j _ hj => absurd hj (by omega), hbx⟩
    case round =>
     obtain ⟨k', hk', rfl, HNO', hbr'⟩ := hrel
     have hBk := HB0.out.via hbr'
     have y0 := hBk.cell 0
     have y1 := hBk.cell 1
     simp only [ga1, ga2, ga3] at y0 y1
     have hBl' := hBk.lt
     clear hBk
     by_cases hlt' : k' < n'
     ·have hki : (k' : Int) < (n' : Int) := by omega
      have hkx : k' < hs.length := by have := HA.out.len'; omega
      have hs' := (HA.out.below ((ba_via hbr' hW0).mono hB)).cells'
      obtain ⟨b, o, rfl, _, _⟩ := hs'.at_ (by rw [flat_len boxC 6 boxC_len]; omega)
      obtain ⟨c0, c1, c2, c3, c4, c5⟩ := hs'.boxes (List.getElem?_eq_getElem hkx)
      have HT := lh (rthick_any hs[k'])
      have HTH := lh (show S.thin hs[k'] = !S.thick hs[k'] from rfl)
      generalize hq : S.thick hs[k'] = q at *
      cases q
      ·go_wp2_with (go_at_call 166; (with_reducible refine (HT.out _).mono ?_); rintro e w1 ⟨rfl, hbw1⟩; obtain ⟨hcw1, hfw1⟩ := bcell hbw1)
       go_ret
       exact ⟨ret_b (by rw [H.out, HX.out, anyb_of hkx HTH.out]; simp), ba_via hbw1 (ba_via hbr' hW0)⟩
      ·go_wp2_with (go_at_call 166; (with_reducible refine (HT.out _).mono ?_); rintro e w1 ⟨rfl, hbw1⟩; obtain ⟨hcw1, hfw1⟩ := bcell hbw1)
       go_roundw
       case rel =>
        refine ⟨k' + 1, by omega, by go_num, lh fun j hj hjk => ?_, ba_via hbw1 hbr'⟩
        by_cases hjk' : j = k'
        ·subst hjk'; exact HTH.out
        ·exact HNO'.out j hj (by omega)
       case measure => simp [intOf]; omega
     ·go_wp2
      go_ret
      exact ⟨ret_b (by
       rw [H.out, HX.out, anyb_not (p := S.thin) (xs := hs) fun j hj => HNO'.out j hj (by have := HA.out.len'; omega)]
       simp; omega), ba_via hbr' hW0⟩
set_option maxHeartbeats 2000000 in
theorem rmember_any (m : Mem) (A : Option Addr) (n c : Nat) (A' : Option Addr) (n' c' : Nat) (B : Nat) (w : World) (hB : B <= w.heap.size) (hA : SolAt w B A n A' n' m.boxes m.holes) (hk : m.name.size <= 9223372036854775807) :
 Calls Tryz.prog 85 #[memV m A n c A' n' c'] w fun e w' => e = .returned (.bool (S.member m)) /\ Below w.heap.size w w' := by
 have HA := lh hA
 have H := lh (show S.member m = (S.isName m.name && S.solid m.boxes m.holes && (decide (0 <= m.cover) && decide (m.cover <= 200)) && (decide (1 <= m.aggr) && decide (m.aggr <= 100)) && (decide (1 <= m.poker) && decide (m.poker <= 200))) from rfl)
 have HN := lh (fun w => risname_any m.name w hk)
 have HS := lh (fun (W : World) (hw : B <= W.heap.size) (h : SolAt W B A n A' n' m.boxes m.holes) => rsvalid_any A n c A' n' c' m.boxes m.holes B W hw h)
 clear hA
 generalize S.isName m.name = t0 at *
 generalize S.solid m.boxes m.holes = t1 at *
 unfold memV
 cases t0 <;> cases t1
 all_goals (
  go_enter Tryz.func85, Tryz.ntmps85
  go_wp2_with (first
   | (go_at_call 117; (with_reducible refine (HN.out _).mono ?_); rintro e w' ⟨rfl, rfl⟩)
   | (go_at_call 118; (with_reducible refine (HS.out _ (size_via hB bel) (SolAt.at_ HA.out hB bel)).mono ?_); rintro e w1 ⟨rfl, hbw1⟩; obtain ⟨hcw1, hfw1⟩ := bcell hbw1; have hzw1_0 : w.heap.size < w1.heap.size := lt_via hbw1 sz))
  all_goals (go_ret; exact ⟨ret_b (by rw [H.out, Bool.eq_iff_iff]; all_goals (first | (simp; done) | (simp; omega))), bel⟩))
theorem path_in {b : Bar} (h : S.bar b = true) {i : Nat} {p : Pt} (hp : (S.path b)[i]? = some p) : S.near1 p 1048576 = true := by
 obtain ⟨hi, rfl⟩ := List.getElem?_eq_some_iff.1 hp
 exact near_in (path_near h) hi
theorem laidPath_len (b : Bar) (r : Rn) (k : Nat) : (S.laidPath b r k).length = (S.legsOf b.code).length + 1 := by
 unfold S.laidPath; rw [List.length_map, path_len]
theorem plus_times (a s : Pt) (k : Int) : S.padd a (S.times k s) = S.plus a s k := rfl
theorem times_lim {n : Int} {p : Pt} (hn : 0 <= n /\ n <= 1000) (hp : S.near1 p 2097152 = true) : S.near1 (S.times n p) 2097152000 = true := by
 obtain ⟨hx, hy, hz⟩ := near1_out hp
 have hm : ∀ q : Int, -2097152 <= q /\ q <= 2097152 -> -2097152000 <= n * q /\ n * q <= 2097152000 := fun q hq => by
  have h1 : n * q <= n * 2097152 := Int.mul_le_mul_of_nonneg_left hq.2 hn.1
  have h2 : n * (-2097152) <= n * q := Int.mul_le_mul_of_nonneg_left hq.1 hn.1
  omega
 have a1 := hm _ hx
 have a2 := hm _ hy
 have a3 := hm _ hz
 rw [show S.times n p = ⟨n * p.x, n * p.y, n * p.z⟩ from rfl]
 simp only [S.near1, Bool.and_eq_true, decide_eq_true_eq]
 generalize n * p.x = u1 at *
 generalize n * p.y = u2 at *
 generalize n * p.z = u3 at *
 omega
theorem Exc.of_below1 {M : List Nat} {W w : World} (h : Below W.heap.size W w) : Exc M W w := ⟨h.os, h.tape, h.output, h.size, fun k hk _ => h.block k hk⟩
set_option maxRecDepth 20000 in
set_option maxHeartbeats 4000000 in
theorem rpoints_any (b : Bar) (r : Rn) (k0 : Nat) (A : Option Addr) (n c : Nat) (B : Nat) (w : World) (hB : B <= w.heap.size) (hA : BarAt w B A n b) (h : S.bar b = true) (ht : S.turn r.tx r.ty = true) (ha : S.near1 r.at_ 1048576 = true)
 (hk0 : k0 <= 1000) (hst : 0 < k0 -> S.near1 r.step 2097152 = true) (L : Nat) (hL : (S.legsOf b.code).length = L) :
 Calls Tryz.prog 173 #[barV b A n c, rnV r, .int .i64 k0] w (GivesOne 76 3 (L + 1) ((S.laidPath b r k0).flatMap ptC) w) := by
 have HP := lh (fun (W : World) (hw : B <= W.heap.size) (hh : BarAt W B A n b) => rpath_yes b A n c B W hw hh h L hL)
 have HA := lh hA
 have hl6 := legs_len b.code
 rw [hL] at hl6
 have HLP := lh (show (S.path b).length = L + 1 by rw [path_len, hL])
 have HPI := lh (fun (i : Nat) (p : Pt) (hp : (S.path b)[i]? = some p) => path_in h hp)
 have HIM := lh (fun (p : Pt) (hp : S.near1 p 1048576 = true) (w : World) => rimage_any r.tx r.ty ht p hp w)
 have hAT : S.near1 (S.plus r.at_ r.step k0) 2098200576 = true := by
  by_cases hk : 0 < k0
  ·have := padd_near ha (times_lim (n := k0) (by omega) (hst hk))
   exact near1_mono0 this (by omega)
  ·have : k0 = 0 := by omega
   subst this
   have e : S.plus r.at_ r.step ((0 : Nat) : Int) = r.at_ := by simp [S.plus]
   rw [e]
   exact near1_mono0 ha (by omega)
 have HPL := lh (fun (p : Pt) (hp : S.near1 p 1048576 = true) (w : World) => rplus_any (S.plus r.at_ r.step k0) (S.image r.tx r.ty p) (near1_mono0 (padd_near hAT (image_near ht hp)) (by omega)) w)
 have HLD := lh (show S.laidPath b r k0 = (S.path b).map (fun p => S.padd (S.plus r.at_ r.step k0) (S.image r.tx r.ty p)) from rfl)
 have HTM := lh (fun (hk : 0 < k0) (w : World) => rtimes16_any r.step k0 (near1_mono0 (times_lim (n := k0) (by omega) (hst hk)) (by omega)) w)
 have HAD := lh (fun (hk : 0 < k0) (w : World) => rplus_any r.at_ (S.times k0 r.step) (near1_mono0 (padd_near ha (times_lim (n := k0) (by omega) (hst hk))) (by omega)) w)
 have HZ := lh (fun (hk : ¬ 0 < k0) => show S.plus r.at_ r.step k0 = r.at_ by
  have : k0 = 0 := by omega
  subst this
  simp [S.plus])
 clear hA h ht ha hst hL hAT
 rw [HLD.out]
 unfold ptV at HIM HPL HTM HAD
 unfold turnV at HIM
 unfold barV at HP
 unfold barV rnV
 go_enter Tryz.func173, Tryz.ntmps173
 go_upto_region 3 with (first
  | (go_at_call 220; (with_reducible refine (HP.out _ (size_via hB bel) (HA.out.at_ hB bel)).mono ?_); rintro e w1 ⟨Aw1, cw1, rfl, how1, hbw1⟩; obtain ⟨hcw1, hfw1⟩ := bcell hbw1; have hzw1_0 : w.heap.size < w1.heap.size := lt_via hbw1 sz; have hzw1_1 : w.heap.size + 1 < w1.heap.size := lt_via hbw1 sz))
 have hbel1 : Below w.heap.size w w1 := bel
 have hK1 : Blk (w1.alloc (.cells #[.int .i64 r.at_.x, .int .i64 r.at_.y, .int .i64 r.at_.z] 76)) w1.heap.size 76 #[.int .i64 r.at_.x, .int .i64 r.at_.y, .int .i64 r.at_.z] := Blk.new _ _ _
 have hRB1 : Blk (w1.alloc (.cells #[.int .i64 r.at_.x, .int .i64 r.at_.y, .int .i64 r.at_.z] 76)) (w.heap.size + 1) 142 #[.string r.mark, .int .i64 r.tx, .int .i64 r.ty, .int .i64 r.at_.x, .int .i64 r.at_.y, .int .i64 r.at_.z, .int .i64 r.step.x, .int .i64 r.step.y, .int .i64 r.step.z, .int .i64 r.count] :=
  (Blk.via (by simpa using Blk.new (w.alloc (.cells #[.string b.mark, .int .i64 b.size, .int .i64 b.count, .int .i64 b.code, .slice A n c] 138)) 142 #[.string r.mark, .int .i64 r.tx, .int .i64 r.ty, .int .i64 r.at_.x, .int .i64 r.at_.y, .int .i64 r.at_.z, .int .i64 r.step.x, .int .i64 r.step.y, .int .i64 r.step.z, .int .i64 r.count]) hbw1).alloc _
 have hsP := ((own_cells how1 (by unfold maxLen; omega)).1).alloc (Nat.le_refl _) (.cells #[.int .i64 r.at_.x, .int .i64 r.at_.y, .int .i64 r.at_.z] 76)
 have hbel : Below w.heap.size w (w1.alloc (.cells #[.int .i64 r.at_.x, .int .i64 r.at_.y, .int .i64 r.at_.z] 76)) := ba_alloc hbel1 _
 have hz11 : w1.heap.size < (w1.alloc (.cells #[.int .i64 r.at_.x, .int .i64 r.at_.y, .int .i64 r.at_.z] 76)).heap.size := by simp
 clear hcw1 hfw1 how1 hbw1 HP HA
 generalize (w1.alloc (.cells #[.int .i64 r.at_.x, .int .i64 r.at_.y, .int .i64 r.at_.z] 76)) = W1 at *
 have hrl := hRB1.lt
 by_cases hk : 0 < k0
 case' pos =>
  have hki : (0 : Int) < (k0 : Int) := by omega
  have HTMk := lh (HTM.out hk)
  have HADk := lh (HAD.out hk)
  have r6 := hRB1.cell 6
  have r7 := hRB1.cell 7
  have r8 := hRB1.cell 8
  have q0 := hK1.cell 0
  have q1 := hK1.cell 1
  have q2 := hK1.cell 2
  simp only [ga1, ga2, ga3] at r6 r7 r8 q0 q1 q2
  have f0 := hK1.frozen 0
  have f1 := hK1.frozen 1
  have f2 := hK1.frozen 2
  rw [plus_times] at HADk
  generalize S.times k0 r.step = T at *
  generalize hQ : S.plus r.at_ r.step k0 = Q at *
  have HQ := lh hQ
  clear hQ
  go_wp2
  refine wp_region_grow_tail 6 (by kernel_rfl) (by kernel_rfl) ?_
  simp only [gt1, gt2, gt3, gt4]
  repeat (go_big_quiet_step ((first
   | (go_at_call 222; with_reducible exact grow_of (HTMk.out _))
   | (go_at_call 221; with_reducible exact grow_of (HADk.out _)))))
  all_goals (refine wpQuiet_nil ?_; intro wg hbwg; obtain ⟨hcwg, hfwg⟩ := bcell hbwg)
  go_upto_region 5 with fail
  have hK2 : Blk (((wg.setCell ⟨w1.heap.size, 0, none⟩ (.int .i64 Q.x)).setCell ⟨w1.heap.size, 1, none⟩ (.int .i64 Q.y)).setCell ⟨w1.heap.size, 2, none⟩ (.int .i64 Q.z)) w1.heap.size 76 #[.int .i64 Q.x, .int .i64 Q.y, .int .i64 Q.z] := by
   have h6 := (((hK1.via hbwg).set 0 (.int .i64 Q.x)).set 1 (.int .i64 Q.y)).set 2 (.int .i64 Q.z)
   simp only [List.setIfInBounds_toArray, List.set_cons_zero, List.set_cons_succ] at h6
   exact h6
  have hne : w.heap.size + 1 ≠ w1.heap.size := by omega
  have hRB2 : Blk (((wg.setCell ⟨w1.heap.size, 0, none⟩ (.int .i64 Q.x)).setCell ⟨w1.heap.size, 1, none⟩ (.int .i64 Q.y)).setCell ⟨w1.heap.size, 2, none⟩ (.int .i64 Q.z)) (w.heap.size + 1) 142 #[.string r.mark, .int .i64 r.tx, .int .i64 r.ty, .int .i64 r.at_.x, .int .i64 r.at_.y, .int .i64 r.at_.z, .int .i64 r.step.x, .int .i64 r.step.y, .int .i64 r.step.z, .int .i64 r.count] := (((hRB1.via hbwg).far hne _).far hne _).far hne _
  have hX2 : Exc [w1.heap.size] W1 (((wg.setCell ⟨w1.heap.size, 0, none⟩ (.int .i64 Q.x)).setCell ⟨w1.heap.size, 1, none⟩ (.int .i64 Q.y)).setCell ⟨w1.heap.size, 2, none⟩ (.int .i64 Q.z)) := (((Exc.of_below1 hbwg).set (.inl (by simp)) _).set (.inl (by simp)) _).set (.inl (by simp)) _
  have hb2 : Below w.heap.size w (((wg.setCell ⟨w1.heap.size, 0, none⟩ (.int .i64 Q.x)).setCell ⟨w1.heap.size, 1, none⟩ (.int .i64 Q.y)).setCell ⟨w1.heap.size, 2, none⟩ (.int .i64 Q.z)) := hbel.trans (hX2.below hbel.size (by intro g hg; simp at hg; have := hbel1.size; omega))
  have hs2 := hsP.below (hX2.below (B := w1.heap.size) (by omega) (by intro g hg; simp at hg; omega))
  have hz2 : w1.heap.size < (((wg.setCell ⟨w1.heap.size, 0, none⟩ (.int .i64 Q.x)).setCell ⟨w1.heap.size, 1, none⟩ (.int .i64 Q.y)).setCell ⟨w1.heap.size, 2, none⟩ (.int .i64 Q.z)).heap.size := hK2.lt
  clear hcwg hfwg r6 r7 r8 q0 q1 q2 f0 f1 f2 HTMk HADk hK1 hRB1 hX2
  clear hbwg hsP
  generalize (((wg.setCell ⟨w1.heap.size, 0, none⟩ (.int .i64 Q.x)).setCell ⟨w1.heap.size, 1, none⟩ (.int .i64 Q.y)).setCell ⟨w1.heap.size, 2, none⟩ (.int .i64 Q.z)) = W2 at *
 case' neg =>
  have hb2 := hbel
  have hz2 := hz11
  have hK2 := hK1
  have hRB2 := hRB1
  have hs2 := hsP
  rw [<- HZ.out hk] at hK2
  clear hK1 hRB1 hbel hsP
  generalize hQ : S.plus r.at_ r.step k0 = Q at *
  have HQ := lh hQ
  clear hQ
  generalize W1 = W2 at *
  have hki : ¬ (0 : Int) < (k0 : Int) := by omega
 all_goals (
  have hHL := lh (show ∀ i (p : Pt), (S.path b)[i]? = some p -> (((S.path b).take (i + 1)).map (fun p => S.padd Q (S.image r.tx r.ty p))).flatMap ptC = (((S.path b).take i).map (fun p => S.padd Q (S.image r.tx r.ty p))).flatMap ptC ++ ptC (S.padd Q (S.image r.tx r.ty p)) from fun i p hp => by
   obtain ⟨hi, rfl⟩ := List.getElem?_eq_some_iff.1 hp
   rw [List.take_succ_eq_append_getElem hi, List.map_append, List.flatMap_append]
   simp)
  have hL6 := hl6
  have hrl2 := hRB2.lt
  go_wp2
  go_loopw [9, 10] (fun v i wr => ∃ (k : Nat) (A3 : Option Addr) (c3 : Nat), k <= L + 1 /\ i = .int .i64 k /\ v = .slice A3 k c3 /\ Row W2 wr none w.heap.size 76 3 (.slice A3 k c3) k ((((S.path b).take k).map (fun p => S.padd Q (S.image r.tx r.ty p))).flatMap ptC) /\ Exc [] W2 wr) (fun _ i _ => L + 1 - (intOf i).toNat)
  case atStart => exact ⟨0, none, 0, Nat.zero_le _, rfl, rfl, by simpa using Row.none_ _ _ _ _, Exc.refl _ _⟩
  case round =>
   obtain ⟨k, A3, c3, hk, rfl, rfl, hR, hX⟩ := hrel
   have hbx : Below W2.heap.size W2 wr := hX.below (Nat.le_refl _) (by simp)
   by_cases hlt : k < L + 1
   ·have hkx : k < (S.path b).length := by have := HLP.out; omega
    have hs' := hs2.below (hbx.mono (Nat.le_of_lt hz2))
    obtain ⟨b4, o4, rfl, hbl, _⟩ := hs'.at_ (by rw [flat_len ptC 3 ptC_len]; omega)
    obtain ⟨c0, c1, c2⟩ := hs'.pts (List.getElem?_eq_getElem hkx)
    have HT := lh (hHL.out k _ (List.getElem?_eq_getElem hkx))
    have hpi := HPI.out k _ (List.getElem?_eq_getElem hkx)
    have HIMk := lh (HIM.out _ hpi)
    have HPLk := lh (HPL.out _ hpi)
    clear hs' hpi
    generalize (S.path b)[k] = p at *
    generalize S.image r.tx r.ty p = I at *
    generalize S.padd Q I = R at *
    have hsz := hbx.size
    have q0 := (hK2.via hbx).cell 0
    have q1 := (hK2.via hbx).cell 1
    have q2 := (hK2.via hbx).cell 2
    have r1 := (hRB2.via hbx).cell 1
    have r2 := (hRB2.via hbx).cell 2
    simp only [ga1, ga2, ga3] at q0 q1 q2 r1 r2
    have hl1 : b4 < wr.heap.size := by omega
    have hl2 : w1.heap.size < wr.heap.size := by omega
    have hl3 : w.heap.size + 1 < wr.heap.size := by omega
    have hki : (k : Int) < ((L + 1 : Nat) : Int) := by omega
    have hk8 : k <= 8 := by omega
    go_wp2
    refine wp_region_grow_tail1 10 (by kernel_rfl) (by kernel_rfl) (fun _ _ _ h => h) (Or.inl ⟨by rfl, fun _ => by rfl⟩) ?_
    simp only [gt1, gt2, gt3, gt4, go_sem, List.setIfInBounds_toArray, List.set_cons_succ, List.set_cons_zero, Array.getD_eq_getD_getElem?, List.getElem?_toArray, List.getElem?_cons_succ, List.getElem?_cons_zero, Option.getD_some]
    repeat (go_big_quiet_step ((first
     | (go_at_call 223; with_reducible exact grow_of (HIMk.out _))
     | (go_at_call 221; with_reducible exact grow_of (HPLk.out _)))))
    all_goals (refine wpQuiet_nil ?_; intro wg hbwg; obtain ⟨hcwg, hfwg⟩ := bcell hbwg)
    go_wp2_with (at_builtin; refine wpList_push rfl (.tmp 29) (.tmp 39) _ rfl elemPt ((hR.via hbwg).alloc _) ((Exc.via hbwg hX).alloc _) (by simp) hb2.size rfl (wg.heap.size) 1 1 [.int .i64 R.x, .int .i64 R.y, .int .i64 R.z] rfl rfl ?_ (by simp [Value.oneCell']) (by unfold maxLen; omega) (by omega) ?_; (· intro j u hu; exact by have := (Cells.newRow wg #[.int .i64 R.x, .int .i64 R.y, .int .i64 R.z] 76 (0, 0)).get (k := j) (v := u) hu; rwa [Nat.zero_add] at this); intro v' w' hR' hX' hO'; clear hcwg hfwg)
    obtain ⟨A5, c5, rfl, _, _, _⟩ := own_form hR'.own
    go_roundw
    case rel => exact ⟨k + 1, A5, c5, by omega, by go_num, rfl, by rw [HT.out]; exact hR', hX'⟩
    case measure => simp [intOf]; omega
   ·have he : k = L + 1 := by omega
    have HT := lh (show (S.path b).take k = S.path b from List.take_of_length_le (by have := HLP.out; omega))
    subst he
    go_wp2
    go_ret
    refine ⟨A3, c3, rfl, ?_, ba_via hbx hb2⟩
    have := hR.own
    rw [HT.out, <- HQ.out] at this
    exact this)
end Go.Proofs.YtmfpbafpnoomeaaGreat
