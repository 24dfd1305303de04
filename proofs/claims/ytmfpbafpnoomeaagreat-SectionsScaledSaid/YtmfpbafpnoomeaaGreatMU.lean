/- Lemmas. -/
import Derived.WalkSmall
import Derived.Deep.LoopGhost
import Derived.Deep.RegionWith
import Derived.Shelf.Sort.Plain
import Derived.Shelf.Slices.CompactI
import Derived.Shelf.Slices.In.SortNone
import Derived.Ground.NamesProg
import Derived.Ground.Names2Prog
import Derived.Shelf.Spec.SlicesGrow
import Derived.Test.YtmfpbafpnoomeaaGreatProg
import Derived.Test.YtmfpbafpnoomeaaGreatMR
set_option linter.unusedVariables false
set_option linter.unusedSimpArgs false
namespace Go.Proofs.YtmfpbafpnoomeaaGreat
open Go.RowKit
theorem path_in {b : Bar} (h : S.bar b = true) {i : Nat} {p : Pt} (hp : (S.path b)[i]? = some p) : S.near1 p 1048576 = true := by
 obtain ⟨hi, rfl⟩ := List.getElem?_eq_some_iff.1 hp
 exact near_in (path_near h) hi
theorem laidPath_len (b : Bar) (r : Rn) (k : Nat) : (S.laidPath b r k).length = (S.legsOf b.code).length + 1 := by
 unfold S.laidPath; rw [List.length_map, path_len]
theorem plus_times (a s : Pt) (k : Int) : S.padd a (S.times k s) = S.plus a s k := rfl
theorem times_lim {n : Int} {p : Pt} (hn : 0 <= n /\ n <= 1000) (hp : S.near1 p 2097152 = true) : S.near1 (S.times n p) 2097152000 = true := by
 obtain ⟨hx, hy, hz⟩ := near1_out hp
 have hm : ∀ q : Int, -2097152 <= q /\ q <= 2097152 -> -2097152000 <= n * q /\ n * q <= 2097152000 := fun q hq => by
  have h1 : n * q <= n * 2097152 := Int.mul_le_mul_of_nonneg_left hq.2 hn.1
  have h2 : n * (-2097152) <= n * q := Int.mul_le_mul_of_nonneg_left hq.1 hn.1
  omega
 have a1 := hm _ hx
 have a2 := hm _ hy
 have a3 := hm _ hz
 rw [show S.times n p = ⟨n * p.x, n * p.y, n * p.z⟩ from rfl]
 simp only [S.near1, Bool.and_eq_true, decide_eq_true_eq]
 generalize n * p.x = u1 at *
 generalize n * p.y = u2 at *
 generalize n * p.z = u3 at *
 omega
theorem Exc.of_below1 {M : List Nat} {W w : World} (h : Below W.heap.size W w) : Exc M W w := ⟨h.os, h.tape, h.output, h.size, fun k hk _ => h.block k hk⟩
set_option maxRecDepth 20000 in
set_option maxHeartbeats 4000000 in
theorem rpoints_any (b : Bar) (r : Rn) (k0 : Nat) (A : Option Addr) (n c : Nat) (B : Nat) (w : World) (hB : B <= w.heap.size) (hA : BarAt w B A n b) (h : S.bar b = true) (ht : S.turn r.tx r.ty = true) (ha : S.near1 r.at_ 1048576 = true)
 (hk0 : k0 <= 1000) (hst : 0 < k0 -> S.near1 r.step 2097152 = true) (L : Nat) (hL : (S.legsOf b.code).length = L) :
 Calls Tryz.prog 173 #[barV b A n c, rnV r, .int .i64 k0] w (GivesOne 76 3 (L + 1) ((S.laidPath b r k0).flatMap ptC) w) := by
 have HP := lh (fun (W : World) (hw : B <= W.heap.size) (hh : BarAt W B A n b) => rpath_yes b A n c B W hw hh h L hL)
 have HA := lh hA
 have hl6 := legs_len b.code
 rw [hL] at hl6
 have HLP := lh (show (S.path b).length = L + 1 by rw [path_len, hL])
 have HPI := lh (fun (i : Nat) (p : Pt) (hp : (S.path b)[i]? = some p) => path_in h hp)
 have HIM := lh (fun (p : Pt) (hp : S.near1 p 1048576 = true) (w : World) => rimage_any r.tx r.ty ht p hp w)
 have hAT : S.near1 (S.plus r.at_ r.step k0) 2098200576 = true := by
  by_cases hk : 0 < k0
  ·have := padd_near ha (times_lim (n := k0) (by omega) (hst hk))
   exact near1_mono0 this (by omega)
  ·have : k0 = 0 := by omega
   subst this
   have e : S.plus r.at_ r.step ((0 : Nat) : Int) = r.at_ := by simp [S.plus]
   rw [e]
   exact near1_mono0 ha (by omega)
 have HPL := lh (fun (p : Pt) (hp : S.near1 p 1048576 = true) (w : World) => rplus_any (S.plus r.at_ r.step k0) (S.image r.tx r.ty p) (near1_mono0 (padd_near hAT (image_near ht hp)) (by omega)) w)
 have HLD := lh (show S.laidPath b r k0 = (S.path b).map (fun p => S.padd (S.plus r.at_ r.step k0) (S.image r.tx r.ty p)) from rfl)
 have HTM := lh (fun (hk : 0 < k0) (w : World) => rtimes16_any r.step k0 (near1_mono0 (times_lim (n := k0) (by omega) (hst hk)) (by omega)) w)
 have HAD := lh (fun (hk : 0 < k0) (w : World) => rplus_any r.at_ (S.times k0 r.step) (near1_mono0 (padd_near ha (times_lim (n := k0) (by omega) (hst hk))) (by omega)) w)
 have HZ := lh (fun (hk : ¬ 0 < k0) => show S.plus r.at_ r.step k0 = r.at_ by
  have : k0 = 0 := by omega
  subst this
  simp [S.plus])
 clear hA h ht ha hst hL hAT
 rw [HLD.out]
 unfold ptV at HIM HPL HTM HAD
 unfold turnV at HIM
 unfold barV at HP
 unfold barV rnV
 go_enter Tryz.func173, Tryz.ntmps173
 go_upto_region 3 with (first
  | (go_at_call 220; (with_reducible refine (HP.out _ (size_via hB bel) (HA.out.at_ hB bel)).mono ?_); rintro e w1 ⟨Aw1, cw1, rfl, how1, hbw1⟩; obtain ⟨hcw1, hfw1⟩ := bcell hbw1; have hzw1_0 : w.heap.size < w1.heap.size := lt_via hbw1 sz; have hzw1_1 : w.heap.size + 1 < w1.heap.size := lt_via hbw1 sz))
 have hbel1 : Below w.heap.size w w1 := bel
 have hK1 : Blk (w1.alloc (.cells #[.int .i64 r.at_.x, .int .i64 r.at_.y, .int .i64 r.at_.z] 76)) w1.heap.size 76 #[.int .i64 r.at_.x, .int .i64 r.at_.y, .int .i64 r.at_.z] := Blk.new _ _ _
 have hRB1 : Blk (w1.alloc (.cells #[.int .i64 r.at_.x, .int .i64 r.at_.y, .int .i64 r.at_.z] 76)) (w.heap.size + 1) 142 #[.string r.mark, .int .i64 r.tx, .int .i64 r.ty, .int .i64 r.at_.x, .int .i64 r.at_.y, .int .i64 r.at_.z, .int .i64 r.step.x, .int .i64 r.step.y, .int .i64 r.step.z, .int .i64 r.count] :=
  (Blk.via (by simpa using Blk.new (w.alloc (.cells #[.string b.mark, .int .i64 b.size, .int .i64 b.count, .int .i64 b.code, .slice A n c] 138)) 142 #[.string r.mark, .int .i64 r.tx, .int .i64 r.ty, .int .i64 r.at_.x, .int .i64 r.at_.y, .int .i64 r.at_.z, .int .i64 r.step.x, .int .i64 r.step.y, .int .i64 r.step.z, .int .i64 r.count]) hbw1).alloc _
 have hsP := ((own_cells how1 (by unfold maxLen; omega)).1).alloc (Nat.le_refl _) (.cells #[.int .i64 r.at_.x, .int .i64 r.at_.y, .int .i64 r.at_.z] 76)
 have hbel : Below w.heap.size w (w1.alloc (.cells #[.int .i64 r.at_.x, .int .i64 r.at_.y, .int .i64 r.at_.z] 76)) := ba_alloc hbel1 _
 have hz11 : w1.heap.size < (w1.alloc (.cells #[.int .i64 r.at_.x, .int .i64 r.at_.y, .int .i64 r.at_.z] 76)).heap.size := by simp
 clear hcw1 hfw1 how1 hbw1 HP HA
 generalize (w1.alloc (.cells #[.int .i64 r.at_.x, .int .i64 r.at_.y, .int .i64 r.at_.z] 76)) = W1 at *
 have hrl := hRB1.lt
 by_cases hk : 0 < k0
 case' pos =>
  have hki : (0 : Int) < (k0 : Int) := by omega
  have HTMk := lh (HTM.out hk)
  have HADk := lh (HAD.out hk)
  have r6 := hRB1.cell 6
  have r7 := hRB1.cell 7
  have r8 := hRB1.cell 8
  have q0 := hK1.cell 0
  have q1 := hK1.cell 1
  have q2 := hK1.cell 2
  simp only [ga1, ga2, ga3] at r6 r7 r8 q0 q1 q2
  have f0 := hK1.frozen 0
  have f1 := hK1.frozen 1
  have f2 := hK1.frozen 2
  rw [plus_times] at HADk
  generalize S.times k0 r.step = T at *
  generalize hQ : S.plus r.at_ r.step k0 = Q at *
  have HQ := lh hQ
  clear hQ
  go_wp2
  refine wp_region_grow_tail 6 (by kernel_rfl) (by kernel_rfl) ?_
  simp only [gt1, gt2, gt3, gt4]
  repeat (go_big_quiet_step ((first
   | (go_at_call 222; with_reducible exact grow_of (HTMk.out _))
   | (go_at_call 221; with_reducible exact grow_of (HADk.out _)))))
  all_goals (refine wpQuiet_nil ?_; intro wg hbwg; obtain ⟨hcwg, hfwg⟩ := bcell hbwg)
  go_upto_region 5 with fail
  have hK2 : Blk (((wg.setCell ⟨w1.heap.size, 0, none⟩ (.int .i64 Q.x)).setCell ⟨w1.heap.size, 1, none⟩ (.int .i64 Q.y)).setCell ⟨w1.heap.size, 2, none⟩ (.int .i64 Q.z)) w1.heap.size 76 #[.int .i64 Q.x, .int .i64 Q.y, .int .i64 Q.z] := by
   have h6 := (((hK1.via hbwg).set 0 (.int .i64 Q.x)).set 1 (.int .i64 Q.y)).set 2 (.int .i64 Q.z)
   simp only [List.setIfInBounds_toArray, List.set_cons_zero, List.set_cons_succ] at h6
   exact h6
  have hne : w.heap.size + 1 ≠ w1.heap.size := by omega
  have hRB2 : Blk (((wg.setCell ⟨w1.heap.size, 0, none⟩ (.int .i64 Q.x)).setCell ⟨w1.heap.size, 1, none⟩ (.int .i64 Q.y)).setCell ⟨w1.heap.size, 2, none⟩ (.int .i64 Q.z)) (w.heap.size + 1) 142 #[.string r.mark, .int .i64 r.tx, .int .i64 r.ty, .int .i64 r.at_.x, .int .i64 r.at_.y, .int .i64 r.at_.z, .int .i64 r.step.x, .int .i64 r.step.y, .int .i64 r.step.z, .int .i64 r.count] := (((hRB1.via hbwg).far hne _).far hne _).far hne _
  have hX2 : Exc [w1.heap.size] W1 (((wg.setCell ⟨w1.heap.size, 0, none⟩ (.int .i64 Q.x)).setCell ⟨w1.heap.size, 1, none⟩ (.int .i64 Q.y)).setCell ⟨w1.heap.size, 2, none⟩ (.int .i64 Q.z)) := (((Exc.of_below1 hbwg).set (.inl (by simp)) _).set (.inl (by simp)) _).set (.inl (by simp)) _
  have hb2 : Below w.heap.size w (((wg.setCell ⟨w1.heap.size, 0, none⟩ (.int .i64 Q.x)).setCell ⟨w1.heap.size, 1, none⟩ (.int .i64 Q.y)).setCell ⟨w1.heap.size, 2, none⟩ (.int .i64 Q.z)) := hbel.trans (hX2.below hbel.size (by intro g hg; simp at hg; have := hbel1.size; omega))
  have hs2 := hsP.below (hX2.below (B := w1.heap.size) (by omega) (by intro g hg; simp at hg; omega))
  have hz2 : w1.heap.size < (((wg.setCell ⟨w1.heap.size, 0, none⟩ (.int .i64 Q.x)).setCell ⟨w1.heap.size, 1, none⟩ (.int .i64 Q.y)).setCell ⟨w1.heap.size, 2, none⟩ (.int .i64 Q.z)).heap.size := hK2.lt
  clear hcwg hfwg r6 r7 r8 q0 q1 q2 f0 f1 f2 HTMk HADk hK1 hRB1 hX2
  clear hbwg hsP
  generalize (((wg.setCell ⟨w1.heap.size, 0, none⟩ (.int .i64 Q.x)).setCell ⟨w1.heap.size, 1, none⟩ (.int .i64 Q.y)).setCell ⟨w1.heap.size, 2, none⟩ (.int .i64 Q.z)) = W2 at *
 case' neg =>
  have hb2 := hbel
  have hz2 := hz11
  have hK2 := hK1
  have hRB2 := hRB1
  have hs2 := hsP
  rw [<- HZ.out hk] at hK2
  clear hK1 hRB1 hbel hsP
  generalize hQ : S.plus r.at_ r.step k0 = Q at *
  have HQ := lh hQ
  clear hQ
  generalize W1 = W2 at *
  have hki : ¬ (0 : Int) < (k0 : Int) := by omega
 all_goals (
  have hHL := lh (show ∀ i (p : Pt), (S.path b)[i]? = some p -> (((S.path b).take (i + 1)).map (fun p => S.padd Q (S.image r.tx r.ty p))).flatMap ptC = (((S.path b).take i).map (fun p => S.padd Q (S.image r.tx r.ty p))).flatMap ptC ++ ptC (S.padd Q (S.image r.tx r.ty p)) from fun i p hp => by
   obtain ⟨hi, rfl⟩ := List.getElem?_eq_some_iff.1 hp
   rw [List.take_succ_eq_append_getElem hi, List.map_append, List.flatMap_append]
   simp)
  have hL6 := hl6
  have hrl2 := hRB2.lt
  go_wp2
  go_loopw [9, 10] (fun v i wr => ∃ (k : Nat) (A3 : Option Addr) (c3 : Nat), k <= L + 1 /\ i = .int .i64 k /\ v = .slice A3 k c3 /\ Row W2 wr none w.heap.size 76 3 (.slice A3 k c3) k ((((S.path b).take k).map (fun p => S.padd Q (S.image r.tx r.ty p))).flatMap ptC) /\ Exc [] W2 wr) (fun _ i _ => L + 1 - (intOf i).toNat)
  case atStart => exact ⟨0, none, 0, Nat.zero_le _, rfl, rfl, by simpa using Row.none_ _ _ _ _, Exc.refl _ _⟩
  case round =>
   obtain ⟨k, A3, c3, hk, rfl, rfl, hR, hX⟩ := hrel
   have hbx : Below W2.heap.size W2 wr := hX.below (Nat.le_refl _) (by simp)
   by_cases hlt : k < L + 1
   ·have hkx : k < (S.path b).length := by have := HLP.out; omega
    have hs' := hs2.below (hbx.mono (Nat.le_of_lt hz2))
    obtain ⟨b4, o4, rfl, hbl, _⟩ := hs'.at_ (by rw [flat_len ptC 3 ptC_len]; omega)
    obtain ⟨c0, c1, c2⟩ := hs'.pts (List.getElem?_eq_getElem hkx)
    have HT := lh (hHL.out k _ (List.getElem?_eq_getElem hkx))
    have hpi := HPI.out k _ (List.getElem?_eq_getElem hkx)
    have HIMk := lh (HIM.out _ hpi)
    have HPLk := lh (HPL.out _ hpi)
    clear hs' hpi
    generalize (S.path b)[k] = p at *
    generalize S.image r.tx r.ty p = I at *
    generalize S.padd Q I = R at *
    have hsz := hbx.size
    have q0 := (hK2.via hbx).cell 0
    have q1 := (hK2.via hbx).cell 1
    have q2 := (hK2.via hbx).cell 2
    have r1 := (hRB2.via hbx).cell 1
    have r2 := (hRB2.via hbx).cell 2
    simp only [ga1, ga2, ga3] at q0 q1 q2 r1 r2
    have hl1 : b4 < wr.heap.size := by omega
    have hl2 : w1.heap.size < wr.heap.size := by omega
    have hl3 : w.heap.size + 1 < wr.heap.size := by omega
    have hki : (k : Int) < ((L + 1 : Nat) : Int) := by omega
    have hk8 : k <= 8 := by omega
    go_wp2
    refine wp_region_grow_tail1 10 (by kernel_rfl) (by kernel_rfl) (fun _ _ _ h => h) (Or.inl ⟨by rfl, fun _ => by rfl⟩) ?_
    simp only [gt1, gt2, gt3, gt4, go_sem, List.setIfInBounds_toArray, List.set_cons_succ, List.set_cons_zero, Array.getD_eq_getD_getElem?, List.getElem?_toArray, List.getElem?_cons_succ, List.getElem?_cons_zero, Option.getD_some]
    repeat (go_big_quiet_step ((first
     | (go_at_call 223; with_reducible exact grow_of (HIMk.out _))
     | (go_at_call 221; with_reducible exact grow_of (HPLk.out _)))))
    all_goals (refine wpQuiet_nil ?_; intro wg hbwg; obtain ⟨hcwg, hfwg⟩ := bcell hbwg)
    go_wp2_with (at_builtin; refine wpList_push rfl (.tmp 29) (.tmp 39) _ rfl elemPt ((hR.via hbwg).alloc _) ((Exc.via hbwg hX).alloc _) (by simp) hb2.size rfl (wg.heap.size) 1 1 [.int .i64 R.x, .int .i64 R.y, .int .i64 R.z] rfl rfl ?_ (by simp [Value.oneCell']) (by unfold maxLen; omega) (by omega) ?_; (· intro j u hu; exact by have := (Cells.newRow wg #[.int .i64 R.x, .int .i64 R.y, .int .i64 R.z] 76 (0, 0)).get (k := j) (v := u) hu; rwa [Nat.zero_add] at this); intro v' w' hR' hX' hO'; clear hcwg hfwg)
    obtain ⟨A5, c5, rfl, _, _, _⟩ := own_form hR'.own
    go_roundw
    case rel => exact ⟨k + 1, A5, c5, by omega, by go_num, rfl, by rw [HT.out]; exact hR', hX'⟩
    case measure => simp [intOf]; omega
   ·have he : k = L + 1 := by omega
    have HT := lh (show (S.path b).take k = S.path b from List.take_of_length_le (by have := HLP.out; omega))
    subst he
    go_wp2
    go_ret
    refine ⟨A3, c3, rfl, ?_, ba_via hbx hb2⟩
    have := hR.own
    rw [HT.out, <- HQ.out] at this
    exact this)
def BlkE7 (W : World) (g : Nat) (t : TypeId) : Prop := ∃ c0 c1 c2 c3 c4 c5 c6 : Value, Blk W g t #[c0, c1, c2, c3, c4, c5, c6]
theorem BlkE7.newN {W : World} {n : Nat} (hn : W.heap.size = n) (t : TypeId) (c0 c1 c2 c3 c4 c5 c6 : Value) : BlkE7 (W.alloc (.cells #[c0, c1, c2, c3, c4, c5, c6] t)) n t := ⟨c0, c1, c2, c3, c4, c5, c6, Blk.newN hn t _⟩
theorem BlkE7.map {W w : World} {g : Nat} {t : TypeId} (h : BlkE7 W g t) (f : ∀ cs, Blk W g t cs -> Blk w g t cs) : BlkE7 w g t := by
 obtain ⟨c0, c1, c2, c3, c4, c5, c6, h⟩ := h
 exact ⟨c0, c1, c2, c3, c4, c5, c6, f _ h⟩
theorem BlkE7.alloc {W : World} {g : Nat} {t : TypeId} (h : BlkE7 W g t) (o : Obj) : BlkE7 (W.alloc o) g t := h.map fun _ h => h.alloc o
theorem BlkE7.drew {W : World} {g : Nat} {t : TypeId} (h : BlkE7 W g t) : BlkE7 W.drew g t := h
theorem BlkE7.via {W w : World} {g : Nat} {t : TypeId} (h : BlkE7 W g t) (hb : Below W.heap.size W w) : BlkE7 w g t := h.map fun _ h => h.via hb
theorem Blk.set7 {W : World} {g : Nat} {t : TypeId} (h : BlkE7 W g t) (v0 v1 v2 v3 v4 v5 v6 : Value) : Blk (((((((W.setCell ⟨g, 0, none⟩ v0).setCell ⟨g, 1, none⟩ v1).setCell ⟨g, 2, none⟩ v2).setCell ⟨g, 3, none⟩ v3).setCell ⟨g, 4, none⟩ v4).setCell ⟨g, 5, none⟩ v5).setCell ⟨g, 6, none⟩ v6) g t #[v0, v1, v2, v3, v4, v5, v6] := by
 obtain ⟨c0, c1, c2, c3, c4, c5, c6, hB⟩ := h
 have h9 := ((((((hB.set 0 v0).set 1 v1).set 2 v2).set 3 v3).set 4 v4).set 5 v5).set 6 v6
 simp only [List.setIfInBounds_toArray, List.set_cons_zero, List.set_cons_succ] at h9
 exact h9
theorem Blk.far7 {W : World} {g g' : Nat} {t : TypeId} {cs : Array Value} (h : Blk W g' t cs) (hn : g ≠ g') (v0 v1 v2 v3 v4 v5 v6 : Value) : Blk (((((((W.setCell ⟨g, 0, none⟩ v0).setCell ⟨g, 1, none⟩ v1).setCell ⟨g, 2, none⟩ v2).setCell ⟨g, 3, none⟩ v3).setCell ⟨g, 4, none⟩ v4).setCell ⟨g, 5, none⟩ v5).setCell ⟨g, 6, none⟩ v6) g' t cs :=
 ((((((h.far hn.symm _).far hn.symm _).far hn.symm _).far hn.symm _).far hn.symm _).far hn.symm _).far hn.symm _
theorem BlkE7.far7 {W : World} {g g' : Nat} {t : TypeId} (h : BlkE7 W g' t) (hn : g ≠ g') (v0 v1 v2 v3 v4 v5 v6 : Value) : BlkE7 (((((((W.setCell ⟨g, 0, none⟩ v0).setCell ⟨g, 1, none⟩ v1).setCell ⟨g, 2, none⟩ v2).setCell ⟨g, 3, none⟩ v3).setCell ⟨g, 4, none⟩ v4).setCell ⟨g, 5, none⟩ v5).setCell ⟨g, 6, none⟩ v6) g' t := h.map fun _ h => h.far7 hn _ _ _ _ _ _ _
theorem at_load {P : Program} {ops : Array Oper} {Q : Exit -> Act -> World -> Prop} {rest : List Oper} {a : Act} {w : World} (ty : TypeId) (s : Nat) {dst : Option Nat} {t : TypeId} {pos : String} {after : Array Edge}
 (h : wpList P ops Q ({ dst := dst, op := .load ty (.tmp s), type := t, pos := pos, after := after, guard := none } :: rest) a w) : wpList P ops Q ({ dst := dst, op := .load ty (.tmp s), type := t, pos := pos, after := after, guard := none } :: rest) a w := h
theorem length_bd {r : Rule} {d : Int} (hr : RuleOk r) (hd : 0 <= d) (hd' : d <= 40) (p b : Bool) : 0 <= S.length r d p b /\ S.length r d p b <= 40000000000 := by
 have h1 := basic_bd hr hd hd'
 have h2 := poorUp_bd hr p h1.1 h1.2
 have h3 := bentUp_bd hr b h2.1 h2.2
 have h4 := hr.least
 unfold S.length S.atLeast
 split <;> omega
section
variable {P : Program} {ops : Array Oper} {md : Region.Mode} {w0 : World}
def Gw (w w' : World) : Prop := Below w.heap.size w w'
theorem Gw.refl (w : World) : Gw w w := Below.refl _ _
theorem Gw.trans {w w' w'' : World} (h : Gw w w') (h' : Gw w' w'') : Gw w w'' := ba_via h' h
abbrev Cg (w0 w' : World) : Prop := ∃ g, w' = grow w0 g
theorem cg_iff {w' : World} : Cg w0 w' ↔ Gw w0 w' := by
 constructor
 ·rintro ⟨g, rfl⟩; exact grow_below w0 g
 ·intro h; exact ⟨w', (grow_eq h).symm⟩
theorem wpOp_slot {i : Nat} {oi oj : Oper} {v : Value} (hi : ops[i]? = some oi) (hap : oi.apart ops oj = true) (hsi : ∀ cs b, oi.op ≠ .select cs b) {K K' : Act -> World -> Prop} {a : Act} {w : World}
 (hK : ∀ a' w', K a' w' -> K' (a'.put oj.dst v) w') (h : wpOp P ops stopPost i K a w) : wpOp P ops stopPost i K' (a.put oj.dst v) w := by
 obtain ⟨h3, h2, h1⟩ := Oper.apart_spec hap
 have h2' : ∀ d, oj.dst = some d -> oi.dst ≠ some d := fun d hd he => h2 d he hd
 unfold wpOp at *
 simp only [hi] at *
 rw [wanted_put oi a oj.dst v h1]
 split
 ·rename_i hw
  simp only [hw, if_true] at h
  rcases h with h | ⟨hasks, hlets⟩
  case inr => exact (lets_stop hlets).elim
  refine .inl ?_
  unfold Oper.wp at *
  rw [execOp_put oi hsi a oj.dst v h1]
  generalize (execOp a.eval oi).run P w = r at *
  cases r with
  | ok n w' =>
   cases n <;> simp only [Oper.upon] at h ⊢
   case value u => rw [Act.put_comm a v u h2']; exact hK _ _ h
   case skip => rw [Act.put_comm a v undef h2']; exact hK _ _ h
   case defer d =>
    have := hK _ _ h
    rw [<- Act.put_comm _ v undef h2', <- Act.put_defers] at this
    exact this
   case enter f args =>
    refine Calls.mono h fun e w'' he => ?_
    cases e with
    | returned u =>
     simp only [] at he ⊢
     rw [Act.put_comm a v u h2']; exact hK _ _ he
    | panicked c => exact he
    | outgrown => exact he
   case row row args => exact Rows.mono h fun u w'' he => by rw [Act.put_comm a v u h2']; exact hK _ _ he
  | halt x w' =>
   cases x <;> simp only [Oper.upon] at h ⊢
   case panic u => exact h
 ·rename_i hw
  simp only [hw] at h
  rw [Act.put_comm a v undef h2']
  exact hK _ _ h
def wpFr (P : Program) (ops : Array Oper) (w0 : World) (ks : Nat -> Bool) (K : Act -> World -> Prop) (listed : Array Bool) : List Nat -> Act -> World -> Prop
 | [], a, w => K a w
 | i :: R, a, w => if listed.getD i false = true then wpFr P ops w0 ks K listed R a w
  else if ks i = true then ∀ w', Cg w0 w' -> Gw w w' -> wpOp P ops stopPost i (fun a' w'' => Gw w' w'' /\ wpFr P ops w0 ks K listed R a' w'') a w'
  else qOp P ops (Cg w0) i (fun a' => wpFr P ops w0 ks K listed R a' w) a
theorem wpFr_congr {ks : Nat -> Bool} {K : Act -> World -> Prop} {l1 l2 : Array Bool} : ∀ {R : List Nat}, (∀ i, i ∈ R -> l1.getD i false = l2.getD i false) -> wpFr P ops w0 ks K l1 R = wpFr P ops w0 ks K l2 R := by
 intro R
 induction R with
 | nil => intro _; rfl
 | cons i R ih =>
  intro h
  have e := ih (fun i hi => h i (List.mem_cons_of_mem _ hi))
  funext a w
  simp only [wpFr, e, h i List.mem_cons_self]
theorem wpFr_weak {ks : Nat -> Bool} {K : Act -> World -> Prop} {listed : Array Bool} (hK : ∀ a w w', K a w -> Gw w w' -> K a w') : ∀ {R : List Nat} {a : Act} {w w' : World}, wpFr P ops w0 ks K listed R a w -> Gw w w' -> wpFr P ops w0 ks K listed R a w' := by
 intro R
 induction R with
 | nil => intro a w w' h hg; exact hK a w w' h hg
 | cons i R ih =>
  intro a w w' h hg
  simp only [wpFr] at h ⊢
  split
  ·rename_i hl; rw [if_pos hl] at h; exact ih h hg
  ·rename_i hl
   rw [if_neg hl] at h
   split
   ·rename_i hk; rw [if_pos hk] at h
    exact fun w'' hc hg' => h w'' hc (hg.trans hg')
   ·rename_i hk; rw [if_neg hk] at h
    exact qOp_mono (fun a' h' => ih h' hg) h
theorem wpFr_slot {ks : Nat -> Bool} {K K' : Act -> World -> Prop} {listed : Array Bool} {oj : Oper} {v : Value} (hsel : ∀ (j : Nat) (o : Oper) cs b, ops[j]? = some o -> o.op ≠ .select cs b) (hK : ∀ a w, K a w -> K' (a.put oj.dst v) w) :
 ∀ {R : List Nat}, (∀ i, i ∈ R -> ∃ oi, ops[i]? = some oi /\ oi.apart ops oj = true) -> ∀ {a : Act} {w : World}, wpFr P ops w0 ks K listed R a w -> wpFr P ops w0 ks K' listed R (a.put oj.dst v) w := by
 intro R
 induction R with
 | nil => intro _ a w h; exact hK a w h
 | cons i R ih =>
  intro hR a w h
  have ih' := fun {a : Act} {w : World} => ih (fun k hk => hR k (List.mem_cons_of_mem _ hk)) (a := a) (w := w)
  obtain ⟨oi, hoi, hap⟩ := hR i List.mem_cons_self
  simp only [wpFr] at h ⊢
  split
  ·rename_i hl; rw [if_pos hl] at h; exact ih' h
  ·rename_i hl
   rw [if_neg hl] at h
   split
   ·rename_i hk; rw [if_pos hk] at h
    exact fun w' hc hg => wpOp_slot hoi hap (fun cs b => hsel i oi cs b hoi) (fun a' w'' hh => ⟨hh.1, ih' hh.2⟩) (h w' hc hg)
   ·rename_i hk; rw [if_neg hk] at h
    obtain ⟨u, hy, hn⟩ := yieldsIn_of_qOp hoi h
    obtain ⟨h3, h2, h1⟩ := Oper.apart_spec hap
    have h2' : ∀ d, oj.dst = some d -> oi.dst ≠ some d := fun d hd he => h2 d he hd
    have hy' : YieldsIn P ops (Cg w0) oi u (a.put oj.dst v) := hy.of_same (execOp_put oi (fun cs b => hsel i oi cs b hoi) a oj.dst v h1) (wanted_put oi a oj.dst v h1)
    refine hy'.qOp hoi ?_
    rw [Act.put_comm a v u h2']
    exact ih' hn
theorem pullF {ks : Nat -> Bool} {K : Act -> World -> Prop} (hsel : ∀ (j : Nat) (o : Oper) cs b, ops[j]? = some o -> o.op ≠ .select cs b) (hcalm : ∀ i o, ops[i]? = some o -> ks i = false -> calmB o = true)
 {listed : Array Bool} {j : Nat} {oj : Oper} (hj : ops[j]? = some oj) (hjl : listed.getD j false = false) (hjs : j < listed.size) :
 ∀ R : List Nat, R.Pairwise (· < ·) -> j ∈ R -> (∀ i, i ∈ R -> i < j -> listed.getD i false = false -> (ks j = false ∨ ks j = true) -> ∃ oi, ops[i]? = some oi /\ oi.apart ops oj = true) -> (ks j = true -> ∀ i, i ∈ R -> i < j -> listed.getD i false = false -> ks i = false) ->
 ∀ (a : Act) (w : World), Cg w0 w -> wpFr P ops w0 ks K listed R a w -> if ks j = true then ∀ w', Cg w0 w' -> Gw w w' -> wpOp P ops stopPost j (fun a' w'' => Gw w' w'' /\ wpFr P ops w0 ks K (listed.setIfInBounds j true) R a' w'') a w' else qOp P ops (Cg w0) j (fun a' => wpFr P ops w0 ks K (listed.setIfInBounds j true) R a' w) a := by
 intro R
 induction R with
 | nil => intro _ h; cases h
 | cons i R ih =>
  intro hp hm hap hch a w hC h
  have hjt : (listed.setIfInBounds j true).getD j false = true := by simp [Array.getD_eq_getD_getElem?, hjs]
  obtain ⟨hlt, hpR⟩ := List.pairwise_cons.1 hp
  by_cases hij : i = j
  ·subst hij
   have hni : i ∉ R := fun hi => absurd (hlt i hi) (Nat.lt_irrefl _)
   have e : wpFr P ops w0 ks K (listed.setIfInBounds i true) (i :: R) = wpFr P ops w0 ks K listed R := by
    funext a w
    simp only [wpFr, hjt, if_true]
    rw [wpFr_congr (fun k hk => getD_set_ne false (fun (e : i = k) => hni (by rw [e]; exact hk)))]
   rw [e]
   simp only [wpFr, hjl, Bool.false_eq_true, if_false] at h
   exact h
  ·have hjR : j ∈ R := by
    rcases List.mem_cons.1 hm with h1 | h1
    ·exact absurd h1.symm hij
    ·exact h1
   have hi_lt := hlt j hjR
   have ih' := ih hpR hjR (fun k hk => hap k (List.mem_cons_of_mem _ hk)) (fun h k hk => hch h k (List.mem_cons_of_mem _ hk))
   have hset : (listed.setIfInBounds j true).getD i false = listed.getD i false := getD_set_ne false (fun e => hij e.symm)
   by_cases hl : listed.getD i false = true
   ·simp only [wpFr, hset, hl, if_true] at h ⊢
    exact ih' a w hC h
   ·have hl' : listed.getD i false = false := by simpa using hl
    obtain ⟨oi, hoi, hapi⟩ := hap i List.mem_cons_self hi_lt hl' (by cases ks j <;> simp)
    simp only [wpFr, hset, hl', Bool.false_eq_true, if_false] at h ⊢
    by_cases hk : ks i = true
    ·have hkj : ks j = false := by
      cases hkj : ks j with
      | false => rfl
      | true =>
       have := hch hkj i List.mem_cons_self hi_lt hl'
       rw [hk] at this
       cases this
     simp only [hkj, Bool.false_eq_true, if_false] at ih' ⊢
     rw [if_pos hk] at h
     obtain ⟨a0, u, w1, ⟨hG1, h1⟩, ha0⟩ := wpOp_some hoi (h w hC (Gw.refl w))
     obtain ⟨v, hy, _⟩ := yieldsIn_of_qOp hj (ih' _ _ (cg_iff.2 ((cg_iff.1 hC).trans hG1)) h1)
     obtain ⟨g1, g2, g3⟩ := Oper.apart_spec hapi
     have hy0 : YieldsIn P ops (Cg w0) oj v a0 := hy.of_same (execOp_put oj (fun cs b => hsel j oj cs b hj) a0 oi.dst u g1).symm (wanted_put oj a0 oi.dst u g1).symm
     have hya : YieldsIn P ops (Cg w0) oj v a := by
      rcases ha0 with rfl | ⟨d, rfl⟩
      ·exact hy0
      ·exact hy0.of_same rfl rfl
     refine hya.qOp hj ?_
     rw [if_pos hk]
     intro w' hC' hG'
     refine wpOp_back hoi hapi (fun cs b => hsel i oi cs b hoi) (fun cs b => hsel j oj cs b hj) hya (fun a' w'' hy' hh => ⟨hh.1, ?_⟩) (h w' hC' hG')
     have hC'' : Cg w0 w'' := cg_iff.2 ((cg_iff.1 hC').trans hh.1)
     obtain ⟨v', hv', hn⟩ := yieldsIn_of_qOp hj (ih' _ _ hC'' hh.2)
     rw [yields_one (hcalm j oj hj hkj) hC'' hy' hv']
     exact hn
    ·have hk' : ks i = false := by simpa using hk
     simp only [hk', Bool.false_eq_true, if_false] at h ⊢
     obtain ⟨v, hy, hn⟩ := yieldsIn_of_qOp hoi h
     have h2 := ih' _ _ hC hn
     by_cases hkj : ks j = true
     ·rw [if_pos hkj] at h2 ⊢
      intro w' hC' hG'
      refine wpOp_mono ?_ (wpOp_putC hj hapi (fun cs b => hsel i oi cs b hoi) (fun cs b => hsel j oj cs b hj) hy (h2 w' hC' hG'))
      rintro a' w'' ⟨hy', hg', hm'⟩
      exact ⟨hg', hy'.qOp hoi hm'⟩
     ·rw [if_neg hkj] at h2 ⊢
      refine qOp_mono ?_ (qOp_put hj hapi (fun cs b => hsel i oi cs b hoi) (fun cs b => hsel j oj cs b hj) hy h2)
      rintro a' ⟨hy', hm'⟩
      exact hy'.qOp hoi hm'
def pureB (o : Oper) : Bool := match o.op with | .move _ | .assign _ | .extract _ _ => true | _ => false
theorem extract_any {v u : Value} {ix : Nat} {w w' : World} (h : (Instr.extract v ix).run P w = .ok u w') (W : World) : (Instr.extract v ix).run P W = .ok u W := by
 unfold Instr.extract at h ⊢
 split at h
 ·split at h
  ·simp only [Sem.run_pure, Result.ok.injEq] at h ⊢
   first | exact ⟨h.1, trivial⟩ | exact h.1
  ·cases h
 ·cases h
theorem pure_any {o : Oper} (hp : pureB o = true) {a : Act} {v : Value} {w w' : World} (h : (execOp a.eval o).run P w = .ok (.value v) w') (W : World) : (execOp a.eval o).run P W = .ok (.value v) W := by
 unfold pureB at hp
 unfold execOp at h ⊢
 split at hp
 all_goals (first | (rename_i ho; rw [ho] at h ⊢) | cases hp)
 ·simp only [Sem.run_pure, Result.ok.injEq] at h ⊢
  exact ⟨h.1, trivial⟩
 ·simp only [Sem.run_pure, Result.ok.injEq] at h ⊢
  exact ⟨h.1, trivial⟩
 ·rw [Sem.run_bind] at h ⊢
  generalize hr : Instr.extract _ _ = I at h ⊢
  cases hx : I.run P w with
  | halt x w1 => rw [hx] at h; cases h
  | ok u w1 =>
   subst hr
   rw [hx] at h
   rw [extract_any hx W]
   have h' : Result.ok (Next.value u) w1 = Result.ok (Next.value v) w' := h
   injection h' with h1 h2
   injection h1 with h3
   subst h3
   rfl
theorem pure_yields {o : Oper} (hp : pureB o = true) (hc : calmB o = true) {a : Act} {v : Value} {w : World} (hw : Cg w0 w) (h : YieldsIn P ops (Cg w0) o v a) : Yields P ops o v a := by
 rcases h with ⟨h1, h2⟩ | ⟨h1, h2⟩
 ·exact .inl ⟨h1, fun W => pure_any hp (calm_at hc (h2 w hw)) W⟩
 ·exact .inr ⟨h1, h2⟩
theorem apart_comm {x y : Oper} (h : x.apart ops y = true) : y.apart ops x = true := by
 obtain ⟨h1, h2, h3⟩ := Oper.apart_spec h
 unfold Oper.apart
 rw [Bool.and_eq_true]
 constructor
 ·cases hy : y.dst with
  | none => rfl
  | some d =>
   have a1 := h3 d hy
   have a2 : x.dst ≠ some d := fun e => h2 d e hy
   simp [a1, a2]
 ·cases hx : x.dst with
  | none => rfl
  | some d =>
   have a1 := h1 d hx
   simp [a1]
def sinkLB (md : Region.Mode) (ops : Array Oper) (n : Nat) (ls : List Nat) : Bool :=
 (List.range n).all fun i => ls.contains i || (List.range (n + 1)).any fun j => decide (i < j) && !ls.contains j && Region.waitsFor md ops j i
theorem tail_waitsL {n : Nat} {ls : List Nat} {listed : Array Bool} (hs : sinkLB md ops n ls = true) (hc : Region.chainB md ops n = true) (hn : n < ops.size) (inv : HeadInv md ops n listed) :
 ∀ (d i : Nat), n - i = d -> ls.contains i = false -> i < n -> listed.getD i true = false -> ∀ t, n <= t -> t ∉ Region.ready md ops listed := by
 intro d
 induction d using Nat.strongRecOn with
 | _ d ih =>
  intro i hd hli hi hun t ht hr
  obtain ⟨_, ot, hot, hall⟩ := mem_ready.1 hr
  have htlt : t < ops.size := (Array.getElem?_eq_some_iff.1 hot).1
  by_cases htn : t = n
  ·subst htn
   have h1 := List.all_eq_true.1 hs i (List.mem_range.2 hi)
   rw [hli, Bool.false_or] at h1
   obtain ⟨j, hj, hj2⟩ := List.any_eq_true.1 h1
   simp only [Bool.and_eq_true, decide_eq_true_eq, Bool.not_eq_true'] at hj2
   obtain ⟨oj, hoj, e, he, hb, hon⟩ := Region.waitsFor_spec hj2.2
   have hjle : j <= t := by have := List.mem_range.1 hj; omega
   by_cases hjt : j = t
   ·subst hjt
    have : oj = ot := Option.some.inj (hoj.symm.trans hot)
    subst this
    have h2 := hall e he hb
    rw [hon, getD_both hun] at h2
    cases h2
   ·cases hl : listed.getD j false with
    | true =>
     have h2 := inv.closed j oj hoj hl e he hb
     rw [hon, getD_both hun] at h2
     cases h2
    | false =>
     have hjs : j < listed.size := by rw [inv.size]; omega
     exact ih (t - j) (by omega) j rfl hj2.1.2 (by omega) (getD_in hjs hl) t (Nat.le_refl _) hr
  ·have h1 := List.all_eq_true.1 hc t (List.mem_range.2 htlt)
   simp only [Bool.or_eq_true, decide_eq_true_eq] at h1
   rcases h1 with h1 | h1
   ·omega
   ·obtain ⟨o', ho', e, he, hb, hon⟩ := Region.waitsFor_spec h1
    have : o' = ot := Option.some.inj (ho'.symm.trans hot)
    subst this
    have h2 := hall e he hb
    rw [hon, getD_both (inv.tail (t - 1) (by omega) (by omega))] at h2
    cases h2
def mixFB (md : Region.Mode) (ops : Array Oper) (t f : Nat) (l ls : List Nat) : Bool :=
 ls.all (fun i => decide (i < f) && !l.contains i && (match ops[i]? with | some o => pureB o | none => false)) && Region.noSelect ops && decide (t < ops.size) && sinkLB md ops t ls && Region.chainB md ops t && apartAllB md ops && earlyB md ops.toList && linksB md ops l && (List.range f).all (fun i => l.contains i || (match ops[i]? with | some o => calmB o | none => true)) && Region.seqB md ops (ops.size - t) t (canonL t ops.size) && decide (t = f + 1) && (List.range f).all (fun i => !Region.waitsFor md ops f i)
def FrK (P : Program) (ops : Array Oper) (w0 : World) (Q : Exit -> Act -> World -> Prop) (t : Nat) (of : Oper) (T : TypeId) (zs : Array Value) : Act -> World -> Prop := fun a w =>
 ∀ b w', Cg w0 w' -> Gw w w' -> w0.heap.size <= b -> Blk w' b T zs -> wpList P ops Q (ops.toList.drop t) (a.put of.dst (.pointer (some ⟨b, 0, none⟩))) w'
def FrB (P : Program) (ops : Array Oper) (w0 : World) (Q : Exit -> Act -> World -> Prop) (t : Nat) (b : Nat) (T : TypeId) (zs : Array Value) : Act -> World -> Prop := fun a w =>
 ∀ w', Cg w0 w' -> Gw w w' -> Blk w' b T zs -> wpList P ops Q (ops.toList.drop t) a w'
theorem mixF_any {Q : Exit -> Act -> World -> Prop} {t f : Nat} {l ls : List Nat} {of : Oper} {T : TypeId} {zs : Array Value} (hQ : ∀ c a d v w, Q (.panic c) (Act.put a d v) w -> Q (.panic c) a w) (hB : mixFB md ops t f l ls = true) (hof : ops[f]? = some of) (hg : of.guard = none)
 (hfr : ∀ (a : Act) (w : World), (execOp a.eval of).run P w = .ok (.value (.pointer (some ⟨w.heap.size, 0, none⟩))) (w.alloc (.cells zs T))) :
 ∀ (n : Nat) (listed : Array Bool) (a : Act) (w : World), listed.toList.count false = n -> HeadInv md ops t listed -> Cg w0 w ->
  ((listed.getD f false = false /\ wpFr P ops w0 (fun i => l.contains i || decide (f <= i)) (FrK P ops w0 Q t of T zs) listed (List.range f) a w) ∨
   (∃ b, listed.getD f false = true /\ w0.heap.size <= b /\ Blk w b T zs /\ wpFr P ops w0 (fun i => l.contains i || decide (f <= i)) (FrB P ops w0 Q t b T zs) listed (List.range f) a w)) -> wpAny P md ops Q n listed a w := by
 simp only [mixFB, Bool.and_eq_true, decide_eq_true_eq] at hB
 obtain ⟨⟨⟨⟨⟨⟨⟨⟨⟨⟨⟨hloo, hsel⟩, hn⟩, hs⟩, hc⟩, hap⟩, hear⟩, hl⟩, hcm⟩, hseq⟩, htf⟩, hfd⟩ := hB
 have hsel' := Region.noSelect_spec hsel
 have hcalm : ∀ i o, ops[i]? = some o -> (l.contains i || decide (f <= i)) = false -> calmB o = true := fun i o ho hk => by
  rw [Bool.or_eq_false_iff, decide_eq_false_iff_not] at hk
  rw [List.all_eq_true] at hcm
  have := hcm i (List.mem_range.2 (by omega))
  rw [hk.1, ho] at this
  simpa using this
 have hwf : ∀ i, i < f -> Region.waitsFor md ops f i = false := fun i hi => by
  rw [List.all_eq_true] at hfd
  simpa using hfd i (List.mem_range.2 hi)
 have hKw : ∀ a w w', FrK P ops w0 Q t of T zs a w -> Gw w w' -> FrK P ops w0 Q t of T zs a w' := fun a w w' h hg b w'' hc' hg' => h b w'' hc' (hg.trans hg')
 have hBw : ∀ b a w w', FrB P ops w0 Q t b T zs a w -> Gw w w' -> FrB P ops w0 Q t b T zs a w' := fun b a w w' h hg w'' hc' hg' => h w'' hc' (hg.trans hg')
 intro n
 induction n with
 | zero =>
  intro listed a w hf inv hC h
  exfalso
  have h1 := inv.tail t (Nat.le_refl _) hn
  have h2 : t < listed.size := by rw [inv.size]; exact hn
  have h3 : listed[t] = false := by simpa [Array.getD_eq_getD_getElem?, h2] using h1
  have h4 : false ∈ listed.toList := by rw [<- h3]; simp
  have := List.count_pos_iff.2 h4
  omega
 | succ n ih =>
  intro listed a w hf inv hC h
  by_cases hall : ∀ i, i < t -> listed.getD i false = true
  ·have hcan : listed = canonL t ops.size := by
    apply Array.ext
    ·rw [inv.size]; simp [canonL]; omega
    ·intro i h1 h2
     by_cases hi : i < t
     ·have := hall i hi
      have e : listed[i] = true := by simpa [Array.getD_eq_getD_getElem?, h1] using this
      rw [e]
      simp [canonL, hi, List.getElem_append]
     ·have := inv.tail i (by omega) (by rw [<- inv.size]; exact h1)
      have e : listed[i] = false := by simpa [Array.getD_eq_getD_getElem?, h1] using this
      rw [e]
      simp [canonL, hi, List.getElem_append]
   have hK : wpList P ops Q (ops.toList.drop t) a w := by
    rcases h with ⟨h1, _⟩ | ⟨b, _, hb0, hbk, h⟩
    ·rw [hall f (by omega)] at h1; cases h1
    ·have : ∀ R : List Nat, (∀ i, i ∈ R -> i < t) -> wpFr P ops w0 (fun i => l.contains i || decide (f <= i)) (FrB P ops w0 Q t b T zs) listed R a w -> FrB P ops w0 Q t b T zs a w := by
      intro R
      induction R with
      | nil => intro _ h; exact h
      | cons i R ihR =>
       intro hR h
       simp only [wpFr, hall i (hR i List.mem_cons_self), if_true] at h
       exact ihR (fun k hk => hR k (List.mem_cons_of_mem _ hk)) h
     exact this _ (fun i hi => by have := List.mem_range.1 hi; omega) h w hC (Gw.refl w) hbk
   have hlen : (ops.toList.drop t).length = n + 1 := by
    rw [<- hf, hcan]
    simp [canonL, List.count_append, List.count_replicate]
   have hdl : (ops.toList.drop t).length = ops.size - t := by simp
   have := wpAny_of_seq (P := P) (md := md) (Q' := Q) (ops.toList.drop t) t listed a w (fun j => by simp [List.getElem?_drop]) (by rw [hdl, hcan]; exact hseq) hK
   rwa [hlen] at this
  ·have hex : ∃ i, i < t /\ listed.getD i false = false := by
    apply Classical.byContradiction
    intro hno
    refine hall fun i hi => ?_
    cases hg : listed.getD i false with
    | true => rfl
    | false => exact (hno ⟨i, hi, hg⟩).elim
   obtain ⟨i0, hi0, hg0⟩ := hex
   have hun0 : listed.getD i0 true = false := getD_in (by rw [inv.size]; omega) hg0
   by_cases hlr : ∃ p, ls.contains p = true /\ p ∈ Region.ready md ops listed
   ·obtain ⟨p, hpl, hpr⟩ := hlr
    rw [List.all_eq_true] at hloo
    have hp1 := hloo p (by simpa using hpl)
    simp only [Bool.and_eq_true, decide_eq_true_eq, Bool.not_eq_true'] at hp1
    obtain ⟨⟨hpf, hpnl⟩, hpp⟩ := hp1
    obtain ⟨hpun, op, hop, hpdep⟩ := mem_ready.1 hpr
    rw [hop] at hpp
    have hps : p < listed.size := by rw [inv.size]; omega
    have hpun' : listed.getD p false = false := getD_both hpun
    have hkp : (l.contains p || decide (f <= p)) = false := by rw [hpnl]; simp; omega
    have hwtp : ∀ i, listed.getD i false = false -> Region.waitsFor md ops p i = false := fun i hi => by
     cases hw : Region.waitsFor md ops p i with
     | false => rfl
     | true =>
      obtain ⟨o', ho', e, he, hb, hon⟩ := Region.waitsFor_spec hw
      obtain rfl : o' = op := Option.some.inj (ho'.symm.trans hop)
      have := hpdep e he hb
      rw [hon, hi] at this
      cases this
    have hfirst := fun (v : Value) => wpAny_first (P := P) (md := md) (Q := Q) (v := v) hop hsel' (fun c a w h => hQ c a _ _ w h) n listed a w (fun j oj hoj hne hun hno => by
     have hjf := getD_both hun
     rcases Nat.lt_or_gt_of_ne hne with hlt | hlt
     ·exact apart_comm (apartAll_out hap hlt hoj hop (hwtp j hjf))
     ·refine apartAll_out hap hlt hop hoj ?_
      cases hw : Region.waitsFor md ops j p with
      | false => rfl
      | true =>
       obtain ⟨o', ho', e, he, hb, hon⟩ := Region.waitsFor_spec hw
       obtain rfl : o' = oj := Option.some.inj (ho'.symm.trans hoj)
       exact absurd hon (hno e he hb)) hpr
    have hcs : (listed.setIfInBounds p true).toList.count false = n := by
     have h3 : listed[p] = false := by simpa [Array.getD_eq_getD_getElem?, hps] using hpun
     have := cnt_set listed.toList p (by simp [hps, h3])
     rw [Array.toList_setIfInBounds]
     omega
    have hfs : (listed.setIfInBounds p true).getD f false = listed.getD f false := getD_set_ne false (by omega)
    have key : ∀ (K : Act -> World -> Prop), wpFr P ops w0 (fun i => l.contains i || decide (f <= i)) K listed (List.range f) a w -> ∃ v, Yields P ops op v a /\ wpFr P ops w0 (fun i => l.contains i || decide (f <= i)) K (listed.setIfInBounds p true) (List.range f) (a.put op.dst v) w := by
     intro K hK
     have hp := pullF (P := P) (ops := ops) (w0 := w0) (ks := fun i => l.contains i || decide (f <= i)) (K := K) hsel' hcalm hop hpun' hps (List.range f) List.pairwise_lt_range (List.mem_range.2 hpf)
      (fun i hi hij hil _ => by
        have his : i < ops.size := by omega
        exact ⟨ops[i], by simp [his], apartAll_out hap hij (by simp [his]) hop (hwtp i hil)⟩)
      (fun hk => by rw [hkp] at hk; cases hk) a w hC hK
     rw [if_neg (by rw [hkp]; decide)] at hp
     obtain ⟨v, hy, hn'⟩ := yieldsIn_of_qOp hop hp
     exact ⟨v, pure_yields hpp (hcalm p op hop hkp) hC hy, hn'⟩
    rcases h with ⟨h1, h⟩ | ⟨b, h1, hb0, hbk, h⟩
    ·obtain ⟨v, hy, hh⟩ := key _ h
     exact hfirst v hy (ih _ _ w hcs (inv.set hpr (by omega)) hC (.inl ⟨by rw [hfs]; exact h1, hh⟩))
    ·obtain ⟨v, hy, hh⟩ := key _ h
     exact hfirst v hy (ih _ _ w hcs (inv.set hpr (by omega)) hC (.inr ⟨b, by rw [hfs]; exact h1, hb0, hbk, hh⟩))
   have hjt : ∀ j, j ∈ Region.ready md ops listed -> j < t := fun j hj => Nat.lt_of_not_le fun hle => by
    have hnl : ∀ i, i < t -> ls.contains i = false -> listed.getD i false = true := fun i hi hli => by
     cases hg : listed.getD i false with
     | true => rfl
     | false => exact (tail_waitsL hs hc hn inv _ i rfl hli hi (getD_in (by rw [inv.size]; omega) hg) j hle hj).elim
    have hlow : ∀ n, n <= t -> ∀ i, i < n -> listed.getD i false = true := by
     intro n
     induction n with
     | zero => intro _ i hi; omega
     | succ n ihn =>
      intro hn' i hi
      by_cases hin : i < n
      ·exact ihn (by omega) i hin
      ·obtain rfl : i = n := by omega
       cases hg : listed.getD i false with
       | true => rfl
       | false =>
        exfalso
        have his : i < ops.size := by omega
        cases hli : ls.contains i with
        | false =>
         have := hnl i (by omega) hli
         rw [hg] at this
         cases this
        | true =>
         refine hlr ⟨i, hli, ?_⟩
         rw [mem_ready]
         refine ⟨getD_in (by rw [inv.size]; exact his) hg, ops[i], by simp [his], fun e he hb => ?_⟩
         exact ihn (by omega) e.on (earlyB_out hear i ops[i] (by simp [his]) e he hb)
    have := hlow t (Nat.le_refl _) i0 hi0
    rw [hg0] at this
    cases this
   refine ⟨fun hr => ?_, fun j hj => ?_⟩
   ·exfalso
    have hlow : ∀ n, n <= t -> ∀ i, i < n -> listed.getD i false = true := by
     intro n
     induction n with
     | zero => intro _ i hi; omega
     | succ n ihn =>
      intro hn' i hi
      by_cases hin : i < n
      ·exact ihn (by omega) i hin
      ·obtain rfl : i = n := by omega
       cases hg : listed.getD i false with
       | true => rfl
       | false =>
        exfalso
        have hm : i ∈ Region.ready md ops listed := by
         rw [mem_ready]
         have his : i < ops.size := by omega
         refine ⟨getD_in (by rw [inv.size]; exact his) hg, ops[i], by simp [his], fun e he hb => ?_⟩
         exact ihn (by omega) e.on (earlyB_out hear i ops[i] (by simp [his]) e he hb)
        rw [hr] at hm
        cases hm
    have := hlow t (Nat.le_refl _) i0 hi0
    rw [hg0] at this
    cases this
   ·have hj' := hjt j hj
    obtain ⟨hun, oj, hoj, hdep⟩ := mem_ready.1 hj
    have hjs : j < listed.size := by rw [inv.size]; omega
    have hjl : listed.getD j false = false := getD_both hun
    have hwt : ∀ i, listed.getD i false = false -> Region.waitsFor md ops j i = false := fun i hi => by
     cases hw : Region.waitsFor md ops j i with
     | false => rfl
     | true =>
      obtain ⟨o', ho', e, he, hb, hon⟩ := Region.waitsFor_spec hw
      obtain rfl : o' = oj := Option.some.inj (ho'.symm.trans hoj)
      have := hdep e he hb
      rw [hon, hi] at this
      cases this
    have hcs : (listed.setIfInBounds j true).toList.count false = n := by
     have h3 : listed[j] = false := by simpa [Array.getD_eq_getD_getElem?, hjs] using hun
     have := cnt_set listed.toList j (by simp [hjs, h3])
     rw [Array.toList_setIfInBounds]
     omega
    by_cases hjf : j = f
    ·subst hjf
     obtain rfl : oj = of := Option.some.inj (hoj.symm.trans hof)
     rcases h with ⟨_, h⟩ | ⟨b, h1, _⟩
     rotate_left
     ·rw [hjl] at h1; cases h1
     have hle : w0.heap.size <= w.heap.size := (cg_iff.1 hC).size
     have hga : Gw w (w.alloc (.cells zs T)) := ba_alloc (Below.refl _ _) _
     unfold wpOp
     simp only [hoj]
     rw [if_pos (by simp [Region.wanted, hg])]
     refine .inl ?_
     unfold Oper.wp
     rw [hfr a w]
     refine ih _ _ _ hcs (inv.set hj hj') (cg_iff.2 ((cg_iff.1 hC).trans hga)) (.inr ⟨w.heap.size, by simp [Array.getD_eq_getD_getElem?, hjs], hle, Blk.new _ _ _, ?_⟩)
     have h2 := wpFr_slot (P := P) (ops := ops) (w0 := w0) (ks := fun i => l.contains i || decide (j <= i)) (K := FrK P ops w0 Q t oj T zs) (K' := FrB P ops w0 Q t w.heap.size T zs) (listed := listed) (oj := oj) (v := .pointer (some ⟨w.heap.size, 0, none⟩)) hsel'
      (fun a' w' hh w'' hc' hg' hb' => hh w.heap.size w'' hc' hg' hle hb') (R := List.range j) (fun i hi => by
       have hij := List.mem_range.1 hi
       have his : i < ops.size := by omega
       exact ⟨ops[i], by simp [his], apartAll_out hap hij (by simp [his]) hoj (hwf i hij)⟩) h
     rw [wpFr_congr (l2 := listed.setIfInBounds j true) (fun i hi => (getD_set_ne false (fun e => by have := List.mem_range.1 hi; omega)).symm)] at h2
     exact wpFr_weak (hBw _) h2 hga
    ·have hjf' : j < f := by omega
     have key : ∀ (K : Act -> World -> Prop), wpFr P ops w0 (fun i => l.contains i || decide (f <= i)) K listed (List.range f) a w -> wpOp P ops Q j (fun a' w' => Gw w w' /\ wpFr P ops w0 (fun i => l.contains i || decide (f <= i)) K (listed.setIfInBounds j true) (List.range f) a' w') a w := by
      intro K hK
      have hp := pullF (P := P) (ops := ops) (w0 := w0) (ks := fun i => l.contains i || decide (f <= i)) (K := K) hsel' hcalm hoj hjl hjs (List.range f) List.pairwise_lt_range (List.mem_range.2 hjf')
       (fun i hi hij hil _ => by
         have his : i < ops.size := by omega
         exact ⟨ops[i], by simp [his], apartAll_out hap hij (by simp [his]) hoj (hwt i hil)⟩)
       (fun hk i hi hij hil => by
         simp only [Bool.or_eq_true, List.contains_iff_mem, decide_eq_true_eq] at hk
         rw [Bool.or_eq_false_iff, decide_eq_false_iff_not]
         refine ⟨?_, by omega⟩
         cases hci : l.contains i with
         | false => rfl
         | true =>
          have := links_order inv hl i j (by simpa using hci) (by rcases hk with hk | hk; exact hk; omega) hij (.inl hj)
          rw [hil] at this
          cases this) a w hC hK
      by_cases hk : (l.contains j || decide (f <= j)) = true
      ·rw [if_pos hk] at hp
       exact wpOp_stop (hp w hC (Gw.refl w))
      ·rw [if_neg hk] at hp
       refine wpOp_mono ?_ (wpOp_calm hoj (hcalm j oj hoj (by simpa using hk)) hC hp)
       rintro a' w' ⟨rfl, hh⟩
       exact ⟨Gw.refl _, hh⟩
     have hfs : (listed.setIfInBounds j true).getD f false = listed.getD f false := getD_set_ne false hjf
     rcases h with ⟨h1, h⟩ | ⟨b, h1, hb0, hbk, h⟩
     ·refine wpOp_mono ?_ (key _ h)
      rintro a' w' ⟨hg', hh⟩
      exact ih _ a' w' hcs (inv.set hj hj') (cg_iff.2 ((cg_iff.1 hC).trans hg')) (.inl ⟨by rw [hfs]; exact h1, hh⟩)
     ·refine wpOp_mono ?_ (key _ h)
      rintro a' w' ⟨hg', hh⟩
      exact ih _ a' w' hcs (inv.set hj hj') (cg_iff.2 ((cg_iff.1 hC).trans hg')) (.inr ⟨b, by rw [hfs]; exact h1, hb0, hbk.via hg', hh⟩)
def segPostF (next : Act -> World -> Prop) (w0 : World) : Exit -> Act -> World -> Prop
 | .normal, a, w => Gw w0 w /\ next a w
 | _, _, _ => False
theorem segF_next {next : Act -> World -> Prop} {w0 : World} {a : Act} {w : World} (hC : Gw w0 w) (h : next a w) : segPostF next w0 .normal a w := ⟨hC, h⟩
def wpSegsF (P : Program) (ops : Array Oper) (w0 : World) (K : Act -> World -> Prop) (r : Nat) : List Nat -> List Oper -> Act -> World -> Prop
 | [], l, a, w => wpQuiet P ops (Cg w0) (fun a' => K a' w) (l.take r) a
 | m :: ms, l, a, w => wpQuiet P ops (Cg w0) (fun a' => ∀ w', Gw w0 w' -> Gw w w' -> wpList P ops (segPostF (wpSegsF P ops w0 K r ms (l.drop (m + 1))) w') ((l.drop m).take 1) a' w') (l.take m) a
theorem quiet_mixF {ks : Nat -> Bool} {K : Act -> World -> Prop} {listed : Array Bool} {N : Act -> Prop} {w : World} {R : List Nat} (hlist : ∀ i, listed.getD i false = false) :
 ∀ (m p : Nat) (a : Act), p + m <= ops.size -> (∀ i, p <= i -> i < p + m -> ks i = false) -> (∀ a, N a -> wpFr P ops w0 ks K listed R a w) -> wpQuiet P ops (Cg w0) N ((ops.toList.drop p).take m) a ->
  wpFr P ops w0 ks K listed (List.range' p m ++ R) a w := by
 intro m
 induction m with
 | zero =>
  intro p a _ _ hN h
  simp only [List.take_zero] at h
  exact hN a h
 | succ m ih =>
  intro p a hp hk hN h
  have hps : p < ops.size := by omega
  have e : (ops.toList.drop p).take (m + 1) = ops[p] :: (ops.toList.drop (p + 1)).take m := by
   rw [List.drop_eq_getElem_cons (by simpa using hps), List.take_succ_cons]
   rfl
  rw [e] at h
  rw [List.range'_succ, List.cons_append]
  simp only [wpFr, hlist p, hk p (Nat.le_refl _) (by omega), Bool.false_eq_true, if_false]
  unfold wpQuiet at h
  unfold qOp
  simp only [show ops[p]? = some ops[p] by simp [hps]]
  have ih' : ∀ a, wpQuiet P ops (Cg w0) N ((ops.toList.drop (p + 1)).take m) a -> wpFr P ops w0 ks K listed (List.range' (p + 1) m ++ R) a w := fun a' h' => ih (p + 1) a' (by omega) (fun i h1 h2 => hk i (by omega) (by omega)) hN h'
  split
  ·rename_i hw
   rw [if_pos hw] at h
   exact Oper.quiet_mono ih' h
  ·rename_i hw
   rw [if_neg hw] at h
   exact ih' _ h
theorem segsF_mix {ks : Nat -> Bool} {K : Act -> World -> Prop} {listed : Array Bool} {t : Nat} (r : Nat) (ht : t <= ops.size) (hlist : ∀ i, listed.getD i false = false) :
 ∀ (ms : List Nat) (p : Nat) (a : Act) (w : World), endAt r p ms = t -> (∀ i, p <= i -> i < t -> ks i = (chainAt p ms).contains i) -> wpSegsF P ops w0 K r ms (ops.toList.drop p) a w ->
  wpFr P ops w0 ks K listed (List.range' p (t - p)) a w := by
 intro ms
 induction ms with
 | nil =>
  intro p a w he hk h
  simp only [endAt] at he
  subst he
  have e : List.range' p (p + r - p) = List.range' p r ++ [] := by simp
  rw [e]
  refine quiet_mixF hlist r p a ht (fun i h1 h2 => by rw [hk i h1 h2]; simp [chainAt]) ?_ h
  intro a' h'
  simpa only [wpFr] using h'
 | cons m ms ih =>
  intro p a w he hk h
  simp only [endAt] at he
  have hle := endAt_le r ms (p + m + 1)
  have e : List.range' p (t - p) = List.range' p m ++ ((p + m) :: List.range' (p + m + 1) (t - (p + m + 1))) := by
   have e1 : t - p = m + (1 + (t - (p + m + 1))) := by omega
   rw [e1, <- List.range'_append_1, <- List.range'_append_1]
   simp
  rw [e]
  refine quiet_mixF hlist m p a (by omega) (fun i h1 h2 => ?_) ?_ h
  ·rw [hk i h1 (by omega)]
   simp only [chainAt]
   cases hc : ((p + m) :: chainAt (p + m + 1) ms).contains i with
   | false => rfl
   | true =>
    exfalso
    have hm : i ∈ (p + m) :: chainAt (p + m + 1) ms := by simpa using hc
    rcases List.mem_cons.1 hm with h3 | h3
    ·omega
    ·have := chainAt_ge _ _ _ h3; omega
  ·intro a' h'
   have hps : p + m < ops.size := by omega
   have hkp : ks (p + m) = true := by rw [hk (p + m) (by omega) (by omega)]; simp [chainAt]
   simp only [wpFr, hlist (p + m), hkp, Bool.false_eq_true, if_false, if_true]
   intro w' hC' hG'
   have h' := h' w' (cg_iff.1 hC') hG'
   have e2 : ((ops.toList.drop p).drop m).take 1 = [ops[p + m]] := by
    rw [List.drop_drop, List.drop_eq_getElem_cons (by simpa using hps), List.take_succ_cons, List.take_zero]
    rfl
   rw [e2] at h'
   have ih' := fun a w h => ih (p + m + 1) a w he (fun i h1 h2 => by
    rw [hk i (by omega) h2]
    simp only [chainAt, List.contains_cons]
    rw [show (i == p + m) = false by simp; omega]
    rfl) h
   have e3 : (ops.toList.drop p).drop (m + 1) = ops.toList.drop (p + m + 1) := by rw [List.drop_drop]; rfl
   rw [e3] at h'
   unfold wpList at h'
   unfold wpOp
   simp only [show ops[p + m]? = some ops[p + m] by simp [hps]]
   have hfin : ∀ a w, wpList P ops (segPostF (wpSegsF P ops w0 K r ms (ops.toList.drop (p + m + 1))) w') [] a w -> Gw w' w /\ wpFr P ops w0 ks K listed (List.range' (p + m + 1) (t - (p + m + 1))) a w := fun a w h => ⟨h.1, ih' a w h.2⟩
   have hlets : LetsOut (segPostF (wpSegsF P ops w0 K r ms (ops.toList.drop (p + m + 1))) w') -> LetsOut stopPost := fun ⟨_, _, h⟩ => (show False from h).elim
   split
   ·rename_i hw
    rw [if_pos hw] at h'
    rcases h' with h' | ⟨h1, h2⟩
    ·refine .inl (Oper.wp_mono hfin ?_)
     unfold Oper.wp at *
     generalize (execOp a'.eval ops[p + m]).run P w' = rr at *
     cases rr with
     | ok n w'' =>
      cases n <;> simp only [Oper.upon] at h' ⊢ <;> try exact h'
     | halt x w'' =>
      cases x <;> simp only [Oper.upon] at h' ⊢
      all_goals (try exact (show False from h').elim)
    ·exact .inr ⟨h1, hlets h2⟩
   ·rename_i hw
    rw [if_neg hw] at h'
    exact hfin _ _ h'
theorem wp_region_mixF {id : Nat} {Q : Exit -> Act -> World -> Prop} {a : Act} {w : World} {l : List Oper} (r : Nat) (ms ls : List Nat) (of : Oper) (T : TypeId) (zs : Array Value) (hm : P.follows .mixedOrders = true) (hB : mixFB .any l.toArray (endAt r 0 ms + 1) (endAt r 0 ms) (chainAt 0 ms) ls = true)
 (hend : endAt r 0 ms <= l.length) (hof : l[endAt r 0 ms]? = some of) (hg : of.guard = none) (hfr : ∀ (a : Act) (w : World), (execOp a.eval of).run P w = .ok (.value (.pointer (some ⟨w.heap.size, 0, none⟩))) (w.alloc (.cells zs T)))
 (hQ : ∀ c a d v w, Q (.panic c) (Act.put a d v) w -> Q (.panic c) a w) (h : wpSegsF P l.toArray w (fun a' w' => ∀ b w'', Gw w w'' -> Gw w' w'' -> w.heap.size <= b -> Blk w'' b T zs -> wpList P l.toArray Q (l.drop (endAt r 0 ms + 1)) (a'.put of.dst (.pointer (some ⟨b, 0, none⟩))) w'') r ms l a w.drew) : (Code.region id l.toArray true).wp P Q a w := by
 refine wp_region_any hm ?_
 have hin : ∀ i, (Array.replicate l.toArray.size false).getD i false = false := fun i => getD_replicate_false _ _
 refine mixF_any (w0 := w) (T := T) (zs := zs) (of := of) hQ hB (by simpa using hof) hg hfr _ _ a w.drew (by simp [List.count_replicate]) ⟨by simp, fun j oj _ hl => (by rw [hin] at hl; cases hl), fun t _ ht => getD_in (by simpa using ht) (hin t)⟩ ⟨w.drew, (grow_eq (Below.drew (Below.refl _ _))).symm⟩ (.inl ⟨hin _, ?_⟩)
 have hK : ∀ a' w', (∀ b w'', Gw w w'' -> Gw w' w'' -> w.heap.size <= b -> Blk w'' b T zs -> wpList P l.toArray Q (l.drop (endAt r 0 ms + 1)) (a'.put of.dst (.pointer (some ⟨b, 0, none⟩))) w'') = FrK P l.toArray w Q (endAt r 0 ms + 1) of T zs a' w' := fun a' w' => by
  unfold FrK
  simp only [cg_iff, List.toList_toArray]
 have hKf : (fun a' w' => ∀ b w'', Gw w w'' -> Gw w' w'' -> w.heap.size <= b -> Blk w'' b T zs -> wpList P l.toArray Q (l.drop (endAt r 0 ms + 1)) (a'.put of.dst (.pointer (some ⟨b, 0, none⟩))) w'') = FrK P l.toArray w Q (endAt r 0 ms + 1) of T zs := by
  funext a' w'
  exact hK a' w'
 rw [hKf] at h
 have := segsF_mix (P := P) (ops := l.toArray) (w0 := w) (K := FrK P l.toArray w Q (endAt r 0 ms + 1) of T zs) (ks := fun i => (chainAt 0 ms).contains i || decide (endAt r 0 ms <= i)) (listed := Array.replicate l.toArray.size false) (t := endAt r 0 ms) r (by simpa using hend) hin ms 0 a w.drew rfl
  (fun i _ h2 => by simp [Nat.not_le.2 h2]) (by simpa using h)
 rwa [Nat.sub_zero, <- List.range_eq_range'] at this
end
structure Two (s : Nat) (W0 w : World) (x y : Nat) : Prop where
 fst : Blk w s 126 #[.int .u64 0, .int .u64 (x : Int)]
 snd : Blk w (s + 1) 126 #[.int .u64 0, .int .u64 (y : Int)]
 exc : Exc [s, s + 1] W0 w
theorem Two.via {s : Nat} {W0 w w' : World} {x y : Nat} (h : Two s W0 w x y) (hb : Below w.heap.size w w') : Two s W0 w' x y := ⟨h.fst.via hb, h.snd.via hb, Exc.via hb h.exc⟩
theorem Two.drew {s : Nat} {W0 w : World} {x y : Nat} (h : Two s W0 w x y) : Two s W0 w.drew x y := ⟨h.fst, h.snd, h.exc.drew⟩
structure TwoC (s : Nat) (w : World) (x y : Nat) : Prop where
 a0 : w.cell? ⟨s, 0, none⟩ = some (.int .u64 0)
 a1 : w.cell? ⟨s, 1, none⟩ = some (.int .u64 (x : Int))
 b0 : w.cell? ⟨s + 1, 0, none⟩ = some (.int .u64 0)
 b1 : w.cell? ⟨s + 1, 1, none⟩ = some (.int .u64 (y : Int))
 f0 : w.frozen? ⟨s, 0, none⟩ = false
 f1 : w.frozen? ⟨s, 1, none⟩ = false
 g0 : w.frozen? ⟨s + 1, 0, none⟩ = false
 g1 : w.frozen? ⟨s + 1, 1, none⟩ = false
 la : s < w.heap.size
 lb : s + 1 < w.heap.size
theorem Two.cells {s : Nat} {W0 w : World} {x y : Nat} (h : Two s W0 w x y) : TwoC s w x y :=
 ⟨h.fst.cell 0, h.fst.cell 1, h.snd.cell 0, h.snd.cell 1, h.fst.frozen 0, h.fst.frozen 1, h.snd.frozen 0, h.snd.frozen 1, h.fst.lt, h.snd.lt⟩
end Go.Proofs.YtmfpbafpnoomeaaGreat
namespace Go.Proofs
open Go.Shelf
def Tryz.growSt_ren : Go.Shelf.Ren := ⟨fun | 4 => 96 | n => n, fun | 22 => 79 | 25 => 136 | 3 => 3 | 4 => 4 | 9 => 9 | 20 => 20 | 0 => 0 | 2 => 3 | n => n, fun | n => n⟩
theorem Tryz.growSt : Go.Proofs.Lays8.n4 Tryz.prog Tryz.growSt_ren := {
 mixed := by kernel_rfl
 f4 := ⟨Tryz.f96.name, by decide, Tryz.func96.trans (congrArg some (by kernel_rfl))⟩
 t0 := Tryz.underlying0
 a0 := Tryz.isAgg0
 z0 := Tryz.sizeOf0
 v0 := Tryz.zeroValue0
 t3 := Tryz.underlying3
 a3 := Tryz.isAgg3
 z3 := Tryz.sizeOf3
 v3 := Tryz.zeroValue3
 t4 := Tryz.underlying4
 a4 := Tryz.isAgg4
 z4 := Tryz.sizeOf4
 v4 := Tryz.zeroValue4
 t9 := Tryz.underlying9
 a9 := Tryz.isAgg9
 z9 := Tryz.sizeOf9
 v9 := Tryz.zeroValue9
 t20 := Tryz.underlying20
 a20 := Tryz.isAgg20
 z20 := Tryz.sizeOf20
 v20 := Tryz.zeroValue20
 t22 := Tryz.underlying79
 a22 := Tryz.isAgg79
 z22 := Tryz.sizeOf79
 v22 := Tryz.zeroValue79 }
end Go.Proofs
