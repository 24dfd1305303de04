/- Contracts of the reference: Given, Ends. Contract of the reference: Ends. Contract of the program: Ends where its arguments are accepted (printed by tools/gen_aends.py). The reference's rule on runs i -/
import Derived.Deep.LoopGhost
import Derived.RangeFuncNested
import Derived.RangeFuncBound
import Derived.RangeFuncCalls
import Derived.RangeFuncLeaves
import Derived.RangeFuncFrom
import Derived.OwnWalkIn
import Derived.TacticsInMore
import Derived.LoopNIn
import Derived.LoopIn
import Derived.Shelf.Abstract
import Derived.OrdersHeld
import Derived.Deep.Slices
import Derived.Test.YtnmolefblaahmaaGreatMP
import Derived.Test.YtnmolefblaahmaaGreatMR
set_option linter.unusedVariables false
set_option linter.unusedSimpArgs false
namespace Go.Proofs.YtnmolefblaahmaaGreat
open Go.RowKit
structure EndsAt (w : World) (B : Nat) (A : Option Addr) (n : Nat) (A' : Option Addr) (n' : Nat) (m : Mem) (D : Option Addr) (dn : Nat) (b : Bar) (L : Option Addr) (k : Nat) (xs : List Bx) : Prop where
 sol : SolAt w B A n A' n' m.boxes m.holes
 bar : BarAt w B D dn b
 legs : Cells w B L (xs.flatMap boxC)
 len : xs.length = k
 max : k ≤ 9223372036854775807
 name : m.name.size ≤ 9223372036854775807
theorem EndsAt.at_ {w w' : World} {B : Nat} {A : Option Addr} {n : Nat} {A' : Option Addr} {n' : Nat} {m : Mem} {D : Option Addr} {dn : Nat} {b : Bar} {L : Option Addr} {k : Nat} {xs : List Bx}
 (h : EndsAt w B A n A' n' m D dn b L k xs) (hB : B ≤ w.heap.size) (hb : Below w.heap.size w w') : EndsAt w' B A n A' n' m D dn b L k xs :=
 ⟨h.sol.at_ hB hb, h.bar.at_ hB hb, h.legs.below (hb.mono hB), h.len, h.max, h.name⟩
def S.endLen (r : Rule) (m : Mem) (b : Bar) (xs : List Bx) (k : Nat) (p : Pt) : Int := S.length r b.size (S.poor m.boxes (xs.getD k S.zbox)) (S.bent xs k p)
theorem Exc.trans {M : List Nat} {W w w' : World} (h : Exc M W w) (h' : Exc M w w') : Exc M W w' :=
 ⟨h'.os.trans h.os, h'.tape.trans h.tape, h'.output.trans h.output, Nat.le_trans h.size h'.size, fun k hk hm => (h'.block k (Nat.lt_of_lt_of_le hk h.size) hm).trans (h.block k hk hm)⟩
def S.sumTo (rs : List Rn) (k : Nat) : Int := (rs.take k).foldl (fun s r => s + r.count) 0
theorem sumTo_succ (rs : List Rn) {k : Nat} (hk : k < rs.length) : S.sumTo rs (k + 1) = S.sumTo rs k + rs[k].count := by
 unfold S.sumTo
 rw [List.take_succ_eq_append_getElem hk, List.foldl_append]
 rfl
theorem sumTo_zero (rs : List Rn) : S.sumTo rs 0 = 0 := rfl
theorem sumTo_mono {rs : List Rn} (h : ∀ k (hk : k < rs.length), 0 ≤ rs[k].count) : ∀ {k m : Nat}, k ≤ m → m ≤ rs.length → S.sumTo rs k ≤ S.sumTo rs m := by
 intro k m hkm
 induction m with
 | zero => intro _; obtain rfl : k = 0 := by omega
           exact Int.le_refl _
 | succ m ih =>
  intro hm
  by_cases e : k = m + 1
  ·subst e; exact Int.le_refl _
  ·have := ih (by omega) (by omega)
   have h1 := h m (by omega)
   rw [sumTo_succ rs (by omega)]
   omega
structure Stands (bs : List Bar) (rs : List Rn) (i : Nat) (k j : Nat) (k0 : Nat) (b : Bar) : Prop where
 lt : k < rs.length
 ok : RunOk bs rs[k] k0 b
 sum : (i : Int) = S.sumTo rs k + j
 inr : (j : Int) < rs[k].count
 get : (S.mains bs rs)[i]? = some (S.mnOf b.size b.mark (S.mainLeg (S.laidPath b rs[k] j)))
theorem mains_sum {bs : List Bar} {rs : List Rn} (hs : S.sched bs = true) (h : ∀ r, r ∈ rs → S.right bs r = true) : ∀ {k : Nat}, k ≤ rs.length → ((S.mains bs (rs.take k)).length : Int) = S.sumTo rs k := by
 intro k
 induction k with
 | zero => intro _; simp [S.mains, sumTo_zero]
 | succ k ih =>
  intro hk
  have hk' : k < rs.length := by omega
  obtain ⟨k0, b, ho⟩ := right_ok hs (h _ (List.getElem_mem hk'))
  have := ih (by omega)
  have hc := ho.count
  rw [mains_snoc bs rs hk' ho.at_, List.length_append, mainsOf_len, sumTo_succ rs hk']
  omega
theorem stands_of {bs : List Bar} {rs : List Rn} (h : S.laid bs rs = true) {i : Nat} (hi : i < (S.mains bs rs).length) : ∃ k j k0 b, Stands bs rs i k j k0 b := by
 simp only [S.laid, Bool.and_eq_true, decide_eq_true_eq] at h
 obtain ⟨⟨hs, hl⟩, hr⟩ := h
 have hin : ∀ r, r ∈ rs → S.right bs r = true := fun r hr' => runs_in hr hr'
 have key : ∀ m, m ≤ rs.length → i < (S.mains bs (rs.take m)).length → ∃ k j k0 b, ∃ hk : k < rs.length, k < m ∧ RunOk bs rs[k] k0 b ∧ (i : Int) = S.sumTo rs k + (j : Nat) ∧ ((j : Nat) : Int) < rs[k].count ∧ (S.mains bs (rs.take m))[i]? = some (S.mnOf b.size b.mark (S.mainLeg (S.laidPath b rs[k] j))) := by
  intro m
  induction m with
  | zero => intro _ h0; simp [S.mains] at h0
  | succ m ih =>
   intro hm h0
   have hm' : m < rs.length := by omega
   obtain ⟨k0, b, ho⟩ := right_ok hs (hin _ (List.getElem_mem hm'))
   have e := mains_snoc bs rs hm' ho.at_
   have hsum := mains_sum hs hin (k := m) (by omega)
   by_cases hlt : i < (S.mains bs (rs.take m)).length
   ·obtain ⟨k, j, k1, b1, hk, hkm, h1, h2, h3, h4⟩ := ih (by omega) hlt
    refine ⟨k, j, k1, b1, hk, by omega, h1, h2, h3, ?_⟩
    rw [e, List.getElem?_append_left hlt, h4]
   ·rw [e, List.length_append, mainsOf_len] at h0
    have hc := ho.count
    refine ⟨m, i - (S.mains bs (rs.take m)).length, k0, b, hm', by omega, ho, by omega, by omega, ?_⟩
    rw [e, List.getElem?_append_right (by omega)]
    unfold S.mainsOf
    rw [List.getElem?_map, List.getElem?_range (by omega)]
    rfl
 obtain ⟨k, j, k0, b, hk, _, h1, h2, h3, h4⟩ := key rs.length (Nat.le_refl _) (by rwa [List.take_length])
 rw [List.take_length] at h4
 exact ⟨k, j, k0, b, hk, h1, h2, h3, h4⟩
theorem rtimes16_any (p : Pt) (n : Int) (h : S.near1 (S.times n p) 1000000000000 = true) (w : World) : Calls Tryz.prog 154 #[ptV p, .int .i64 n] w fun e w' => e = .returned (ptV (S.times n p)) ∧ Below w.heap.size w w' := by
 obtain ⟨hx, hy, hz⟩ := near1_out h
 clear h
 have x0 : (S.times n p).x = p.x * n := Int.mul_comm _ _
 have x1 : (S.times n p).y = p.y * n := Int.mul_comm _ _
 have x2 : (S.times n p).z = p.z * n := Int.mul_comm _ _
 rw [x0] at hx
 rw [x1] at hy
 rw [x2] at hz
 unfold ptV
 go_enter Tryz.func154, Tryz.ntmps154
 go_wp2
 exact bodyPost_ret (v := .agg #[.int .i64 (S.times n p).x, .int .i64 (S.times n p).y, .int .i64 (S.times n p).z]) (by simp [results, Tryz.results154, go_sem, *]) rfl ⟨rfl, bel⟩
theorem rfind14_any (l : List BarR) (m : ByteArray) (A : Option Addr) (n c : Nat) (B : Nat) (w : World) (hB : B ≤ w.heap.size) (hA : BarsAt w B A n l) :
 Calls Tryz.prog 100 #[.slice A n c, .string m] w fun e w' => e = .returned (.int .i64 (S.index (bars l) m)) ∧ Below w.heap.size w w' := by
 have HN := Lib.hid (show (bars l).length = n by simpa using hA.len)
 have hm := hA.max
 have hs := hA.cells
 clear hA
 go_enter Tryz.func100, Tryz.ntmps100
 go_wp2
 go_loopw [5] (fun i wr => ∃ k : Nat, k ≤ n ∧ i = .int .i64 k ∧ Hid (∀ j (h : j < (bars l).length), j < k → S.isMark m (bars l)[j] = false) ∧ Below w.heap.size w wr) (fun i _ => n - (intOf i).toNat)
 case atStart => exact ⟨0, Nat.zero_le _, rfl, Lib.hid fun j _ hj => absurd hj (by omega), Below.refl _ _⟩
 case round =>
  obtain ⟨k, hk, rfl, HNO, hbr⟩ := hrel
  by_cases hlt : k < n
  ·have hki : (k : Int) < (n : Int) := by omega
   have hkx : k < (bars l).length := by have := HN.out; omega
   have hkl : k < l.length := by simpa using hkx
   have hs' := hs.below (hbr.mono hB)
   obtain ⟨b, o, rfl, _, _⟩ := hs'.at_ (by rw [flat_len barC 5 barC_len]; omega)
   have c0 := hs'.row0 barC_len hkl rfl
   have HE := Lib.hid (show S.isMark m (bars l)[k] = (l[k].b.mark.toList == m.toList) by simp [S.isMark])
   have HX := Lib.hid (fun hx => idxf_hit (p := S.isMark m) hkx hx HNO.out)
   generalize hq : S.isMark m (bars l)[k] = q at *
   have HQ := Lib.hid hq
   clear hq hs'
   generalize hmk : l[k].b.mark = mk at *
   have HMK := Lib.hid hmk
   clear hmk
   by_cases hx : (mk.toList == m.toList) = true
   ·have hq : q = true := HE.out.trans hx
    subst hq
    go_wp2
    go_ret
    exact ⟨ret_i (HX.out trivial).symm, hbr⟩
   ·have hx' : (mk.toList == m.toList) = false := by simpa using hx
    have hq : q = false := HE.out.trans hx'
    subst hq
    clear hx
    go_wp2
    go_roundw
    case rel =>
     refine ⟨k + 1, by omega, by go_num, Lib.hid fun j hj hjk => ?_, hbr⟩
     by_cases hjk' : j = k
     ·subst hjk'; exact HQ.out
     ·exact HNO.out j hj (by omega)
    case measure => simp [intOf]; omega
  ·have HX := Lib.hid (idxf_miss (p := S.isMark m) (xs := bars l) fun j hj => HNO.out j hj (by have := HN.out; omega))
   go_wp2
   go_ret
   exact ⟨ret_i HX.out.symm, hbr⟩
theorem path_in {b : Bar} (h : S.bar b = true) {i : Nat} {p : Pt} (hp : (S.path b)[i]? = some p) : S.near1 p 1048576 = true := by
 obtain ⟨hi, rfl⟩ := List.getElem?_eq_some_iff.1 hp
 exact near_in (path_near h) hi
theorem laidPath_len (b : Bar) (r : Rn) (k : Nat) : (S.laidPath b r k).length = (S.legsOf b.code).length + 1 := by
 unfold S.laidPath; rw [List.length_map, path_len]
theorem plus_times (a s : Pt) (k : Int) : S.padd a (S.times k s) = S.plus a s k := rfl
theorem times_lim {n : Int} {p : Pt} (hn : 0 ≤ n ∧ n ≤ 1000) (hp : S.near1 p 2097152 = true) : S.near1 (S.times n p) 2097152000 = true := by
 obtain ⟨hx, hy, hz⟩ := near1_out hp
 have hm : ∀ q : Int, -2097152 ≤ q ∧ q ≤ 2097152 → -2097152000 ≤ n * q ∧ n * q ≤ 2097152000 := fun q hq => by
  have h1 : n * q ≤ n * 2097152 := Int.mul_le_mul_of_nonneg_left hq.2 hn.1
  have h2 : n * (-2097152) ≤ n * q := Int.mul_le_mul_of_nonneg_left hq.1 hn.1
  omega
 have a1 := hm _ hx
 have a2 := hm _ hy
 have a3 := hm _ hz
 rw [show S.times n p = ⟨n * p.x, n * p.y, n * p.z⟩ from rfl]
 simp only [S.near1, Bool.and_eq_true, decide_eq_true_eq]
 generalize n * p.x = u1 at *
 generalize n * p.y = u2 at *
 generalize n * p.z = u3 at *
 omega
theorem Exc.of_below1 {M : List Nat} {W w : World} (h : Below W.heap.size W w) : Exc M W w := ⟨h.os, h.tape, h.output, h.size, fun k hk _ => h.block k hk⟩
set_option maxRecDepth 20000 in
set_option maxHeartbeats 4000000 in
theorem rpoints_any (b : Bar) (r : Rn) (k0 : Nat) (A : Option Addr) (n c : Nat) (B : Nat) (w : World) (hB : B ≤ w.heap.size) (hA : BarAt w B A n b) (h : S.bar b = true) (ht : S.turn r.tx r.ty = true) (ha : S.near1 r.at_ 1048576 = true)
 (hk0 : k0 ≤ 1000) (hst : 0 < k0 → S.near1 r.step 2097152 = true) (L : Nat) (hL : (S.legsOf b.code).length = L) :
 Calls Tryz.prog 105 #[barV b A n c, rnV r, .int .i64 k0] w (GivesOne 76 3 (L + 1) ((S.laidPath b r k0).flatMap ptC) w) := by
 have HP := Lib.hid (fun (W : World) (hw : B ≤ W.heap.size) (hh : BarAt W B A n b) => rpath_yes b A n c B W hw hh h L hL)
 have HA := Lib.hid hA
 have hl6 := legs_len b.code
 rw [hL] at hl6
 have HLP := Lib.hid (show (S.path b).length = L + 1 by rw [path_len, hL])
 have HPI := Lib.hid (fun (i : Nat) (p : Pt) (hp : (S.path b)[i]? = some p) => path_in h hp)
 have HIM := Lib.hid (fun (p : Pt) (hp : S.near1 p 1048576 = true) (w : World) => rimage_any r.tx r.ty ht p hp w)
 have hAT : S.near1 (S.plus r.at_ r.step k0) 2098200576 = true := by
  by_cases hk : 0 < k0
  ·have := padd_near ha (times_lim (n := k0) (by omega) (hst hk))
   exact near1_mono0 this (by omega)
  ·have : k0 = 0 := by omega
   subst this
   have e : S.plus r.at_ r.step ((0 : Nat) : Int) = r.at_ := by simp [S.plus]
   rw [e]
   exact near1_mono0 ha (by omega)
 have HPL := Lib.hid (fun (p : Pt) (hp : S.near1 p 1048576 = true) (w : World) => rplus_any (S.plus r.at_ r.step k0) (S.image r.tx r.ty p) (near1_mono0 (padd_near hAT (image_near ht hp)) (by omega)) w)
 have HLD := Lib.hid (show S.laidPath b r k0 = (S.path b).map (fun p => S.padd (S.plus r.at_ r.step k0) (S.image r.tx r.ty p)) from rfl)
 have HTM := Lib.hid (fun (hk : 0 < k0) (w : World) => rtimes16_any r.step k0 (near1_mono0 (times_lim (n := k0) (by omega) (hst hk)) (by omega)) w)
 have HAD := Lib.hid (fun (hk : 0 < k0) (w : World) => rplus_any r.at_ (S.times k0 r.step) (near1_mono0 (padd_near ha (times_lim (n := k0) (by omega) (hst hk))) (by omega)) w)
 have HZ := Lib.hid (fun (hk : ¬ 0 < k0) => show S.plus r.at_ r.step k0 = r.at_ by
  have : k0 = 0 := by omega
  subst this
  simp [S.plus])
 clear hA h ht ha hst hL hAT
 rw [HLD.out]
 unfold ptV at HIM HPL HTM HAD
 unfold turnV at HIM
 unfold barV at HP
 unfold barV rnV
 go_enter Tryz.func105, Tryz.ntmps105
 go_upto_region 3 with (first
  | (go_at_call 152; (with_reducible refine (HP.out _ (size_via hB bel) (HA.out.at_ hB bel)).mono ?_); rintro e w1 ⟨Aw1, cw1, rfl, how1, hbw1⟩; obtain ⟨hcw1, hfw1⟩ := bcell hbw1; have hzw1_0 : w.heap.size < w1.heap.size := lt_via hbw1 sz; have hzw1_1 : w.heap.size + 1 < w1.heap.size := lt_via hbw1 sz))
 have hbel1 : Below w.heap.size w w1 := bel
 have hK1 : Blk (w1.alloc (.cells #[.int .i64 r.at_.x, .int .i64 r.at_.y, .int .i64 r.at_.z] 76)) w1.heap.size 76 #[.int .i64 r.at_.x, .int .i64 r.at_.y, .int .i64 r.at_.z] := Blk.new _ _ _
 have hRB1 : Blk (w1.alloc (.cells #[.int .i64 r.at_.x, .int .i64 r.at_.y, .int .i64 r.at_.z] 76)) (w.heap.size + 1) 109 #[.string r.mark, .int .i64 r.tx, .int .i64 r.ty, .int .i64 r.at_.x, .int .i64 r.at_.y, .int .i64 r.at_.z, .int .i64 r.step.x, .int .i64 r.step.y, .int .i64 r.step.z, .int .i64 r.count] :=
  (Blk.via (by simpa using Blk.new (w.alloc (.cells #[.string b.mark, .int .i64 b.size, .int .i64 b.count, .int .i64 b.code, .slice A n c] 133)) 109 #[.string r.mark, .int .i64 r.tx, .int .i64 r.ty, .int .i64 r.at_.x, .int .i64 r.at_.y, .int .i64 r.at_.z, .int .i64 r.step.x, .int .i64 r.step.y, .int .i64 r.step.z, .int .i64 r.count]) hbw1).alloc _
 have hsP := ((own_cells how1 (by unfold maxLen; omega)).1).alloc (Nat.le_refl _) (.cells #[.int .i64 r.at_.x, .int .i64 r.at_.y, .int .i64 r.at_.z] 76)
 have hbel : Below w.heap.size w (w1.alloc (.cells #[.int .i64 r.at_.x, .int .i64 r.at_.y, .int .i64 r.at_.z] 76)) := ba_alloc hbel1 _
 have hz11 : w1.heap.size < (w1.alloc (.cells #[.int .i64 r.at_.x, .int .i64 r.at_.y, .int .i64 r.at_.z] 76)).heap.size := by simp
 clear hcw1 hfw1 how1 hbw1 HP HA
 generalize (w1.alloc (.cells #[.int .i64 r.at_.x, .int .i64 r.at_.y, .int .i64 r.at_.z] 76)) = W1 at *
 have hrl := hRB1.lt
 by_cases hk : 0 < k0
 case' pos =>
  have hki : (0 : Int) < (k0 : Int) := by omega
  have HTMk := Lib.hid (HTM.out hk)
  have HADk := Lib.hid (HAD.out hk)
  have r6 := hRB1.cell 6
  have r7 := hRB1.cell 7
  have r8 := hRB1.cell 8
  have q0 := hK1.cell 0
  have q1 := hK1.cell 1
  have q2 := hK1.cell 2
  simp only [List.getElem?_toArray, List.getElem?_cons_zero, List.getElem?_cons_succ] at r6 r7 r8 q0 q1 q2
  have f0 := hK1.frozen 0
  have f1 := hK1.frozen 1
  have f2 := hK1.frozen 2
  rw [plus_times] at HADk
  generalize S.times k0 r.step = T at *
  generalize hQ : S.plus r.at_ r.step k0 = Q at *
  have HQ := Lib.hid hQ
  clear hQ
  go_wp2
  refine wp_region_grow_tail 6 (by kernel_rfl) (by kernel_rfl) ?_
  simp only [List.take_succ_cons, List.take_zero, List.drop_succ_cons, List.drop_zero]
  repeat (go_big_quiet_step ((first
   | (go_at_call 154; with_reducible exact grow_of (HTMk.out _))
   | (go_at_call 153; with_reducible exact grow_of (HADk.out _)))))
  all_goals (refine wpQuiet_nil ?_; intro wg hbwg; obtain ⟨hcwg, hfwg⟩ := bcell hbwg)
  go_upto_region 5 with fail
  have hK2 : Blk (((wg.setCell ⟨w1.heap.size, 0, none⟩ (.int .i64 Q.x)).setCell ⟨w1.heap.size, 1, none⟩ (.int .i64 Q.y)).setCell ⟨w1.heap.size, 2, none⟩ (.int .i64 Q.z)) w1.heap.size 76 #[.int .i64 Q.x, .int .i64 Q.y, .int .i64 Q.z] := by
   have h6 := (((hK1.via hbwg).set 0 (.int .i64 Q.x)).set 1 (.int .i64 Q.y)).set 2 (.int .i64 Q.z)
   simp only [List.setIfInBounds_toArray, List.set_cons_zero, List.set_cons_succ] at h6
   exact h6
  have hne : w.heap.size + 1 ≠ w1.heap.size := by omega
  have hRB2 : Blk (((wg.setCell ⟨w1.heap.size, 0, none⟩ (.int .i64 Q.x)).setCell ⟨w1.heap.size, 1, none⟩ (.int .i64 Q.y)).setCell ⟨w1.heap.size, 2, none⟩ (.int .i64 Q.z)) (w.heap.size + 1) 109 #[.string r.mark, .int .i64 r.tx, .int .i64 r.ty, .int .i64 r.at_.x, .int .i64 r.at_.y, .int .i64 r.at_.z, .int .i64 r.step.x, .int .i64 r.step.y, .int .i64 r.step.z, .int .i64 r.count] := (((hRB1.via hbwg).far hne _).far hne _).far hne _
  have hX2 : Exc [w1.heap.size] W1 (((wg.setCell ⟨w1.heap.size, 0, none⟩ (.int .i64 Q.x)).setCell ⟨w1.heap.size, 1, none⟩ (.int .i64 Q.y)).setCell ⟨w1.heap.size, 2, none⟩ (.int .i64 Q.z)) := (((Exc.of_below1 hbwg).set (.inl (by simp)) _).set (.inl (by simp)) _).set (.inl (by simp)) _
  have hb2 : Below w.heap.size w (((wg.setCell ⟨w1.heap.size, 0, none⟩ (.int .i64 Q.x)).setCell ⟨w1.heap.size, 1, none⟩ (.int .i64 Q.y)).setCell ⟨w1.heap.size, 2, none⟩ (.int .i64 Q.z)) := hbel.trans (hX2.below hbel.size (by intro g hg; simp at hg; have := hbel1.size; omega))
  have hs2 := hsP.below (hX2.below (B := w1.heap.size) (by omega) (by intro g hg; simp at hg; omega))
  have hz2 : w1.heap.size < (((wg.setCell ⟨w1.heap.size, 0, none⟩ (.int .i64 Q.x)).setCell ⟨w1.heap.size, 1, none⟩ (.int .i64 Q.y)).setCell ⟨w1.heap.size, 2, none⟩ (.int .i64 Q.z)).heap.size := hK2.lt
  clear hcwg hfwg r6 r7 r8 q0 q1 q2 f0 f1 f2 HTMk HADk hK1 hRB1 hX2
  clear hbwg hsP
  generalize (((wg.setCell ⟨w1.heap.size, 0, none⟩ (.int .i64 Q.x)).setCell ⟨w1.heap.size, 1, none⟩ (.int .i64 Q.y)).setCell ⟨w1.heap.size, 2, none⟩ (.int .i64 Q.z)) = W2 at *
 case' neg =>
  have hb2 := hbel
  have hz2 := hz11
  have hK2 := hK1
  have hRB2 := hRB1
  have hs2 := hsP
  rw [← HZ.out hk] at hK2
  clear hK1 hRB1 hbel hsP
  generalize hQ : S.plus r.at_ r.step k0 = Q at *
  have HQ := Lib.hid hQ
  clear hQ
  generalize W1 = W2 at *
  have hki : ¬ (0 : Int) < (k0 : Int) := by omega
 all_goals (
  have hHL := Lib.hid (show ∀ i (p : Pt), (S.path b)[i]? = some p → (((S.path b).take (i + 1)).map (fun p => S.padd Q (S.image r.tx r.ty p))).flatMap ptC = (((S.path b).take i).map (fun p => S.padd Q (S.image r.tx r.ty p))).flatMap ptC ++ ptC (S.padd Q (S.image r.tx r.ty p)) from fun i p hp => by
   obtain ⟨hi, rfl⟩ := List.getElem?_eq_some_iff.1 hp
   rw [List.take_succ_eq_append_getElem hi, List.map_append, List.flatMap_append]
   simp)
  have hL6 := hl6
  have hrl2 := hRB2.lt
  go_wp2
  go_loopw [9, 10] (fun v i wr => ∃ (k : Nat) (A3 : Option Addr) (c3 : Nat), k ≤ L + 1 ∧ i = .int .i64 k ∧ v = .slice A3 k c3 ∧ Row W2 wr none w.heap.size 76 3 (.slice A3 k c3) k ((((S.path b).take k).map (fun p => S.padd Q (S.image r.tx r.ty p))).flatMap ptC) ∧ Exc [] W2 wr) (fun _ i _ => L + 1 - (intOf i).toNat)
  case atStart => exact ⟨0, none, 0, Nat.zero_le _, rfl, rfl, by simpa using Row.none_ _ _ _ _, Exc.refl _ _⟩
  case round =>
   obtain ⟨k, A3, c3, hk, rfl, rfl, hR, hX⟩ := hrel
   have hbx : Below W2.heap.size W2 wr := hX.below (Nat.le_refl _) (by simp)
   by_cases hlt : k < L + 1
   ·have hkx : k < (S.path b).length := by have := HLP.out; omega
    have hs' := hs2.below (hbx.mono (Nat.le_of_lt hz2))
    obtain ⟨b4, o4, rfl, hbl, _⟩ := hs'.at_ (by rw [flat_len ptC 3 ptC_len]; omega)
    obtain ⟨c0, c1, c2⟩ := hs'.pts (List.getElem?_eq_getElem hkx)
    have HT := Lib.hid (hHL.out k _ (List.getElem?_eq_getElem hkx))
    have hpi := HPI.out k _ (List.getElem?_eq_getElem hkx)
    have HIMk := Lib.hid (HIM.out _ hpi)
    have HPLk := Lib.hid (HPL.out _ hpi)
    clear hs' hpi
    generalize (S.path b)[k] = p at *
    generalize S.image r.tx r.ty p = I at *
    generalize S.padd Q I = R at *
    have hsz := hbx.size
    have q0 := (hK2.via hbx).cell 0
    have q1 := (hK2.via hbx).cell 1
    have q2 := (hK2.via hbx).cell 2
    have r1 := (hRB2.via hbx).cell 1
    have r2 := (hRB2.via hbx).cell 2
    simp only [List.getElem?_toArray, List.getElem?_cons_zero, List.getElem?_cons_succ] at q0 q1 q2 r1 r2
    have hl1 : b4 < wr.heap.size := by omega
    have hl2 : w1.heap.size < wr.heap.size := by omega
    have hl3 : w.heap.size + 1 < wr.heap.size := by omega
    have hki : (k : Int) < ((L + 1 : Nat) : Int) := by omega
    have hk8 : k ≤ 8 := by omega
    go_wp2
    refine wp_region_grow_tail1 10 (by kernel_rfl) (by kernel_rfl) (fun _ _ _ h => h) (Or.inl ⟨by rfl, fun _ => by rfl⟩) ?_
    simp only [List.take_succ_cons, List.take_zero, List.drop_succ_cons, List.drop_zero, go_sem, List.setIfInBounds_toArray, List.set_cons_succ, List.set_cons_zero, Array.getD_eq_getD_getElem?, List.getElem?_toArray, List.getElem?_cons_succ, List.getElem?_cons_zero, Option.getD_some]
    repeat (go_big_quiet_step ((first
     | (go_at_call 155; with_reducible exact grow_of (HIMk.out _))
     | (go_at_call 153; with_reducible exact grow_of (HPLk.out _)))))
    all_goals (refine wpQuiet_nil ?_; intro wg hbwg; obtain ⟨hcwg, hfwg⟩ := bcell hbwg)
    go_wp2_with (at_builtin; refine wpList_push rfl (.tmp 29) (.tmp 39) _ rfl elemPt ((hR.via hbwg).alloc _) ((Exc.via hbwg hX).alloc _) (by simp) hb2.size rfl (wg.heap.size) 1 1 [.int .i64 R.x, .int .i64 R.y, .int .i64 R.z] rfl rfl ?_ (by simp [Value.oneCell']) (by unfold maxLen; omega) (by omega) ?_; (· intro j u hu; exact by have := (Cells.newRow wg #[.int .i64 R.x, .int .i64 R.y, .int .i64 R.z] 76 (0, 0)).get (k := j) (v := u) hu; rwa [Nat.zero_add] at this); intro v' w' hR' hX' hO'; clear hcwg hfwg)
    obtain ⟨A5, c5, rfl, _, _, _⟩ := own_form hR'.own
    go_roundw
    case rel => exact ⟨k + 1, A5, c5, by omega, by go_num, rfl, by rw [HT.out]; exact hR', hX'⟩
    case measure => simp [intOf]; omega
   ·have he : k = L + 1 := by omega
    have HT := Lib.hid (show (S.path b).take k = S.path b from List.take_of_length_le (by have := HLP.out; omega))
    subst he
    go_wp2
    go_ret
    refine ⟨A3, c3, rfl, ?_, ba_via hbx hb2⟩
    have := hR.own
    rw [HT.out, ← HQ.out] at this
    exact this)
theorem rplace_any (rs : List Rn) (A : Option Addr) (n c : Nat) (B : Nat) (w : World) (hB : B ≤ w.heap.size) (hR : RunsAt w B A n rs) (hc : ∀ k (hk : k < rs.length), 0 ≤ rs[k].count) (i k j : Nat) (hk : k < rs.length) (hi : (i : Int) = S.sumTo rs k + j) (hj : (j : Int) < rs[k].count) (hi64 : i ≤ 1000000) :
 Calls Tryz.prog 178 #[.slice A n c, .int .i64 i] w fun e w' => e = .returned (.tuple #[.int .i64 k, .int .i64 j]) ∧ w = w' := by
 have HN := Lib.hid hR.len
 have HS := Lib.hid hR.cells
 have hnm := hR.max
 have hkn : k < n := by have := hR.len; omega
 have HSM := Lib.hid (fun (m : Nat) (hm : m ≤ k) => sumTo_mono (rs := rs) hc hm (by omega))
 have HSZ := Lib.hid (fun (m : Nat) (hm : m ≤ rs.length) => sumTo_mono (rs := rs) hc (Nat.zero_le m) hm)
 have HSS := Lib.hid (fun (m : Nat) (hm : m < rs.length) => sumTo_succ rs hm)
 have HI := Lib.hid hi
 have HJ := Lib.hid hj
 clear hR hi hj
 go_enter Tryz.func178, Tryz.ntmps178
 go_wp2
 go_loop [1, 6] (fun v m => ∃ q : Nat, q ≤ k ∧ m = .int .i64 q ∧ v = .int .i64 ((i : Int) - S.sumTo rs q)) (fun _ m => k - (intOf m).toNat)
 case atStart => exact ⟨0, Nat.zero_le _, rfl, by rw [sumTo_zero]; simp⟩
 case round =>
  obtain ⟨q, hq, rfl, rfl⟩ := hrel
  have hl := HN.out
  have hqx : q < rs.length := by omega
  have hqi : (q : Int) < (n : Int) := by omega
  have hs' := HS.out
  obtain ⟨b, o, rfl, _, _⟩ := hs'.at_ (by rw [flat_len rnC 10 rnC_len]; omega)
  have c9 := hs'.rowj rnC_len hqx 9 rfl
  have h0 := HSZ.out q (by omega)
  rw [sumTo_zero] at h0
  have h1 := HI.out
  have h2 := HSM.out q hq
  have h3 := HSS.out q hqx
  have h5 := hc q hqx
  clear hs' hl
  by_cases hlt : q < k
  ·have h4 := HSM.out (q + 1) (by omega)
   have hge : rs[q].count ≤ (i : Int) - S.sumTo rs q := by omega
   have e1 : IntKind.i64.wrap ((i : Int) - S.sumTo rs q - rs[q].count) = (i : Int) - S.sumTo rs (q + 1) := by
    rw [IntWalk.i64_in _ (by omega)]; omega
   have hd : decide (rs[q].count ≤ (i : Int) - S.sumTo rs q) = true := decide_eq_true hge
   clear h0 h1 h2 h3 h4 h5
   generalize hs1 : S.sumTo rs (q + 1) = s1 at *
   have HS1 := Lib.hid hs1
   clear hs1
   generalize S.sumTo rs q = s0 at *
   generalize rs[q].count = cq at *
   go_wp2
   go_round
   case rel => exact ⟨q + 1, by omega, by go_num, by rw [HS1.out]⟩
   case measure => simp [intOf]; omega
  ·have hqk : q = k := by omega
   subst hqk
   have hj' := HJ.out
   have hlt2 : ¬ rs[q].count ≤ (i : Int) - S.sumTo rs q := by omega
   have HE := Lib.hid (show (i : Int) - S.sumTo rs q = j by omega)
   clear h0 h1 h2 h3 hj'
   generalize (i : Int) - S.sumTo rs q = v at *
   generalize rs[q].count = cq at *
   go_wp2
   go_ret2
   exact ⟨ret_2 rfl HE.out, rfl⟩
structure Lies (l : List BarR) (rs : List Rn) (i k j k0 : Nat) (r : BarR) : Prop where
 st : Stands (bars l) rs i k j k0 r.b
 get : l[k0]? = some r
 cnt : ∀ k (hk : k < rs.length), 0 ≤ rs[k].count ∧ rs[k].count ≤ 1000
 lim : i ≤ 1000000
theorem lies_of {l : List BarR} {rs : List Rn} (h : S.laid (bars l) rs = true) {i : Nat} (hi : i < (S.mains (bars l) rs).length) : ∃ k j k0 r, Lies l rs i k j k0 r := by
 obtain ⟨k, j, k0, b, hs⟩ := stands_of h hi
 have hg := hs.ok.get
 rw [List.getElem?_map] at hg
 cases hr : l[k0]? with
 | none => rw [hr] at hg; cases hg
 | some r =>
  rw [hr] at hg
  simp only [Option.map_some, Option.some.injEq] at hg
  subst hg
  simp only [S.laid, Bool.and_eq_true, decide_eq_true_eq] at h
  have hml := mains_len h.2 (by omega)
  exact ⟨k, j, k0, r, hs, hr, fun k hk => by have := right_count (runs_in h.2 (List.getElem_mem hk)); omega, by omega⟩
set_option maxHeartbeats 1000000 in
theorem rbar16_any (l : List BarR) (rs : List Rn) (A : Option Addr) (n c : Nat) (A' : Option Addr) (n' c' : Nat) (B : Nat) (w : World) (hB : B ≤ w.heap.size) (hA : BarsAt w B A n l) (hR : RunsAt w B A' n' rs) (i k j k0 : Nat) (r : BarR) (hL : Lies l rs i k j k0 r) :
 Calls Tryz.prog 179 #[.slice A n c, .slice A' n' c', .int .i64 i] w fun e w' => e = .returned (barV r.b r.A r.n r.c) ∧ Below w.heap.size w w' := by
 have HA := Lib.hid hA
 have hkx := hL.st.lt
 have hkn : k < n' := by have := hR.len; omega
 have hki : (k : Int) < (n' : Int) := by omega
 have HP := Lib.hid (fun (W : World) (hw : B ≤ W.heap.size) (hh : RunsAt W B A' n' rs) => rplace_any rs A' n' c' B W hw hh (fun k hk => (hL.cnt k hk).1) i k j hkx hL.st.sum hL.st.inr hL.lim)
 have HR := Lib.hid hR
 have hix := hL.st.ok.index
 obtain ⟨hk0, hrg⟩ := List.getElem?_eq_some_iff.1 hL.get
 have hk0n : k0 < n := by have := hA.len; omega
 have hk0i : (k0 : Int) < (n : Int) := by omega
 have HF := Lib.hid (fun (W : World) (hw : B ≤ W.heap.size) (hh : BarsAt W B A n l) => hix ▸ rfind14_any l rs[k].mark A n c B W hw hh)
 have hs' := hR.cells
 obtain ⟨b, o, hAe, hbB, _⟩ := hs'.at_ (by rw [flat_len rnC 10 rnC_len]; omega)
 subst hAe
 have c0 := hs'.row0 rnC_len hkx rfl
 have hs2 := hA.cells
 obtain ⟨b2, o2, hAe2, hbB2, _⟩ := hs2.at_ (by rw [flat_len barC 5 barC_len]; omega)
 subst hAe2
 have d0 := hs2.row0 barC_len hk0 rfl
 have d1 := hs2.rowj barC_len hk0 1 rfl
 have d2 := hs2.rowj barC_len hk0 2 rfl
 have d3 := hs2.rowj barC_len hk0 3 rfl
 have d4 := hs2.rowj barC_len hk0 4 rfl
 rw [hrg] at d0 d1 d2 d3 d4
 have hb1 : b < w.heap.size := by omega
 have hb2 : b2 < w.heap.size := by omega
 clear hA hR hs' hs2 hix hrg
 clear hL
 generalize rs[k].mark = mk at *
 unfold barV
 go_enter Tryz.func179, Tryz.ntmps179
 go_wp2_with (first
  | (go_at_call 178; (with_reducible refine (HP.out _ (size_via hB bel) (HR.out.at_ hB bel)).mono ?_); rintro e w' ⟨rfl, rfl⟩)
  | (go_at_call 100; (with_reducible refine (HF.out _ (size_via hB bel) (HA.out.at_ hB bel)).mono ?_); rintro e w2 ⟨rfl, hbw2⟩; obtain ⟨hcw2, hfw2⟩ := bcell hbw2; have hzw2_0 : w.heap.size < w2.heap.size := lt_via hbw2 sz))
 have hbel : Below w.heap.size w w2 := bel
 exact bodyPost_ret (v := .agg #[.string r.b.mark, .int .i64 r.b.size, .int .i64 r.b.count, .int .i64 r.b.code, .slice r.A r.n r.c]) (by simp [results, Tryz.results179, go_sem, *]) rfl ⟨rfl, (((((hbel.setCell (Nat.le_refl _) _).setCell (Nat.le_refl _) _).setCell (Nat.le_refl _) _).setCell (Nat.le_refl _) _).setCell (Nat.le_refl _) _)⟩
set_option maxHeartbeats 2000000 in
theorem rpoints16_any (l : List BarR) (rs : List Rn) (A : Option Addr) (n c : Nat) (A' : Option Addr) (n' c' : Nat) (B : Nat) (w : World) (hB : B ≤ w.heap.size) (hA : BarsAt w B A n l) (hR : RunsAt w B A' n' rs) (i k j k0 : Nat) (r : BarR) (hL : Lies l rs i k j k0 r) (L : Nat) (hLL : (S.legsOf r.b.code).length = L) :
 Calls Tryz.prog 126 #[.slice A n c, .slice A' n' c', .int .i64 i] w (GivesOne 76 3 (L + 1) ((S.laidPath r.b (rs[k]'hL.st.lt) j).flatMap ptC) w) := by
 have HA := Lib.hid hA
 have hkx := hL.st.lt
 have hkn : k < n' := by have := hR.len; omega
 have hki : (k : Int) < (n' : Int) := by omega
 have HP := Lib.hid (fun (W : World) (hw : B ≤ W.heap.size) (hh : RunsAt W B A' n' rs) => rplace_any rs A' n' c' B W hw hh (fun k hk => (hL.cnt k hk).1) i k j hkx hL.st.sum hL.st.inr hL.lim)
 have HR := Lib.hid hR
 have HBR := Lib.hid (fun (W : World) (hw : B ≤ W.heap.size) (hh : BarsAt W B A n l) (hr : RunsAt W B A' n' rs) => rbar16_any l rs A n c A' n' c' B W hw hh hr i k j k0 r hL)
 obtain ⟨hk0, hrg⟩ := List.getElem?_eq_some_iff.1 hL.get
 have HE := Lib.hid (hrg ▸ hA.each l[k0] (List.getElem_mem hk0))
 have hok := hL.st.ok
 have hcn := hL.cnt k hkx
 have hjr := hL.st.inr
 have hst : 0 < j → S.near1 rs[k].step 2097152 = true := fun hj => by
  have h1 := hok.start 1 (by omega) (by omega)
  have h2 := hok.home
  obtain ⟨ax, ay, az⟩ := near1_out h2
  obtain ⟨bx, by', bz⟩ := near1_out h1
  rw [show S.plus rs[k].at_ rs[k].step 1 = ⟨rs[k].at_.x + 1 * rs[k].step.x, rs[k].at_.y + 1 * rs[k].step.y, rs[k].at_.z + 1 * rs[k].step.z⟩ from rfl] at bx by' bz
  simp only [S.near1, Bool.and_eq_true, decide_eq_true_eq]
  simp only [] at bx by' bz
  omega
 have HPT := Lib.hid (fun (W : World) (hw : B ≤ W.heap.size) (hh : BarAt W B r.A r.n r.b) => rpoints_any r.b rs[k] j r.A r.n r.c B W hw hh hok.bar hok.turn hok.home (by omega) hst L hLL)
 have hs' := hR.cells
 obtain ⟨b, o, hAe, hbB, _⟩ := hs'.at_ (by rw [flat_len rnC 10 rnC_len]; omega)
 subst hAe
 have c0 := hs'.row0 rnC_len hkx rfl
 have c1 := hs'.rowj rnC_len hkx 1 rfl
 have c2 := hs'.rowj rnC_len hkx 2 rfl
 have c3 := hs'.rowj rnC_len hkx 3 rfl
 have c4 := hs'.rowj rnC_len hkx 4 rfl
 have c5 := hs'.rowj rnC_len hkx 5 rfl
 have c6 := hs'.rowj rnC_len hkx 6 rfl
 have c7 := hs'.rowj rnC_len hkx 7 rfl
 have c8 := hs'.rowj rnC_len hkx 8 rfl
 have c9 := hs'.rowj rnC_len hkx 9 rfl
 have hb1 : b < w.heap.size := by omega
 clear hA hR hs' hrg hok hcn hjr hst
 generalize S.laidPath r.b rs[k] j = LP at *
 generalize rs[k] = rr at *
 unfold barV at HBR HPT
 unfold rnV at HPT
 go_enter Tryz.func126, Tryz.ntmps126
 go_wp2_with (first
  | (go_at_call 178; (with_reducible refine (HP.out _ (size_via hB bel) (HR.out.at_ hB bel)).mono ?_); rintro e w' ⟨rfl, rfl⟩))
 refine wp_region_mix 0 [3, 5] (by kernel_rfl) (by kernel_rfl) (of_decide_eq_true (by kernel_rfl)) ?_
 try simp only [wpSegs, List.take_succ_cons, List.take_zero, List.drop_succ_cons, List.drop_zero, List.take_nil, List.drop_nil]
 repeat (go_big_quiet_step (fail))
 refine wpQuiet_nil ?_
 show wpList _ _ _ _ _ _
 go_wp2_with ((go_at_call 179; (with_reducible refine (HBR.out _ (size_via hB belr) (HA.out.at_ hB belr) (HR.out.at_ hB belr)).mono ?_); rintro e w1 ⟨rfl, hbw1⟩))
 refine seg_next (grow_to belr) ?_
 try simp only [wpSegs, List.take_succ_cons, List.take_zero, List.drop_succ_cons, List.drop_zero, List.take_nil, List.drop_nil]
 repeat (go_big_quiet_step (fail))
 refine wpQuiet_nil ?_
 show wpList _ _ _ _ _ _
 go_wp2_with ((go_at_call 105; (with_reducible refine (HPT.out _ (size_via hB belr) (HE.out.at_ hB belr)).mono ?_); rintro e w2 ⟨A2, c2', rfl, ho2, hbw2⟩))
 refine seg_next (grow_to belr) ?_
 try simp only [wpSegs, List.take_succ_cons, List.take_zero, List.drop_succ_cons, List.drop_zero, List.take_nil, List.drop_nil]
 repeat (go_big_quiet_step (fail))
 refine wpQuiet_nil ?_
 show wpList _ _ _ _ _ _
 go_wp2
 go_ret
 exact ⟨A2, c2', rfl, own_mono ho2 (show w.heap.size ≤ w1.heap.size from Below.size (w := w) belr), belr⟩
theorem wpList_load_gdF {P : Program} {ops : Array Oper} {rest : List Oper} {op : Oper} {a : Act} {w : World} {Q : Exit → Act → World → Prop} (hw : Region.wanted op (yielded ops a.tmps) = true) (ty : TypeId) (x : Operand) (ho : op.op = .load ty x)
 (b o : Nat) (hx : a.eval x = .pointer (some ⟨b, o, none⟩)) (cs : List Value) (d : TypeDesc) (hc : w.rangeAt b o cs)
 (hu : P.underlying ty = some d) (hd : d.isRow = true) (hi : (P.info? ty).map (·.size) = some cs.length)
 (h : wpList P ops Q rest (a.put op.dst (.agg cs.toArray)) w) : wpList P ops Q (op :: rest) a w := by
 unfold wpList
 rw [if_pos hw]
 exact .inl (wp_load_mid ty x ho b o hx cs d hc hu hd hi h)
theorem quietBy {w : World} {b o : Nat} {cs : List Value} (h : ∀ W, Below w.heap.size w W → W.rangeAt b o cs) : ∀ W, (∃ g, W = grow w g) → W.rangeAt b o cs := by
 rintro W ⟨g, rfl⟩
 exact h _ (grow_below _ _)
theorem quietLoad {P : Program} {ops : Array Oper} {C : World → Prop} {Q : Act → Prop} {rest : List Oper} {op : Oper} {a : Act} (hw : Region.wanted op (yielded ops a.tmps) = true) (ty : TypeId) (x : Operand) (ho : op.op = .load ty x)
 (b o : Nat) (hx : a.eval x = .pointer (some ⟨b, o, none⟩)) (cs : List Value) (d : TypeDesc) (hS : ∀ w, C w → w.rangeAt b o cs)
 (hu : P.underlying ty = some d) (hd : d.isRow = true) (hi : (P.info? ty).map (·.size) = some cs.length)
 (h : ∀ a', a.put op.dst (.agg cs.toArray) = a' → wpQuiet P ops C Q rest a') : wpQuiet P ops C Q (op :: rest) a := by
 unfold wpQuiet
 rw [if_pos hw]
 refine ⟨.agg cs.toArray, fun w hw' => ?_, h _ rfl⟩
 unfold Oper.quietAt execOp
 simp only [ho, hx, Instr.loadAt, Instr.sureAddr, Sem.run_bind, Sem.run_pure, Result.andThen_ok, run_loadVar_mid w b o ty cs d (hS w hw') hu hd hi]
 exact ⟨rfl, rfl⟩
structure It where
 k : Nat
 A : Option Addr
 pts : List Pt
structure KpL (B : Nat) (M : List Nat) (A C : World) : Prop where
 bel : Below B A C
 cells : ∀ k cs t fr, k ∉ M → A.heap[k]? = some (.cells cs t fr) → C.heap[k]? = some (.cells cs t fr)
end Go.Proofs.YtnmolefblaahmaaGreat
namespace Go.Proofs.YtnmolefblaahmaaGreat
open Go.RowKit Go.Shelf
theorem KpL.refl (B : Nat) (M : List Nat) (A : World) : KpL B M A A := ⟨Below.refl _ _, fun _ _ _ _ _ h => h⟩
theorem KpL.trans {B : Nat} {M : List Nat} {A C D : World} (h : KpL B M A C) (k : KpL B M C D) : KpL B M A D := ⟨h.bel.trans k.bel, fun q cs t fr hq hh => k.cells q cs t fr hq (h.cells q cs t fr hq hh)⟩
theorem KpL.put {B : Nat} {M : List Nat} {W : World} {l : Nat} {o : Obj} (o' : Obj) (hB : B ≤ l) (hl : W.heap[l]? = some o) (hc : o.isCells = false) : KpL B M W (W.putObj l o') :=
 ⟨⟨rfl, rfl, rfl, by simp, fun k hk => World.putObj_heap_other (by omega)⟩, fun k cs t fr _ hh => (World.putObj_heap_other (fun e => by subst e; rw [hh] at hl; cases hl; cases hc)).trans hh⟩
theorem KpL.set {B : Nat} {M : List Nat} {A W : World} (h : KpL B M A W) {p : Addr} (hp : p.block ∈ M) (hB : B ≤ p.block) (u : Value) : KpL B M A (W.setCell p u) :=
 ⟨h.bel.setCell hB u, fun k cs t fr hk hh => (Below.heap_setCell W p u k (fun e => hk (e ▸ hp))).trans (h.cells k cs t fr hk hh)⟩
end Go.Proofs.YtnmolefblaahmaaGreat
namespace Go.Proofs.YtnmolefblaahmaaGreat
open Go.RowKit
theorem ptD_get {l : List Pt} {k : Nat} (h : k < l.length) : l[k]? = some (S.ptD l k) := by simp [S.ptD, List.getElem?_eq_getElem h]
theorem Cells.two {w : World} {B b o : Nat} {l : List Pt} (h : Cells w B (some ⟨b, o, none⟩) (l.flatMap ptC)) {k : Nat} (hk : k + 1 < l.length) : Cells w B (some ⟨b, o + k * 3, none⟩) ([S.ptD l k, S.ptD l (k + 1)].flatMap ptC) := by
 obtain ⟨b', o', he, hb, _⟩ := h.at_ (by rw [flat_len ptC 3 ptC_len]; omega)
 injection he with he
 injection he with h1 h2
 subst h1 h2
 obtain ⟨c0, c1, c2⟩ := h.pts (ptD_get (show k < l.length by omega))
 obtain ⟨d0, d1, d2⟩ := h.pts (ptD_get hk)
 refine .inr ⟨b, o + k * 3, rfl, hb, fun j v hv => ?_⟩
 have e : o + (k + 1) * 3 = o + k * 3 + 3 := by omega
 rw [e] at d0 d1 d2
 simp only [List.flatMap_cons, List.flatMap_nil, List.append_nil, List.cons_append, List.nil_append] at hv
 have hj : j < 6 := by
  have := (List.getElem?_eq_some_iff.1 hv).1
  simpa using this
 have : j = 0 ∨ j = 1 ∨ j = 2 ∨ j = 3 ∨ j = 4 ∨ j = 5 := by omega
 rcases this with rfl | rfl | rfl | rfl | rfl | rfl
 all_goals (simp only [List.getElem?_cons_zero, List.getElem?_cons_succ, Option.some.injEq] at hv; subst hv)
 ·exact c0
 ·exact c1
 ·exact c2
 ·exact d0
 ·exact d1
 ·exact d2
set_option maxRecDepth 20000 in
set_option maxHeartbeats 2000000 in
theorem rlegs16_any (l : List BarR) (rs : List Rn) (A : Option Addr) (n c : Nat) (A' : Option Addr) (n' c' : Nat) (B : Nat) (w : World) (hB : B ≤ w.heap.size) (hA : BarsAt w B A n l) (hR : RunsAt w B A' n' rs) (i k j k0 : Nat) (r : BarR) (hL : Lies l rs i k j k0 r) (L : Nat) (hLL : (S.legsOf r.b.code).length = L) :
 Calls Tryz.prog 84 #[.slice A n c, .slice A' n' c', .int .i64 i] w (GivesOne 122 6 L ((S.legsL (S.laidPath r.b (rs[k]'hL.st.lt) j)).flatMap boxC) w) := by
 have HP := Lib.hid (rpoints16_any l rs A n c A' n' c' B w hB hA hR i k j k0 r hL L hLL)
 have HLP := Lib.hid (show (S.laidPath r.b (rs[k]'hL.st.lt) j).length = L + 1 by rw [laidPath_len, hLL])
 have hl6 := legs_len r.b.code
 rw [hLL] at hl6
 clear hA hR
 generalize S.laidPath r.b (rs[k]'hL.st.lt) j = LP at *
 clear hL hLL
 have HLN := Lib.hid (show (S.legsL LP).length = L by rw [S.legsL, legsTo_len, HLP.out]; rfl)
 have HLL := Lib.hid (show S.legsL LP = S.legsTo LP L by rw [S.legsL, HLP.out]; rfl)
 have HLS := Lib.hid (fun m => legsTo_snoc LP m)
 have HTW := Lib.hid (fun (p q : Pt) (W : World) (A : Option Addr) (c B' : Nat) (hw : B' ≤ W.heap.size) (hs : Cells W B' A ([p, q].flatMap ptC)) => hull_two p q ▸ rhull_any A 2 c [p, q] p B' W rfl (by omega) hw hs rfl)
 go_enter Tryz.func84, Tryz.ntmps84
 go_wp2_with (first
  | (go_at_call 126; (with_reducible refine (HP.out).mono ?_); rintro e w1 ⟨Aw1, cw1, rfl, how1, hbw1⟩; obtain ⟨hcw1, hfw1⟩ := bcell hbw1))
 have hs1 := (own_cells how1 (by unfold maxLen; omega)).1
 have hcw := (own_cells how1 (by unfold maxLen; omega)).2.1
 have hbw : Below w.heap.size w w1 := hbw1
 clear hcw1 hfw1 how1
 go_loopw [8, 9] (fun v i wr => ∃ (q : Nat) (A3 : Option Addr) (c3 : Nat), q ≤ L ∧ i = .int .i64 ((q + 1 : Nat) : Int) ∧ v = .slice A3 q c3 ∧ Row w1 wr none w.heap.size 122 6 (.slice A3 q c3) q ((S.legsTo LP q).flatMap boxC) ∧ Exc [] w1 wr) (fun _ i _ => L + 1 - (intOf i).toNat)
 case atStart => exact ⟨0, none, 0, Nat.zero_le _, rfl, rfl, by simpa [S.legsTo] using Row.none_ _ _ _ _, Exc.refl _ _⟩
 case round =>
  obtain ⟨q, A3, c3, hq, rfl, rfl, hRW, hX⟩ := hrel
  have hbx : Below w1.heap.size w1 wr := hX.below (Nat.le_refl _) (by simp)
  have hsz := hbx.size
  by_cases hlt : q < L
  ·have hs' := hs1.below hbx
   obtain ⟨b4, o4, rfl, hbl, _⟩ := hs'.at_ (by rw [flat_len ptC 3 ptC_len, HLP.out]; omega)
   have hs2 := Cells.two (k := q) hs' (by have := HLP.out; omega)
   have HTq := Lib.hid (fun (W : World) (A : Option Addr) (c B' : Nat) (hw : B' ≤ W.heap.size) (hs : Cells W B' A ([S.ptD LP q, S.ptD LP (q + 1)].flatMap ptC)) => HTW.out _ _ W A c B' hw hs)
   have HSq := Lib.hid (show (S.legsTo LP (q + 1)).flatMap boxC = (S.legsTo LP q).flatMap boxC ++ boxC (S.legB (S.ptD LP q) (S.ptD LP (q + 1))) by rw [HLS.out, List.flatMap_append]; simp)
   generalize S.legB (S.ptD LP q) (S.ptD LP (q + 1)) = X at *
   generalize [S.ptD LP q, S.ptD LP (q + 1)].flatMap ptC = P2 at *
   have hki : (q : Int) + 1 < (L : Int) + 1 := by omega
   have hq6 : q ≤ 6 := by omega
   have hcp : q + 1 + 1 ≤ cw1 := by omega
   have hcpi : (q : Int) + 1 + 1 ≤ (cw1 : Int) := by omega
   have e2 : q + 1 + 1 - q = 2 := by omega
   go_wp2_with (first
    | (go_at_call 127; (with_reducible refine (HTq.out _ _ _ _ (Nat.le_trans (Nat.le_refl _) hsz) hs2).mono ?_); rintro e w2 ⟨rfl, hbw2⟩; obtain ⟨hcw2, hfw2⟩ := bcell hbw2)
    | (at_builtin; refine wpList_push rfl (.tmp 20) (.tmp 28) _ rfl elemBx ((hRW.via hbw2).alloc _) ((Exc.via hbw2 hX).alloc _) (by simp) hbw.size rfl (w2.heap.size) 1 1 [.int .i64 X.lo.x, .int .i64 X.lo.y, .int .i64 X.lo.z, .int .i64 X.hi.x, .int .i64 X.hi.y, .int .i64 X.hi.z] rfl rfl ?_ (by simp [Value.oneCell']) (by unfold maxLen; omega) (by omega) ?_; (· intro j u hu; exact by have := (Cells.newRow w2 #[.int .i64 X.lo.x, .int .i64 X.lo.y, .int .i64 X.lo.z, .int .i64 X.hi.x, .int .i64 X.hi.y, .int .i64 X.hi.z] 122 (0, 0)).get (k := j) (v := u) hu; rwa [Nat.zero_add] at this); intro v' w' hR' hX' hO'))
   obtain ⟨A5, c5, rfl, _, _, _⟩ := own_form hR'.own
   go_roundw
   case rel => exact ⟨q + 1, A5, c5, by omega, by go_num, rfl, by rw [HSq.out]; exact hR', hX'⟩
   case measure => simp [intOf]; omega
  ·have he : q = L := by omega
   subst he
   have hki : ¬ (q : Int) + 1 < (q : Int) + 1 := by omega
   go_wp2
   go_ret
   refine ⟨A3, c3, rfl, ?_, ba_via hbx hbw⟩
   have := hRW.own
   rwa [← HLL.out] at this
structure Rod where
 bar : BarR
 legs : List Bx
 A : Option Addr
 c : Nat
 main : Int
abbrev rodC (r : Rod) : List Value := [.string r.bar.b.mark, .int .i64 r.bar.b.size, .int .i64 r.bar.b.count, .int .i64 r.bar.b.code, .slice r.bar.A r.bar.n r.bar.c, .slice r.A r.legs.length r.c, .int .i64 r.main]
structure RodOk (x : Dt) (i : Nat) (r : Rod) : Prop where
 ex : ∃ k j k0, ∃ hL : Lies x.bs x.rs i k j k0 r.bar, r.legs = S.legsL (S.laidPath r.bar.b (x.rs[k]'hL.st.lt) j)
 main : r.main = idxf r.legs S.isMainB
def LegsAt (w : World) (base : Nat) (v : Value) (r : Rod) : Prop :=
 ∃ (g : Nat) (cur : Array Value) (t : TypeId) (fr : Nat × Nat), r.A = some ⟨g, 0, none⟩ ∧ base ≤ g ∧ v.ownBlock ≠ some g ∧ w.heap[g]? = some (.cells cur t fr) ∧ ∀ (j : Nat) (u : Value), (r.legs.flatMap boxC)[j]? = some u → cur[j]? = some u
structure RodsAt (w : World) (base : Nat) (v : Value) (rs : List Rod) : Prop where
 own : w.ownsRow base 204 7 v rs.length (rs.flatMap rodC)
 each : ∀ r, r ∈ rs → LegsAt w base v r
theorem LegsAt.kept {w w2 : World} {base : Nat} {v : Value} {r : Rod} (h : LegsAt w base v r) (hb : Below w.heap.size w w2) : LegsAt w2 base v r := by
 obtain ⟨g, cur, t, fr, h1, h2, h3, h4, h5⟩ := h
 exact ⟨g, cur, t, fr, h1, h2, h3, (hb.block g (Array.getElem?_eq_some_iff.1 h4).1).trans h4, h5⟩
theorem RodsAt.kept {w w2 : World} {base : Nat} {v : Value} {rs : List Rod} (h : RodsAt w base v rs) (hb : Below w.heap.size w w2) : RodsAt w2 base v rs :=
 ⟨own_kept h.own (fun k hk => hb.block k (h.own.lt k hk).2), fun r hr => (h.each r hr).kept hb⟩
def S.steelArea (d : Int) : Int := (7854 * d * d + 50) / 100
def minBy (K : Int → Int) (xs : List Int) : Int := xs.tail.foldl (fun m a => if K a < K m then a else m) (xs.headD 0)
def BlkE7 (W : World) (g : Nat) (t : TypeId) : Prop := ∃ c0 c1 c2 c3 c4 c5 c6 : Value, Blk W g t #[c0, c1, c2, c3, c4, c5, c6]
theorem BlkE7.newN {W : World} {n : Nat} (hn : W.heap.size = n) (t : TypeId) (c0 c1 c2 c3 c4 c5 c6 : Value) : BlkE7 (W.alloc (.cells #[c0, c1, c2, c3, c4, c5, c6] t)) n t := ⟨c0, c1, c2, c3, c4, c5, c6, Blk.newN hn t _⟩
theorem BlkE7.map {W w : World} {g : Nat} {t : TypeId} (h : BlkE7 W g t) (f : ∀ cs, Blk W g t cs → Blk w g t cs) : BlkE7 w g t := by
 obtain ⟨c0, c1, c2, c3, c4, c5, c6, h⟩ := h
 exact ⟨c0, c1, c2, c3, c4, c5, c6, f _ h⟩
theorem BlkE7.alloc {W : World} {g : Nat} {t : TypeId} (h : BlkE7 W g t) (o : Obj) : BlkE7 (W.alloc o) g t := h.map fun _ h => h.alloc o
theorem BlkE7.drew {W : World} {g : Nat} {t : TypeId} (h : BlkE7 W g t) : BlkE7 W.drew g t := h
theorem BlkE7.via {W w : World} {g : Nat} {t : TypeId} (h : BlkE7 W g t) (hb : Below W.heap.size W w) : BlkE7 w g t := h.map fun _ h => h.via hb
theorem at_load {P : Program} {ops : Array Oper} {Q : Exit → Act → World → Prop} {rest : List Oper} {a : Act} {w : World} (ty : TypeId) (s : Nat) {dst : Option Nat} {t : TypeId} {pos : String} {after : Array Edge}
 (h : wpList P ops Q ({ dst := dst, op := .load ty (.tmp s), type := t, pos := pos, after := after, guard := none } :: rest) a w) : wpList P ops Q ({ dst := dst, op := .load ty (.tmp s), type := t, pos := pos, after := after, guard := none } :: rest) a w := h
theorem Blk.there {w : World} {g : Nat} {t : TypeId} {cs : Array Value} (h : Blk w g t cs) {n : Nat} (hn : n ≤ cs.size) : w.there g 0 n := fun j hj => ⟨by rw [Nat.zero_add, h.cell]; simp; omega, h.frozen _⟩
theorem Blk.put {t : TypeId} {g : Nat} : ∀ (vs : List Value) (o : Nat) (w : World) (cs : Array Value), Blk w g t cs → o + vs.length ≤ cs.size →
 ∃ cs', Blk (w.setCells g o vs) g t cs' ∧ cs'.size = cs.size ∧ ∀ j, cs'[j]? = if o ≤ j ∧ j < o + vs.length then vs[j - o]? else cs[j]? := by
 intro vs
 induction vs with
 | nil => intro o w cs h _; exact ⟨cs, h, rfl, fun j => by rw [if_neg (by simp)]⟩
 | cons v r ih =>
  intro o w cs h hl
  simp only [List.length_cons] at hl
  obtain ⟨cs', h1, h2, h3⟩ := ih (o + 1) _ _ (h.set o v) (by simp; omega)
  refine ⟨cs', h1, by simpa using h2, fun j => ?_⟩
  rw [h3 j, Array.getElem?_setIfInBounds]
  simp only [List.length_cons]
  by_cases e : o = j
  ·subst e
   rw [if_neg (by omega), if_pos rfl, if_pos (by omega), if_pos (by omega), Nat.sub_self]
   rfl
  ·by_cases e2 : o + 1 ≤ j ∧ j < o + 1 + r.length
   ·rw [if_pos e2, if_pos (by omega)]
    obtain ⟨m, rfl⟩ : ∃ m, j = o + 1 + m := ⟨j - (o + 1), by omega⟩
    rw [show o + 1 + m - (o + 1) = m by omega, show o + 1 + m - o = m + 1 by omega]
    rfl
   ·rw [if_neg e2, if_neg e, if_neg (by omega)]
theorem Blk.put0 {t : TypeId} {g : Nat} {w : World} {cs : Array Value} (h : Blk w g t cs) (vs : Array Value) (hl : vs.size = cs.size) : Blk (w.setCells g 0 vs.toList) g t vs := by
 obtain ⟨cs', h1, h2, h3⟩ := Blk.put vs.toList 0 w cs h (by simp; omega)
 have : cs' = vs := by
  apply Array.ext_getElem?
  intro j
  rw [h3 j]
  by_cases hj : j < vs.size
  ·rw [if_pos ⟨by omega, by simpa using hj⟩]
   simp
  ·rw [if_neg (by simp; omega), Array.getElem?_eq_none (by omega), Array.getElem?_eq_none (by omega)]
 rw [this] at h1
 exact h1
set_option maxRecDepth 20000 in
set_option maxHeartbeats 2000000 in
theorem rmain_any (x : Dt) (B : Nat) (w : World) (hB : B ≤ w.heap.size) (hA : DtAt w B x) (h : S.laid (bars x.bs) x.rs = true) (i : Nat) (m : Mn) (hm : (S.mains (bars x.bs) x.rs)[i]? = some m) :
 Calls Tryz.prog 117 #[dtV x, .int .i64 i] w fun e w' => e = .returned (.tuple #[boxV m.leg, .bool m.has]) ∧ Below w.heap.size w w' := by
 obtain ⟨k, j, k0, r, hL⟩ := lies_of h (List.getElem?_eq_some_iff.1 hm).1
 have hmn : m = S.mnOf r.b.size r.b.mark (S.mainLeg (S.laidPath r.b (x.rs[k]'hL.st.lt) j)) := by
  have := hL.st.get
  rw [hm] at this
  injection this
 have HA := Lib.hid hA
 have hl6 := legs_len r.b.code
 have hlp := laidPath_len r.b (x.rs[k]'hL.st.lt) j
 have HLG := Lib.hid (fun (W : World) (hw : B ≤ W.heap.size) (hh : DtAt W B x) => rlegs16_any x.bs x.rs x.bA x.bn x.bc x.rA x.rn x.rc B W hw hh.bars hh.runs i k j k0 r hL _ rfl)
 have hln : (S.legsL (S.laidPath r.b (x.rs[k]'hL.st.lt) j)).length = (S.legsOf r.b.code).length := by rw [S.legsL, legsTo_len, hlp]; rfl
 clear hA hm
 generalize S.laidPath r.b (x.rs[k]'hL.st.lt) j = LP at *
 cases hml : S.mainLeg LP with
 | none =>
  have hid := main_none (by omega) hml
  have HMG := Lib.hid (fun (W : World) (A : Option Addr) (c B' : Nat) (hw : B' ≤ W.heap.size) (hs : Cells W B' A ((S.legsL LP).flatMap boxC)) => hid ▸ mainleg_any A (S.legsOf r.b.code).length c (S.legsL LP) B' W hln (by omega) hw hs)
  rw [hml] at hmn
  subst hmn
  unfold dtV
  go_enter Tryz.func117, Tryz.ntmps117
  go_wp2_with (first
   | (go_at_call 84; (with_reducible refine (HLG.out _ (size_via hB bel) (HA.out.at_ hB bel)).mono ?_); rintro e w1 ⟨Aw1, cw1, rfl, how1, hbw1⟩; obtain ⟨hcw1, hfw1⟩ := bcell hbw1; have hzw1_0 : w.heap.size < w1.heap.size := lt_via hbw1 sz; have hzw1_1 : w.heap.size + 1 < w1.heap.size := lt_via hbw1 sz)
   | (go_at_call 171; (with_reducible refine (HMG.out _ _ _ _ (Nat.le_refl _) (own_cells how1 (by unfold maxLen; omega)).1).mono ?_); rintro e w2 ⟨rfl, hbw2⟩; obtain ⟨hcw2, hfw2⟩ := bcell hbw2; have hzw2_0 : w.heap.size < w2.heap.size := lt_via hbw2 sz; have hzw2_1 : w.heap.size + 1 < w2.heap.size := lt_via hbw2 sz))
  have hbel : Below w.heap.size w w2 := bel
  exact bodyPost_ret (v := .tuple #[.agg #[.int .i64 0, .int .i64 0, .int .i64 0, .int .i64 0, .int .i64 0, .int .i64 0], .bool false]) (by simp [results, Tryz.results117, go_sem, *]) rfl ⟨rfl, ((((((hbel.setCell (Nat.le_succ _) _).setCell (Nat.le_succ _) _).setCell (Nat.le_succ _) _).setCell (Nat.le_succ _) _).setCell (Nat.le_succ _) _).setCell (Nat.le_succ _) _)⟩
 | some b =>
  obtain ⟨jj, hid, hg, hjj⟩ := main_some (by omega) hml
  have HMG := Lib.hid (fun (W : World) (A : Option Addr) (c B' : Nat) (hw : B' ≤ W.heap.size) (hs : Cells W B' A ((S.legsL LP).flatMap boxC)) => hid ▸ mainleg_any A (S.legsOf r.b.code).length c (S.legsL LP) B' W hln (by omega) hw hs)
  rw [hml] at hmn
  subst hmn
  have HG := Lib.hid hg
  have hjl : jj < (S.legsOf r.b.code).length := by omega
  have hji : (jj : Int) < ((S.legsOf r.b.code).length : Int) := by omega
  clear hid hg
  unfold dtV
  go_enter Tryz.func117, Tryz.ntmps117
  go_wp2_with (first
   | (go_at_call 84; (with_reducible refine (HLG.out _ (size_via hB bel) (HA.out.at_ hB bel)).mono ?_); rintro e w1 ⟨Aw1, cw1, rfl, how1, hbw1⟩; obtain ⟨hcw1, hfw1⟩ := bcell hbw1; have hzw1_0 : w.heap.size < w1.heap.size := lt_via hbw1 sz; have hzw1_1 : w.heap.size + 1 < w1.heap.size := lt_via hbw1 sz)
   | (go_at_call 171; (with_reducible refine (HMG.out _ _ _ _ (Nat.le_refl _) (own_cells how1 (by unfold maxLen; omega)).1).mono ?_); rintro e w2 ⟨rfl, hbw2⟩; obtain ⟨hcw2, hfw2⟩ := bcell hbw2
      have hzw2_0 : w.heap.size < w2.heap.size := lt_via hbw2 sz
      have hzw2_1 : w.heap.size + 1 < w2.heap.size := lt_via hbw2 sz
      have hsL := (own_cells how1 (by unfold maxLen; omega)).1
      obtain ⟨b4, o4, rfl, hbl4, hxx⟩ := hsL.at_ (by rw [flat_len boxC 6 boxC_len, hln]; omega)
      clear hxx
      obtain ⟨c0, c1, c2, c3, c4, c5⟩ := hsL.boxes HG.out))
  have hbel : Below w.heap.size w w2 := bel
  exact bodyPost_ret (v := .tuple #[.agg #[.int .i64 b.lo.x, .int .i64 b.lo.y, .int .i64 b.lo.z, .int .i64 b.hi.x, .int .i64 b.hi.y, .int .i64 b.hi.z], .bool true]) (by simp [results, Tryz.results117, go_sem, *]) rfl ⟨rfl, ((((((hbel.setCell (Nat.le_succ _) _).setCell (Nat.le_succ _) _).setCell (Nat.le_succ _) _).setCell (Nat.le_succ _) _).setCell (Nat.le_succ _) _).setCell (Nat.le_succ _) _)⟩
theorem at_loadg {P : Program} {ops : Array Oper} {Q : Exit → Act → World → Prop} {rest : List Oper} {a : Act} {w : World} (ty : TypeId) (s : Nat) {dst : Option Nat} {t : TypeId} {pos : String} {after : Array Edge} {gd : Nat × Bool}
 (h : wpList P ops Q ({ dst := dst, op := .load ty (.tmp s), type := t, pos := pos, after := after, guard := some gd } :: rest) a w) : wpList P ops Q ({ dst := dst, op := .load ty (.tmp s), type := t, pos := pos, after := after, guard := some gd } :: rest) a w := h
end Go.Proofs.YtnmolefblaahmaaGreat
namespace Go.Proofs.YtnmolefblaahmaaGreat
open Go.ChangeShapes Go.WideShapes Go.ChangeAt Go.RowKit
section
variable {H : Type} {enc : TypeId × Value → H} {w : World} {base : Nat} {sp : Nat → Bool} {hd : Bool}
theorem own : ownKnob Tryz.prog.godebug = none := by kernel_rfl
theorem cellsInt : Tryz.prog.cellsOf 3 = 1 := by kernel_rfl
def I64 (n : Int) : Prop := -9223372036854775808 ≤ n ∧ n ≤ 9223372036854775807
theorem opn_int {fuel : Nat} {cs : List Value} {y : Option (DataW H × List MemPlace)} (h : DataW.trod enc Tryz.prog w base sp hd fuel 3 cs = y) (hy : y.isSome = true) : ∃ n, cs = [.int .i64 n] ∧ I64 n := by
 obtain ⟨z, rfl⟩ := Option.isSome_iff_exists.1 hy
 obtain ⟨n, rfl, _, hw⟩ := DataW.trod_int Tryz.underlying3 h
 exact ⟨n, rfl, bounds_i64 hw⟩
structure RuleI (r : Rule) : Prop where
 num : I64 r.num
 den : I64 r.den
 pnum : I64 r.pnum
 pden : I64 r.pden
 bnum : I64 r.bnum
 bden : I64 r.bden
 lnum : I64 r.lnum
 lden : I64 r.lden
 least : I64 r.least
end
end Go.Proofs.YtnmolefblaahmaaGreat
namespace Go.Proofs.YtnmolefblaahmaaGreat
open Go.ChangeShapes Go.WideShapes Go.ChangeAt Go.RowKit
section
variable {H : Type} {enc : TypeId × Value → H} {w : World} {base : Nat} {sp : Nat → Bool} {hd : Bool}
theorem len2 {α : Type} {l : List α} (h : l.length = 2) : ∃ a b, l = [a, b] := by
 match l, h with
 | [a, b], _ => exact ⟨a, b, rfl⟩
structure PtI (p : Pt) : Prop where
 x : I64 p.x
 y : I64 p.y
 z : I64 p.z
structure BxI (b : Bx) : Prop where
 lo : PtI b.lo
 hi : PtI b.hi
theorem opn_rows {α : Type} [Inhabited α] {t e : TypeId} (ht : Tryz.prog.underlying t = some (.slice e)) (enc' : α → List Value) (m : Nat) (hm0 : 0 < m) (hm : ∀ a, (enc' a).length = m) (ce : Tryz.prog.cellsOf e = m) (ok : α → Prop)
 (hop : ∀ {fuel : Nat} {cs : List Value} {y : Option (DataW H × List MemPlace)}, DataW.trod enc Tryz.prog w base sp hd fuel e cs = y → y.isSome = true → ∃ b : α, cs = enc' b ∧ ok b)
 {fuel : Nat} {cs : List Value} {y : Option (DataW H × List MemPlace)} (h : DataW.trod enc Tryz.prog w base sp hd fuel t cs = y) (hy : y.isSome = true) :
 ∃ (A : Option Addr) (n c : Nat) (xs : List α), cs = [.slice A n c] ∧ xs.length = n ∧ n ≤ c ∧ c ≤ maxLen ∧ Cells w w.heap.size A (xs.flatMap enc') ∧ ∀ x, x ∈ xs → ok x := by
 obtain ⟨z, rfl⟩ := Option.isSome_iff_exists.1 hy
 rcases DataW.trod_slice ht h with ⟨rfl, _⟩ | ⟨a, len, cap, elems, rest, n, _, rfl, _, _, hl, hc, hel, hx, _, _⟩
 ·exact ⟨none, 0, 0, [], rfl, rfl, Nat.le_refl _, Nat.zero_le _, .inl rfl, by simp⟩
 ·rw [ce] at hx
  have each : ∀ i, i < len → ∃ b : α, ok b ∧ ∀ j, j < m → w.cell? (a.add (i * m + j)) = (enc' b)[j]? := by
   intro i hi
   have h1 := hx i hi
   have h2 : elems[i]?.isSome = true := by simp [hel, hi]
   obtain ⟨q, hq⟩ := Option.isSome_iff_exists.1 h2
   rw [hq] at h1
   obtain ⟨cs', g1, g2⟩ := Option.bind_eq_some_iff.1 h1
   obtain ⟨_, _, hcell⟩ := World.cells?_some g1
   obtain ⟨b, rfl, hb⟩ := hop g2 rfl
   refine ⟨b, hb, fun j hj => ?_⟩
   rw [← Go.Deep.add_add]
   exact hcell j hj
  obtain ⟨q, hq⟩ := Go.Deep.choose_lt each
  refine ⟨some a, len, cap, (List.range len).map q, rfl, by simp, hl, hc, ?_, fun x hx => ?_⟩
  ·by_cases h0 : len = 0
   ·left; simp [h0]
   ·right
    have h1 := (hq 0 (by omega)).2 0 hm0
    rw [List.getElem?_eq_getElem (by rw [hm]; exact hm0)] at h1
    have hsp : a.spot = none := by
     unfold World.cell? at h1
     split at h1
     ·split at h1
      ·cases h1
      ·rename_i hn
       simpa [Addr.add] using hn
     ·cases h1
    have hlt : a.block < w.heap.size := by
     unfold World.cell? at h1
     split at h1
     ·rename_i hh
      have hh2 := (Array.getElem?_eq_some_iff.1 hh).1
      simpa [Addr.add] using hh2
     ·cases h1
    obtain ⟨bb, o, s⟩ := a
    cases hsp
    refine ⟨bb, o, rfl, hlt, fun j v hv => ?_⟩
    have hjl := (List.getElem?_eq_some_iff.1 hv).1
    rw [flat_len enc' m hm] at hjl
    have hj : j < len * m := by simpa using hjl
    have hk : j / m < len := (Nat.div_lt_iff_lt_mul hm0).2 hj
    have hr : j % m < m := Nat.mod_lt _ hm0
    have hd := Nat.div_add_mod j m
    have hjm : j / m * m + j % m = j := by rw [Nat.mul_comm]; exact hd
    have h2 := (hq (j / m) hk).2 (j % m) hr
    have h3 := flat_get enc' m hm ((List.range len).map q) (j / m) (by simpa using hk) (j % m) hr
    rw [hjm] at h2 h3
    rw [h3] at hv
    have e : (Addr.add ⟨bb, o, none⟩ j) = ⟨bb, o + j, none⟩ := by unfold Addr.add; split <;> simp_all
    rw [e] at h2
    rw [h2, ← hv]
    simp
  ·obtain ⟨i, hi, rfl⟩ := List.mem_map.1 hx
   exact (hq i (List.mem_range.1 hi)).1
structure MemI (m : Mem) : Prop where
 name : m.name.size ≤ 9223372036854775807
 boxes : ∀ x, x ∈ m.boxes → BxI x
 holes : ∀ x, x ∈ m.holes → BxI x
 cover : I64 m.cover
 aggr : I64 m.aggr
 poker : I64 m.poker
end
end Go.Proofs.YtnmolefblaahmaaGreat
namespace Go.Proofs.YtnmolefblaahmaaGreat
open Go.ChangeShapes Go.WideShapes Go.ChangeAt Go.RowKit
section
variable {H : Type} {enc : TypeId × Value → H} {w : World} {base : Nat} {sp : Nat → Bool} {hd : Bool}
structure BarI (b : Bar) : Prop where
 size : I64 b.size
 count : I64 b.count
 code : I64 b.code
 dims : ∀ x, x ∈ b.dims → I64 x
end
end Go.Proofs.YtnmolefblaahmaaGreat
namespace Go.Proofs.YtnmolefblaahmaaGreat
open Go.ChangeShapes Go.WideShapes Go.ChangeAt Go.RowKit
section
variable {H : Type} {enc : TypeId × Value → H} {w : World} {base : Nat} {sp : Nat → Bool} {hd : Bool}
instance : Inhabited Sp := ⟨⟨0, 0⟩⟩
structure SpI (s : Sp) : Prop where
 lo : I64 s.lo
 hi : I64 s.hi
end
end Go.Proofs.YtnmolefblaahmaaGreat
