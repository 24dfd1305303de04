/- Contract: points of the reference for layer 16. The legs of a laid bar as boxes; its main leg among them (no walk). Contracts: the hull of a solid and poor bond in the reference. Plain: the sizes of b -/
import Derived.Test.YtffkmgjmlahfpaaGreatPY
import Derived.Test.YtffkmgjmlahfpaaGreatPAB
import Derived.Test.YtffkmgjmlahfpaaGreatPR
import Derived.Test.YtffkmgjmlahfpaaGreatPP
import Derived.Test.YtffkmgjmlahfpaaGreatPX
import Derived.Test.YtffkmgjmlahfpaaGreatPQ
import Derived.Test.YtffkmgjmlahfpaaGreatPAA
import Derived.Test.YtffkmgjmlahfpaaGreatPG
set_option linter.unusedVariables false
set_option linter.unusedSimpArgs false
namespace Go.Proofs.YtffkmgjmlahfpaaGreat
open Go.RowKit
theorem path_in {b : Bar} (h : S.bar b = true) {i : Nat} {p : Pt} (hp : (S.path b)[i]? = some p) : S.near1 p 1048576 = true := by
  obtain ⟨hi, rfl⟩ := List.getElem?_eq_some_iff.1 hp
  exact near_in (path_near h) hi
theorem laidPath_len (b : Bar) (r : Rn) (k : Nat) : (S.laidPath b r k).length = (S.legsOf b.code).length + 1 := by
  unfold S.laidPath; rw [List.length_map, path_len]
theorem plus_times (a s : Pt) (k : Int) : S.padd a (S.times k s) = S.plus a s k := rfl
theorem times_lim {n : Int} {p : Pt} (hn : 0 ≤ n ∧ n ≤ 1000) (hp : S.near1 p 2097152 = true) : S.near1 (S.times n p) 2097152000 = true := by
  obtain ⟨hx, hy, hz⟩ := near1_out hp
  have hm : ∀ q : Int, -2097152 ≤ q ∧ q ≤ 2097152 → -2097152000 ≤ n * q ∧ n * q ≤ 2097152000 := fun q hq => by
    have h1 : n * q ≤ n * 2097152 := Int.mul_le_mul_of_nonneg_left hq.2 hn.1
    have h2 : n * (-2097152) ≤ n * q := Int.mul_le_mul_of_nonneg_left hq.1 hn.1
    omega
  have a1 := hm _ hx
  have a2 := hm _ hy
  have a3 := hm _ hz
  rw [show S.times n p = ⟨n * p.x, n * p.y, n * p.z⟩ from rfl]
  simp only [S.near1, Bool.and_eq_true, decide_eq_true_eq]
  generalize n * p.x = u1 at *
  generalize n * p.y = u2 at *
  generalize n * p.z = u3 at *
  omega
theorem Exc.of_below1 {M : List Nat} {W w : World} (h : Below W.heap.size W w) : Exc M W w := ⟨h.os, h.tape, h.output, h.size, fun k hk _ => h.block k hk⟩
set_option maxRecDepth 20000 in
set_option maxHeartbeats 4000000 in
theorem rpoints_any (b : Bar) (r : Rn) (k0 : Nat) (A : Option Addr) (n c : Nat) (B : Nat) (w : World) (hB : B ≤ w.heap.size) (hA : BarAt w B A n b) (h : S.bar b = true) (ht : S.turn r.tx r.ty = true) (ha : S.near1 r.at_ 1048576 = true)
    (hk0 : k0 ≤ 1000) (hst : 0 < k0 → S.near1 r.step 2097152 = true) (L : Nat) (hL : (S.legsOf b.code).length = L) :
    Calls Tryz.prog 179 #[barV b A n c, rnV r, .int .i64 k0] w (GivesOne 87 3 (L + 1) ((S.laidPath b r k0).flatMap ptC) w) := by
  have HP := Lib.hid (fun (W : World) (hw : B ≤ W.heap.size) (hh : BarAt W B A n b) => rpath_yes b A n c B W hw hh h L hL)
  have HA := Lib.hid hA
  have hl6 := legs_len b.code
  rw [hL] at hl6
  have HLP := Lib.hid (show (S.path b).length = L + 1 by rw [path_len, hL])
  have HPI := Lib.hid (fun (i : Nat) (p : Pt) (hp : (S.path b)[i]? = some p) => path_in h hp)
  have HIM := Lib.hid (fun (p : Pt) (hp : S.near1 p 1048576 = true) (w : World) => rimage_any r.tx r.ty ht p hp w)
  have hAT : S.near1 (S.plus r.at_ r.step k0) 2098200576 = true := by
    by_cases hk : 0 < k0
    · have := padd_near ha (times_lim (n := k0) (by omega) (hst hk))
      exact near1_mono0 this (by omega)
    · have : k0 = 0 := by omega
      subst this
      have e : S.plus r.at_ r.step ((0 : Nat) : Int) = r.at_ := by simp [S.plus]
      rw [e]
      exact near1_mono0 ha (by omega)
  have HPL := Lib.hid (fun (p : Pt) (hp : S.near1 p 1048576 = true) (w : World) => rplus_any (S.plus r.at_ r.step k0) (S.image r.tx r.ty p) (near1_mono0 (padd_near hAT (image_near ht hp)) (by omega)) w)
  have HLD := Lib.hid (show S.laidPath b r k0 = (S.path b).map (fun p => S.padd (S.plus r.at_ r.step k0) (S.image r.tx r.ty p)) from rfl)
  have HTM := Lib.hid (fun (hk : 0 < k0) (w : World) => rtimes16_any r.step k0 (near1_mono0 (times_lim (n := k0) (by omega) (hst hk)) (by omega)) w)
  have HAD := Lib.hid (fun (hk : 0 < k0) (w : World) => rplus_any r.at_ (S.times k0 r.step) (near1_mono0 (padd_near ha (times_lim (n := k0) (by omega) (hst hk))) (by omega)) w)
  have HZ := Lib.hid (fun (hk : ¬ 0 < k0) => show S.plus r.at_ r.step k0 = r.at_ by
    have : k0 = 0 := by omega
    subst this
    simp [S.plus])
  clear hA h ht ha hst hL hAT
  rw [HLD.out]
  unfold ptV at HIM HPL HTM HAD
  unfold turnV at HIM
  unfold barV at HP
  unfold barV rnV
  go_enter Tryz.func179, Tryz.ntmps179
  go_upto_region 3 with (first
    | (go_at_call 234; (with_reducible refine (HP.out _ (size_via hB bel) (HA.out.at_ hB bel)).mono ?_); rintro e w1 ⟨Aw1, cw1, rfl, how1, hbw1⟩; obtain ⟨hcw1, hfw1⟩ := bcell hbw1; have hzw1_0 : w.heap.size < w1.heap.size := lt_via hbw1 (by first | omega | (simp; done) | (simp; omega)); have hzw1_1 : w.heap.size + 1 < w1.heap.size := lt_via hbw1 (by first | omega | (simp; done) | (simp; omega))))
  have hbel1 : Below w.heap.size w w1 := bel
  have hK1 : Blk (w1.alloc (.cells #[.int .i64 r.at_.x, .int .i64 r.at_.y, .int .i64 r.at_.z] 87)) w1.heap.size 87 #[.int .i64 r.at_.x, .int .i64 r.at_.y, .int .i64 r.at_.z] := Blk.new _ _ _
  have hRB1 : Blk (w1.alloc (.cells #[.int .i64 r.at_.x, .int .i64 r.at_.y, .int .i64 r.at_.z] 87)) (w.heap.size + 1) 183 #[.string r.mark, .int .i64 r.tx, .int .i64 r.ty, .int .i64 r.at_.x, .int .i64 r.at_.y, .int .i64 r.at_.z, .int .i64 r.step.x, .int .i64 r.step.y, .int .i64 r.step.z, .int .i64 r.count] :=
    (Blk.via (by simpa using Blk.new (w.alloc (.cells #[.string b.mark, .int .i64 b.size, .int .i64 b.count, .int .i64 b.code, .slice A n c] 158)) 183 #[.string r.mark, .int .i64 r.tx, .int .i64 r.ty, .int .i64 r.at_.x, .int .i64 r.at_.y, .int .i64 r.at_.z, .int .i64 r.step.x, .int .i64 r.step.y, .int .i64 r.step.z, .int .i64 r.count]) hbw1).alloc _
  have hsP := ((own_cells how1 (by unfold maxLen; omega)).1).alloc (Nat.le_refl _) (.cells #[.int .i64 r.at_.x, .int .i64 r.at_.y, .int .i64 r.at_.z] 87)
  have hbel : Below w.heap.size w (w1.alloc (.cells #[.int .i64 r.at_.x, .int .i64 r.at_.y, .int .i64 r.at_.z] 87)) := ba_alloc hbel1 _
  have hz11 : w1.heap.size < (w1.alloc (.cells #[.int .i64 r.at_.x, .int .i64 r.at_.y, .int .i64 r.at_.z] 87)).heap.size := by simp
  clear hcw1 hfw1 how1 hbw1 HP HA
  generalize (w1.alloc (.cells #[.int .i64 r.at_.x, .int .i64 r.at_.y, .int .i64 r.at_.z] 87)) = W1 at *
  have hrl := hRB1.lt
  by_cases hk : 0 < k0
  case' pos =>
    have hki : (0 : Int) < (k0 : Int) := by omega
    have HTMk := Lib.hid (HTM.out hk)
    have HADk := Lib.hid (HAD.out hk)
    have r6 := hRB1.cell 6
    have r7 := hRB1.cell 7
    have r8 := hRB1.cell 8
    have q0 := hK1.cell 0
    have q1 := hK1.cell 1
    have q2 := hK1.cell 2
    simp only [List.getElem?_toArray, List.getElem?_cons_zero, List.getElem?_cons_succ] at r6 r7 r8 q0 q1 q2
    have f0 := hK1.frozen 0
    have f1 := hK1.frozen 1
    have f2 := hK1.frozen 2
    rw [plus_times] at HADk
    generalize S.times k0 r.step = T at *
    generalize hQ : S.plus r.at_ r.step k0 = Q at *
    have HQ := Lib.hid hQ
    clear hQ
    go_wp2
    refine wp_region_grow_tail 6 (by kernel_rfl) (by kernel_rfl) ?_
    simp only [List.take_succ_cons, List.take_zero, List.drop_succ_cons, List.drop_zero]
    repeat (go_big_quiet_step ((first
      | (go_at_call 236; with_reducible exact grow_of (HTMk.out _))
      | (go_at_call 235; with_reducible exact grow_of (HADk.out _)))))
    all_goals (refine wpQuiet_nil ?_; intro wg hbwg; obtain ⟨hcwg, hfwg⟩ := bcell hbwg)
    go_upto_region 5 with fail
    have hK2 : Blk (((wg.setCell ⟨w1.heap.size, 0, none⟩ (.int .i64 Q.x)).setCell ⟨w1.heap.size, 1, none⟩ (.int .i64 Q.y)).setCell ⟨w1.heap.size, 2, none⟩ (.int .i64 Q.z)) w1.heap.size 87 #[.int .i64 Q.x, .int .i64 Q.y, .int .i64 Q.z] := by
      have h6 := (((hK1.via hbwg).set 0 (.int .i64 Q.x)).set 1 (.int .i64 Q.y)).set 2 (.int .i64 Q.z)
      simp only [List.setIfInBounds_toArray, List.set_cons_zero, List.set_cons_succ] at h6
      exact h6
    have hne : w.heap.size + 1 ≠ w1.heap.size := by omega
    have hRB2 : Blk (((wg.setCell ⟨w1.heap.size, 0, none⟩ (.int .i64 Q.x)).setCell ⟨w1.heap.size, 1, none⟩ (.int .i64 Q.y)).setCell ⟨w1.heap.size, 2, none⟩ (.int .i64 Q.z)) (w.heap.size + 1) 183 #[.string r.mark, .int .i64 r.tx, .int .i64 r.ty, .int .i64 r.at_.x, .int .i64 r.at_.y, .int .i64 r.at_.z, .int .i64 r.step.x, .int .i64 r.step.y, .int .i64 r.step.z, .int .i64 r.count] := (((hRB1.via hbwg).far hne _).far hne _).far hne _
    have hX2 : Exc [w1.heap.size] W1 (((wg.setCell ⟨w1.heap.size, 0, none⟩ (.int .i64 Q.x)).setCell ⟨w1.heap.size, 1, none⟩ (.int .i64 Q.y)).setCell ⟨w1.heap.size, 2, none⟩ (.int .i64 Q.z)) := (((Exc.of_below1 hbwg).set (.inl (by simp)) _).set (.inl (by simp)) _).set (.inl (by simp)) _
    have hb2 : Below w.heap.size w (((wg.setCell ⟨w1.heap.size, 0, none⟩ (.int .i64 Q.x)).setCell ⟨w1.heap.size, 1, none⟩ (.int .i64 Q.y)).setCell ⟨w1.heap.size, 2, none⟩ (.int .i64 Q.z)) := hbel.trans (hX2.below hbel.size (by intro g hg; simp at hg; have := hbel1.size; omega))
    have hs2 := hsP.below (hX2.below (B := w1.heap.size) (by omega) (by intro g hg; simp at hg; omega))
    have hz2 : w1.heap.size < (((wg.setCell ⟨w1.heap.size, 0, none⟩ (.int .i64 Q.x)).setCell ⟨w1.heap.size, 1, none⟩ (.int .i64 Q.y)).setCell ⟨w1.heap.size, 2, none⟩ (.int .i64 Q.z)).heap.size := hK2.lt
    clear hcwg hfwg r6 r7 r8 q0 q1 q2 f0 f1 f2 HTMk HADk hK1 hRB1 hX2
    clear hbwg hsP
    generalize (((wg.setCell ⟨w1.heap.size, 0, none⟩ (.int .i64 Q.x)).setCell ⟨w1.heap.size, 1, none⟩ (.int .i64 Q.y)).setCell ⟨w1.heap.size, 2, none⟩ (.int .i64 Q.z)) = W2 at *
  case' neg =>
    have hb2 := hbel
    have hz2 := hz11
    have hK2 := hK1
    have hRB2 := hRB1
    have hs2 := hsP
    rw [← HZ.out hk] at hK2
    clear hK1 hRB1 hbel hsP
    generalize hQ : S.plus r.at_ r.step k0 = Q at *
    have HQ := Lib.hid hQ
    clear hQ
    generalize W1 = W2 at *
    have hki : ¬ (0 : Int) < (k0 : Int) := by omega
  all_goals (
    have hHL := Lib.hid (show ∀ i (p : Pt), (S.path b)[i]? = some p → (((S.path b).take (i + 1)).map (fun p => S.padd Q (S.image r.tx r.ty p))).flatMap ptC = (((S.path b).take i).map (fun p => S.padd Q (S.image r.tx r.ty p))).flatMap ptC ++ ptC (S.padd Q (S.image r.tx r.ty p)) from fun i p hp => by
      obtain ⟨hi, rfl⟩ := List.getElem?_eq_some_iff.1 hp
      rw [List.take_succ_eq_append_getElem hi, List.map_append, List.flatMap_append]
      simp)
    have hL6 := hl6
    have hrl2 := hRB2.lt
    go_wp2
    go_loopw [9, 10] (fun v i wr => ∃ (k : Nat) (A3 : Option Addr) (c3 : Nat), k ≤ L + 1 ∧ i = .int .i64 k ∧ v = .slice A3 k c3 ∧ Row W2 wr none w.heap.size 87 3 (.slice A3 k c3) k ((((S.path b).take k).map (fun p => S.padd Q (S.image r.tx r.ty p))).flatMap ptC) ∧ Exc [] W2 wr) (fun _ i _ => L + 1 - (intOf i).toNat)
    case atStart => exact ⟨0, none, 0, Nat.zero_le _, rfl, rfl, by simpa using Row.none_ _ _ _ _, Exc.refl _ _⟩
    case round =>
      obtain ⟨k, A3, c3, hk, rfl, rfl, hR, hX⟩ := hrel
      have hbx : Below W2.heap.size W2 wr := hX.below (Nat.le_refl _) (by simp)
      by_cases hlt : k < L + 1
      · have hkx : k < (S.path b).length := by have := HLP.out; omega
        have hs' := hs2.below (hbx.mono (Nat.le_of_lt hz2))
        obtain ⟨b4, o4, rfl, hbl, _⟩ := hs'.at_ (by rw [flat_len ptC 3 ptC_len]; omega)
        obtain ⟨c0, c1, c2⟩ := hs'.pts (List.getElem?_eq_getElem hkx)
        have HT := Lib.hid (hHL.out k _ (List.getElem?_eq_getElem hkx))
        have hpi := HPI.out k _ (List.getElem?_eq_getElem hkx)
        have HIMk := Lib.hid (HIM.out _ hpi)
        have HPLk := Lib.hid (HPL.out _ hpi)
        clear hs' hpi
        generalize (S.path b)[k] = p at *
        generalize S.image r.tx r.ty p = I at *
        generalize S.padd Q I = R at *
        have hsz := hbx.size
        have q0 := (hK2.via hbx).cell 0
        have q1 := (hK2.via hbx).cell 1
        have q2 := (hK2.via hbx).cell 2
        have r1 := (hRB2.via hbx).cell 1
        have r2 := (hRB2.via hbx).cell 2
        simp only [List.getElem?_toArray, List.getElem?_cons_zero, List.getElem?_cons_succ] at q0 q1 q2 r1 r2
        have hl1 : b4 < wr.heap.size := by omega
        have hl2 : w1.heap.size < wr.heap.size := by omega
        have hl3 : w.heap.size + 1 < wr.heap.size := by omega
        have hki : (k : Int) < ((L + 1 : Nat) : Int) := by omega
        have hk8 : k ≤ 8 := by omega
        go_wp2
        refine wp_region_grow_tail1 10 (by kernel_rfl) (by kernel_rfl) (fun _ _ _ h => h) (Or.inl ⟨by rfl, fun _ => by rfl⟩) ?_
        simp only [List.take_succ_cons, List.take_zero, List.drop_succ_cons, List.drop_zero, go_sem, List.setIfInBounds_toArray, List.set_cons_succ, List.set_cons_zero, Array.getD_eq_getD_getElem?, List.getElem?_toArray, List.getElem?_cons_succ, List.getElem?_cons_zero, Option.getD_some]
        repeat (go_big_quiet_step ((first
          | (go_at_call 237; with_reducible exact grow_of (HIMk.out _))
          | (go_at_call 235; with_reducible exact grow_of (HPLk.out _)))))
        all_goals (refine wpQuiet_nil ?_; intro wg hbwg; obtain ⟨hcwg, hfwg⟩ := bcell hbwg)
        go_wp2_with (at_builtin; refine wpList_push rfl (.tmp 29) (.tmp 39) _ rfl elemPt ((hR.via hbwg).alloc _) ((Exc.via hbwg hX).alloc _) (by simp) hb2.size rfl (wg.heap.size) 1 1 [.int .i64 R.x, .int .i64 R.y, .int .i64 R.z] rfl rfl ?_ (by simp [Value.oneCell']) (by unfold maxLen; omega) (by omega) ?_; (· intro j u hu; exact by have := (Cells.newRow wg #[.int .i64 R.x, .int .i64 R.y, .int .i64 R.z] 87 (0, 0)).get (k := j) (v := u) hu; rwa [Nat.zero_add] at this); intro v' w' hR' hX' hO'; clear hcwg hfwg)
        obtain ⟨A5, c5, rfl, _, _, _⟩ := own_form hR'.own
        go_roundw
        case rel => exact ⟨k + 1, A5, c5, by omega, by go_num, rfl, by rw [HT.out]; exact hR', hX'⟩
        case measure => simp [intOf]; omega
      · have he : k = L + 1 := by omega
        have HT := Lib.hid (show (S.path b).take k = S.path b from List.take_of_length_le (by have := HLP.out; omega))
        subst he
        go_wp2
        go_ret
        refine ⟨A3, c3, rfl, ?_, ba_via hbx hb2⟩
        have := hR.own
        rw [HT.out, ← HQ.out] at this
        exact this)
def S.legB (p q : Pt) : Bx := S.join (S.ptBox p) (S.ptBox q)
def S.ptD (l : List Pt) (k : Nat) : Pt := (l[k]?).getD ⟨0, 0, 0⟩
def S.legsTo (l : List Pt) (m : Nat) : List Bx := (List.range m).map fun k => S.legB (S.ptD l k) (S.ptD l (k + 1))
def S.legsL (l : List Pt) : List Bx := S.legsTo l (l.length - 1)
theorem legsTo_len (l : List Pt) (m : Nat) : (S.legsTo l m).length = m := by simp [S.legsTo]
theorem legsTo_snoc (l : List Pt) (m : Nat) : S.legsTo l (m + 1) = S.legsTo l m ++ [S.legB (S.ptD l m) (S.ptD l (m + 1))] := by simp [S.legsTo, List.range_succ]
theorem hull_two (p q : Pt) : S.hull (S.ptBox p) [S.ptBox p, S.ptBox q] = S.legB p q := by
  show S.join (S.join (S.ptBox p) (S.ptBox p)) (S.ptBox q) = _
  rw [join_self]
  rfl
theorem mnmx_eq (p q : Int) : (if q < p then q else p) = (if p < q then q else p) ↔ p = q := by
  split <;> split <;> omega
theorem mnmx_lt (p q : Int) : (if q < p then q else p) < (if p < q then q else p) ↔ p ≠ q := by
  split <;> split <;> omega
theorem isMainB_iff {b : Bx} : S.isMainB b = true ↔ b.lo.x < b.hi.x ∧ b.lo.y = b.hi.y ∧ b.lo.z = b.hi.z := by simp [S.isMainB, and_assoc]
theorem isMain_iff2 {p q : Pt} : S.isMain p q = true ↔ p.x ≠ q.x ∧ p.y = q.y ∧ p.z = q.z := by simp [S.isMain, and_assoc]
theorem legB_main (p q : Pt) : S.isMainB (S.legB p q) = S.isMain p q := by
  rw [Bool.eq_iff_iff, isMainB_iff, isMain_iff2]
  show (if q.x < p.x then q.x else p.x) < (if p.x < q.x then q.x else p.x) ∧ (if q.y < p.y then q.y else p.y) = (if p.y < q.y then q.y else p.y) ∧ (if q.z < p.z then q.z else p.z) = (if p.z < q.z then q.z else p.z) ↔ _
  rw [mnmx_lt, mnmx_eq, mnmx_eq]
theorem legB_box {p q : Pt} (h : S.isMain p q = true) : S.legB p q = S.legBx p q := by
  simp only [S.isMain, Bool.and_eq_true, decide_eq_true_eq, bne_iff_ne] at h
  obtain ⟨⟨h1, h2⟩, h3⟩ := h
  obtain ⟨px, py, pz⟩ := p
  obtain ⟨qx, qy, qz⟩ := q
  simp only [] at h1 h2 h3
  subst h2 h3
  simp only [S.legB, S.join, S.ptBox, S.legBx, S.lmn, S.lmx, Bx.mk.injEq, Pt.mk.injEq]
  simp
  exact ⟨rfl, rfl⟩
theorem mainTo_leg {l : List Pt} : ∀ {m : Nat}, m < l.length → (S.mainTo l m = none → ∀ k, k < m → S.isMainB (S.legB (S.ptD l k) (S.ptD l (k + 1))) = false) ∧
    (∀ b, S.mainTo l m = some b → ∃ j, j < m ∧ S.legB (S.ptD l j) (S.ptD l (j + 1)) = b ∧ S.isMainB b = true ∧ ∀ k, k < j → S.isMainB (S.legB (S.ptD l k) (S.ptD l (k + 1))) = false) := by
  intro m
  induction m with
  | zero => intro _; exact ⟨fun _ k hk => absurd hk (by omega), fun b h => by simp [S.mainTo] at h⟩
  | succ m ih =>
    intro hm
    obtain ⟨ih1, ih2⟩ := ih (by omega)
    have hp : l[m]? = some (S.ptD l m) := by simp [S.ptD, List.getElem?_eq_getElem (show m < l.length by omega)]
    have hq : l[m + 1]? = some (S.ptD l (m + 1)) := by simp [S.ptD, List.getElem?_eq_getElem hm]
    cases hc : S.mainTo l m with
    | some b =>
      have hs := mainTo_stay hc (m + 1) (by omega)
      refine ⟨fun h => (by rw [hs] at h; cases h), fun b' h => ?_⟩
      rw [hs] at h
      injection h with h
      subst h
      obtain ⟨j, h1, h2⟩ := ih2 b hc
      exact ⟨j, by omega, h2⟩
    | none =>
      have hs := mainTo_succ hc hp hq
      have hno := ih1 hc
      by_cases hx : S.isMain (S.ptD l m) (S.ptD l (m + 1)) = true
      · rw [if_pos hx] at hs
        refine ⟨fun h => (by rw [hs] at h; cases h), fun b h => ?_⟩
        rw [hs] at h
        injection h with h
        subst h
        exact ⟨m, by omega, legB_box hx, by rw [← legB_box hx, legB_main]; exact hx, hno⟩
      · rw [if_neg hx] at hs
        refine ⟨fun _ k hk => ?_, fun b h => by rw [hs] at h; cases h⟩
        by_cases hkm : k = m
        · subst hkm; rw [legB_main]; simpa using hx
        · exact hno k (by omega)
theorem legsL_get {l : List Pt} {k : Nat} (hk : k < l.length - 1) : (S.legsL l)[k]? = some (S.legB (S.ptD l k) (S.ptD l (k + 1))) := by
  unfold S.legsL S.legsTo
  rw [List.getElem?_map, List.getElem?_range hk]
  rfl
theorem main_none {l : List Pt} (hl : 0 < l.length) (h : S.mainLeg l = none) : idxf (S.legsL l) S.isMainB = -1 := by
  have h1 := (mainTo_leg (l := l) (m := l.length - 1) (by omega)).1 h
  refine idxf_miss (fun j hj => ?_)
  have hj' : j < l.length - 1 := by simpa [S.legsL, legsTo_len] using hj
  have := legsL_get hj'
  rw [List.getElem?_eq_getElem hj] at this
  injection this with this
  rw [this]
  exact h1 j hj'
theorem main_some {l : List Pt} {b : Bx} (hl : 0 < l.length) (h : S.mainLeg l = some b) : ∃ j : Nat, idxf (S.legsL l) S.isMainB = (j : Int) ∧ (S.legsL l)[j]? = some b ∧ j < l.length - 1 := by
  obtain ⟨j, hj, h1, h2, h3⟩ := (mainTo_leg (l := l) (m := l.length - 1) (by omega)).2 b h
  have hg := legsL_get hj
  obtain ⟨hj', he⟩ := List.getElem?_eq_some_iff.1 hg
  refine ⟨j, idxf_hit hj' (by rw [he, h1]; exact h2) (fun k hk hkj => ?_), by rw [hg, h1], hj⟩
  have hk' : k < l.length - 1 := by omega
  have := legsL_get hk'
  rw [List.getElem?_eq_getElem hk] at this
  injection this with this
  rw [this]
  exact h3 k hkj
set_option maxHeartbeats 1000000 in
theorem rshull_yes (A : Option Addr) (n c : Nat) (A' : Option Addr) (n' c' : Nat) (xs hs : List Bx) (x0 : Bx) (B : Nat) (w : World) (hB : B ≤ w.heap.size) (hA : SolAt w B A n A' n' xs hs) (hn : n ≤ 1000000) (h0 : xs[0]? = some x0) :
    Calls Tryz.prog 130 #[solV A n c A' n' c'] w fun e w' => e = .returned (boxV (S.hull x0 xs)) ∧ Below w.heap.size w w' := by
  have HA := Lib.hid hA
  have HH := Lib.hid (fun (W : World) (hw : B ≤ W.heap.size) (hh : Cells W B A (xs.flatMap boxC)) => rbhull_yes A n c xs x0 B W HA.out.len hn hw hh h0)
  clear hA
  generalize S.hull x0 xs = X at *
  unfold solV
  go_enter Tryz.func130, Tryz.ntmps130
  go_wp2_with (go_at_call 192; (with_reducible refine (HH.out _ (size_via hB bel) (SolAt.at_ HA.out hB bel).cells).mono ?_); rintro e w2 ⟨rfl, hbw2⟩; obtain ⟨hcw2, hfw2⟩ := bcell hbw2; have hzw2_0 : w.heap.size < w2.heap.size := lt_via hbw2 (by first | omega | (simp; done) | (simp; omega)); have hzw2_1 : w.heap.size + 1 < w2.heap.size := lt_via hbw2 (by first | omega | (simp; done) | (simp; omega)))
  have hbel : Below w.heap.size w w2 := bel
  have hRs : Blk w2 (w.heap.size + 1) 89 #[.int .i64 0, .int .i64 0, .int .i64 0, .int .i64 0, .int .i64 0, .int .i64 0] := Blk.via (by simpa using Blk.new (w.alloc (.cells #[.slice A n c, .slice A' n' c'] 24)) 89 #[.int .i64 0, .int .i64 0, .int .i64 0, .int .i64 0, .int .i64 0, .int .i64 0]) hbw2
  have z0 := hRs.cell 0
  have z1 := hRs.cell 1
  have z2 := hRs.cell 2
  have z3 := hRs.cell 3
  have z4 := hRs.cell 4
  have z5 := hRs.cell 5
  simp only [List.getElem?_toArray, List.getElem?_cons_zero, List.getElem?_cons_succ] at z0 z1 z2 z3 z4 z5
  exact bodyPost_ret (v := boxV X) (by simp [results, Tryz.results130, go_sem, *]) rfl ⟨rfl, ((((((hbel.setCell (Nat.le_succ _) _).setCell (Nat.le_succ _) _).setCell (Nat.le_succ _) _).setCell (Nat.le_succ _) _).setCell (Nat.le_succ _) _).setCell (Nat.le_succ _) _)⟩
theorem rpoor_yes (m : Mem) (leg : Bx) (A : Option Addr) (n c : Nat) (A' : Option Addr) (n' c' : Nat) (B : Nat) (w : World) (hB : B ≤ w.heap.size) (hA : SolAt w B A n A' n' m.boxes m.holes) (h : S.solid m.boxes m.holes = true) (hl : S.boxOk leg = true) :
    Calls Tryz.prog 73 #[memV m A n c A' n' c', boxV leg] w fun e w' => e = .returned (.bool (S.poor m.boxes leg)) ∧ Below w.heap.size w w' := by
  have HA := Lib.hid hA
  have hn20 : n ≤ 20 := by
    have h1 := hA.len
    simp only [S.solid, Bool.and_eq_true, decide_eq_true_eq] at h
    omega
  obtain ⟨hok, hlen⟩ := solid_ok h
  have h0 : m.boxes[0]? = some (m.boxes.headD ⟨⟨0, 0, 0⟩, ⟨0, 0, 0⟩⟩) := by
    cases hb : m.boxes with
    | nil => rw [hb] at hlen; simp at hlen
    | cons x l => rfl
  have hz := boxOk_z hl
  have hin := hull_lo_in (m.boxes.headD ⟨⟨0, 0, 0⟩, ⟨0, 0, 0⟩⟩) m.boxes (by have := boxOk_z (boxes_ok hok _ (List.mem_of_getElem? h0)); omega) (fun b hb => by have := boxOk_z (boxes_ok hok b hb); omega)
  have HP := Lib.hid (show S.poor m.boxes leg = decide (250 < leg.lo.z - (S.hull (m.boxes.headD ⟨⟨0, 0, 0⟩, ⟨0, 0, 0⟩⟩) m.boxes).lo.z) from rfl)
  have HH := Lib.hid (fun (W : World) (hw : B ≤ W.heap.size) (hh : SolAt W B A n A' n' m.boxes m.holes) => rshull_yes A n c A' n' c' m.boxes m.holes _ B W hw hh (by omega) h0)
  clear hA
  generalize S.hull (m.boxes.headD ⟨⟨0, 0, 0⟩, ⟨0, 0, 0⟩⟩) m.boxes = X at *
  have e1 : IntKind.i64.wrap (leg.lo.z - X.lo.z) = leg.lo.z - X.lo.z := IntWalk.i64_in _ (by omega)
  unfold boxV at HH
  have f0 : ∀ W, (Instr.field 89 (.agg #[.int .i64 X.lo.x, .int .i64 X.lo.y, .int .i64 X.lo.z, .int .i64 X.hi.x, .int .i64 X.hi.y, .int .i64 X.hi.z]) 0).run Tryz.prog W = .ok (.agg #[.int .i64 X.lo.x, .int .i64 X.lo.y, .int .i64 X.lo.z]) W := fun _ => by kernel_rfl
  have f1 : ∀ W, (Instr.field 87 (.agg #[.int .i64 X.lo.x, .int .i64 X.lo.y, .int .i64 X.lo.z]) 2).run Tryz.prog W = .ok (.int .i64 X.lo.z) W := fun _ => by kernel_rfl
  unfold memV boxV
  go_enter Tryz.func73, Tryz.ntmps73
  go_wp2
  refine wp_region_grow (by kernel_rfl) (by kernel_rfl) ?_
  repeat (go_big_quiet_step ((go_at_call 130; exact grow_of (HH.out _ (size_via hB (ba_via (grow_below _ _) bel)) (SolAt.at_ HA.out hB (ba_via (grow_below _ _) bel))))))
  all_goals (refine wpQuiet_nil ?_; intro wg hbwg; obtain ⟨hcwg, hfwg⟩ := bcell hbwg; have hzwg_0 : w.heap.size < wg.heap.size := lt_via hbwg (by first | omega | (simp; done) | (simp; omega)); have hzwg_1 : w.heap.size + 1 < wg.heap.size := lt_via hbwg (by first | omega | (simp; done) | (simp; omega)))
  go_wp2
  go_ret
  exact ⟨ret_b HP.out.symm, bel⟩
theorem size_cases {d : Int} (h : S.size d = true) : d = 6 ∨ d = 8 ∨ d = 10 ∨ d = 12 ∨ d = 16 ∨ d = 20 ∨ d = 25 ∨ d = 32 ∨ d = 40 := by
  simpa [S.size, S.has, S.sizes] using h
theorem boxOk_x {b : Bx} (h : S.boxOk b = true) : -1048576 ≤ b.lo.x ∧ b.lo.x ≤ b.hi.x ∧ b.hi.x ≤ 1048576 := by
  simp only [S.boxOk, S.okAx, Bool.and_eq_true, decide_eq_true_eq] at h
  omega
end Go.Proofs.YtffkmgjmlahfpaaGreat
