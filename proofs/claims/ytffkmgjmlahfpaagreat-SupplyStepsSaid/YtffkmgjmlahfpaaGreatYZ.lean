/- Lemmas. -/
import Derived.Test.YtffkmgjmlahfpaaGreatRows
import Derived.WalkKit
import Derived.ProofKit
import Derived.Lib.Hide
import Derived.BigQuiet
import Derived.Handy
import Derived.StillTail
import Derived.Maps.AppendAt
import Derived.BigRegion
import Derived.Deep.CutRange
import Derived.Deep.RegionHeld3
import Derived.Maps.OwnOps
import Derived.Maps.OwnSet
import Derived.Deep.MidRow
import Derived.Test.YtffkmgjmlahfpaaGreatYQ
import Derived.Test.YtffkmgjmlahfpaaGreatYM
import Derived.Test.YtffkmgjmlahfpaaGreatYL
import Derived.Test.YtffkmgjmlahfpaaGreatYI
import Derived.Test.YtffkmgjmlahfpaaGreatYG
import Derived.Test.YtffkmgjmlahfpaaGreatYF
import Derived.Test.YtffkmgjmlahfpaaGreatYB
import Derived.Test.YtffkmgjmlahfpaaGreatYU
import Derived.Test.YtffkmgjmlahfpaaGreatYA
import Derived.Test.YtffkmgjmlahfpaaGreatYC
import Derived.Test.YtffkmgjmlahfpaaGreatYH
import Derived.Test.YtffkmgjmlahfpaaGreatYD
import Derived.Test.YtffkmgjmlahfpaaGreatYE
import Derived.Test.YtffkmgjmlahfpaaGreatYJ
import Derived.Test.YtffkmgjmlahfpaaGreatYK
import Derived.Test.YtffkmgjmlahfpaaGreatYP
import Derived.Test.YtffkmgjmlahfpaaGreatYX
import Derived.Test.YtffkmgjmlahfpaaGreatYW
import Derived.Test.YtffkmgjmlahfpaaGreatYO
import Derived.Test.YtffkmgjmlahfpaaGreatYV
import Derived.Test.YtffkmgjmlahfpaaGreatYN
import Derived.Test.YtffkmgjmlahfpaaGreatYY
import Derived.Test.YtffkmgjmlahfpaaGreatYT
import Derived.Test.YtffkmgjmlahfpaaGreatYR
import Derived.Test.YtffkmgjmlahfpaaGreatYS
set_option linter.unusedVariables false
set_option linter.unusedSimpArgs false
namespace Go.Proofs.YtffkmgjmlahfpaaGreat
open Go.RowKit
def S.rrun (l : List Bar) (r : Rn) : Bool := S.rightHead l r && S.rightStep r && (match S.barAt l r.mark with | some b => S.near (S.laidPath b r 0) 1048576 && S.near (S.laidPath b r (r.count - 1).toNat) 1048576 | none => false)
theorem rrun_eq {l : List Bar} {r : Rn} (hs : S.sched l = true) : S.rrun l r = S.right l r := by
  unfold S.rrun S.right
  cases hh : S.rightHead l r
  · rfl
  · obtain ⟨⟨h0, h1, h2⟩, h3, h4⟩ := rightHead_out hh
    cases hb : S.barAt l r.mark with
    | none => rfl
    | some b =>
      obtain ⟨k, hk⟩ : ∃ k : Nat, S.index l r.mark = (k : Int) := ⟨(S.index l r.mark).toNat, by omega⟩
      have hg : l[k]? = some b := by
        unfold S.barAt at hb
        rw [hk] at hb
        simpa using hb
      have hv := (sched_bar hs hg).1
      have e1 : (r.count - 1) = (((r.count - 1).toNat : Nat) : Int) := by omega
      have e2 := laid_pts h1 hv (r.count - 1).toNat
      rw [← e1] at e2
      have e3 := laid_pts h1 hv 0
      simp only [S.rightPts]
      rw [e2]
      rw [show (0 : Int) = ((0 : Nat) : Int) from rfl, e3]
theorem foldl_count (rs : List Rn) : ∀ a : Int, rs.foldl (fun s r => s + r.count) a = a + rs.foldl (fun s r => s + r.count) 0 := by
  induction rs with
  | nil => intro a; simp
  | cons r rs ih => intro a; simp only [List.foldl_cons]; rw [ih (a + r.count), ih (0 + r.count)]; omega
theorem sumAll_cons (r : Rn) (rs : List Rn) : S.sumAll (r :: rs) = r.count + S.sumAll rs := by
  unfold S.sumAll S.sumTo
  rw [List.take_length, List.take_length, List.foldl_cons, foldl_count]
  omega
theorem runsOk_iff {bs : List Bar} : ∀ {rs : List Rn} {rest : Int}, 0 ≤ rest → S.runsOk bs rest rs = (rs.all (S.right bs) && decide (S.sumAll rs ≤ rest)) := by
  intro rs
  induction rs with
  | nil => intro rest h; simp [S.runsOk, S.sumAll, S.sumTo, h]
  | cons r rs ih =>
    intro rest h
    rw [show S.runsOk bs rest (r :: rs) = (S.right bs r && decide (r.count ≤ rest) && S.runsOk bs (rest - r.count) rs) from rfl, List.all_cons, sumAll_cons]
    cases hr : S.right bs r
    · rfl
    · have hc := right_count hr
      by_cases h1 : r.count ≤ rest
      · rw [ih (by omega), decide_eq_true h1]
        cases ha : rs.all (S.right bs)
        · rfl
        · simp only [Bool.true_and]
          rw [Bool.eq_iff_iff]
          simp only [decide_eq_true_eq]
          omega
      · rw [decide_eq_false h1]
        cases ha : rs.all (S.right bs)
        · rfl
        · have hpos : 0 ≤ S.sumAll rs := by
            have := sumTo_mono (rs := rs) (fun k hk => by
              rw [List.all_eq_true] at ha
              have := right_count (ha _ (List.getElem_mem hk))
              omega) (Nat.zero_le rs.length) (Nat.le_refl _)
            rwa [sumTo_zero] at this
          simp only [Bool.true_and, Bool.and_true, Bool.false_and]
          symm
          exact decide_eq_false (by omega)
theorem rtimes16_any (p : Pt) (n : Int) (h : S.near1 (S.times n p) 1000000000000 = true) (w : World) : Calls Tryz.prog 236 #[ptV p, .int .i64 n] w fun e w' => e = .returned (ptV (S.times n p)) ∧ Below w.heap.size w w' := by
  obtain ⟨hx, hy, hz⟩ := near1_out h
  clear h
  have x0 : (S.times n p).x = p.x * n := Int.mul_comm _ _
  have x1 : (S.times n p).y = p.y * n := Int.mul_comm _ _
  have x2 : (S.times n p).z = p.z * n := Int.mul_comm _ _
  rw [x0] at hx
  rw [x1] at hy
  rw [x2] at hz
  unfold ptV
  go_enter Tryz.func236, Tryz.ntmps236
  go_wp2
  exact bodyPost_ret (v := .agg #[.int .i64 (S.times n p).x, .int .i64 (S.times n p).y, .int .i64 (S.times n p).z]) (by simp [results, Tryz.results236, go_sem, *]) rfl ⟨rfl, bel⟩
set_option maxHeartbeats 1000000 in
theorem rtwice_any (p : Pt) (w : World) : Calls Tryz.prog 177 #[ptV p] w fun e w' => e = .returned (.bool (S.near1 p 2097152)) ∧ Below w.heap.size w w' := by
  have H := Lib.hid (show ∀ t : Bool, (t = true ↔ (-2097152 ≤ p.x ∧ p.x ≤ 2097152) ∧ (-2097152 ≤ p.y ∧ p.y ≤ 2097152) ∧ (-2097152 ≤ p.z ∧ p.z ≤ 2097152)) → t = S.near1 p 2097152 from fun t ht => by
    rw [Bool.eq_iff_iff, ht]
    simp only [S.near1, Bool.and_eq_true, decide_eq_true_eq]
    constructor <;> (intro h; omega))
  unfold ptV
  go_enter Tryz.func177, Tryz.ntmps177
  go_wp2
  all_goals (go_ret; exact ⟨ret_b (H.out _ (by simp only [decide_eq_true_eq, decide_eq_false_iff_not, Bool.false_eq_true, true_iff, false_iff] at *; omega)), bel⟩)
theorem move_at (b : Bar) (h : S.bar b = true) {k : Nat} (hk : k < (S.legsOf b.code).length) : ∃ P n, (S.moves b)[k]? = some P ∧ (S.legLens b)[k]? = some n ∧ 1 ≤ n ∧ n ≤ 262144 ∧ Within P 262144 ∧
    S.abs P.x + S.abs P.y + S.abs P.z = n ∧ 0 ≤ S.abs P.x ∧ 0 ≤ S.abs P.y ∧ 0 ≤ S.abs P.z ∧ S.ptAt b (k + 1) = ⟨(S.ptAt b k).x + P.x, (S.ptAt b k).y + P.y, (S.ptAt b k).z + P.z⟩ := by
  obtain ⟨n, _, g2, g3, g4, g5⟩ := lens_get b h hk
  refine ⟨S.step ⟨0, 0, 0⟩ (S.legsOf b.code)[k].2 n, n, ?_, g2, g3, g4, ?_⟩
  · unfold S.legLens at g2
    rw [List.getElem?_map, List.getElem?_eq_getElem hk] at g2
    unfold S.moves
    rw [List.getElem?_map, List.getElem?_eq_getElem hk]
    simp only [Option.map_some, Option.some.injEq] at g2 ⊢
    rw [g2]
  · rw [g5]
    rcases legs_way b.code hk with hw | hw | hw | hw | hw
    all_goals (
      rw [hw]
      refine ⟨?_, ?_, ?_, ?_, ?_, ?_⟩
      · simp [Within, S.step]; omega
      · simp [S.abs, S.step]; try (first | omega | (intro _; omega) | (split <;> omega))
      · simp [S.abs, S.step]; try (first | omega | (intro _; omega) | (split <;> omega))
      · simp [S.abs, S.step]; try (first | omega | (intro _; omega) | (split <;> omega))
      · simp [S.abs, S.step]; try (first | omega | (intro _; omega) | (split <;> omega))
      · simp [S.step]; try omega)
theorem ptAt_in (b : Bar) (h : S.bar b = true) (k : Nat) (hk : k ≤ (S.legsOf b.code).length) : Within (S.ptAt b k) 524288 := by
  have hD := bar_head h
  have hd : ∀ k (hk : k < (S.legsOf b.code).length), (S.legsOf b.code)[k].1 < b.dims.length := fun k hk => by have := legs_dim b.code hk; omega
  have h1 := ptAt_sum h hd k
  have h2 := sum_take_le (lens_pos h) k
  have h3 := (legs_sum h).1
  unfold Within at h1 ⊢
  omega
set_option maxRecDepth 100000 in
set_option maxHeartbeats 2000000 in
theorem rpath_yes (b : Bar) (A : Option Addr) (n c : Nat) (B : Nat) (w : World) (hB : B ≤ w.heap.size) (hA : BarAt w B A n b) (h : S.bar b = true) (L : Nat) (hL : (S.legsOf b.code).length = L) :
    Calls Tryz.prog 234 #[barV b A n c] w fun e w' => ∃ A' c', e = .returned (.slice A' (L + 1) c') ∧ w'.ownsRow w.heap.size 87 3 (.slice A' (L + 1) c') (L + 1) ((S.path b).flatMap ptC) ∧ Below w.heap.size w w' := by
  have HA := Lib.hid hA
  have hl6 := legs_len b.code
  have HM := Lib.hid (show ∀ k, k < (S.legsOf b.code).length → _ from fun k hk => move_at b h hk)
  have HPI := Lib.hid (fun k hk => ptAt_in b h k hk)
  have HML := Lib.hid (moves_len b)
  have HSN := Lib.hid (fun m => pathTo_snoc b m)
  have HPA := Lib.hid (show S.path b = S.pathTo b ((S.legsOf b.code).length + 1) from rfl)
  have HL := Lib.hid hL
  rw [hL] at hl6
  clear hA hL
  unfold barV
  go_enter Tryz.func234, Tryz.ntmps234
  go_wp2_with (go_at_call 265; (with_reducible refine (rmoves_any b A n c B _ (by simp; omega) (BarAt.at_ HA.out hB bel) h).mono ?_); rintro e w2 ⟨A2, rfl, hs, hb2, hz2'⟩; obtain ⟨hcw2, hfw2⟩ := bcell hb2; have hz2 : w.heap.size < w2.heap.size := lt_via hb2 (by simp); have hlen : (S.moves b).length = L := HML.out.trans HL.out; simp only [hlen])
  have hbw2 : Below w.heap.size w w2 := bel
  have hbw : Below w.heap.size w ((w2.alloc (.cells #[.int .i64 0, .int .i64 0, .int .i64 0] 87)).alloc (.cells #[.int .i64 0, .int .i64 0, .int .i64 0] 87)) := bel
  have hK0 : Blk ((w2.alloc (.cells #[.int .i64 0, .int .i64 0, .int .i64 0] 87)).alloc (.cells #[.int .i64 0, .int .i64 0, .int .i64 0] 87)) w2.heap.size 87 #[.int .i64 0, .int .i64 0, .int .i64 0] := (Blk.new _ _ _).alloc _
  have hsM := (hs.alloc (Nat.le_refl _) (.cells #[.int .i64 0, .int .i64 0, .int .i64 0] 87)).alloc (by simp) (.cells #[.int .i64 0, .int .i64 0, .int .i64 0] 87)
  have hrow : Row ((w2.alloc (.cells #[.int .i64 0, .int .i64 0, .int .i64 0] 87)).alloc (.cells #[.int .i64 0, .int .i64 0, .int .i64 0] 87)) ((w2.alloc (.cells #[.int .i64 0, .int .i64 0, .int .i64 0] 87)).alloc (.cells #[.int .i64 0, .int .i64 0, .int .i64 0] 87)) (some (w2.heap.size + 1)) w.heap.size 87 3 (.slice (some ⟨w2.heap.size + 1, 0, none⟩) 1 1) 1 ((S.pathTo b 1).flatMap ptC) := by
    refine ⟨?_, fun k hk => .inl (by simpa [Value.ownBlock] using hk.symm)⟩
    have h1 := World.ownsRow_lit (base := w.heap.size) (e := 87) (size := 3) (w2.alloc (.cells #[.int .i64 0, .int .i64 0, .int .i64 0] 87)) #[.int .i64 0, .int .i64 0, .int .i64 0] 1 (by simp; omega) (by unfold maxLen; omega) rfl
    simpa [S.pathTo, S.ptAt, List.range_succ] using h1
  have hzW : ((w2.alloc (.cells #[.int .i64 0, .int .i64 0, .int .i64 0] 87)).alloc (.cells #[.int .i64 0, .int .i64 0, .int .i64 0] 87)).heap.size = w2.heap.size + 2 := by simp
  clear hcw2 hfw2 hb2
  generalize (w2.alloc (.cells #[.int .i64 0, .int .i64 0, .int .i64 0] 87)).alloc (.cells #[.int .i64 0, .int .i64 0, .int .i64 0] 87) = W0 at *
  go_loopw [5, 6] (fun v i wr => ∃ (k : Nat) (A3 : Option Addr) (c3 : Nat), k ≤ L ∧ i = .int .i64 k ∧ v = .slice A3 (k + 1) c3 ∧ Row W0 wr (some (w2.heap.size + 1)) w.heap.size 87 3 (.slice A3 (k + 1) c3) (k + 1) ((S.pathTo b (k + 1)).flatMap ptC) ∧ Exc [w2.heap.size, w2.heap.size + 1] W0 wr ∧ Blk wr w2.heap.size 87 #[.int .i64 (S.ptAt b k).x, .int .i64 (S.ptAt b k).y, .int .i64 (S.ptAt b k).z]) (fun _ i _ => L - (intOf i).toNat)
  case atStart => exact ⟨0, _, 1, Nat.zero_le _, rfl, rfl, hrow, Exc.refl _ _, hK0⟩
  case round =>
    obtain ⟨k, A3, c3, hk, rfl, rfl, hR, hX, hK⟩ := hrel
    clear hrow hK0
    have hsz := hX.size
    by_cases hlt : k < L
    · have hs' := hsM.below (hX.below (B := w2.heap.size) (by omega) (by intro j hj; simp at hj; omega))
      obtain ⟨b4, o4, rfl, hbl, _⟩ := hs'.at_ (by rw [flat_len ptC 3 ptC_len]; omega)
      obtain ⟨P, q, g1, g2, g3, g4, gw, _, _, _, _, gp⟩ := HM.out k (by have := HL.out; omega)
      obtain ⟨c1, c2, c3'⟩ := hs'.pts g1
      have hin := HPI.out k (by have := HL.out; omega)
      unfold Within at gw hin
      have k0 := hK.cell 0
      have k1 := hK.cell 1
      have k2 := hK.cell 2
      have kf0 := hK.frozen 0
      have kf1 := hK.frozen 1
      have kf2 := hK.frozen 2
      simp only [List.getElem?_toArray, List.getElem?_cons_zero, List.getElem?_cons_succ] at k0 k1 k2
      have hown : ∀ j, Value.ownBlock (.slice A3 (k + 1) c3) = some j → j ≠ w2.heap.size := fun j hj' => by
        rcases hR.place j hj' with h1 | h1
        · injection h1 with h1; omega
        · omega
      have HOWN := Lib.hid hown
      have HST := Lib.hid gp
      have HS1 := Lib.hid (HSN.out (k + 1))
      have hkl : (k : Int) < (L : Int) := by omega
      have hb4r : b4 < wr.heap.size := by omega
      have hg2 : w2.heap.size < wr.heap.size := hK.lt
      clear gp hown g1 g2
      generalize S.ptAt b k = p at *
      have e1 : IntKind.i64.wrap (p.x + P.x) = p.x + P.x := IntWalk.i64_in _ (by omega)
      have e2 : IntKind.i64.wrap (p.y + P.y) = p.y + P.y := IntWalk.i64_in _ (by omega)
      have e3 : IntKind.i64.wrap (p.z + P.z) = p.z + P.z := IntWalk.i64_in _ (by omega)
      go_wp2
      refine wp_region_grow_tail 25 (by kernel_rfl) (by kernel_rfl) ?_
      simp only [List.take_succ_cons, List.take_zero, List.drop_succ_cons, List.drop_zero]
      repeat (go_big_quiet_step (fail))
      all_goals (refine wpQuiet_nil ?_; intro wg hbwg; obtain ⟨hcwg, hfwg⟩ := bcell hbwg)
      have hK2 : Blk ((((wg.setCell ⟨w2.heap.size, 0, none⟩ (.int .i64 (p.x + P.x))).setCell ⟨w2.heap.size, 1, none⟩ (.int .i64 (p.y + P.y))).setCell ⟨w2.heap.size, 2, none⟩ (.int .i64 (p.z + P.z))).alloc (.cells #[.int .i64 (p.x + P.x), .int .i64 (p.y + P.y), .int .i64 (p.z + P.z)] 87)) w2.heap.size 87 #[.int .i64 (p.x + P.x), .int .i64 (p.y + P.y), .int .i64 (p.z + P.z)] := by
        have h6 := (((((hK.via hbwg).set 0 (.int .i64 (p.x + P.x))).set 1 (.int .i64 (p.y + P.y))).set 2 (.int .i64 (p.z + P.z))).alloc (.cells #[.int .i64 (p.x + P.x), .int .i64 (p.y + P.y), .int .i64 (p.z + P.z)] 87))
        simp only [List.setIfInBounds_toArray, List.set_cons_zero, List.set_cons_succ] at h6
        exact h6
      have hg3 : w2.heap.size < wg.heap.size := lt_via hbwg hg2
      go_wp2_with (at_builtin; refine wpList_push rfl (.tmp 43) (.tmp 45) _ rfl elemPt (((((hR.via hbwg).set (p := ⟨w2.heap.size, 0, none⟩) HOWN.out _).set (p := ⟨w2.heap.size, 1, none⟩) HOWN.out _).set (p := ⟨w2.heap.size, 2, none⟩) HOWN.out _).alloc _) (((((Exc.via hbwg hX).set (p := ⟨w2.heap.size, 0, none⟩) (.inl (by simp)) _).set (p := ⟨w2.heap.size, 1, none⟩) (.inl (by simp)) _).set (p := ⟨w2.heap.size, 2, none⟩) (.inl (by simp)) _).alloc _) (by simp) hbw.size rfl wg.heap.size 1 1 [.int .i64 (p.x + P.x), .int .i64 (p.y + P.y), .int .i64 (p.z + P.z)] rfl rfl ?_ (by simp [Value.oneCell']) (by unfold maxLen; omega) (by omega) ?_; (· intro j u hu; have := (Cells.newRow (((wg.setCell ⟨w2.heap.size, 0, none⟩ (.int .i64 (p.x + P.x))).setCell ⟨w2.heap.size, 1, none⟩ (.int .i64 (p.y + P.y))).setCell ⟨w2.heap.size, 2, none⟩ (.int .i64 (p.z + P.z))) #[.int .i64 (p.x + P.x), .int .i64 (p.y + P.y), .int .i64 (p.z + P.z)] 87 (0, 0)).get (k := j) (v := u) hu; simpa using this); intro v' w' hR' hX' hO')
      obtain ⟨A5, c5, rfl, _, _, _⟩ := own_form hR'.own
      go_roundw
      case rel => exact ⟨k + 1, A5, c5, by omega, by go_num, rfl, by rw [HS1.out, HST.out, List.flatMap_append]; exact hR', hX', by rw [HST.out]; exact (hO' _ hK2.lt (fun h => HOWN.out _ h rfl)).trans hK2⟩
      case measure => simp [intOf]; omega
    · have he : k = L := by omega
      have HE := Lib.hid he
      clear he
      go_wp2
      go_ret
      refine ⟨A3, c3, by rw [HE.out]; rfl, ?_, ?_⟩
      · have := hR.own
        rw [HPA.out, HL.out]
        rwa [HE.out] at this
      · exact hbw.trans (hX.below (by have := hbw2.size; omega) (by intro j hj; simp at hj; have := hbw2.size; omega))
theorem path_in {b : Bar} (h : S.bar b = true) {i : Nat} {p : Pt} (hp : (S.path b)[i]? = some p) : S.near1 p 1048576 = true := by
  obtain ⟨hi, rfl⟩ := List.getElem?_eq_some_iff.1 hp
  exact near_in (path_near h) hi
theorem plus_times (a s : Pt) (k : Int) : S.padd a (S.times k s) = S.plus a s k := rfl
theorem times_lim {n : Int} {p : Pt} (hn : 0 ≤ n ∧ n ≤ 1000) (hp : S.near1 p 2097152 = true) : S.near1 (S.times n p) 2097152000 = true := by
  obtain ⟨hx, hy, hz⟩ := near1_out hp
  have hm : ∀ q : Int, -2097152 ≤ q ∧ q ≤ 2097152 → -2097152000 ≤ n * q ∧ n * q ≤ 2097152000 := fun q hq => by
    have h1 : n * q ≤ n * 2097152 := Int.mul_le_mul_of_nonneg_left hq.2 hn.1
    have h2 : n * (-2097152) ≤ n * q := Int.mul_le_mul_of_nonneg_left hq.1 hn.1
    omega
  have a1 := hm _ hx
  have a2 := hm _ hy
  have a3 := hm _ hz
  rw [show S.times n p = ⟨n * p.x, n * p.y, n * p.z⟩ from rfl]
  simp only [S.near1, Bool.and_eq_true, decide_eq_true_eq]
  generalize n * p.x = u1 at *
  generalize n * p.y = u2 at *
  generalize n * p.z = u3 at *
  omega
theorem Exc.of_below1 {M : List Nat} {W w : World} (h : Below W.heap.size W w) : Exc M W w := ⟨h.os, h.tape, h.output, h.size, fun k hk _ => h.block k hk⟩
set_option maxRecDepth 20000 in
set_option maxHeartbeats 4000000 in
theorem rpoints_any (b : Bar) (r : Rn) (k0 : Nat) (A : Option Addr) (n c : Nat) (B : Nat) (w : World) (hB : B ≤ w.heap.size) (hA : BarAt w B A n b) (h : S.bar b = true) (ht : S.turn r.tx r.ty = true) (ha : S.near1 r.at_ 1048576 = true)
    (hk0 : k0 ≤ 1000) (hst : 0 < k0 → S.near1 r.step 2097152 = true) (L : Nat) (hL : (S.legsOf b.code).length = L) :
    Calls Tryz.prog 179 #[barV b A n c, rnV r, .int .i64 k0] w (GivesOne 87 3 (L + 1) ((S.laidPath b r k0).flatMap ptC) w) := by
  have HP := Lib.hid (fun (W : World) (hw : B ≤ W.heap.size) (hh : BarAt W B A n b) => rpath_yes b A n c B W hw hh h L hL)
  have HA := Lib.hid hA
  have hl6 := legs_len b.code
  rw [hL] at hl6
  have HLP := Lib.hid (show (S.path b).length = L + 1 by rw [path_len, hL])
  have HPI := Lib.hid (fun (i : Nat) (p : Pt) (hp : (S.path b)[i]? = some p) => path_in h hp)
  have HIM := Lib.hid (fun (p : Pt) (hp : S.near1 p 1048576 = true) (w : World) => rimage_any r.tx r.ty ht p hp w)
  have hAT : S.near1 (S.plus r.at_ r.step k0) 2098200576 = true := by
    by_cases hk : 0 < k0
    · have := padd_near ha (times_lim (n := k0) (by omega) (hst hk))
      exact near1_mono0 this (by omega)
    · have : k0 = 0 := by omega
      subst this
      have e : S.plus r.at_ r.step ((0 : Nat) : Int) = r.at_ := by simp [S.plus]
      rw [e]
      exact near1_mono0 ha (by omega)
  have HPL := Lib.hid (fun (p : Pt) (hp : S.near1 p 1048576 = true) (w : World) => rplus_any (S.plus r.at_ r.step k0) (S.image r.tx r.ty p) (near1_mono0 (padd_near hAT (image_near ht hp)) (by omega)) w)
  have HLD := Lib.hid (show S.laidPath b r k0 = (S.path b).map (fun p => S.padd (S.plus r.at_ r.step k0) (S.image r.tx r.ty p)) from rfl)
  have HTM := Lib.hid (fun (hk : 0 < k0) (w : World) => rtimes16_any r.step k0 (near1_mono0 (times_lim (n := k0) (by omega) (hst hk)) (by omega)) w)
  have HAD := Lib.hid (fun (hk : 0 < k0) (w : World) => rplus_any r.at_ (S.times k0 r.step) (near1_mono0 (padd_near ha (times_lim (n := k0) (by omega) (hst hk))) (by omega)) w)
  have HZ := Lib.hid (fun (hk : ¬ 0 < k0) => show S.plus r.at_ r.step k0 = r.at_ by
    have : k0 = 0 := by omega
    subst this
    simp [S.plus])
  clear hA h ht ha hst hL hAT
  rw [HLD.out]
  unfold ptV at HIM HPL HTM HAD
  unfold turnV at HIM
  unfold barV at HP
  unfold barV rnV
  go_enter Tryz.func179, Tryz.ntmps179
  go_upto_region 3 with (first
    | (go_at_call 234; (with_reducible refine (HP.out _ (size_via hB bel) (HA.out.at_ hB bel)).mono ?_); rintro e w1 ⟨Aw1, cw1, rfl, how1, hbw1⟩; obtain ⟨hcw1, hfw1⟩ := bcell hbw1; have hzw1_0 : w.heap.size < w1.heap.size := lt_via hbw1 (by first | omega | (simp; done) | (simp; omega)); have hzw1_1 : w.heap.size + 1 < w1.heap.size := lt_via hbw1 (by first | omega | (simp; done) | (simp; omega))))
  have hbel1 : Below w.heap.size w w1 := bel
  have hK1 : Blk (w1.alloc (.cells #[.int .i64 r.at_.x, .int .i64 r.at_.y, .int .i64 r.at_.z] 87)) w1.heap.size 87 #[.int .i64 r.at_.x, .int .i64 r.at_.y, .int .i64 r.at_.z] := Blk.new _ _ _
  have hRB1 : Blk (w1.alloc (.cells #[.int .i64 r.at_.x, .int .i64 r.at_.y, .int .i64 r.at_.z] 87)) (w.heap.size + 1) 183 #[.string r.mark, .int .i64 r.tx, .int .i64 r.ty, .int .i64 r.at_.x, .int .i64 r.at_.y, .int .i64 r.at_.z, .int .i64 r.step.x, .int .i64 r.step.y, .int .i64 r.step.z, .int .i64 r.count] :=
    (Blk.via (by simpa using Blk.new (w.alloc (.cells #[.string b.mark, .int .i64 b.size, .int .i64 b.count, .int .i64 b.code, .slice A n c] 158)) 183 #[.string r.mark, .int .i64 r.tx, .int .i64 r.ty, .int .i64 r.at_.x, .int .i64 r.at_.y, .int .i64 r.at_.z, .int .i64 r.step.x, .int .i64 r.step.y, .int .i64 r.step.z, .int .i64 r.count]) hbw1).alloc _
  have hsP := ((own_cells how1 (by unfold maxLen; omega)).1).alloc (Nat.le_refl _) (.cells #[.int .i64 r.at_.x, .int .i64 r.at_.y, .int .i64 r.at_.z] 87)
  have hbel : Below w.heap.size w (w1.alloc (.cells #[.int .i64 r.at_.x, .int .i64 r.at_.y, .int .i64 r.at_.z] 87)) := ba_alloc hbel1 _
  have hz11 : w1.heap.size < (w1.alloc (.cells #[.int .i64 r.at_.x, .int .i64 r.at_.y, .int .i64 r.at_.z] 87)).heap.size := by simp
  clear hcw1 hfw1 how1 hbw1 HP HA
  generalize (w1.alloc (.cells #[.int .i64 r.at_.x, .int .i64 r.at_.y, .int .i64 r.at_.z] 87)) = W1 at *
  have hrl := hRB1.lt
  by_cases hk : 0 < k0
  case' pos =>
    have hki : (0 : Int) < (k0 : Int) := by omega
    have HTMk := Lib.hid (HTM.out hk)
    have HADk := Lib.hid (HAD.out hk)
    have r6 := hRB1.cell 6
    have r7 := hRB1.cell 7
    have r8 := hRB1.cell 8
    have q0 := hK1.cell 0
    have q1 := hK1.cell 1
    have q2 := hK1.cell 2
    simp only [List.getElem?_toArray, List.getElem?_cons_zero, List.getElem?_cons_succ] at r6 r7 r8 q0 q1 q2
    have f0 := hK1.frozen 0
    have f1 := hK1.frozen 1
    have f2 := hK1.frozen 2
    rw [plus_times] at HADk
    generalize S.times k0 r.step = T at *
    generalize hQ : S.plus r.at_ r.step k0 = Q at *
    have HQ := Lib.hid hQ
    clear hQ
    go_wp2
    refine wp_region_grow_tail 6 (by kernel_rfl) (by kernel_rfl) ?_
    simp only [List.take_succ_cons, List.take_zero, List.drop_succ_cons, List.drop_zero]
    repeat (go_big_quiet_step ((first
      | (go_at_call 236; with_reducible exact grow_of (HTMk.out _))
      | (go_at_call 235; with_reducible exact grow_of (HADk.out _)))))
    all_goals (refine wpQuiet_nil ?_; intro wg hbwg; obtain ⟨hcwg, hfwg⟩ := bcell hbwg)
    go_upto_region 5 with fail
    have hK2 : Blk (((wg.setCell ⟨w1.heap.size, 0, none⟩ (.int .i64 Q.x)).setCell ⟨w1.heap.size, 1, none⟩ (.int .i64 Q.y)).setCell ⟨w1.heap.size, 2, none⟩ (.int .i64 Q.z)) w1.heap.size 87 #[.int .i64 Q.x, .int .i64 Q.y, .int .i64 Q.z] := by
      have h6 := (((hK1.via hbwg).set 0 (.int .i64 Q.x)).set 1 (.int .i64 Q.y)).set 2 (.int .i64 Q.z)
      simp only [List.setIfInBounds_toArray, List.set_cons_zero, List.set_cons_succ] at h6
      exact h6
    have hne : w.heap.size + 1 ≠ w1.heap.size := by omega
    have hRB2 : Blk (((wg.setCell ⟨w1.heap.size, 0, none⟩ (.int .i64 Q.x)).setCell ⟨w1.heap.size, 1, none⟩ (.int .i64 Q.y)).setCell ⟨w1.heap.size, 2, none⟩ (.int .i64 Q.z)) (w.heap.size + 1) 183 #[.string r.mark, .int .i64 r.tx, .int .i64 r.ty, .int .i64 r.at_.x, .int .i64 r.at_.y, .int .i64 r.at_.z, .int .i64 r.step.x, .int .i64 r.step.y, .int .i64 r.step.z, .int .i64 r.count] := (((hRB1.via hbwg).far hne _).far hne _).far hne _
    have hX2 : Exc [w1.heap.size] W1 (((wg.setCell ⟨w1.heap.size, 0, none⟩ (.int .i64 Q.x)).setCell ⟨w1.heap.size, 1, none⟩ (.int .i64 Q.y)).setCell ⟨w1.heap.size, 2, none⟩ (.int .i64 Q.z)) := (((Exc.of_below1 hbwg).set (.inl (by simp)) _).set (.inl (by simp)) _).set (.inl (by simp)) _
    have hb2 : Below w.heap.size w (((wg.setCell ⟨w1.heap.size, 0, none⟩ (.int .i64 Q.x)).setCell ⟨w1.heap.size, 1, none⟩ (.int .i64 Q.y)).setCell ⟨w1.heap.size, 2, none⟩ (.int .i64 Q.z)) := hbel.trans (hX2.below hbel.size (by intro g hg; simp at hg; have := hbel1.size; omega))
    have hs2 := hsP.below (hX2.below (B := w1.heap.size) (by omega) (by intro g hg; simp at hg; omega))
    have hz2 : w1.heap.size < (((wg.setCell ⟨w1.heap.size, 0, none⟩ (.int .i64 Q.x)).setCell ⟨w1.heap.size, 1, none⟩ (.int .i64 Q.y)).setCell ⟨w1.heap.size, 2, none⟩ (.int .i64 Q.z)).heap.size := hK2.lt
    clear hcwg hfwg r6 r7 r8 q0 q1 q2 f0 f1 f2 HTMk HADk hK1 hRB1 hX2
    clear hbwg hsP
    generalize (((wg.setCell ⟨w1.heap.size, 0, none⟩ (.int .i64 Q.x)).setCell ⟨w1.heap.size, 1, none⟩ (.int .i64 Q.y)).setCell ⟨w1.heap.size, 2, none⟩ (.int .i64 Q.z)) = W2 at *
  case' neg =>
    have hb2 := hbel
    have hz2 := hz11
    have hK2 := hK1
    have hRB2 := hRB1
    have hs2 := hsP
    rw [← HZ.out hk] at hK2
    clear hK1 hRB1 hbel hsP
    generalize hQ : S.plus r.at_ r.step k0 = Q at *
    have HQ := Lib.hid hQ
    clear hQ
    generalize W1 = W2 at *
    have hki : ¬ (0 : Int) < (k0 : Int) := by omega
  all_goals (
    have hHL := Lib.hid (show ∀ i (p : Pt), (S.path b)[i]? = some p → (((S.path b).take (i + 1)).map (fun p => S.padd Q (S.image r.tx r.ty p))).flatMap ptC = (((S.path b).take i).map (fun p => S.padd Q (S.image r.tx r.ty p))).flatMap ptC ++ ptC (S.padd Q (S.image r.tx r.ty p)) from fun i p hp => by
      obtain ⟨hi, rfl⟩ := List.getElem?_eq_some_iff.1 hp
      rw [List.take_succ_eq_append_getElem hi, List.map_append, List.flatMap_append]
      simp)
    have hL6 := hl6
    have hrl2 := hRB2.lt
    go_wp2
    go_loopw [9, 10] (fun v i wr => ∃ (k : Nat) (A3 : Option Addr) (c3 : Nat), k ≤ L + 1 ∧ i = .int .i64 k ∧ v = .slice A3 k c3 ∧ Row W2 wr none w.heap.size 87 3 (.slice A3 k c3) k ((((S.path b).take k).map (fun p => S.padd Q (S.image r.tx r.ty p))).flatMap ptC) ∧ Exc [] W2 wr) (fun _ i _ => L + 1 - (intOf i).toNat)
    case atStart => exact ⟨0, none, 0, Nat.zero_le _, rfl, rfl, by simpa using Row.none_ _ _ _ _, Exc.refl _ _⟩
    case round =>
      obtain ⟨k, A3, c3, hk, rfl, rfl, hR, hX⟩ := hrel
      have hbx : Below W2.heap.size W2 wr := hX.below (Nat.le_refl _) (by simp)
      by_cases hlt : k < L + 1
      · have hkx : k < (S.path b).length := by have := HLP.out; omega
        have hs' := hs2.below (hbx.mono (Nat.le_of_lt hz2))
        obtain ⟨b4, o4, rfl, hbl, _⟩ := hs'.at_ (by rw [flat_len ptC 3 ptC_len]; omega)
        obtain ⟨c0, c1, c2⟩ := hs'.pts (List.getElem?_eq_getElem hkx)
        have HT := Lib.hid (hHL.out k _ (List.getElem?_eq_getElem hkx))
        have hpi := HPI.out k _ (List.getElem?_eq_getElem hkx)
        have HIMk := Lib.hid (HIM.out _ hpi)
        have HPLk := Lib.hid (HPL.out _ hpi)
        clear hs' hpi
        generalize (S.path b)[k] = p at *
        generalize S.image r.tx r.ty p = I at *
        generalize S.padd Q I = R at *
        have hsz := hbx.size
        have q0 := (hK2.via hbx).cell 0
        have q1 := (hK2.via hbx).cell 1
        have q2 := (hK2.via hbx).cell 2
        have r1 := (hRB2.via hbx).cell 1
        have r2 := (hRB2.via hbx).cell 2
        simp only [List.getElem?_toArray, List.getElem?_cons_zero, List.getElem?_cons_succ] at q0 q1 q2 r1 r2
        have hl1 : b4 < wr.heap.size := by omega
        have hl2 : w1.heap.size < wr.heap.size := by omega
        have hl3 : w.heap.size + 1 < wr.heap.size := by omega
        have hki : (k : Int) < ((L + 1 : Nat) : Int) := by omega
        have hk8 : k ≤ 8 := by omega
        go_wp2
        refine wp_region_grow_tail1 10 (by kernel_rfl) (by kernel_rfl) (fun _ _ _ h => h) (Or.inl ⟨by rfl, fun _ => by rfl⟩) ?_
        simp only [List.take_succ_cons, List.take_zero, List.drop_succ_cons, List.drop_zero, go_sem, List.setIfInBounds_toArray, List.set_cons_succ, List.set_cons_zero, Array.getD_eq_getD_getElem?, List.getElem?_toArray, List.getElem?_cons_succ, List.getElem?_cons_zero, Option.getD_some]
        repeat (go_big_quiet_step ((first
          | (go_at_call 237; with_reducible exact grow_of (HIMk.out _))
          | (go_at_call 235; with_reducible exact grow_of (HPLk.out _)))))
        all_goals (refine wpQuiet_nil ?_; intro wg hbwg; obtain ⟨hcwg, hfwg⟩ := bcell hbwg)
        go_wp2_with (at_builtin; refine wpList_push rfl (.tmp 29) (.tmp 39) _ rfl elemPt ((hR.via hbwg).alloc _) ((Exc.via hbwg hX).alloc _) (by simp) hb2.size rfl (wg.heap.size) 1 1 [.int .i64 R.x, .int .i64 R.y, .int .i64 R.z] rfl rfl ?_ (by simp [Value.oneCell']) (by unfold maxLen; omega) (by omega) ?_; (· intro j u hu; exact by have := (Cells.newRow wg #[.int .i64 R.x, .int .i64 R.y, .int .i64 R.z] 87 (0, 0)).get (k := j) (v := u) hu; rwa [Nat.zero_add] at this); intro v' w' hR' hX' hO'; clear hcwg hfwg)
        obtain ⟨A5, c5, rfl, _, _, _⟩ := own_form hR'.own
        go_roundw
        case rel => exact ⟨k + 1, A5, c5, by omega, by go_num, rfl, by rw [HT.out]; exact hR', hX'⟩
        case measure => simp [intOf]; omega
      · have he : k = L + 1 := by omega
        have HT := Lib.hid (show (S.path b).take k = S.path b from List.take_of_length_le (by have := HLP.out; omega))
        subst he
        go_wp2
        go_ret
        refine ⟨A3, c3, rfl, ?_, ba_via hbx hb2⟩
        have := hR.own
        rw [HT.out, ← HQ.out] at this
        exact this)
set_option maxHeartbeats 1000000 in
theorem rsched_any (l : List BarR) (A : Option Addr) (n c : Nat) (B : Nat) (w : World) (hB : B ≤ w.heap.size) (hA : BarsAt w B A n l) :
    Calls Tryz.prog 114 #[.slice A n c] w fun e w' => e = .returned (.bool (S.sched (bars l))) ∧ Below w.heap.size w w' := by
  have HA := Lib.hid hA
  have hL : (bars l).length = n := by simpa using hA.len
  have HL := Lib.hid hL
  clear hA
  by_cases h60 : 60 < n
  · have HS := Lib.hid (show S.sched (bars l) = false from by unfold S.sched; rw [hL]; simp; omega)
    clear hL
    go_enter Tryz.func114, Tryz.ntmps114
    go_wp2
    go_ret
    exact ⟨ret_b HS.out.symm, bel⟩
  clear hL
  go_enter Tryz.func114, Tryz.ntmps114
  go_wp2
  go_loopw [3] (fun i wr => ∃ k : Nat, k ≤ n ∧ i = .int .i64 k ∧ (∀ j, j < k → S.schedAt (bars l) j = true) ∧ Below w.heap.size w wr) (fun i _ => n - (intOf i).toNat)
  case atStart => exact ⟨0, Nat.zero_le _, rfl, fun j hj => absurd hj (by omega), Below.refl _ _⟩
  case round =>
    obtain ⟨k, hk, rfl, hno, hbr⟩ := hrel
    have HNO := Lib.hid hno
    clear hno
    by_cases hlt : k < n
    · have hkx : k < l.length := by have := HA.out.len; omega
      have hkb : k < (bars l).length := by have := HL.out; omega
      have hwr : B ≤ wr.heap.size := by have := hbr.size; omega
      have hA' := HA.out.at_ hB hbr
      have HA' := Lib.hid hA'
      have hs' := hA'.cells
      have HE := Lib.hid (hA'.each l[k] (List.getElem_mem hkx))
      obtain ⟨b, o, hAe, hbB, _⟩ := hs'.at_ (by rw [flat_len barC 5 barC_len]; omega)
      have hbl : b < wr.heap.size := by omega
      subst hAe
      have c0 := hs'.row0 barC_len hkx rfl
      have c1 := hs'.rowj barC_len hkx 1 rfl
      have c2 := hs'.rowj barC_len hkx 2 rfl
      have c3 := hs'.rowj barC_len hkx 3 rfl
      have c4 := hs'.rowj barC_len hkx 4 rfl
      have HAT := Lib.hid (schedAt_eq (l := bars l) (k := k) (b := l[k].b) (by simp [hkx]))
      have HNS := Lib.hid (fun h => sched_no (l := bars l) hkb h)
      have HIX := Lib.hid (fun (W : World) (hw : B ≤ W.heap.size) (hh : BarsAt W B (some ⟨b, o, none⟩) n l) => rfind14_any l l[k].b.mark (some ⟨b, o, none⟩) n c B W hw hh)
      have HVX := Lib.hid (fun (W : World) (hw : B ≤ W.heap.size) (hh : BarAt W B l[k].A l[k].n l[k].b) => rvalid12_any l[k].b l[k].A l[k].n l[k].c B W hw hh)
      have hb2 := index_bd (bars l) l[k].b.mark
      clear hA' hs'
      unfold barV at HVX
      generalize S.index (bars l) l[k].b.mark = j at *
      generalize S.bar l[k].b = t at *
      generalize l[k] = r at *
      cases t
      · go_wp2_with (first
          | (go_at_call 174; (with_reducible refine (HVX.out _ hwr HE.out).mono ?_); rintro e w1 ⟨rfl, hbw1⟩; obtain ⟨hcw1, hfw1⟩ := bcell hbw1))
        go_ret
        exact ⟨ret_b (HNS.out (by rw [HAT.out]; simp)).symm, bel⟩
      · by_cases hj : j = (k : Int)
        · go_wp2_with (first
            | (go_at_call 174; (with_reducible refine (HVX.out _ hwr HE.out).mono ?_); rintro e w1 ⟨rfl, hbw1⟩; obtain ⟨hcw1, hfw1⟩ := bcell hbw1)
            | (go_at_call 162; (with_reducible refine (HIX.out _ (by have := hbw1.size; omega) (HA'.out.at_ hwr hbw1)).mono ?_); rintro e w2 ⟨rfl, hbw2⟩; obtain ⟨hcw2, hfw2⟩ := bcell hbw2))
          go_roundw
          case rel =>
            refine ⟨k + 1, by omega, by go_num, fun j' hj' => ?_, bel⟩
            by_cases hjk : j' = k
            · subst hjk; rw [HAT.out]; simp [hj]
            · exact HNO.out j' (by omega)
          case measure => simp [intOf]; omega
        · go_wp2_with (first
            | (go_at_call 174; (with_reducible refine (HVX.out _ hwr HE.out).mono ?_); rintro e w1 ⟨rfl, hbw1⟩; obtain ⟨hcw1, hfw1⟩ := bcell hbw1)
            | (go_at_call 162; (with_reducible refine (HIX.out _ (by have := hbw1.size; omega) (HA'.out.at_ hwr hbw1)).mono ?_); rintro e w2 ⟨rfl, hbw2⟩; obtain ⟨hcw2, hfw2⟩ := bcell hbw2))
          go_ret
          exact ⟨ret_b (HNS.out (by rw [HAT.out]; simp [hj])).symm, bel⟩
    · go_wp2
      go_ret
      exact ⟨ret_b (sched_yes (by have := HL.out; omega) (fun j hj => HNO.out j (by have := HL.out; omega))).symm, hbr⟩
theorem rrun_no0 (l : List BarR) (r : Rn) (A : Option Addr) (n c : Nat) (B : Nat) (w : World) (hB : B ≤ w.heap.size) (hA : BarsAt w B A n l) (h : S.rightHead (bars l) r = false) :
    Calls Tryz.prog 115 #[.slice A n c, rnV r] w fun e w' => e = .returned (.bool false) ∧ Below w.heap.size w w' := by
  have HA := Lib.hid hA
  have HI := Lib.hid (fun (W : World) (hw : B ≤ W.heap.size) (hh : BarsAt W B A n l) => rfind14_any l r.mark A n c B W hw hh)
  have HV := Lib.hid (fun w => rturn_any r.tx r.ty w)
  have HP := Lib.hid (fun w => rnear1_any r.at_ w)
  unfold S.rightHead at h
  generalize S.index (bars l) r.mark = j at *
  generalize S.turn r.tx r.ty = t1 at *
  generalize S.near1 r.at_ 1048576 = t2 at *
  have hcs : j < 0 ∨ (¬ j < 0 ∧ t1 = false) ∨ (¬ j < 0 ∧ t1 = true ∧ r.count < 1) ∨ (¬ j < 0 ∧ t1 = true ∧ ¬ r.count < 1 ∧ 1000 < r.count) ∨ (¬ j < 0 ∧ t1 = true ∧ ¬ r.count < 1 ∧ ¬ 1000 < r.count ∧ t2 = false) := by
    by_cases h0 : j < 0
    · exact .inl h0
    · cases t1
      · exact .inr (.inl ⟨h0, rfl⟩)
      · by_cases h1 : r.count < 1
        · exact .inr (.inr (.inl ⟨h0, rfl, h1⟩))
        · by_cases h2 : 1000 < r.count
          · exact .inr (.inr (.inr (.inl ⟨h0, rfl, h1, h2⟩)))
          · cases t2
            · exact .inr (.inr (.inr (.inr ⟨h0, rfl, h1, h2, rfl⟩)))
            · exfalso
              have h3 : 1 ≤ r.count := by omega
              have h4 : r.count ≤ 1000 := by omega
              simp [h0, h3, h4] at h
  clear hA h
  unfold turnV at HV
  unfold ptV at HP
  unfold rnV
  rcases hcs with h0 | ⟨h0, rfl⟩ | ⟨h0, rfl, h1⟩ | ⟨h0, rfl, h1, h2⟩ | ⟨h0, rfl, h1, h2, rfl⟩
  all_goals (
    go_enter Tryz.func115, Tryz.ntmps115
    go_wp2_with (first
      | (go_at_call 162; (with_reducible refine (HI.out _ (by simp; omega) (HA.out.at_ hB bel)).mono ?_); rintro e w1 ⟨rfl, hbw1⟩; obtain ⟨hcw1, hfw1⟩ := bcell hbw1; have hzw1_0 : w.heap.size < w1.heap.size := lt_via hbw1 (by first | omega | (simp; done) | (simp; omega)))
      | (go_at_call 175; (with_reducible refine (HV.out _).mono ?_); rintro e w2 ⟨rfl, hbw2⟩; obtain ⟨hcw2, hfw2⟩ := bcell hbw2; have hzw2_0 : w.heap.size < w2.heap.size := lt_via hbw2 (by first | omega | (simp; done) | (simp; omega)))
      | (go_at_call 176; (with_reducible refine (HP.out _).mono ?_); rintro e w3 ⟨rfl, hbw3⟩; obtain ⟨hcw3, hfw3⟩ := bcell hbw3; have hzw3_0 : w.heap.size < w3.heap.size := lt_via hbw3 (by first | omega | (simp; done) | (simp; omega))))
    go_ret
    exact ⟨rfl, bel⟩)
theorem rrun_no1 (l : List BarR) (r : Rn) (A : Option Addr) (n c : Nat) (B : Nat) (w : World) (hB : B ≤ w.heap.size) (hA : BarsAt w B A n l) (h : S.rightHead (bars l) r = true) (h' : S.rightStep r = false) :
    Calls Tryz.prog 115 #[.slice A n c, rnV r] w fun e w' => e = .returned (.bool false) ∧ Below w.heap.size w w' := by
  have HA := Lib.hid hA
  obtain ⟨⟨h0, h1, h2⟩, h3, h4⟩ := rightHead_out h
  have HI := Lib.hid (fun (W : World) (hw : B ≤ W.heap.size) (hh : BarsAt W B A n l) => rfind14_any l r.mark A n c B W hw hh)
  have HV := Lib.hid (fun w => h1 ▸ rturn_any r.tx r.ty w)
  have HP := Lib.hid (fun w => h2 ▸ rnear1_any r.at_ w)
  have HS := Lib.hid (fun w => rtwice_any r.step w)
  have hz : ∀ W, (binOp .eql 87 (.agg #[.int .i64 r.step.x, .int .i64 r.step.y, .int .i64 r.step.z]) (.agg #[.int .i64 0, .int .i64 0, .int .i64 0])).run Tryz.prog W = .ok (.bool (S.pt0 r.step)) W := fun W => run_eq0 r.step W
  have z91 : ∀ W, (Instr.build 87 #[]).run Tryz.prog W = .ok (.agg #[.int .i64 0, .int .i64 0, .int .i64 0]) W := fun _ => by kernel_rfl
  unfold S.rightStep at h'
  clear hA h
  generalize S.index (bars l) r.mark = j at *
  generalize S.near1 r.step 2097152 = t2 at *
  generalize S.pt0 r.step = t1 at *
  have hj : ¬ j < 0 := by omega
  have hcs : (1 < r.count ∧ t1 = true) ∨ (1 < r.count ∧ t1 = false ∧ t2 = false) := by
    by_cases h5 : 1 < r.count
    · cases t1
      · cases t2
        · exact .inr ⟨h5, rfl, rfl⟩
        · simp [h5] at h'
      · exact .inl ⟨h5, rfl⟩
    · simp [h5] at h'
  clear h0 h1 h2 h'
  unfold turnV at HV
  unfold ptV at HP HS
  unfold rnV
  rcases hcs with ⟨h5, rfl⟩ | ⟨h5, rfl, rfl⟩
  all_goals (
    go_enter Tryz.func115, Tryz.ntmps115
    go_wp2_with (first
      | (go_at_call 162; (with_reducible refine (HI.out _ (by simp; omega) (HA.out.at_ hB bel)).mono ?_); rintro e w1 ⟨rfl, hbw1⟩; obtain ⟨hcw1, hfw1⟩ := bcell hbw1; have hzw1_0 : w.heap.size < w1.heap.size := lt_via hbw1 (by first | omega | (simp; done) | (simp; omega)))
      | (go_at_call 175; (with_reducible refine (HV.out _).mono ?_); rintro e w2 ⟨rfl, hbw2⟩; obtain ⟨hcw2, hfw2⟩ := bcell hbw2; have hzw2_0 : w.heap.size < w2.heap.size := lt_via hbw2 (by first | omega | (simp; done) | (simp; omega)))
      | (go_at_call 176; (with_reducible refine (HP.out _).mono ?_); rintro e w3 ⟨rfl, hbw3⟩; obtain ⟨hcw3, hfw3⟩ := bcell hbw3; have hzw3_0 : w.heap.size < w3.heap.size := lt_via hbw3 (by first | omega | (simp; done) | (simp; omega)))
      | (go_at_call 177; (with_reducible refine (HS.out _).mono ?_); rintro e w4 ⟨rfl, hbw4⟩; obtain ⟨hcw4, hfw4⟩ := bcell hbw4; have hzw4_0 : w.heap.size < w4.heap.size := lt_via hbw4 (by first | omega | (simp; done) | (simp; omega))))
    go_ret
    exact ⟨rfl, bel⟩)
set_option maxRecDepth 20000 in
set_option maxHeartbeats 4000000 in
theorem rrun_in (l : List BarR) (r : Rn) (k0 : Nat) (b : BarR) (A : Option Addr) (n c : Nat) (B : Nat) (w : World) (hB : B ≤ w.heap.size) (hA : BarsAt w B A n l) (h : S.rightHead (bars l) r = true) (h' : S.rightStep r = true) (hk0 : S.index (bars l) r.mark = (k0 : Int)) (hbk : l[k0]? = some b) (hv : S.bar b.b = true) :
    Calls Tryz.prog 115 #[.slice A n c, rnV r] w fun e w' => e = .returned (.bool (S.near (S.laidPath b.b r 0) 1048576 && S.near (S.laidPath b.b r (r.count - 1).toNat) 1048576)) ∧ Below w.heap.size w w' := by
  have HA := Lib.hid hA
  obtain ⟨⟨h0, h1, h2⟩, h3, h4⟩ := rightHead_out h
  obtain ⟨hkx, hkb⟩ := List.getElem?_eq_some_iff.1 hbk
  have hkn : k0 < n := by have := hA.len; omega
  have hs' := hA.cells
  obtain ⟨bb, o, rfl, hbb, _⟩ := hs'.at_ (by rw [flat_len barC 5 barC_len]; omega)
  have hbb' : bb < w.heap.size := by omega
  have c0 := hs'.row0 barC_len hkx rfl
  have c1 := hs'.rowj barC_len hkx 1 rfl
  have c2 := hs'.rowj barC_len hkx 2 rfl
  have c3 := hs'.rowj barC_len hkx 3 rfl
  have c4 := hs'.rowj barC_len hkx 4 rfl
  have HE := Lib.hid (hA.each l[k0] (List.getElem_mem hkx))
  rw [hkb] at c0 c1 c2 c3 c4 HE
  have HI := Lib.hid (fun (W : World) (hw : B ≤ W.heap.size) (hh : BarsAt W B (some ⟨bb, o, none⟩) n l) => hk0 ▸ rfind14_any l r.mark (some ⟨bb, o, none⟩) n c B W hw hh)
  have HV := Lib.hid (fun w => h1 ▸ rturn_any r.tx r.ty w)
  have HP := Lib.hid (fun w => h2 ▸ rnear1_any r.at_ w)
  have HS := Lib.hid (fun w => rtwice_any r.step w)
  have hz : ∀ W, (binOp .eql 87 (.agg #[.int .i64 r.step.x, .int .i64 r.step.y, .int .i64 r.step.z]) (.agg #[.int .i64 0, .int .i64 0, .int .i64 0])).run Tryz.prog W = .ok (.bool (S.pt0 r.step)) W := fun W => run_eq0 r.step W
  have z91 : ∀ W, (Instr.build 87 #[]).run Tryz.prog W = .ok (.agg #[.int .i64 0, .int .i64 0, .int .i64 0]) W := fun _ => by kernel_rfl
  obtain ⟨q, hq⟩ : ∃ q : Nat, q = (r.count - 1).toNat := ⟨_, rfl⟩
  have hqi : (q : Int) = r.count - 1 := by omega
  have hcs : (¬ 1 < r.count) ∨ (1 < r.count ∧ S.pt0 r.step = false ∧ S.near1 r.step 2097152 = true) := by
    by_cases h5 : 1 < r.count
    · simp [S.rightStep, h5] at h'
      exact .inr ⟨h5, h'⟩
    · exact .inl h5
  have hst : 0 < q → S.near1 r.step 2097152 = true := fun hq0 => by
    rcases hcs with h5 | h5
    · exfalso; omega
    · exact h5.2.2
  have hl6 := legs_len b.b.code
  have HP0 := Lib.hid (fun (W : World) (hw : B ≤ W.heap.size) (hh : BarAt W B b.A b.n b.b) => show Calls Tryz.prog 179 #[barV b.b b.A b.n b.c, rnV r, .int .i64 0] W (GivesOne 87 3 ((S.legsOf b.b.code).length + 1) ((S.laidPath b.b r 0).flatMap ptC) W) from rpoints_any b.b r 0 b.A b.n b.c B W hw hh hv h1 h2 (by omega) (fun h => absurd h (by omega)) _ rfl)
  have HPQ := Lib.hid (fun (W : World) (hw : B ≤ W.heap.size) (hh : BarAt W B b.A b.n b.b) => rpoints_any b.b r q b.A b.n b.c B W hw hh hv h1 h2 (by omega) hst _ rfl)
  have HN0 := Lib.hid (fun (W : World) (A' : Option Addr) (c' : Nat) (B' : Nat) (hw : B' ≤ W.heap.size) (hh : Cells W B' A' ((S.laidPath b.b r 0).flatMap ptC)) => rnearL_any (S.laidPath b.b r 0) A' ((S.legsOf b.b.code).length + 1) c' B' W (laidPath_len _ _ _) (by omega) hw hh)
  have HNQ := Lib.hid (fun (W : World) (A' : Option Addr) (c' : Nat) (B' : Nat) (hw : B' ≤ W.heap.size) (hh : Cells W B' A' ((S.laidPath b.b r q).flatMap ptC)) => rnearL_any (S.laidPath b.b r q) A' ((S.legsOf b.b.code).length + 1) c' B' W (laidPath_len _ _ _) (by omega) hw hh)
  rw [← hq]
  have e1 : IntKind.i64.wrap (r.count - 1) = (q : Int) := by rw [IntWalk.i64_in _ (by omega)]; omega
  have HQ := Lib.hid hqi
  generalize S.near (S.laidPath b.b r 0) 1048576 = N0 at *
  generalize S.near (S.laidPath b.b r q) 1048576 = NQ at *
  generalize (S.laidPath b.b r 0).flatMap ptC = P0 at *
  generalize (S.laidPath b.b r q).flatMap ptC = PQ at *
  have hj : ¬ (k0 : Int) < 0 := by omega
  have hki : (k0 : Int) < (n : Int) := by omega
  clear hA h h' h0 h1 h2 hv hbk hs' hst hq hqi hk0 hkb
  unfold turnV at HV
  unfold ptV at HP HS
  unfold barV rnV at HP0 HPQ
  unfold rnV
  have hW0 : Below w.heap.size w (w.alloc (.cells #[.string r.mark, .int .i64 r.tx, .int .i64 r.ty, .int .i64 r.at_.x, .int .i64 r.at_.y, .int .i64 r.at_.z, .int .i64 r.step.x, .int .i64 r.step.y, .int .i64 r.step.z, .int .i64 r.count] 183)) := ba_alloc (Below.refl _ _) _
  have HRB := Lib.hid (Blk.new w 183 #[.string r.mark, .int .i64 r.tx, .int .i64 r.ty, .int .i64 r.at_.x, .int .i64 r.at_.y, .int .i64 r.at_.z, .int .i64 r.step.x, .int .i64 r.step.y, .int .i64 r.step.z, .int .i64 r.count])
  have HC := Lib.hid (show w.cell? ⟨bb, o + k0 * 5, none⟩ = some (.string b.b.mark) ∧ w.cell? ⟨bb, o + k0 * 5 + 1, none⟩ = some (.int .i64 b.b.size) ∧ w.cell? ⟨bb, o + k0 * 5 + 2, none⟩ = some (.int .i64 b.b.count) ∧ w.cell? ⟨bb, o + k0 * 5 + 3, none⟩ = some (.int .i64 b.b.code) ∧ w.cell? ⟨bb, o + k0 * 5 + 4, none⟩ = some (.slice b.A b.n b.c) from ⟨c0, c1, c2, c3, c4⟩)
  clear c0 c1 c2 c3 c4
  rcases hcs with h5 | ⟨h5, h6, h7⟩
  case' inl =>
    go_enter Tryz.func115, Tryz.ntmps115
    go_upto_region 6 with (first
      | (go_at_call 162; (with_reducible refine (HI.out _ (by simp; omega) (HA.out.at_ hB bel)).mono ?_); rintro e w1 ⟨rfl, hbw1⟩; obtain ⟨hcw1, hfw1⟩ := bcell hbw1; have hzw1_0 : w.heap.size < w1.heap.size := lt_via hbw1 (by first | omega | (simp; done) | (simp; omega)))
      | (go_at_call 175; (with_reducible refine (HV.out _).mono ?_); rintro e w2 ⟨rfl, hbw2⟩; obtain ⟨hcw2, hfw2⟩ := bcell hbw2; have hzw2_0 : w.heap.size < w2.heap.size := lt_via hbw2 (by first | omega | (simp; done) | (simp; omega)))
      | (go_at_call 176; (with_reducible refine (HP.out _).mono ?_); rintro e w3 ⟨rfl, hbw3⟩; obtain ⟨hcw3, hfw3⟩ := bcell hbw3; have hzw3_0 : w.heap.size < w3.heap.size := lt_via hbw3 (by first | omega | (simp; done) | (simp; omega)))
      | (go_at_call 177; (with_reducible refine (HS.out _).mono ?_); rintro e w4 ⟨rfl, hbw4⟩; obtain ⟨hcw4, hfw4⟩ := bcell hbw4; have hzw4_0 : w.heap.size < w4.heap.size := lt_via hbw4 (by first | omega | (simp; done) | (simp; omega))))
    have hb0 : Below w.heap.size w w3 := bel
    have hR0 := ((HRB.out.via hbw1).via hbw2).via hbw3
    clear hcw1 hfw1 hcw2 hfw2 hcw3 hfw3
    clear hbw1 hbw2 hbw3
    generalize w3 = W0 at *
  case' inr =>
    rw [h6] at hz
    rw [h7] at HS
    go_enter Tryz.func115, Tryz.ntmps115
    go_upto_region 6 with (first
      | (go_at_call 162; (with_reducible refine (HI.out _ (by simp; omega) (HA.out.at_ hB bel)).mono ?_); rintro e w1 ⟨rfl, hbw1⟩; obtain ⟨hcw1, hfw1⟩ := bcell hbw1; have hzw1_0 : w.heap.size < w1.heap.size := lt_via hbw1 (by first | omega | (simp; done) | (simp; omega)))
      | (go_at_call 175; (with_reducible refine (HV.out _).mono ?_); rintro e w2 ⟨rfl, hbw2⟩; obtain ⟨hcw2, hfw2⟩ := bcell hbw2; have hzw2_0 : w.heap.size < w2.heap.size := lt_via hbw2 (by first | omega | (simp; done) | (simp; omega)))
      | (go_at_call 176; (with_reducible refine (HP.out _).mono ?_); rintro e w3 ⟨rfl, hbw3⟩; obtain ⟨hcw3, hfw3⟩ := bcell hbw3; have hzw3_0 : w.heap.size < w3.heap.size := lt_via hbw3 (by first | omega | (simp; done) | (simp; omega)))
      | (go_at_call 177; (with_reducible refine (HS.out _).mono ?_); rintro e w4 ⟨rfl, hbw4⟩; obtain ⟨hcw4, hfw4⟩ := bcell hbw4; have hzw4_0 : w.heap.size < w4.heap.size := lt_via hbw4 (by first | omega | (simp; done) | (simp; omega))))
    have hb0 : Below w.heap.size w w4 := bel
    have hR0 := (((HRB.out.via hbw1).via hbw2).via hbw3).via hbw4
    clear hcw1 hfw1 hcw2 hfw2 hcw3 hfw3 hcw4 hfw4
    clear hbw1 hbw2 hbw3 hbw4
    generalize w4 = W0 at *
  all_goals (
    have hkeep : ∀ W', Below W0.heap.size W0 W' → W'.cell? ⟨bb, o + k0 * 5, none⟩ = some (.string b.b.mark) ∧ W'.cell? ⟨bb, o + k0 * 5 + 1, none⟩ = some (.int .i64 b.b.size) ∧ W'.cell? ⟨bb, o + k0 * 5 + 2, none⟩ = some (.int .i64 b.b.count) ∧ W'.cell? ⟨bb, o + k0 * 5 + 3, none⟩ = some (.int .i64 b.b.code) ∧ W'.cell? ⟨bb, o + k0 * 5 + 4, none⟩ = some (.slice b.A b.n b.c) ∧ W'.cell? ⟨w.heap.size, 0, none⟩ = some (.string r.mark) ∧ W'.cell? ⟨w.heap.size, 1, none⟩ = some (.int .i64 r.tx) ∧ W'.cell? ⟨w.heap.size, 2, none⟩ = some (.int .i64 r.ty) ∧ W'.cell? ⟨w.heap.size, 3, none⟩ = some (.int .i64 r.at_.x) ∧ W'.cell? ⟨w.heap.size, 4, none⟩ = some (.int .i64 r.at_.y) ∧ W'.cell? ⟨w.heap.size, 5, none⟩ = some (.int .i64 r.at_.z) ∧ W'.cell? ⟨w.heap.size, 6, none⟩ = some (.int .i64 r.step.x) ∧ W'.cell? ⟨w.heap.size, 7, none⟩ = some (.int .i64 r.step.y) ∧ W'.cell? ⟨w.heap.size, 8, none⟩ = some (.int .i64 r.step.z) ∧ W'.cell? ⟨w.heap.size, 9, none⟩ = some (.int .i64 r.count) := fun W' hw => by
      have g := (hb0.trans (hw.mono hb0.size))
      have g1 := hR0.via hw
      obtain ⟨c0, c1, c2, c3, c4⟩ := HC.out
      exact ⟨(g.cell (p := ⟨bb, _, none⟩) hbb').trans c0, (g.cell (p := ⟨bb, _, none⟩) hbb').trans c1, (g.cell (p := ⟨bb, _, none⟩) hbb').trans c2, (g.cell (p := ⟨bb, _, none⟩) hbb').trans c3, (g.cell (p := ⟨bb, _, none⟩) hbb').trans c4,
        g1.cell 0, g1.cell 1, g1.cell 2, g1.cell 3, g1.cell 4, g1.cell 5, g1.cell 6, g1.cell 7, g1.cell 8, g1.cell 9⟩
    have HK := Lib.hid hkeep
    clear hkeep hz HI HV HP HS HA
    have hrl := hR0.lt
    clear hR0
    obtain ⟨c0, c1, c2, c3, c4, d0, d1, d2, d3, d4, d5, d6, d7, d8, d9⟩ := HK.out W0 (Below.refl _ _)
    have hbb0 : bb < W0.heap.size := by have := hb0.size; omega
    cases N0
    all_goals (
      refine wp_region_mix 1 [5, 0, 9, 0] (by kernel_rfl) (by kernel_rfl) (of_decide_eq_true (by kernel_rfl)) ?_
      try simp only [wpSegs, List.take_succ_cons, List.take_zero, List.drop_succ_cons, List.drop_zero, List.take_nil, List.drop_nil]
      repeat (go_big_quiet_step (fail))
      refine wpQuiet_nil ?_
      show wpList _ _ _ _ _ _
      go_wp2_with ((go_at_call 179; (with_reducible refine (HP0.out _ (size_via hB belr) (HE.out.at_ hB belr)).mono ?_); rintro e wA ⟨AA, cAA, rfl, hoAA, hbAA⟩; have hcAA := (own_cells hoAA (by unfold maxLen; omega)).1))
      refine seg_next (grow_to belr) ?_
      try simp only [wpSegs, List.take_succ_cons, List.take_zero, List.drop_succ_cons, List.drop_zero, List.take_nil, List.drop_nil]
      repeat (go_big_quiet_step (fail))
      refine wpQuiet_nil ?_
      show wpList _ _ _ _ _ _
      go_wp2_with ((go_at_call 178; (with_reducible refine (HN0.out _ _ _ _ (Nat.le_refl _) hcAA).mono ?_); rintro e wB ⟨rfl, hbBB⟩; obtain ⟨hxBB, hyBB⟩ := bcell (show Below W0.heap.size W0 wB from belr)))
      refine seg_next (grow_to belr) ?_
      try simp only [wpSegs, List.take_succ_cons, List.take_zero, List.drop_succ_cons, List.drop_zero, List.take_nil, List.drop_nil]
      repeat (go_big_quiet_step (fail))
      refine wpQuiet_nil ?_
      show wpList _ _ _ _ _ _
      go_wp2_with ((go_at_call 179; (with_reducible refine (HPQ.out _ (size_via hB belr) (HE.out.at_ hB belr)).mono ?_); rintro e wC ⟨AC, cAC, rfl, hoAC, hbAC⟩; have hcAC := (own_cells hoAC (by unfold maxLen; omega)).1))
      refine seg_next (grow_to belr) ?_
      try simp only [wpSegs, List.take_succ_cons, List.take_zero, List.drop_succ_cons, List.drop_zero, List.take_nil, List.drop_nil]
      repeat (go_big_quiet_step (fail))
      refine wpQuiet_nil ?_
      show wpList _ _ _ _ _ _
      go_wp2_with ((go_at_call 178; (with_reducible refine (HNQ.out _ _ _ _ (Nat.le_refl _) hcAC).mono ?_); rintro e wD ⟨rfl, hbBD⟩; obtain ⟨hxBD, hyBD⟩ := bcell (show Below W0.heap.size W0 wD from belr)))
      refine seg_next (grow_to belr) ?_
      try simp only [wpSegs, List.take_succ_cons, List.take_zero, List.drop_succ_cons, List.drop_zero, List.take_nil, List.drop_nil]
      repeat (go_big_quiet_step (fail))
      refine wpQuiet_nil ?_
      show wpList _ _ _ _ _ _
      go_wp2
      go_ret
      exact ⟨rfl, belr⟩))
theorem rrun_any (l : List BarR) (r : Rn) (A : Option Addr) (n c : Nat) (B : Nat) (w : World) (hB : B ≤ w.heap.size) (hA : BarsAt w B A n l) (hs : S.sched (bars l) = true) :
    Calls Tryz.prog 115 #[.slice A n c, rnV r] w fun e w' => e = .returned (.bool (S.right (bars l) r)) ∧ Below w.heap.size w w' := by
  rw [← rrun_eq hs]
  by_cases h : S.rightHead (bars l) r = true
  · by_cases h' : S.rightStep r = true
    · obtain ⟨⟨h0, _⟩, _⟩ := rightHead_out h
      have hb := (index_bd (bars l) r.mark).2
      obtain ⟨k, hk⟩ : ∃ k : Nat, S.index (bars l) r.mark = (k : Int) := ⟨(S.index (bars l) r.mark).toNat, by omega⟩
      have hkl : k < l.length := by rw [hk] at hb; simpa using hb
      have e : S.rrun (bars l) r = (S.near (S.laidPath l[k].b r 0) 1048576 && S.near (S.laidPath l[k].b r (r.count - 1).toNat) 1048576) := by
        have : S.barAt (bars l) r.mark = some l[k].b := by
          unfold S.barAt
          rw [hk]
          simp [hkl]
        unfold S.rrun
        rw [h, h', this]
        rfl
      rw [e]
      exact rrun_in l r k l[k] A n c B w hB hA h h' hk (List.getElem?_eq_getElem hkl) (sched_bar hs (k := k) (by simp [hkl])).1
    · have h2 : S.rightStep r = false := by simpa using h'
      have e : S.rrun (bars l) r = false := by unfold S.rrun; rw [h2]; simp
      rw [e]
      exact rrun_no1 l r A n c B w hB hA h h2
  · have h2 : S.rightHead (bars l) r = false := by simpa using h
    have e : S.rrun (bars l) r = false := by unfold S.rrun; rw [h2]; simp
    rw [e]
    exact rrun_no0 l r A n c B w hB hA h2
set_option maxHeartbeats 1000000 in
theorem rlaid_any (l : List BarR) (rs : List Rn) (A : Option Addr) (n c : Nat) (A' : Option Addr) (n' c' : Nat) (B : Nat) (w : World) (hB : B ≤ w.heap.size) (hA : BarsAt w B A n l) (hR : RunsAt w B A' n' rs) :
    Calls Tryz.prog 61 #[.slice A n c, .slice A' n' c'] w fun e w' => e = .returned (.bool (S.laid (bars l) rs)) ∧ Below w.heap.size w w' := by
  have HA := Lib.hid hA
  have HR := Lib.hid hR
  have HS := Lib.hid (fun (W : World) (hw : B ≤ W.heap.size) (hh : BarsAt W B A n l) => rsched_any l A n c B W hw hh)
  have HL := Lib.hid (show S.laid (bars l) rs = (S.sched (bars l) && decide (n' ≤ 60) && (rs.all (S.right (bars l)) && decide (S.sumAll rs ≤ 2000))) by unfold S.laid; rw [hR.len, runsOk_iff (by omega)])
  have hn := hR.len
  have hnm := hR.max
  by_cases hs : S.sched (bars l) = true
  rotate_left
  · have hs' : S.sched (bars l) = false := by simpa using hs
    rw [hs'] at HS HL
    clear hA hR hs hs' hn
    go_enter Tryz.func61, Tryz.ntmps61
    go_wp2_with (first
      | (go_at_call 114; (with_reducible refine (HS.out _ hB HA.out).mono ?_); rintro e w1 ⟨rfl, hbw1⟩; obtain ⟨hcw1, hfw1⟩ := bcell hbw1))
    go_ret
    exact ⟨ret_b (by rw [HL.out]; rfl), bel⟩
  rw [hs] at HS HL
  have HRI := Lib.hid (fun (r : Rn) (W : World) (hw : B ≤ W.heap.size) (hh : BarsAt W B A n l) => rrun_any l r A n c B W hw hh hs)
  have HC := Lib.hid (fun (r : Rn) (h : S.right (bars l) r = true) => right_count h)
  have HCN := Lib.hid (fun (W : World) (hw : B ≤ W.heap.size) (hh : RunsAt W B A' n' rs) (h60 : n' ≤ 60) (hc : ∀ k (hk : k < rs.length), 0 ≤ rs[k].count ∧ rs[k].count ≤ 1000) => rcount16_any rs A' n' c' B W hw hh h60 hc)
  unfold rnV at HRI
  by_cases h60 : 60 < n'
  · have e : decide (n' ≤ 60) = false := by simpa using h60
    rw [e] at HL
    clear hA hR hs e hn
    go_enter Tryz.func61, Tryz.ntmps61
    go_wp2_with (first
      | (go_at_call 114; (with_reducible refine (HS.out _ hB HA.out).mono ?_); rintro e w1 ⟨rfl, hbw1⟩; obtain ⟨hcw1, hfw1⟩ := bcell hbw1))
    go_ret
    exact ⟨ret_b (by rw [HL.out]; rfl), bel⟩
  have e : decide (n' ≤ 60) = true := by simp; omega
  rw [e] at HL
  clear hA hR hs e hn
  go_enter Tryz.func61, Tryz.ntmps61
  go_wp2_with (first
    | (go_at_call 114; (with_reducible refine (HS.out _ hB HA.out).mono ?_); rintro e w1 ⟨rfl, hbw1⟩; obtain ⟨hcw1, hfw1⟩ := bcell hbw1))
  go_loopw [5] (fun i wr => ∃ (k : Nat), k ≤ n' ∧ i = .int .i64 k ∧ Hid (∀ j (hj : j < rs.length), j < k → S.right (bars l) rs[j] = true) ∧ Below w1.heap.size w1 wr) (fun i _ => n' - (intOf i).toNat)
  case atStart => exact ⟨0, Nat.zero_le _, rfl, Lib.hid (fun j _ hj => absurd hj (by omega)), Below.refl _ _⟩
  case round =>
    obtain ⟨k, hk, rfl, HNO, hbr⟩ := hrel
    have hbwr : Below w.heap.size w wr := hbw1.trans (hbr.mono hbw1.size)
    have hwr : B ≤ wr.heap.size := by have := hbwr.size; omega
    by_cases hlt : k < n'
    · have hkx : k < rs.length := by have := HR.out.len; omega
      have hki : (k : Int) < (n' : Int) := by omega
      have HA' := Lib.hid (HA.out.at_ hB hbwr)
      have hs' := (HR.out.at_ hB hbwr).cells
      obtain ⟨b, o, hAe, _, _⟩ := hs'.at_ (by rw [flat_len rnC 10 rnC_len]; omega)
      subst hAe
      have c0 := hs'.row0 rnC_len hkx rfl
      have c1 := hs'.rowj rnC_len hkx 1 rfl
      have c2 := hs'.rowj rnC_len hkx 2 rfl
      have c3 := hs'.rowj rnC_len hkx 3 rfl
      have c4 := hs'.rowj rnC_len hkx 4 rfl
      have c5 := hs'.rowj rnC_len hkx 5 rfl
      have c6 := hs'.rowj rnC_len hkx 6 rfl
      have c7 := hs'.rowj rnC_len hkx 7 rfl
      have c8 := hs'.rowj rnC_len hkx 8 rfl
      have c9 := hs'.rowj rnC_len hkx 9 rfl
      have HRX := Lib.hid (fun (W : World) (hw : B ≤ W.heap.size) (hh : BarsAt W B A n l) => HRI.out rs[k] W hw hh)
      have HBAD := Lib.hid (fun (h : S.right (bars l) rs[k] = false) => all_no (p := S.right (bars l)) hkx h)
      have HGO := Lib.hid (fun (h : S.right (bars l) rs[k] = true) (j : Nat) (hj : j < rs.length) (hjk : j < k + 1) => show S.right (bars l) rs[j] = true from by
        by_cases hjk' : j = k
        · subst hjk'; exact h
        · exact HNO.out j hj (by omega))
      clear hs'
      generalize S.right (bars l) rs[k] = t at *
      generalize rs[k] = r at *
      cases t
      · go_wp2_with (first
          | (go_at_call 115; (with_reducible refine (HRX.out _ hwr HA'.out).mono ?_); rintro e w2 ⟨rfl, hbw2⟩; obtain ⟨hcw2, hfw2⟩ := bcell hbw2))
        go_ret
        exact ⟨ret_b (by rw [HL.out, HBAD.out trivial]; rfl), hbwr.trans (hbw2.mono hbwr.size)⟩
      · go_wp2_with (first
          | (go_at_call 115; (with_reducible refine (HRX.out _ hwr HA'.out).mono ?_); rintro e w2 ⟨rfl, hbw2⟩; obtain ⟨hcw2, hfw2⟩ := bcell hbw2))
        go_roundw
        case rel => exact ⟨k + 1, by omega, by go_num, Lib.hid (HGO.out trivial), hbr.trans (hbw2.mono hbr.size)⟩
        case measure => simp [intOf]; omega
    · have hall : ∀ j (hj : j < rs.length), S.right (bars l) rs[j] = true := fun j hj => HNO.out j hj (by have := HR.out.len; omega)
      have HAL := Lib.hid (all_yes (p := S.right (bars l)) hall)
      have HCX := Lib.hid (HCN.out wr hwr (HR.out.at_ hB hbwr) (by omega) (fun j hj => by have := HC.out _ (hall j hj); omega))
      clear hall
      generalize S.sumAll rs = sm at *
      go_wp2_with (first
        | (go_at_call 94; (with_reducible refine (HCX.out).mono ?_); rintro e w' ⟨rfl, rfl⟩))
      go_ret
      exact ⟨ret_b (by rw [HL.out, HAL.out]; simp), hbwr⟩
set_option maxHeartbeats 2000000 in
theorem rpoints16_any (l : List BarR) (rs : List Rn) (A : Option Addr) (n c : Nat) (A' : Option Addr) (n' c' : Nat) (B : Nat) (w : World) (hB : B ≤ w.heap.size) (hA : BarsAt w B A n l) (hR : RunsAt w B A' n' rs) (i k j k0 : Nat) (r : BarR) (hL : Lies l rs i k j k0 r) (L : Nat) (hLL : (S.legsOf r.b.code).length = L) :
    Calls Tryz.prog 156 #[.slice A n c, .slice A' n' c', .int .i64 i] w (GivesOne 87 3 (L + 1) ((S.laidPath r.b (rs[k]'hL.st.lt) j).flatMap ptC) w) := by
  have HA := Lib.hid hA
  have hkx := hL.st.lt
  have hkn : k < n' := by have := hR.len; omega
  have hki : (k : Int) < (n' : Int) := by omega
  have HP := Lib.hid (fun (W : World) (hw : B ≤ W.heap.size) (hh : RunsAt W B A' n' rs) => rplace_any rs A' n' c' B W hw hh (fun k hk => (hL.cnt k hk).1) i k j hkx hL.st.sum hL.st.inr hL.lim)
  have HR := Lib.hid hR
  have HBR := Lib.hid (fun (W : World) (hw : B ≤ W.heap.size) (hh : BarsAt W B A n l) (hr : RunsAt W B A' n' rs) => rbar16_any l rs A n c A' n' c' B W hw hh hr i k j k0 r hL)
  obtain ⟨hk0, hrg⟩ := List.getElem?_eq_some_iff.1 hL.get
  have HE := Lib.hid (hrg ▸ hA.each l[k0] (List.getElem_mem hk0))
  have hok := hL.st.ok
  have hcn := hL.cnt k hkx
  have hjr := hL.st.inr
  have hst : 0 < j → S.near1 rs[k].step 2097152 = true := fun hj => by
    have h1 := hok.start 1 (by omega) (by omega)
    have h2 := hok.home
    obtain ⟨ax, ay, az⟩ := near1_out h2
    obtain ⟨bx, by', bz⟩ := near1_out h1
    rw [show S.plus rs[k].at_ rs[k].step 1 = ⟨rs[k].at_.x + 1 * rs[k].step.x, rs[k].at_.y + 1 * rs[k].step.y, rs[k].at_.z + 1 * rs[k].step.z⟩ from rfl] at bx by' bz
    simp only [S.near1, Bool.and_eq_true, decide_eq_true_eq]
    simp only [] at bx by' bz
    omega
  have HPT := Lib.hid (fun (W : World) (hw : B ≤ W.heap.size) (hh : BarAt W B r.A r.n r.b) => rpoints_any r.b rs[k] j r.A r.n r.c B W hw hh hok.bar hok.turn hok.home (by omega) hst L hLL)
  have hs' := hR.cells
  obtain ⟨b, o, hAe, hbB, _⟩ := hs'.at_ (by rw [flat_len rnC 10 rnC_len]; omega)
  subst hAe
  have c0 := hs'.row0 rnC_len hkx rfl
  have c1 := hs'.rowj rnC_len hkx 1 rfl
  have c2 := hs'.rowj rnC_len hkx 2 rfl
  have c3 := hs'.rowj rnC_len hkx 3 rfl
  have c4 := hs'.rowj rnC_len hkx 4 rfl
  have c5 := hs'.rowj rnC_len hkx 5 rfl
  have c6 := hs'.rowj rnC_len hkx 6 rfl
  have c7 := hs'.rowj rnC_len hkx 7 rfl
  have c8 := hs'.rowj rnC_len hkx 8 rfl
  have c9 := hs'.rowj rnC_len hkx 9 rfl
  have hb1 : b < w.heap.size := by omega
  clear hA hR hs' hrg hok hcn hjr hst
  generalize S.laidPath r.b rs[k] j = LP at *
  generalize rs[k] = rr at *
  unfold barV at HBR HPT
  unfold rnV at HPT
  go_enter Tryz.func156, Tryz.ntmps156
  go_wp2_with (first
    | (go_at_call 161; (with_reducible refine (HP.out _ (size_via hB bel) (HR.out.at_ hB bel)).mono ?_); rintro e w' ⟨rfl, rfl⟩))
  refine wp_region_mix 0 [3, 5] (by kernel_rfl) (by kernel_rfl) (of_decide_eq_true (by kernel_rfl)) ?_
  try simp only [wpSegs, List.take_succ_cons, List.take_zero, List.drop_succ_cons, List.drop_zero, List.take_nil, List.drop_nil]
  repeat (go_big_quiet_step (fail))
  refine wpQuiet_nil ?_
  show wpList _ _ _ _ _ _
  go_wp2_with ((go_at_call 102; (with_reducible refine (HBR.out _ (size_via hB belr) (HA.out.at_ hB belr) (HR.out.at_ hB belr)).mono ?_); rintro e w1 ⟨rfl, hbw1⟩))
  refine seg_next (grow_to belr) ?_
  try simp only [wpSegs, List.take_succ_cons, List.take_zero, List.drop_succ_cons, List.drop_zero, List.take_nil, List.drop_nil]
  repeat (go_big_quiet_step (fail))
  refine wpQuiet_nil ?_
  show wpList _ _ _ _ _ _
  go_wp2_with ((go_at_call 179; (with_reducible refine (HPT.out _ (size_via hB belr) (HE.out.at_ hB belr)).mono ?_); rintro e w2 ⟨A2, c2', rfl, ho2, hbw2⟩))
  refine seg_next (grow_to belr) ?_
  try simp only [wpSegs, List.take_succ_cons, List.take_zero, List.drop_succ_cons, List.drop_zero, List.take_nil, List.drop_nil]
  repeat (go_big_quiet_step (fail))
  refine wpQuiet_nil ?_
  show wpList _ _ _ _ _ _
  go_wp2
  go_ret
  exact ⟨A2, c2', rfl, own_mono ho2 (show w.heap.size ≤ w1.heap.size from Below.size (w := w) belr), belr⟩
theorem Main_any (b : Bx) (w : World) :
    Calls Tryz.prog 158 #[boxV b] w fun e w' => e = .returned (.bool (S.isMainB b)) ∧ Below w.heap.size w w' := by
  have H := Lib.hid (show S.isMainB b = (decide (b.lo.x < b.hi.x) && decide (b.lo.y = b.hi.y) && decide (b.lo.z = b.hi.z)) from rfl)
  unfold boxV
  go_enter Tryz.func158, Tryz.ntmps158
  go_wp2
  all_goals (go_ret; exact ⟨ret_b (by rw [H.out, Bool.eq_iff_iff]; all_goals (first | (simp at *; done) | (simp at *; omega))), bel⟩)
theorem mainleg_any (A : Option Addr) (n c : Nat) (xs : List Bx) (B : Nat) (w : World) (hn : xs.length = n) (hm : n ≤ 9223372036854775807) (hB : B ≤ w.heap.size) (hs : Cells w B A (xs.flatMap boxC)) :
    Calls Tryz.prog 96 #[.slice A n c] w fun e w' => e = .returned (.int .i64 (idxf xs S.isMainB)) ∧ Below w.heap.size w w' := by
  have HN := Lib.hid hn
  clear hn
  go_enter Tryz.func96, Tryz.ntmps96
  go_wp2
  go_loopw [3] (fun i wr => ∃ k : Nat, k ≤ n ∧ i = .int .i64 k ∧ Hid (∀ j (h : j < xs.length), j < k → S.isMainB xs[j] = false) ∧ Below w.heap.size w wr) (fun i _ => n - (intOf i).toNat)
  case atStart => exact ⟨0, Nat.zero_le _, rfl, Lib.hid fun j _ hj => absurd hj (by omega), Below.refl _ _⟩
  case round =>
    obtain ⟨k, hk, rfl, HNO, hbr⟩ := hrel
    by_cases hlt : k < n
    · have hki : (k : Int) < (n : Int) := by omega
      have hkx : k < xs.length := by have := HN.out; omega
      have hs' := hs.below (hbr.mono hB)
      obtain ⟨b, o, rfl, _, _⟩ := hs'.at_ (by rw [flat_len boxC 6 boxC_len]; omega)
      obtain ⟨c0, c1, c2, c3, c4, c5⟩ := hs'.boxes (List.getElem?_eq_getElem hkx)
      have HT := Lib.hid (Main_any xs[k])
      have HX := Lib.hid (fun hx => idxf_hit (p := S.isMainB) hkx hx HNO.out)
      generalize hq : S.isMainB xs[k] = q at *
      have HQ := Lib.hid hq
      clear hq
      cases q
      · go_wp2_with (go_at_call 158; (with_reducible refine (HT.out _).mono ?_); rintro e w1 ⟨rfl, hbw1⟩; obtain ⟨hcw1, hfw1⟩ := bcell hbw1)
        go_roundw
        case rel =>
          refine ⟨k + 1, by omega, by go_num, Lib.hid fun j hj hjk => ?_, ba_via hbw1 hbr⟩
          by_cases hjk' : j = k
          · subst hjk'; exact HQ.out
          · exact HNO.out j hj (by omega)
        case measure => simp [intOf]; omega
      · go_wp2_with (go_at_call 158; (with_reducible refine (HT.out _).mono ?_); rintro e w1 ⟨rfl, hbw1⟩; obtain ⟨hcw1, hfw1⟩ := bcell hbw1)
        go_ret
        exact ⟨ret_i (HX.out trivial).symm, ba_via hbw1 hbr⟩
    · have HX := Lib.hid (idxf_miss (p := S.isMainB) (xs := xs) fun j hj => HNO.out j hj (by have := HN.out; omega))
      go_wp2
      go_ret
      exact ⟨ret_i HX.out.symm, hbr⟩
theorem anyb_of {α : Type} {xs : List α} {p : α → Bool} {k : Nat} (hk : k < xs.length) (h : p xs[k] = true) : anyb xs p = true := by
  unfold anyb
  rw [List.any_eq_true]
  exact ⟨_, List.getElem_mem hk, h⟩
set_option maxHeartbeats 1000000 in
theorem rthick_any (b : Bx) (w : World) :
    Calls Tryz.prog 173 #[boxV b] w fun e w' => e = .returned (.bool (S.thick b)) ∧ Below w.heap.size w w' := by
  have HV := Lib.hid (fun w => rbvalid_any b w)
  have H := Lib.hid (show S.thick b = (S.boxOk b && decide (b.lo.x < b.hi.x) && decide (b.lo.y < b.hi.y) && decide (b.lo.z < b.hi.z)) from rfl)
  generalize S.boxOk b = t at *
  unfold boxV
  cases t
  all_goals (
    go_enter Tryz.func173, Tryz.ntmps173
    go_wp2_with (go_at_call 117; (with_reducible refine (HV.out _).mono ?_); rintro e w1 ⟨rfl, hbw1⟩; obtain ⟨hcw1, hfw1⟩ := bcell hbw1; have hzw1_0 : w.heap.size < w1.heap.size := lt_via hbw1 (by first | omega | (simp; done) | (simp; omega)))
    all_goals (go_ret; exact ⟨ret_b (by rw [H.out, Bool.eq_iff_iff]; all_goals (first | (simp; done) | (simp; omega))), bel⟩))
set_option maxRecDepth 100000 in
set_option maxHeartbeats 4000000 in
theorem rsvalid_any (A : Option Addr) (n c : Nat) (A' : Option Addr) (n' c' : Nat) (xs hs : List Bx) (B : Nat) (w : World) (hB : B ≤ w.heap.size) (hA : SolAt w B A n A' n' xs hs) :
    Calls Tryz.prog 113 #[solV A n c A' n' c'] w fun e w' => e = .returned (.bool (S.solid xs hs)) ∧ Below w.heap.size w w' := by
  have HA := Lib.hid hA
  have hm := hA.max
  have hm' := hA.max'
  have H := Lib.hid (show S.solid xs hs = (decide (1 ≤ n) && decide (n ≤ 20) && decide (n' ≤ 20) && !anyb xs S.thin && !anyb hs S.thin) by unfold S.solid; rw [hA.len, hA.len'])
  clear hA
  unfold solV
  by_cases hbad : n < 1 ∨ 20 < n ∨ 20 < n'
  · have HF : Hid (S.solid xs hs = false) := Lib.hid (by
      rw [H.out]
      rcases hbad with h | h | h
      · have : decide (1 ≤ n) = false := by simp; omega
        simp [this]
      · have : decide (n ≤ 20) = false := by simp; omega
        simp [this]
      · have : decide (n' ≤ 20) = false := by simp; omega
        simp [this])
    by_cases h1 : (n : Int) < 1
    · go_enter Tryz.func113, Tryz.ntmps113
      go_wp2
      go_ret
      exact ⟨ret_b HF.out.symm, bel⟩
    · by_cases h2 : (20 : Int) < n
      · go_enter Tryz.func113, Tryz.ntmps113
        go_wp2
        go_ret
        exact ⟨ret_b HF.out.symm, bel⟩
      · have h3 : (20 : Int) < n' := by omega
        go_enter Tryz.func113, Tryz.ntmps113
        go_wp2
        go_ret
        exact ⟨ret_b HF.out.symm, bel⟩
  · have g1 : ¬ (n : Int) < 1 := by omega
    have g2 : ¬ (20 : Int) < n := by omega
    have g3 : ¬ (20 : Int) < n' := by omega
    clear hbad
    go_enter Tryz.func113, Tryz.ntmps113
    go_wp2
    have hB0 : Blk (w.alloc (.cells #[.slice A n c, .slice A' n' c'] 24)) w.heap.size 24 #[.slice A n c, .slice A' n' c'] := Blk.new _ _ _
    have hW0 : Below w.heap.size w (w.alloc (.cells #[.slice A n c, .slice A' n' c'] 24)) := bel
    have HB0 := Lib.hid hB0
    clear hB0
    generalize w.alloc (.cells #[.slice A n c, .slice A' n' c'] 24) = W0 at *
    go_loopw [3] (fun i wr => ∃ k : Nat, k ≤ n ∧ i = .int .i64 k ∧ Hid (∀ j (h : j < xs.length), j < k → S.thin xs[j] = false) ∧ Below W0.heap.size W0 wr) (fun i _ => n - (intOf i).toNat)
    case atStart => exact ⟨0, Nat.zero_le _, rfl, Lib.hid fun j _ hj => absurd hj (by omega), Below.refl _ _⟩
    case round =>
      obtain ⟨k, hk, rfl, HNO, hbr⟩ := hrel
      have hBk := HB0.out.via hbr
      have x0 := hBk.cell 0
      have x1 := hBk.cell 1
      simp only [List.getElem?_toArray, List.getElem?_cons_zero, List.getElem?_cons_succ] at x0 x1
      have hBl := hBk.lt
      clear hBk
      by_cases hlt : k < n
      · have hki : (k : Int) < (n : Int) := by omega
        have hkx : k < xs.length := by have := HA.out.len; omega
        have hs' := (HA.out.below ((ba_via hbr hW0).mono hB)).cells
        obtain ⟨b, o, rfl, _, _⟩ := hs'.at_ (by rw [flat_len boxC 6 boxC_len]; omega)
        obtain ⟨c0, c1, c2, c3, c4, c5⟩ := hs'.boxes (List.getElem?_eq_getElem hkx)
        have HT := Lib.hid (rthick_any xs[k])
        have HTH := Lib.hid (show S.thin xs[k] = !S.thick xs[k] from rfl)
        generalize hq : S.thick xs[k] = q at *
        cases q
        · go_wp2_with (go_at_call 173; (with_reducible refine (HT.out _).mono ?_); rintro e w1 ⟨rfl, hbw1⟩; obtain ⟨hcw1, hfw1⟩ := bcell hbw1)
          go_ret
          exact ⟨ret_b (by rw [H.out, anyb_of hkx HTH.out]; simp), ba_via hbw1 (ba_via hbr hW0)⟩
        · go_wp2_with (go_at_call 173; (with_reducible refine (HT.out _).mono ?_); rintro e w1 ⟨rfl, hbw1⟩; obtain ⟨hcw1, hfw1⟩ := bcell hbw1)
          go_roundw
          case rel =>
            refine ⟨k + 1, by omega, by go_num, Lib.hid fun j hj hjk => ?_, ba_via hbw1 hbr⟩
            by_cases hjk' : j = k
            · subst hjk'; exact HTH.out
            · exact HNO.out j hj (by omega)
          case measure => simp [intOf]; omega
      · have HX := Lib.hid (anyb_not (p := S.thin) (xs := xs) fun j hj => HNO.out j hj (by have := HA.out.len; omega))
        have hbx := hbr
        go_wp2
        go_loopw [4] (fun i wr => ∃ k : Nat, k ≤ n' ∧ i = .int .i64 k ∧ Hid (∀ j (h : j < hs.length), j < k → S.thin hs[j] = false) ∧ Below W0.heap.size W0 wr) (fun i _ => n' - (intOf i).toNat)
        case atStart => exact ⟨0, Nat.zero_le _, rfl, Lib.hid fun j _ hj => absurd hj (by omega), hbx⟩
        case round =>
          obtain ⟨k', hk', rfl, HNO', hbr'⟩ := hrel
          have hBk := HB0.out.via hbr'
          have y0 := hBk.cell 0
          have y1 := hBk.cell 1
          simp only [List.getElem?_toArray, List.getElem?_cons_zero, List.getElem?_cons_succ] at y0 y1
          have hBl' := hBk.lt
          clear hBk
          by_cases hlt' : k' < n'
          · have hki : (k' : Int) < (n' : Int) := by omega
            have hkx : k' < hs.length := by have := HA.out.len'; omega
            have hs' := (HA.out.below ((ba_via hbr' hW0).mono hB)).cells'
            obtain ⟨b, o, rfl, _, _⟩ := hs'.at_ (by rw [flat_len boxC 6 boxC_len]; omega)
            obtain ⟨c0, c1, c2, c3, c4, c5⟩ := hs'.boxes (List.getElem?_eq_getElem hkx)
            have HT := Lib.hid (rthick_any hs[k'])
            have HTH := Lib.hid (show S.thin hs[k'] = !S.thick hs[k'] from rfl)
            generalize hq : S.thick hs[k'] = q at *
            cases q
            · go_wp2_with (go_at_call 173; (with_reducible refine (HT.out _).mono ?_); rintro e w1 ⟨rfl, hbw1⟩; obtain ⟨hcw1, hfw1⟩ := bcell hbw1)
              go_ret
              exact ⟨ret_b (by rw [H.out, HX.out, anyb_of hkx HTH.out]; simp), ba_via hbw1 (ba_via hbr' hW0)⟩
            · go_wp2_with (go_at_call 173; (with_reducible refine (HT.out _).mono ?_); rintro e w1 ⟨rfl, hbw1⟩; obtain ⟨hcw1, hfw1⟩ := bcell hbw1)
              go_roundw
              case rel =>
                refine ⟨k' + 1, by omega, by go_num, Lib.hid fun j hj hjk => ?_, ba_via hbw1 hbr'⟩
                by_cases hjk' : j = k'
                · subst hjk'; exact HTH.out
                · exact HNO'.out j hj (by omega)
              case measure => simp [intOf]; omega
          · go_wp2
            go_ret
            exact ⟨ret_b (by
              rw [H.out, HX.out, anyb_not (p := S.thin) (xs := hs) fun j hj => HNO'.out j hj (by have := HA.out.len'; omega)]
              simp; omega), ba_via hbr' hW0⟩
set_option maxHeartbeats 2000000 in
theorem rmember_any (m : Mem) (A : Option Addr) (n c : Nat) (A' : Option Addr) (n' c' : Nat) (B : Nat) (w : World) (hB : B ≤ w.heap.size) (hA : SolAt w B A n A' n' m.boxes m.holes) (hk : m.name.size ≤ 9223372036854775807) :
    Calls Tryz.prog 60 #[memV m A n c A' n' c'] w fun e w' => e = .returned (.bool (S.member m)) ∧ Below w.heap.size w w' := by
  have HA := Lib.hid hA
  have H := Lib.hid (show S.member m = (S.isName m.name && S.solid m.boxes m.holes && (decide (0 ≤ m.cover) && decide (m.cover ≤ 200)) && (decide (1 ≤ m.aggr) && decide (m.aggr ≤ 100)) && (decide (1 ≤ m.poker) && decide (m.poker ≤ 200))) from rfl)
  have HN := Lib.hid (fun w => risname_any m.name w hk)
  have HS := Lib.hid (fun (W : World) (hw : B ≤ W.heap.size) (h : SolAt W B A n A' n' m.boxes m.holes) => rsvalid_any A n c A' n' c' m.boxes m.holes B W hw h)
  clear hA
  generalize S.isName m.name = t0 at *
  generalize S.solid m.boxes m.holes = t1 at *
  unfold memV
  cases t0 <;> cases t1
  all_goals (
    go_enter Tryz.func60, Tryz.ntmps60
    go_wp2_with (first
      | (go_at_call 112; (with_reducible refine (HN.out _).mono ?_); rintro e w' ⟨rfl, rfl⟩)
      | (go_at_call 113; (with_reducible refine (HS.out _ (size_via hB bel) (SolAt.at_ HA.out hB bel)).mono ?_); rintro e w1 ⟨rfl, hbw1⟩; obtain ⟨hcw1, hfw1⟩ := bcell hbw1; have hzw1_0 : w.heap.size < w1.heap.size := lt_via hbw1 (by first | omega | (simp; done) | (simp; omega))))
    all_goals (go_ret; exact ⟨ret_b (by rw [H.out, Bool.eq_iff_iff]; all_goals (first | (simp; done) | (simp; omega))), bel⟩))
theorem rup_any (n p q : Int) (w : World) (h2 : 1 ≤ q) (h3 : q ≤ 1000000) (hlo : 0 ≤ n * p) (hp : n * p ≤ 4611686018427387904) :
    Calls Tryz.prog 131 #[.int .i64 n, .int .i64 p, .int .i64 q] w fun e w' => e = .returned (.int .i64 (S.up n p q)) ∧ w = w' := by
  have hq : (q == 0) = false := by simp; omega
  go_enter Tryz.func131, Tryz.ntmps131
  go_wp2
  go_ret
  exact ⟨rfl, rfl⟩
theorem rbasic_any (r : Rule) (d : Int) (w : World) (hr : RuleOk r) (h0 : 0 ≤ d) (h1 : d ≤ 40) :
    Calls Tryz.prog 193 #[ruleV r, .int .i64 d] w fun e w' => e = .returned (.int .i64 (S.basic r d)) ∧ Below w.heap.size w w' := by
  have H := Lib.hid (basic_eq r d)
  have hp := mul_bd h0 h1 (by have := hr.num; omega) hr.num.2
  have hd := hr.den
  unfold ruleV
  go_enter Tryz.func193, Tryz.ntmps193
  go_wp2_with (go_at_call 131; refine (rup_any _ _ _ _ ?_ ?_ ?_ ?_).mono ?_; (· omega); (· omega); (· omega); (· omega); rintro e w1 ⟨rfl, rfl⟩)
  all_goals (go_ret; exact ⟨ret_i (by rw [H.out]; omega), by go_grown⟩)
theorem rlength_any (r : Rule) (d : Int) (poor bent : Bool) (w : World) (hr : RuleOk r) (h0 : 0 ≤ d) (h1 : d ≤ 40) :
    Calls Tryz.prog 132 #[ruleV r, .int .i64 d, .bool poor, .bool bent] w fun e w' => e = .returned (.int .i64 (S.length r d poor bent)) ∧ Below w.heap.size w w' := by
  have b1 := basic_bd hr h0 h1
  have hd := hr.pden
  have hd2 := hr.bden
  have m1 := mul_bd b1.1 b1.2 (by have := hr.pnum; omega) hr.pnum.2
  have b2 : 0 ≤ S.up (S.basic r d) r.pnum r.pden ∧ S.up (S.basic r d) r.pnum r.pden ≤ 40000000 := poorUp_bd hr true b1.1 b1.2
  have m2 := mul_bd b2.1 b2.2 (by have := hr.bnum; omega) hr.bnum.2
  have m3 := mul_bd b1.1 b1.2 (by have := hr.bnum; omega) hr.bnum.2
  cases poor <;> cases bent
  all_goals
    have H := Lib.hid (fun n => max_eq r n)
    unfold ruleV
    go_enter Tryz.func132, Tryz.ntmps132
    go_wp2_with (first
      | (go_at_call 193; refine (rbasic_any r d _ hr h0 h1).mono ?_; rintro e w1 ⟨rfl, hb1⟩; obtain ⟨hc, hf⟩ := bcell hb1)
      | (go_at_call 131; refine (rup_any _ _ _ _ ?_ ?_ ?_ ?_).mono ?_; (· omega); (· omega); (· omega); (· omega); rintro e w2 ⟨rfl, rfl⟩))
    all_goals (go_ret; exact ⟨ret_i (by simp only [S.length, S.poorUp, S.bentUp, ← H.out, if_true, if_false, Bool.false_eq_true]; omega), via hb1 (by go_grown) (Nat.le_refl _)⟩)
end Go.Proofs.YtffkmgjmlahfpaaGreat
