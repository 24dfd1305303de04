/- Contract: Path of the reference for layer 12. Contracts of the reference for layer 9: With, Hull. Contracts of the reference for layer 9: Meet, Contains; box.contains and Contains of the program. Cont -/
import Derived.Test.YtffkmgjmlahfpaaGreatPP
import Derived.Test.YtffkmgjmlahfpaaGreatPQ
import Derived.Test.YtffkmgjmlahfpaaGreatPJ
import Derived.Test.YtffkmgjmlahfpaaGreatPAA
import Derived.Test.YtffkmgjmlahfpaaGreatPE
import Derived.Test.YtffkmgjmlahfpaaGreatPR
import Derived.Test.YtffkmgjmlahfpaaGreatPX
set_option linter.unusedVariables false
set_option linter.unusedSimpArgs false
namespace Go.Proofs.YtffkmgjmlahfpaaGreat
open Go.RowKit
theorem move_at (b : Bar) (h : S.bar b = true) {k : Nat} (hk : k < (S.legsOf b.code).length) : ∃ P n, (S.moves b)[k]? = some P ∧ (S.legLens b)[k]? = some n ∧ 1 ≤ n ∧ n ≤ 262144 ∧ Within P 262144 ∧
    S.abs P.x + S.abs P.y + S.abs P.z = n ∧ 0 ≤ S.abs P.x ∧ 0 ≤ S.abs P.y ∧ 0 ≤ S.abs P.z ∧ S.ptAt b (k + 1) = ⟨(S.ptAt b k).x + P.x, (S.ptAt b k).y + P.y, (S.ptAt b k).z + P.z⟩ := by
  obtain ⟨n, _, g2, g3, g4, g5⟩ := lens_get b h hk
  refine ⟨S.step ⟨0, 0, 0⟩ (S.legsOf b.code)[k].2 n, n, ?_, g2, g3, g4, ?_⟩
  · unfold S.legLens at g2
    rw [List.getElem?_map, List.getElem?_eq_getElem hk] at g2
    unfold S.moves
    rw [List.getElem?_map, List.getElem?_eq_getElem hk]
    simp only [Option.map_some, Option.some.injEq] at g2 ⊢
    rw [g2]
  · rw [g5]
    rcases legs_way b.code hk with hw | hw | hw | hw | hw
    all_goals (
      rw [hw]
      refine ⟨?_, ?_, ?_, ?_, ?_, ?_⟩
      · simp [Within, S.step]; omega
      · simp [S.abs, S.step]; try (first | omega | (intro _; omega) | (split <;> omega))
      · simp [S.abs, S.step]; try (first | omega | (intro _; omega) | (split <;> omega))
      · simp [S.abs, S.step]; try (first | omega | (intro _; omega) | (split <;> omega))
      · simp [S.abs, S.step]; try (first | omega | (intro _; omega) | (split <;> omega))
      · simp [S.step]; try omega)
theorem ptAt_in (b : Bar) (h : S.bar b = true) (k : Nat) (hk : k ≤ (S.legsOf b.code).length) : Within (S.ptAt b k) 524288 := by
  have hD := bar_head h
  have hd : ∀ k (hk : k < (S.legsOf b.code).length), (S.legsOf b.code)[k].1 < b.dims.length := fun k hk => by have := legs_dim b.code hk; omega
  have h1 := ptAt_sum h hd k
  have h2 := sum_take_le (lens_pos h) k
  have h3 := (legs_sum h).1
  unfold Within at h1 ⊢
  omega
set_option maxRecDepth 100000 in
set_option maxHeartbeats 2000000 in
theorem rpath_yes (b : Bar) (A : Option Addr) (n c : Nat) (B : Nat) (w : World) (hB : B ≤ w.heap.size) (hA : BarAt w B A n b) (h : S.bar b = true) (L : Nat) (hL : (S.legsOf b.code).length = L) :
    Calls Tryz.prog 234 #[barV b A n c] w fun e w' => ∃ A' c', e = .returned (.slice A' (L + 1) c') ∧ w'.ownsRow w.heap.size 87 3 (.slice A' (L + 1) c') (L + 1) ((S.path b).flatMap ptC) ∧ Below w.heap.size w w' := by
  have HA := Lib.hid hA
  have hl6 := legs_len b.code
  have HM := Lib.hid (show ∀ k, k < (S.legsOf b.code).length → _ from fun k hk => move_at b h hk)
  have HPI := Lib.hid (fun k hk => ptAt_in b h k hk)
  have HML := Lib.hid (moves_len b)
  have HSN := Lib.hid (fun m => pathTo_snoc b m)
  have HPA := Lib.hid (show S.path b = S.pathTo b ((S.legsOf b.code).length + 1) from rfl)
  have HL := Lib.hid hL
  rw [hL] at hl6
  clear hA hL
  unfold barV
  go_enter Tryz.func234, Tryz.ntmps234
  go_wp2_with (go_at_call 265; (with_reducible refine (rmoves_any b A n c B _ (by simp; omega) (BarAt.at_ HA.out hB bel) h).mono ?_); rintro e w2 ⟨A2, rfl, hs, hb2, hz2'⟩; obtain ⟨hcw2, hfw2⟩ := bcell hb2; have hz2 : w.heap.size < w2.heap.size := lt_via hb2 (by simp); have hlen : (S.moves b).length = L := HML.out.trans HL.out; simp only [hlen])
  have hbw2 : Below w.heap.size w w2 := bel
  have hbw : Below w.heap.size w ((w2.alloc (.cells #[.int .i64 0, .int .i64 0, .int .i64 0] 87)).alloc (.cells #[.int .i64 0, .int .i64 0, .int .i64 0] 87)) := bel
  have hK0 : Blk ((w2.alloc (.cells #[.int .i64 0, .int .i64 0, .int .i64 0] 87)).alloc (.cells #[.int .i64 0, .int .i64 0, .int .i64 0] 87)) w2.heap.size 87 #[.int .i64 0, .int .i64 0, .int .i64 0] := (Blk.new _ _ _).alloc _
  have hsM := (hs.alloc (Nat.le_refl _) (.cells #[.int .i64 0, .int .i64 0, .int .i64 0] 87)).alloc (by simp) (.cells #[.int .i64 0, .int .i64 0, .int .i64 0] 87)
  have hrow : Row ((w2.alloc (.cells #[.int .i64 0, .int .i64 0, .int .i64 0] 87)).alloc (.cells #[.int .i64 0, .int .i64 0, .int .i64 0] 87)) ((w2.alloc (.cells #[.int .i64 0, .int .i64 0, .int .i64 0] 87)).alloc (.cells #[.int .i64 0, .int .i64 0, .int .i64 0] 87)) (some (w2.heap.size + 1)) w.heap.size 87 3 (.slice (some ⟨w2.heap.size + 1, 0, none⟩) 1 1) 1 ((S.pathTo b 1).flatMap ptC) := by
    refine ⟨?_, fun k hk => .inl (by simpa [Value.ownBlock] using hk.symm)⟩
    have h1 := World.ownsRow_lit (base := w.heap.size) (e := 87) (size := 3) (w2.alloc (.cells #[.int .i64 0, .int .i64 0, .int .i64 0] 87)) #[.int .i64 0, .int .i64 0, .int .i64 0] 1 (by simp; omega) (by unfold maxLen; omega) rfl
    simpa [S.pathTo, S.ptAt, List.range_succ] using h1
  have hzW : ((w2.alloc (.cells #[.int .i64 0, .int .i64 0, .int .i64 0] 87)).alloc (.cells #[.int .i64 0, .int .i64 0, .int .i64 0] 87)).heap.size = w2.heap.size + 2 := by simp
  clear hcw2 hfw2 hb2
  generalize (w2.alloc (.cells #[.int .i64 0, .int .i64 0, .int .i64 0] 87)).alloc (.cells #[.int .i64 0, .int .i64 0, .int .i64 0] 87) = W0 at *
  go_loopw [5, 6] (fun v i wr => ∃ (k : Nat) (A3 : Option Addr) (c3 : Nat), k ≤ L ∧ i = .int .i64 k ∧ v = .slice A3 (k + 1) c3 ∧ Row W0 wr (some (w2.heap.size + 1)) w.heap.size 87 3 (.slice A3 (k + 1) c3) (k + 1) ((S.pathTo b (k + 1)).flatMap ptC) ∧ Exc [w2.heap.size, w2.heap.size + 1] W0 wr ∧ Blk wr w2.heap.size 87 #[.int .i64 (S.ptAt b k).x, .int .i64 (S.ptAt b k).y, .int .i64 (S.ptAt b k).z]) (fun _ i _ => L - (intOf i).toNat)
  case atStart => exact ⟨0, _, 1, Nat.zero_le _, rfl, rfl, hrow, Exc.refl _ _, hK0⟩
  case round =>
    obtain ⟨k, A3, c3, hk, rfl, rfl, hR, hX, hK⟩ := hrel
    clear hrow hK0
    have hsz := hX.size
    by_cases hlt : k < L
    · have hs' := hsM.below (hX.below (B := w2.heap.size) (by omega) (by intro j hj; simp at hj; omega))
      obtain ⟨b4, o4, rfl, hbl, _⟩ := hs'.at_ (by rw [flat_len ptC 3 ptC_len]; omega)
      obtain ⟨P, q, g1, g2, g3, g4, gw, _, _, _, _, gp⟩ := HM.out k (by have := HL.out; omega)
      obtain ⟨c1, c2, c3'⟩ := hs'.pts g1
      have hin := HPI.out k (by have := HL.out; omega)
      unfold Within at gw hin
      have k0 := hK.cell 0
      have k1 := hK.cell 1
      have k2 := hK.cell 2
      have kf0 := hK.frozen 0
      have kf1 := hK.frozen 1
      have kf2 := hK.frozen 2
      simp only [List.getElem?_toArray, List.getElem?_cons_zero, List.getElem?_cons_succ] at k0 k1 k2
      have hown : ∀ j, Value.ownBlock (.slice A3 (k + 1) c3) = some j → j ≠ w2.heap.size := fun j hj' => by
        rcases hR.place j hj' with h1 | h1
        · injection h1 with h1; omega
        · omega
      have HOWN := Lib.hid hown
      have HST := Lib.hid gp
      have HS1 := Lib.hid (HSN.out (k + 1))
      have hkl : (k : Int) < (L : Int) := by omega
      have hb4r : b4 < wr.heap.size := by omega
      have hg2 : w2.heap.size < wr.heap.size := hK.lt
      clear gp hown g1 g2
      generalize S.ptAt b k = p at *
      have e1 : IntKind.i64.wrap (p.x + P.x) = p.x + P.x := IntWalk.i64_in _ (by omega)
      have e2 : IntKind.i64.wrap (p.y + P.y) = p.y + P.y := IntWalk.i64_in _ (by omega)
      have e3 : IntKind.i64.wrap (p.z + P.z) = p.z + P.z := IntWalk.i64_in _ (by omega)
      go_wp2
      refine wp_region_grow_tail 25 (by kernel_rfl) (by kernel_rfl) ?_
      simp only [List.take_succ_cons, List.take_zero, List.drop_succ_cons, List.drop_zero]
      repeat (go_big_quiet_step (fail))
      all_goals (refine wpQuiet_nil ?_; intro wg hbwg; obtain ⟨hcwg, hfwg⟩ := bcell hbwg)
      have hK2 : Blk ((((wg.setCell ⟨w2.heap.size, 0, none⟩ (.int .i64 (p.x + P.x))).setCell ⟨w2.heap.size, 1, none⟩ (.int .i64 (p.y + P.y))).setCell ⟨w2.heap.size, 2, none⟩ (.int .i64 (p.z + P.z))).alloc (.cells #[.int .i64 (p.x + P.x), .int .i64 (p.y + P.y), .int .i64 (p.z + P.z)] 87)) w2.heap.size 87 #[.int .i64 (p.x + P.x), .int .i64 (p.y + P.y), .int .i64 (p.z + P.z)] := by
        have h6 := (((((hK.via hbwg).set 0 (.int .i64 (p.x + P.x))).set 1 (.int .i64 (p.y + P.y))).set 2 (.int .i64 (p.z + P.z))).alloc (.cells #[.int .i64 (p.x + P.x), .int .i64 (p.y + P.y), .int .i64 (p.z + P.z)] 87))
        simp only [List.setIfInBounds_toArray, List.set_cons_zero, List.set_cons_succ] at h6
        exact h6
      have hg3 : w2.heap.size < wg.heap.size := lt_via hbwg hg2
      go_wp2_with (at_builtin; refine wpList_push rfl (.tmp 43) (.tmp 45) _ rfl elemPt (((((hR.via hbwg).set (p := ⟨w2.heap.size, 0, none⟩) HOWN.out _).set (p := ⟨w2.heap.size, 1, none⟩) HOWN.out _).set (p := ⟨w2.heap.size, 2, none⟩) HOWN.out _).alloc _) (((((Exc.via hbwg hX).set (p := ⟨w2.heap.size, 0, none⟩) (.inl (by simp)) _).set (p := ⟨w2.heap.size, 1, none⟩) (.inl (by simp)) _).set (p := ⟨w2.heap.size, 2, none⟩) (.inl (by simp)) _).alloc _) (by simp) hbw.size rfl wg.heap.size 1 1 [.int .i64 (p.x + P.x), .int .i64 (p.y + P.y), .int .i64 (p.z + P.z)] rfl rfl ?_ (by simp [Value.oneCell']) (by unfold maxLen; omega) (by omega) ?_; (· intro j u hu; have := (Cells.newRow (((wg.setCell ⟨w2.heap.size, 0, none⟩ (.int .i64 (p.x + P.x))).setCell ⟨w2.heap.size, 1, none⟩ (.int .i64 (p.y + P.y))).setCell ⟨w2.heap.size, 2, none⟩ (.int .i64 (p.z + P.z))) #[.int .i64 (p.x + P.x), .int .i64 (p.y + P.y), .int .i64 (p.z + P.z)] 87 (0, 0)).get (k := j) (v := u) hu; simpa using this); intro v' w' hR' hX' hO')
      obtain ⟨A5, c5, rfl, _, _, _⟩ := own_form hR'.own
      go_roundw
      case rel => exact ⟨k + 1, A5, c5, by omega, by go_num, rfl, by rw [HS1.out, HST.out, List.flatMap_append]; exact hR', hX', by rw [HST.out]; exact (hO' _ hK2.lt (fun h => HOWN.out _ h rfl)).trans hK2⟩
      case measure => simp [intOf]; omega
    · have he : k = L := by omega
      have HE := Lib.hid he
      clear he
      go_wp2
      go_ret
      refine ⟨A3, c3, by rw [HE.out]; rfl, ?_, ?_⟩
      · have := hR.own
        rw [HPA.out, HL.out]
        rwa [HE.out] at this
      · exact hbw.trans (hX.below (by have := hbw2.size; omega) (by intro j hj; simp at hj; have := hbw2.size; omega))
namespace S
def setc (p : Pt) (k : Nat) (n : Int) : Pt := if k = 0 then ⟨n, p.y, p.z⟩ else if k = 1 then ⟨p.x, n, p.z⟩ else ⟨p.x, p.y, n⟩
def mn (a b : Int) : Int := if b < a then b else a
def mx (a b : Int) : Int := if a < b then b else a
def join1 (a b : Bx) (k : Nat) : Bx := ⟨setc a.lo k (mn (co a.lo k) (co b.lo k)), setc a.hi k (mx (co a.hi k) (co b.hi k))⟩
def joinK (a b : Bx) : Nat → Bx
  | 0 => a
  | k + 1 => join1 (joinK a b k) b k
end S
theorem joinK_3 (a b : Bx) : S.joinK a b 3 = S.join a b := by
  simp [S.joinK, S.join1, S.setc, S.co, S.join, S.mn, S.mx]
theorem with_any (p : Pt) (k : Nat) (n : Int) (hk : k < 3) (w : World) :
    Calls Tryz.prog 251 #[ptVal p, .int .i64 k, .int .i64 n] w fun e w' => e = .returned (ptVal (S.setc p k n)) ∧ Below w.heap.size w w' := by
  have : k = 0 ∨ k = 1 ∨ k = 2 := by omega
  unfold ptVal
  rcases this with rfl | rfl | rfl
  · go_enter Tryz.func251, Tryz.ntmps251
    go_wp2
    exact bodyPost_ret (v := ptVal ⟨n, p.y, p.z⟩) (by simp [results, Tryz.results251, go_sem, *]) rfl ⟨rfl, bel⟩
  · go_enter Tryz.func251, Tryz.ntmps251
    go_wp2
    exact bodyPost_ret (v := ptVal ⟨p.x, n, p.z⟩) (by simp [results, Tryz.results251, go_sem, *]) rfl ⟨rfl, bel⟩
  · go_enter Tryz.func251, Tryz.ntmps251
    go_wp2
    exact bodyPost_ret (v := ptVal ⟨p.x, p.y, n⟩) (by simp [results, Tryz.results251, go_sem, *]) rfl ⟨rfl, bel⟩
set_option maxRecDepth 100000 in
set_option maxHeartbeats 4000000 in
theorem rbhull_yes (A : Option Addr) (n c : Nat) (xs : List Bx) (x0 : Bx) (B : Nat) (w : World) (hn : xs.length = n) (hm : n ≤ 1000000) (hB : B ≤ w.heap.size) (hs : Cells w B A (xs.flatMap boxC)) (h0 : xs[0]? = some x0) :
    Calls Tryz.prog 192 #[.slice A n c] w fun e w' => e = .returned (boxV (S.hull x0 xs)) ∧ Below w.heap.size w w' := by
  have hn0 : 0 < n := by have := (List.getElem?_eq_some_iff.1 h0).1; omega
  have hni : (0 : Int) < (n : Int) := by omega
  have HN := Lib.hid hn
  have HS := Lib.hid hs
  have H0 := Lib.hid h0
  obtain ⟨b, o, rfl, hb, _⟩ := hs.at_ (by rw [flat_len boxC 6 boxC_len]; omega)
  obtain ⟨c0, c1, c2, c3, c4, c5⟩ := hs.boxes h0
  simp only [Nat.zero_mul, Nat.add_zero] at c0 c1 c2 c3 c4 c5
  have hbw : b < w.heap.size := by omega
  clear hn hs h0
  go_enter Tryz.func192, Tryz.ntmps192
  go_wp2
  have hW : Below w.heap.size w ((w.alloc (.cells #[.int .i64 0, .int .i64 0, .int .i64 0, .int .i64 0, .int .i64 0, .int .i64 0] 89)).alloc (.cells #[.int .i64 x0.lo.x, .int .i64 x0.lo.y, .int .i64 x0.lo.z, .int .i64 x0.hi.x, .int .i64 x0.hi.y, .int .i64 x0.hi.z] 89)) := bel
  have hK0 : Blk ((w.alloc (.cells #[.int .i64 0, .int .i64 0, .int .i64 0, .int .i64 0, .int .i64 0, .int .i64 0] 89)).alloc (.cells #[.int .i64 x0.lo.x, .int .i64 x0.lo.y, .int .i64 x0.lo.z, .int .i64 x0.hi.x, .int .i64 x0.hi.y, .int .i64 x0.hi.z] 89)) (w.heap.size + 1) 89 #[.int .i64 x0.lo.x, .int .i64 x0.lo.y, .int .i64 x0.lo.z, .int .i64 x0.hi.x, .int .i64 x0.hi.y, .int .i64 x0.hi.z] := by simpa using Blk.new (w.alloc (.cells #[.int .i64 0, .int .i64 0, .int .i64 0, .int .i64 0, .int .i64 0, .int .i64 0] 89)) 89 #[.int .i64 x0.lo.x, .int .i64 x0.lo.y, .int .i64 x0.lo.z, .int .i64 x0.hi.x, .int .i64 x0.hi.y, .int .i64 x0.hi.z]
  have hR0 : Blk ((w.alloc (.cells #[.int .i64 0, .int .i64 0, .int .i64 0, .int .i64 0, .int .i64 0, .int .i64 0] 89)).alloc (.cells #[.int .i64 x0.lo.x, .int .i64 x0.lo.y, .int .i64 x0.lo.z, .int .i64 x0.hi.x, .int .i64 x0.hi.y, .int .i64 x0.hi.z] 89)) w.heap.size 89 #[.int .i64 0, .int .i64 0, .int .i64 0, .int .i64 0, .int .i64 0, .int .i64 0] := (Blk.new w _ _).alloc _
  have hzW : ((w.alloc (.cells #[.int .i64 0, .int .i64 0, .int .i64 0, .int .i64 0, .int .i64 0, .int .i64 0] 89)).alloc (.cells #[.int .i64 x0.lo.x, .int .i64 x0.lo.y, .int .i64 x0.lo.z, .int .i64 x0.hi.x, .int .i64 x0.hi.y, .int .i64 x0.hi.z] 89)).heap.size = w.heap.size + 1 + 1 := by simp
  have hC1 := HS.out.below (hW.mono hB)
  have HR0 := Lib.hid hR0
  clear c0 c1 c2 c3 c4 c5 hR0
  generalize (w.alloc (.cells #[.int .i64 0, .int .i64 0, .int .i64 0, .int .i64 0, .int .i64 0, .int .i64 0] 89)).alloc (.cells #[.int .i64 x0.lo.x, .int .i64 x0.lo.y, .int .i64 x0.lo.z, .int .i64 x0.hi.x, .int .i64 x0.hi.y, .int .i64 x0.hi.z] 89) = W1 at *
  go_loopw [4] (fun i wr => ∃ k : Nat, 1 ≤ k ∧ k ≤ n ∧ i = .int .i64 k ∧ Blk wr (w.heap.size + 1) 89 #[.int .i64 (S.hull x0 (xs.take k)).lo.x, .int .i64 (S.hull x0 (xs.take k)).lo.y, .int .i64 (S.hull x0 (xs.take k)).lo.z, .int .i64 (S.hull x0 (xs.take k)).hi.x, .int .i64 (S.hull x0 (xs.take k)).hi.y, .int .i64 (S.hull x0 (xs.take k)).hi.z] ∧ Exc [w.heap.size + 1] W1 wr) (fun i _ => n - (intOf i).toNat)
  case atStart =>
    refine ⟨1, Nat.le_refl _, by omega, rfl, ?_, Exc.refl _ _⟩
    have e1 : S.hull x0 (xs.take 1) = x0 := by
      have hx : xs.take 1 = [x0] := by
        have h0 := H0.out
        cases xs with
        | nil => simp at h0
        | cons y l => simp at h0; simp [h0]
      rw [hx]; simp [S.hull, S.join]
    rw [e1]; exact hK0
  case round =>
    obtain ⟨k, hk1, hk, rfl, hK, hX⟩ := hrel
    by_cases hlt : k < n
    · have hkx : k < xs.length := by have := HN.out; omega
      have HT := Lib.hid (show S.hull x0 (xs.take (k + 1)) = S.joinK (S.hull x0 (xs.take k)) xs[k] 3 by rw [List.take_succ_eq_append_getElem hkx, hull_snoc, joinK_3])
      have HG := Lib.hid (List.getElem?_eq_getElem hkx)
      generalize S.hull x0 (xs.take k) = Hk at *
      generalize xs[k] = X at *
      have hki : (k : Int) < (n : Int) := by omega
      have hXo := hX
      go_wp2
      go_loopw [5] (fun i wr => ∃ m : Nat, m ≤ 3 ∧ i = .int .i64 m ∧ Blk wr (w.heap.size + 1) 89 #[.int .i64 (S.joinK Hk X m).lo.x, .int .i64 (S.joinK Hk X m).lo.y, .int .i64 (S.joinK Hk X m).lo.z, .int .i64 (S.joinK Hk X m).hi.x, .int .i64 (S.joinK Hk X m).hi.y, .int .i64 (S.joinK Hk X m).hi.z] ∧ Exc [w.heap.size + 1] W1 wr) (fun i _ => 3 - (intOf i).toNat)
      case atStart => exact ⟨0, by omega, rfl, hK, hXo⟩
      case round =>
        obtain ⟨m, hm3, rfl, hM, hY⟩ := hrel
        have HM := Lib.hid hM
        have hsz := hY.size
        by_cases hlm : m < 3
        · have hmi : (m : Int) < 3 := by omega
          have HJ := Lib.hid (show S.joinK Hk X (m + 1) = S.join1 (S.joinK Hk X m) X m from rfl)
          obtain ⟨c0, c1, c2, c3, c4, c5⟩ := (hC1.below (hY.below (by have := hW.size; omega) (by intro x hx; simp at hx; omega))).boxes HG.out
          have hbr : b < wr.heap.size := by omega
          generalize S.joinK Hk X m = O at *
          have hgr := hM.lt
          have k0 := hM.cell 0
          have k1 := hM.cell 1
          have k2 := hM.cell 2
          have k3 := hM.cell 3
          have k4 := hM.cell 4
          have k5 := hM.cell 5
          have fk0 := hM.frozen 0
          have fk1 := hM.frozen 1
          have fk2 := hM.frozen 2
          have fk3 := hM.frozen 3
          have fk4 := hM.frozen 4
          have fk5 := hM.frozen 5
          simp only [List.getElem?_toArray, List.getElem?_cons_zero, List.getElem?_cons_succ] at k0 k1 k2 k3 k4 k5
          have HCL := Lib.hid (fun w => coord_any O.lo m hlm w)
          have HCH := Lib.hid (fun w => coord_any O.hi m hlm w)
          have HXL := Lib.hid (fun w => coord_any X.lo m hlm w)
          have HXH := Lib.hid (fun w => coord_any X.hi m hlm w)
          have HWL := Lib.hid (fun n w => with_any O.lo m n hlm w)
          have HWH := Lib.hid (fun n w => with_any O.hi m n hlm w)
          unfold ptVal at HCL HCH HXL HXH HWL HWH
          go_wp2
          obtain ⟨P, hP⟩ : ∃ P, P = S.setc O.lo m (S.mn (S.co O.lo m) (S.co X.lo m)) := ⟨_, rfl⟩
          obtain ⟨Q, hQ⟩ : ∃ P, P = S.setc O.hi m (S.mx (S.co O.hi m) (S.co X.hi m)) := ⟨_, rfl⟩
          have HJ2 := Lib.hid (show S.join1 O X m = ⟨P, Q⟩ by rw [hP, hQ]; rfl)
          refine wp_region_grow_tail 17 (by kernel_rfl) (by kernel_rfl) ?_
          simp only [List.take_succ_cons, List.take_zero, List.drop_succ_cons, List.drop_zero]
          repeat (go_big_quiet_step ((first | (go_at_call 180; with_reducible exact grow_of (HCL.out _)) | (go_at_call 180; with_reducible exact grow_of (HXL.out _)) | (go_at_call 251; with_reducible exact grow_of (HWL.out _ _)))))
          all_goals (refine wpQuiet_nil ?_; intro wg hbwg; obtain ⟨hcwg, hfwg⟩ := bcell hbwg)
          go_wp2
          all_goals (
            first
              | (have e : S.setc O.lo m (S.co X.lo m) = P := (by rw [hP, S.mn, if_pos (by omega)])
                 rw [e])
              | (have e : S.setc O.lo m (S.co O.lo m) = P := (by rw [hP, S.mn, if_neg (by omega)])
                 rw [e])
            have hM1 : Blk (((wg.setCell ⟨w.heap.size + 1, 0, none⟩ (.int .i64 P.x)).setCell ⟨w.heap.size + 1, 1, none⟩ (.int .i64 P.y)).setCell ⟨w.heap.size + 1, 2, none⟩ (.int .i64 P.z)) (w.heap.size + 1) 89 #[.int .i64 P.x, .int .i64 P.y, .int .i64 P.z, .int .i64 O.hi.x, .int .i64 O.hi.y, .int .i64 O.hi.z] := by
              have h6 := (((HM.out.via hbwg).set 0 (.int .i64 P.x)).set 1 (.int .i64 P.y)).set 2 (.int .i64 P.z)
              simp only [List.setIfInBounds_toArray, List.set_cons_zero, List.set_cons_succ] at h6
              exact h6
            have hY1 : Exc [w.heap.size + 1] W1 (((wg.setCell ⟨w.heap.size + 1, 0, none⟩ (.int .i64 P.x)).setCell ⟨w.heap.size + 1, 1, none⟩ (.int .i64 P.y)).setCell ⟨w.heap.size + 1, 2, none⟩ (.int .i64 P.z)) := (((Exc.via hbwg hY).set (.inl (by simp)) _).set (.inl (by simp)) _).set (.inl (by simp)) _
            clear hcwg hfwg
            clear c0 c1 c2 c3 c4 c5 k0 k1 k2 k3 k4 k5 fk0 fk1 fk2 fk3 fk4 fk5 hgr hM hbr
            clear hbwg
            generalize (((wg.setCell ⟨w.heap.size + 1, 0, none⟩ (.int .i64 P.x)).setCell ⟨w.heap.size + 1, 1, none⟩ (.int .i64 P.y)).setCell ⟨w.heap.size + 1, 2, none⟩ (.int .i64 P.z)) = W2 at *
            obtain ⟨c0, c1, c2, c3, c4, c5⟩ := (hC1.below (hY1.below (by have := hW.size; omega) (by intro x hx; simp at hx; omega))).boxes HG.out
            have hsz1 := hY1.size
            have hbr : b < W2.heap.size := by omega
            have hgr := hM1.lt
            have k0 := hM1.cell 0
            have k1 := hM1.cell 1
            have k2 := hM1.cell 2
            have k3 := hM1.cell 3
            have k4 := hM1.cell 4
            have k5 := hM1.cell 5
            have fk0 := hM1.frozen 0
            have fk1 := hM1.frozen 1
            have fk2 := hM1.frozen 2
            have fk3 := hM1.frozen 3
            have fk4 := hM1.frozen 4
            have fk5 := hM1.frozen 5
            simp only [List.getElem?_toArray, List.getElem?_cons_zero, List.getElem?_cons_succ] at k0 k1 k2 k3 k4 k5
            have HM1 := Lib.hid hM1
            refine wp_region_grow_tail 17 (by kernel_rfl) (by kernel_rfl) ?_
            simp only [List.take_succ_cons, List.take_zero, List.drop_succ_cons, List.drop_zero]
            repeat (go_big_quiet_step ((first | (go_at_call 180; with_reducible exact grow_of (HCH.out _)) | (go_at_call 180; with_reducible exact grow_of (HXH.out _)) | (go_at_call 251; with_reducible exact grow_of (HWH.out _ _)))))
            all_goals (refine wpQuiet_nil ?_; intro wh hbwh; obtain ⟨hcwh, hfwh⟩ := bcell hbwh)
            go_wp2)
          all_goals (
            first
              | (have e : S.setc O.hi m (if S.co O.hi m < S.co X.hi m then S.co X.hi m else S.co O.hi m) = Q := hQ.symm
                 rw [e])
              | (have e : S.setc O.hi m (S.co X.hi m) = Q := (by rw [hQ, S.mx, if_pos (by omega)])
                 rw [e])
              | (have e : S.setc O.hi m (S.co O.hi m) = Q := (by rw [hQ, S.mx, if_neg (by omega)])
                 rw [e])
            have hM2 : Blk (((wh.setCell ⟨w.heap.size + 1, 3, none⟩ (.int .i64 Q.x)).setCell ⟨w.heap.size + 1, 4, none⟩ (.int .i64 Q.y)).setCell ⟨w.heap.size + 1, 5, none⟩ (.int .i64 Q.z)) (w.heap.size + 1) 89 #[.int .i64 P.x, .int .i64 P.y, .int .i64 P.z, .int .i64 Q.x, .int .i64 Q.y, .int .i64 Q.z] := by
              have h6 := (((HM1.out.via hbwh).set 3 (.int .i64 Q.x)).set 4 (.int .i64 Q.y)).set 5 (.int .i64 Q.z)
              simp only [List.setIfInBounds_toArray, List.set_cons_zero, List.set_cons_succ] at h6
              exact h6
            have hY2 : Exc [w.heap.size + 1] W1 (((wh.setCell ⟨w.heap.size + 1, 3, none⟩ (.int .i64 Q.x)).setCell ⟨w.heap.size + 1, 4, none⟩ (.int .i64 Q.y)).setCell ⟨w.heap.size + 1, 5, none⟩ (.int .i64 Q.z)) := (((Exc.via hbwh hY1).set (.inl (by simp)) _).set (.inl (by simp)) _).set (.inl (by simp)) _
            clear hcwh hfwh
            go_roundw
            case rel =>
              refine ⟨m + 1, by omega, by go_num, ?_, hY2⟩
              rw [HJ.out, HJ2.out]
              exact hM2
            case measure => simp [intOf]; omega)
        · have he : m = 3 := by omega
          subst he
          go_wp2
          go_roundw
          case rel =>
            refine ⟨k + 1, by omega, by omega, by go_num, ?_, hY⟩
            rw [HT.out]
            exact HM.out
          case measure => simp [intOf]; omega
    · have he : k = n := by omega
      subst he
      have ht : xs.take k = xs := List.take_of_length_le (by have := HN.out; omega)
      rw [ht] at hK
      have hsz := hX.size
      have hgr := hK.lt
      generalize hH : S.hull x0 xs = Hk at *
      have HH := Lib.hid hH
      clear hH
      have hRr := (hX.block w.heap.size (by omega) (by simp)).trans HR0.out
      have hRr : Blk wr w.heap.size 89 #[.int .i64 0, .int .i64 0, .int .i64 0, .int .i64 0, .int .i64 0, .int .i64 0] := hRr
      have k0 := hK.cell 0
      have f0 := hK.frozen 0
      have z0 := hRr.cell 0
      have y0 := hRr.frozen 0
      have k1 := hK.cell 1
      have f1 := hK.frozen 1
      have z1 := hRr.cell 1
      have y1 := hRr.frozen 1
      have k2 := hK.cell 2
      have f2 := hK.frozen 2
      have z2 := hRr.cell 2
      have y2 := hRr.frozen 2
      have k3 := hK.cell 3
      have f3 := hK.frozen 3
      have z3 := hRr.cell 3
      have y3 := hRr.frozen 3
      have k4 := hK.cell 4
      have f4 := hK.frozen 4
      have z4 := hRr.cell 4
      have y4 := hRr.frozen 4
      have k5 := hK.cell 5
      have f5 := hK.frozen 5
      have z5 := hRr.cell 5
      have y5 := hRr.frozen 5
      simp only [List.getElem?_toArray, List.getElem?_cons_zero, List.getElem?_cons_succ] at z0 z1 z2 z3 z4 z5 k0 k1 k2 k3 k4 k5
      have hrl := hRr.lt
      have hbel : Below w.heap.size w wr := hW.trans (hX.below (by omega) (by intro x hx; simp at hx; omega))
      clear hRr
      go_wp2
      exact bodyPost_ret (v := boxV Hk) (by simp [results, Tryz.results192, go_sem, *]) rfl ⟨by rw [HH.out], ((((((hbel.setCell (Nat.le_refl _) _).setCell (Nat.le_refl _) _).setCell (Nat.le_refl _) _).setCell (Nat.le_refl _) _).setCell (Nat.le_refl _) _).setCell (Nat.le_refl _) _)⟩
namespace S
def cont (a b : Bx) : Bool := decide (a.lo.x ≤ b.lo.x) && decide (b.hi.x ≤ a.hi.x) && (decide (a.lo.y ≤ b.lo.y) && decide (b.hi.y ≤ a.hi.y)) && (decide (a.lo.z ≤ b.lo.z) && decide (b.hi.z ≤ a.hi.z))
def zbox : Bx := ⟨⟨0, 0, 0⟩, ⟨0, 0, 0⟩⟩
def mlo (a b : Bx) (k : Nat) : Int := mx (co a.lo k) (co b.lo k)
def mhi (a b : Bx) (k : Nat) : Int := mn (co a.hi k) (co b.hi k)
def meet1 (a b o : Bx) (k : Nat) : Bx := ⟨setc o.lo k (mlo a b k), setc o.hi k (mhi a b k)⟩
def meetK (a b : Bx) : Nat → Bx
  | 0 => zbox
  | k + 1 => meet1 a b (meetK a b k) k
def meets (a b : Bx) : Bool := decide (mlo a b 0 ≤ mhi a b 0) && decide (mlo a b 1 ≤ mhi a b 1) && decide (mlo a b 2 ≤ mhi a b 2)
def meet (a b : Bx) : Bx := if meets a b then meetK a b 3 else zbox
def eqbox (a b : Bx) : Bool := eqpt a.lo b.lo && eqpt a.hi b.hi
end S
theorem run_eq_box (a b : Bx) (W : World) : (binOp .eql 89 (boxV a) (boxV b)).run Tryz.prog W = .ok (.bool (S.eqbox a b)) W := by
  by_cases h1 : a.lo.x = b.lo.x
  · by_cases h2 : a.lo.y = b.lo.y
    · by_cases h3 : a.lo.z = b.lo.z
      · by_cases h4 : a.hi.x = b.hi.x
        · by_cases h5 : a.hi.y = b.hi.y
          · by_cases h6 : a.hi.z = b.hi.z
            · simp [go_sem, S.eqbox, S.eqpt, h1, h2, h3, h4, h5, h6]
            · simp [go_sem, S.eqbox, S.eqpt, h1, h2, h3, h4, h5, h6]
          · simp [go_sem, S.eqbox, S.eqpt, h1, h2, h3, h4, h5]
        · simp [go_sem, S.eqbox, S.eqpt, h1, h2, h3, h4]
      · simp [go_sem, S.eqbox, S.eqpt, h1, h2, h3]
    · simp [go_sem, S.eqbox, S.eqpt, h1, h2]
  · simp [go_sem, S.eqbox, S.eqpt, h1]
theorem meets_no {a b : Bx} {k : Nat} (hk : k < 3) (h : S.mhi a b k < S.mlo a b k) : S.meets a b = false := by
  have : k = 0 ∨ k = 1 ∨ k = 2 := by omega
  have hn : ¬ S.mlo a b k ≤ S.mhi a b k := by omega
  rcases this with rfl | rfl | rfl <;> simp [S.meets, hn]
theorem meets_yes {a b : Bx} (h : ∀ k, k < 3 → S.mlo a b k ≤ S.mhi a b k) : S.meets a b = true := by
  simp [S.meets, h 0 (by omega), h 1 (by omega), h 2 (by omega)]
theorem meetK_3 (a b : Bx) : S.meetK a b 3 = ⟨⟨S.mx a.lo.x b.lo.x, S.mx a.lo.y b.lo.y, S.mx a.lo.z b.lo.z⟩, ⟨S.mn a.hi.x b.hi.x, S.mn a.hi.y b.hi.y, S.mn a.hi.z b.hi.z⟩⟩ := by
  simp [S.meetK, S.meet1, S.mlo, S.mhi, S.setc, S.co]
theorem mx_eq {a b : Int} : S.mx a b = b ↔ a ≤ b := by unfold S.mx; split <;> omega
theorem mn_eq {a b : Int} : S.mn a b = b ↔ b ≤ a := by unfold S.mn; split <;> omega
theorem mx_le_mn {a b c d : Int} (h1 : a ≤ b) (h2 : b ≤ d) (h3 : d ≤ c) : S.mx a b ≤ S.mn c d := by rw [mx_eq.2 h1, mn_eq.2 h3]; exact h2
theorem eqbox_iff {p q : Bx} : S.eqbox p q = true ↔ p.lo.x = q.lo.x ∧ p.lo.y = q.lo.y ∧ p.lo.z = q.lo.z ∧ p.hi.x = q.hi.x ∧ p.hi.y = q.hi.y ∧ p.hi.z = q.hi.z := by
  simp [S.eqbox, S.eqpt, and_assoc]
theorem cont_iff {a b : Bx} : S.cont a b = true ↔ a.lo.x ≤ b.lo.x ∧ b.hi.x ≤ a.hi.x ∧ a.lo.y ≤ b.lo.y ∧ b.hi.y ≤ a.hi.y ∧ a.lo.z ≤ b.lo.z ∧ b.hi.z ≤ a.hi.z := by
  simp [S.cont, and_assoc]
theorem meet_cont (a b : Bx) (hx : b.lo.x ≤ b.hi.x) (hy : b.lo.y ≤ b.hi.y) (hz : b.lo.z ≤ b.hi.z) : (S.meets a b && S.eqbox (S.meet a b) b) = S.cont a b := by
  rw [Bool.eq_iff_iff, Bool.and_eq_true, cont_iff]
  constructor
  · rintro ⟨h1, h2⟩
    rw [S.meet, if_pos h1, meetK_3] at h2
    obtain ⟨h3, h4, h5, h6, h7, h8⟩ : S.mx a.lo.x b.lo.x = b.lo.x ∧ S.mx a.lo.y b.lo.y = b.lo.y ∧ S.mx a.lo.z b.lo.z = b.lo.z ∧ S.mn a.hi.x b.hi.x = b.hi.x ∧ S.mn a.hi.y b.hi.y = b.hi.y ∧ S.mn a.hi.z b.hi.z = b.hi.z := eqbox_iff.1 h2
    exact ⟨mx_eq.1 h3, mn_eq.1 h6, mx_eq.1 h4, mn_eq.1 h7, mx_eq.1 h5, mn_eq.1 h8⟩
  · rintro ⟨h1, h2, h3, h4, h5, h6⟩
    have hm : S.meets a b = true := by
      have g1 : S.mlo a b 0 ≤ S.mhi a b 0 := mx_le_mn h1 hx h2
      have g2 : S.mlo a b 1 ≤ S.mhi a b 1 := mx_le_mn h3 hy h4
      have g3 : S.mlo a b 2 ≤ S.mhi a b 2 := mx_le_mn h5 hz h6
      simp [S.meets, g1, g2, g3]
    refine ⟨hm, ?_⟩
    rw [S.meet, if_pos hm, meetK_3]
    exact eqbox_iff.2 ⟨mx_eq.2 h1, mx_eq.2 h3, mx_eq.2 h5, mn_eq.2 h2, mn_eq.2 h4, mn_eq.2 h6⟩
set_option maxRecDepth 100000 in
set_option maxHeartbeats 4000000 in
theorem meet_any (a b : Bx) (w : World) :
    Calls Tryz.prog 276 #[boxV a, boxV b] w fun e w' => e = .returned (.tuple #[boxV (S.meet a b), .bool (S.meets a b)]) ∧ Below w.heap.size w w' := by
  have HNO := Lib.hid (fun k hk h => meets_no (a := a) (b := b) (k := k) hk h)
  have HYES := Lib.hid (fun h => meets_yes (a := a) (b := b) h)
  have HMT := Lib.hid (show ∀ t, S.meets a b = t → S.meet a b = if t then S.meetK a b 3 else S.zbox from fun t h => by rw [← h]; rfl)
  have HWI := Lib.hid (fun (p : Pt) (k : Nat) (n : Int) (hk : k < 3) (w : World) => with_any p k n hk w)
  have HCA := Lib.hid (fun (k : Nat) (hk : k < 3) (w : World) => coord_any a.lo k hk w)
  have HCB := Lib.hid (fun (k : Nat) (hk : k < 3) (w : World) => coord_any b.lo k hk w)
  have HDA := Lib.hid (fun (k : Nat) (hk : k < 3) (w : World) => coord_any a.hi k hk w)
  have HDB := Lib.hid (fun (k : Nat) (hk : k < 3) (w : World) => coord_any b.hi k hk w)
  unfold ptVal at HWI HCA HCB HDA HDB
  unfold boxV
  go_enter Tryz.func276, Tryz.ntmps276
  go_wp2
  have hW : Below w.heap.size w ((((w.alloc (.cells #[.int .i64 a.lo.x, .int .i64 a.lo.y, .int .i64 a.lo.z, .int .i64 a.hi.x, .int .i64 a.hi.y, .int .i64 a.hi.z] 89)).alloc (.cells #[.int .i64 b.lo.x, .int .i64 b.lo.y, .int .i64 b.lo.z, .int .i64 b.hi.x, .int .i64 b.hi.y, .int .i64 b.hi.z] 89)).alloc (.cells #[.int .i64 0, .int .i64 0, .int .i64 0, .int .i64 0, .int .i64 0, .int .i64 0] 89)).alloc (.cells #[.int .i64 0, .int .i64 0, .int .i64 0, .int .i64 0, .int .i64 0, .int .i64 0] 89)) := bel
  have hA0 : Blk ((((w.alloc (.cells #[.int .i64 a.lo.x, .int .i64 a.lo.y, .int .i64 a.lo.z, .int .i64 a.hi.x, .int .i64 a.hi.y, .int .i64 a.hi.z] 89)).alloc (.cells #[.int .i64 b.lo.x, .int .i64 b.lo.y, .int .i64 b.lo.z, .int .i64 b.hi.x, .int .i64 b.hi.y, .int .i64 b.hi.z] 89)).alloc (.cells #[.int .i64 0, .int .i64 0, .int .i64 0, .int .i64 0, .int .i64 0, .int .i64 0] 89)).alloc (.cells #[.int .i64 0, .int .i64 0, .int .i64 0, .int .i64 0, .int .i64 0, .int .i64 0] 89)) w.heap.size 89 #[.int .i64 a.lo.x, .int .i64 a.lo.y, .int .i64 a.lo.z, .int .i64 a.hi.x, .int .i64 a.hi.y, .int .i64 a.hi.z] := (((Blk.new w _ _).alloc _).alloc _).alloc _
  have hB0 : Blk ((((w.alloc (.cells #[.int .i64 a.lo.x, .int .i64 a.lo.y, .int .i64 a.lo.z, .int .i64 a.hi.x, .int .i64 a.hi.y, .int .i64 a.hi.z] 89)).alloc (.cells #[.int .i64 b.lo.x, .int .i64 b.lo.y, .int .i64 b.lo.z, .int .i64 b.hi.x, .int .i64 b.hi.y, .int .i64 b.hi.z] 89)).alloc (.cells #[.int .i64 0, .int .i64 0, .int .i64 0, .int .i64 0, .int .i64 0, .int .i64 0] 89)).alloc (.cells #[.int .i64 0, .int .i64 0, .int .i64 0, .int .i64 0, .int .i64 0, .int .i64 0] 89)) (w.heap.size + 1) 89 #[.int .i64 b.lo.x, .int .i64 b.lo.y, .int .i64 b.lo.z, .int .i64 b.hi.x, .int .i64 b.hi.y, .int .i64 b.hi.z] := by simpa using ((Blk.new (w.alloc (.cells #[.int .i64 a.lo.x, .int .i64 a.lo.y, .int .i64 a.lo.z, .int .i64 a.hi.x, .int .i64 a.hi.y, .int .i64 a.hi.z] 89)) 89 #[.int .i64 b.lo.x, .int .i64 b.lo.y, .int .i64 b.lo.z, .int .i64 b.hi.x, .int .i64 b.hi.y, .int .i64 b.hi.z]).alloc (.cells #[.int .i64 0, .int .i64 0, .int .i64 0, .int .i64 0, .int .i64 0, .int .i64 0] 89)).alloc (.cells #[.int .i64 0, .int .i64 0, .int .i64 0, .int .i64 0, .int .i64 0, .int .i64 0] 89)
  have hR0 : Blk ((((w.alloc (.cells #[.int .i64 a.lo.x, .int .i64 a.lo.y, .int .i64 a.lo.z, .int .i64 a.hi.x, .int .i64 a.hi.y, .int .i64 a.hi.z] 89)).alloc (.cells #[.int .i64 b.lo.x, .int .i64 b.lo.y, .int .i64 b.lo.z, .int .i64 b.hi.x, .int .i64 b.hi.y, .int .i64 b.hi.z] 89)).alloc (.cells #[.int .i64 0, .int .i64 0, .int .i64 0, .int .i64 0, .int .i64 0, .int .i64 0] 89)).alloc (.cells #[.int .i64 0, .int .i64 0, .int .i64 0, .int .i64 0, .int .i64 0, .int .i64 0] 89)) (w.heap.size + 1 + 1) 89 #[.int .i64 0, .int .i64 0, .int .i64 0, .int .i64 0, .int .i64 0, .int .i64 0] := by simpa using (Blk.new ((w.alloc (.cells #[.int .i64 a.lo.x, .int .i64 a.lo.y, .int .i64 a.lo.z, .int .i64 a.hi.x, .int .i64 a.hi.y, .int .i64 a.hi.z] 89)).alloc (.cells #[.int .i64 b.lo.x, .int .i64 b.lo.y, .int .i64 b.lo.z, .int .i64 b.hi.x, .int .i64 b.hi.y, .int .i64 b.hi.z] 89)) 89 #[.int .i64 0, .int .i64 0, .int .i64 0, .int .i64 0, .int .i64 0, .int .i64 0]).alloc (.cells #[.int .i64 0, .int .i64 0, .int .i64 0, .int .i64 0, .int .i64 0, .int .i64 0] 89)
  have hO0 : Blk ((((w.alloc (.cells #[.int .i64 a.lo.x, .int .i64 a.lo.y, .int .i64 a.lo.z, .int .i64 a.hi.x, .int .i64 a.hi.y, .int .i64 a.hi.z] 89)).alloc (.cells #[.int .i64 b.lo.x, .int .i64 b.lo.y, .int .i64 b.lo.z, .int .i64 b.hi.x, .int .i64 b.hi.y, .int .i64 b.hi.z] 89)).alloc (.cells #[.int .i64 0, .int .i64 0, .int .i64 0, .int .i64 0, .int .i64 0, .int .i64 0] 89)).alloc (.cells #[.int .i64 0, .int .i64 0, .int .i64 0, .int .i64 0, .int .i64 0, .int .i64 0] 89)) (w.heap.size + 1 + 1 + 1) 89 #[.int .i64 0, .int .i64 0, .int .i64 0, .int .i64 0, .int .i64 0, .int .i64 0] := by simpa using Blk.new (((w.alloc (.cells #[.int .i64 a.lo.x, .int .i64 a.lo.y, .int .i64 a.lo.z, .int .i64 a.hi.x, .int .i64 a.hi.y, .int .i64 a.hi.z] 89)).alloc (.cells #[.int .i64 b.lo.x, .int .i64 b.lo.y, .int .i64 b.lo.z, .int .i64 b.hi.x, .int .i64 b.hi.y, .int .i64 b.hi.z] 89)).alloc (.cells #[.int .i64 0, .int .i64 0, .int .i64 0, .int .i64 0, .int .i64 0, .int .i64 0] 89)) 89 #[.int .i64 0, .int .i64 0, .int .i64 0, .int .i64 0, .int .i64 0, .int .i64 0]
  have hzW : ((((w.alloc (.cells #[.int .i64 a.lo.x, .int .i64 a.lo.y, .int .i64 a.lo.z, .int .i64 a.hi.x, .int .i64 a.hi.y, .int .i64 a.hi.z] 89)).alloc (.cells #[.int .i64 b.lo.x, .int .i64 b.lo.y, .int .i64 b.lo.z, .int .i64 b.hi.x, .int .i64 b.hi.y, .int .i64 b.hi.z] 89)).alloc (.cells #[.int .i64 0, .int .i64 0, .int .i64 0, .int .i64 0, .int .i64 0, .int .i64 0] 89)).alloc (.cells #[.int .i64 0, .int .i64 0, .int .i64 0, .int .i64 0, .int .i64 0, .int .i64 0] 89)).heap.size = w.heap.size + 1 + 1 + 1 + 1 := by simp
  have HA0 := Lib.hid hA0
  have HB0 := Lib.hid hB0
  have HR0 := Lib.hid hR0
  clear hA0 hB0 hR0
  generalize ((((w.alloc (.cells #[.int .i64 a.lo.x, .int .i64 a.lo.y, .int .i64 a.lo.z, .int .i64 a.hi.x, .int .i64 a.hi.y, .int .i64 a.hi.z] 89)).alloc (.cells #[.int .i64 b.lo.x, .int .i64 b.lo.y, .int .i64 b.lo.z, .int .i64 b.hi.x, .int .i64 b.hi.y, .int .i64 b.hi.z] 89)).alloc (.cells #[.int .i64 0, .int .i64 0, .int .i64 0, .int .i64 0, .int .i64 0, .int .i64 0] 89)).alloc (.cells #[.int .i64 0, .int .i64 0, .int .i64 0, .int .i64 0, .int .i64 0, .int .i64 0] 89)) = W1 at *
  go_loopw [7] (fun i wr => ∃ k : Nat, k ≤ 3 ∧ i = .int .i64 k ∧ Hid (∀ j, j < k → S.mlo a b j ≤ S.mhi a b j) ∧ Blk wr (w.heap.size + 1 + 1 + 1) 89 #[.int .i64 (S.meetK a b k).lo.x, .int .i64 (S.meetK a b k).lo.y, .int .i64 (S.meetK a b k).lo.z, .int .i64 (S.meetK a b k).hi.x, .int .i64 (S.meetK a b k).hi.y, .int .i64 (S.meetK a b k).hi.z] ∧ Exc [(w.heap.size + 1 + 1 + 1)] W1 wr) (fun i _ => 3 - (intOf i).toNat)
  case atStart => exact ⟨0, by omega, rfl, Lib.hid fun j hj => absurd hj (by omega), hO0, Exc.refl _ _⟩
  case round =>
    obtain ⟨k, hk, rfl, HALL, hK, hX⟩ := hrel
    have HK := Lib.hid hK
    have hsz := hX.size
    have hA1 : Blk wr w.heap.size 89 #[.int .i64 a.lo.x, .int .i64 a.lo.y, .int .i64 a.lo.z, .int .i64 a.hi.x, .int .i64 a.hi.y, .int .i64 a.hi.z] := (hX.block w.heap.size (by omega) (by simp; omega)).trans HA0.out
    have hB1 : Blk wr (w.heap.size + 1) 89 #[.int .i64 b.lo.x, .int .i64 b.lo.y, .int .i64 b.lo.z, .int .i64 b.hi.x, .int .i64 b.hi.y, .int .i64 b.hi.z] := (hX.block (w.heap.size + 1) (by omega) (by simp)).trans HB0.out
    have hR1 : Blk wr (w.heap.size + 1 + 1) 89 #[.int .i64 0, .int .i64 0, .int .i64 0, .int .i64 0, .int .i64 0, .int .i64 0] := (hX.block (w.heap.size + 1 + 1) (by omega) (by simp)).trans HR0.out
    have x0 := hA1.cell 0
    have x1 := hA1.cell 1
    have x2 := hA1.cell 2
    have x3 := hA1.cell 3
    have x4 := hA1.cell 4
    have x5 := hA1.cell 5
    simp only [List.getElem?_toArray, List.getElem?_cons_zero, List.getElem?_cons_succ] at x0 x1 x2 x3 x4 x5
    have y0 := hB1.cell 0
    have y1 := hB1.cell 1
    have y2 := hB1.cell 2
    have y3 := hB1.cell 3
    have y4 := hB1.cell 4
    have y5 := hB1.cell 5
    simp only [List.getElem?_toArray, List.getElem?_cons_zero, List.getElem?_cons_succ] at y0 y1 y2 y3 y4 y5
    have z0 := hR1.cell 0
    have z1 := hR1.cell 1
    have z2 := hR1.cell 2
    have z3 := hR1.cell 3
    have z4 := hR1.cell 4
    have z5 := hR1.cell 5
    have fz0 := hR1.frozen 0
    have fz1 := hR1.frozen 1
    have fz2 := hR1.frozen 2
    have fz3 := hR1.frozen 3
    have fz4 := hR1.frozen 4
    have fz5 := hR1.frozen 5
    simp only [List.getElem?_toArray, List.getElem?_cons_zero, List.getElem?_cons_succ] at z0 z1 z2 z3 z4 z5
    have hla := hA1.lt
    have hlb := hB1.lt
    have hlr := hR1.lt
    have hbel : Below w.heap.size w wr := hW.trans (hX.below (by omega) (by intro x hx; simp at hx; omega))
    clear hA1 hB1 hR1
    by_cases hlt : k < 3
    · have hki : (k : Int) < 3 := by omega
      have HJ := Lib.hid (show S.meetK a b (k + 1) = S.meet1 a b (S.meetK a b k) k from rfl)
      have HNk := Lib.hid (HNO.out k hlt)
      generalize S.meetK a b k = O at *
      have hgr := hK.lt
      have o0 := hK.cell 0
      have o1 := hK.cell 1
      have o2 := hK.cell 2
      have o3 := hK.cell 3
      have o4 := hK.cell 4
      have o5 := hK.cell 5
      have fo0 := hK.frozen 0
      have fo1 := hK.frozen 1
      have fo2 := hK.frozen 2
      have fo3 := hK.frozen 3
      have fo4 := hK.frozen 4
      have fo5 := hK.frozen 5
      simp only [List.getElem?_toArray, List.getElem?_cons_zero, List.getElem?_cons_succ] at o0 o1 o2 o3 o4 o5
      have HCAk := Lib.hid (HCA.out k hlt)
      have HCBk := Lib.hid (HCB.out k hlt)
      have HDAk := Lib.hid (HDA.out k hlt)
      have HDBk := Lib.hid (HDB.out k hlt)
      obtain ⟨P, hP⟩ : ∃ P, P = S.mlo a b k := ⟨_, rfl⟩
      obtain ⟨Q, hQ⟩ : ∃ Q, Q = S.mhi a b k := ⟨_, rfl⟩
      have HM1 := Lib.hid (show S.meet1 a b O k = ⟨S.setc O.lo k P, S.setc O.hi k Q⟩ by rw [hP, hQ]; rfl)
      have HP := Lib.hid hP
      have HQ := Lib.hid hQ
      unfold S.mlo S.mx at hP
      unfold S.mhi S.mn at hQ
      generalize S.co a.lo k = la at *
      generalize S.co b.lo k = lb at *
      generalize S.co a.hi k = ha at *
      generalize S.co b.hi k = hb at *
      have HWL := Lib.hid (fun w => HWI.out O.lo k P hlt w)
      have HWH := Lib.hid (fun w => HWI.out O.hi k Q hlt w)
      have HPP := Lib.hid hP
      have HQQ := Lib.hid hQ
      clear hP hQ
      clear hK
      by_cases hbad : Q < P
      · have HBAD := Lib.hid (HNk.out (by rw [← HP.out, ← HQ.out]; exact hbad))
        go_wp2
        refine wp_region_grow (by kernel_rfl) (by kernel_rfl) ?_
        repeat (go_big_quiet_step ((first | (go_at_call 180; with_reducible exact grow_of (HCAk.out _)) | (go_at_call 180; with_reducible exact grow_of (HCBk.out _)) | (go_at_call 180; with_reducible exact grow_of (HDAk.out _)) | (go_at_call 180; with_reducible exact grow_of (HDBk.out _)))))
        all_goals (refine wpQuiet_nil ?_; intro wg hbwg; obtain ⟨hcwg, hfwg⟩ := bcell hbwg; have hzwg_0 : w.heap.size < wg.heap.size := lt_via hbwg (by first | omega | (simp; done) | (simp; omega)); have hzwg_1 : w.heap.size + 1 < wg.heap.size := lt_via hbwg (by first | omega | (simp; done) | (simp; omega)); have hzwg_2 : w.heap.size + 2 < wg.heap.size := lt_via hbwg (by first | omega | (simp; done) | (simp; omega)); have hzwg_3 : w.heap.size + 3 < wg.heap.size := lt_via hbwg (by first | omega | (simp; done) | (simp; omega)))
        rw [show (if la < lb then lb else la) = P from HPP.out.symm, show (if hb < ha then hb else ha) = Q from HQQ.out.symm]
        go_wp2
        exact bodyPost_ret (v := .tuple #[.agg #[.int .i64 0, .int .i64 0, .int .i64 0, .int .i64 0, .int .i64 0, .int .i64 0], .bool false]) (by simp [results, Tryz.results276, go_sem, *]) rfl ⟨by rw [HMT.out _ HBAD.out, HBAD.out]; rfl, ((((((((ba_via hbwg hbel).setCell (by simp; omega) _).setCell (by simp; omega) _).setCell (by simp; omega) _).setCell (by simp; omega) _).setCell (by simp; omega) _).setCell (by simp; omega) _))⟩
      · have hg : ¬ Q < P := hbad
        go_wp2
        refine wp_region_grow (by kernel_rfl) (by kernel_rfl) ?_
        repeat (go_big_quiet_step ((first | (go_at_call 180; with_reducible exact grow_of (HCAk.out _)) | (go_at_call 180; with_reducible exact grow_of (HCBk.out _)) | (go_at_call 180; with_reducible exact grow_of (HDAk.out _)) | (go_at_call 180; with_reducible exact grow_of (HDBk.out _)))))
        all_goals (refine wpQuiet_nil ?_; intro wg hbwg; obtain ⟨hcwg, hfwg⟩ := bcell hbwg; have hzwg_0 : w.heap.size < wg.heap.size := lt_via hbwg (by first | omega | (simp; done) | (simp; omega)); have hzwg_1 : w.heap.size + 1 < wg.heap.size := lt_via hbwg (by first | omega | (simp; done) | (simp; omega)); have hzwg_2 : w.heap.size + 2 < wg.heap.size := lt_via hbwg (by first | omega | (simp; done) | (simp; omega)); have hzwg_3 : w.heap.size + 3 < wg.heap.size := lt_via hbwg (by first | omega | (simp; done) | (simp; omega)))
        rw [show (if la < lb then lb else la) = P from HPP.out.symm, show (if hb < ha then hb else ha) = Q from HQQ.out.symm]
        go_wp2_with (first
          | (go_at_call 251; (with_reducible refine (HWL.out _).mono ?_); rintro e w2 ⟨rfl, hbw2⟩; obtain ⟨hcw2, hfw2⟩ := bcell hbw2; have hzw2_0 : w.heap.size < w2.heap.size := lt_via hbw2 (by first | omega | (simp; done) | (simp; omega)); have hzw2_1 : w.heap.size + 1 < w2.heap.size := lt_via hbw2 (by first | omega | (simp; done) | (simp; omega)); have hzw2_2 : w.heap.size + 2 < w2.heap.size := lt_via hbw2 (by first | omega | (simp; done) | (simp; omega)); have hzw2_3 : w.heap.size + 3 < w2.heap.size := lt_via hbw2 (by first | omega | (simp; done) | (simp; omega)))
          | (go_at_call 251; (with_reducible refine (HWH.out _).mono ?_); rintro e w3 ⟨rfl, hbw3⟩; obtain ⟨hcw3, hfw3⟩ := bcell hbw3; have hzw3_0 : w.heap.size < w3.heap.size := lt_via hbw3 (by first | omega | (simp; done) | (simp; omega)); have hzw3_1 : w.heap.size + 1 < w3.heap.size := lt_via hbw3 (by first | omega | (simp; done) | (simp; omega)); have hzw3_2 : w.heap.size + 2 < w3.heap.size := lt_via hbw3 (by first | omega | (simp; done) | (simp; omega)); have hzw3_3 : w.heap.size + 3 < w3.heap.size := lt_via hbw3 (by first | omega | (simp; done) | (simp; omega))))
        go_roundw
        case rel =>
          refine ⟨k + 1, by omega, by go_num, Lib.hid fun j hj => ?_, ?_, ?_⟩
          · by_cases hjk : j = k
            · subst hjk; rw [← HP.out, ← HQ.out]; omega
            · exact HALL.out j (by omega)
          · rw [HJ.out, HM1.out]
            have h3 := ((((HK.out.via hbwg).via hbw2).set 0 (.int .i64 (S.setc O.lo k P).x)).set 1 (.int .i64 (S.setc O.lo k P).y)).set 2 (.int .i64 (S.setc O.lo k P).z)
            simp only [List.setIfInBounds_toArray, List.set_cons_zero, List.set_cons_succ] at h3
            have h6 := (((h3.via hbw3).set 3 (.int .i64 (S.setc O.hi k Q).x)).set 4 (.int .i64 (S.setc O.hi k Q).y)).set 5 (.int .i64 (S.setc O.hi k Q).z)
            simp only [List.setIfInBounds_toArray, List.set_cons_zero, List.set_cons_succ] at h6
            exact h6
          · exact (((Exc.via hbw3 ((((Exc.via hbw2 (Exc.via hbwg hX)).set (.inl (by simp)) _).set (.inl (by simp)) _).set (.inl (by simp)) _)).set (.inl (by simp)) _).set (.inl (by simp)) _).set (.inl (by simp)) _
        case measure => simp [intOf]; omega
    · have he : k = 3 := by omega
      subst he
      have HB := Lib.hid (HYES.out HALL.out)
      have HMM := Lib.hid (HMT.out _ HB.out)
      generalize S.meetK a b 3 = O at *
      have hgr := hK.lt
      have o0 := hK.cell 0
      have o1 := hK.cell 1
      have o2 := hK.cell 2
      have o3 := hK.cell 3
      have o4 := hK.cell 4
      have o5 := hK.cell 5
      have fo0 := hK.frozen 0
      have fo1 := hK.frozen 1
      have fo2 := hK.frozen 2
      have fo3 := hK.frozen 3
      have fo4 := hK.frozen 4
      have fo5 := hK.frozen 5
      simp only [List.getElem?_toArray, List.getElem?_cons_zero, List.getElem?_cons_succ] at o0 o1 o2 o3 o4 o5
      go_wp2
      exact bodyPost_ret (v := .tuple #[boxV O, .bool true]) (by simp [results, Tryz.results276, go_sem, *]) rfl ⟨by rw [HMM.out, HB.out]; rfl, ((((((hbel.setCell (by simp; omega) _).setCell (by simp; omega) _).setCell (by simp; omega) _).setCell (by simp; omega) _).setCell (by simp; omega) _).setCell (by simp; omega) _)⟩
set_option maxHeartbeats 1000000 in
theorem rcontains_any (a b : Bx) (w : World) (hx : b.lo.x ≤ b.hi.x) (hy : b.lo.y ≤ b.hi.y) (hz : b.lo.z ≤ b.hi.z) :
    Calls Tryz.prog 261 #[boxV a, boxV b] w fun e w' => e = .returned (.bool (S.cont a b)) ∧ Below w.heap.size w w' := by
  have H := Lib.hid (meet_cont a b hx hy hz)
  have HM := Lib.hid (fun w => meet_any a b w)
  clear hx hy hz
  have q := run_eq_box (S.meet a b) b
  generalize S.meet a b = M at *
  generalize S.meets a b = t at *
  unfold boxV at HM q ⊢
  cases t
  all_goals (
    go_enter Tryz.func261, Tryz.ntmps261
    go_wp2_with (go_at_call 276; (with_reducible refine (HM.out _).mono ?_); rintro e w1 ⟨rfl, hbw1⟩; obtain ⟨hcw1, hfw1⟩ := bcell hbw1; have hzw1_0 : w.heap.size < w1.heap.size := lt_via hbw1 (by first | omega | (simp; done) | (simp; omega)); have hzw1_1 : w.heap.size + 1 < w1.heap.size := lt_via hbw1 (by first | omega | (simp; done) | (simp; omega)))
    go_ret
    exact ⟨ret_b (by rw [← H.out]; simp), bel⟩)
set_option maxHeartbeats 4000000 in
theorem bcont_any (a b : Bx) (w : World) :
    Calls Tryz.prog 260 #[boxV a, boxV b] w fun e w' => e = .returned (.bool (S.cont a b)) ∧ Below w.heap.size w w' := by
  have H := Lib.hid (show ∀ t : Bool, (t = true ↔ a.lo.x ≤ b.lo.x ∧ b.hi.x ≤ a.hi.x ∧ a.lo.y ≤ b.lo.y ∧ b.hi.y ≤ a.hi.y ∧ a.lo.z ≤ b.lo.z ∧ b.hi.z ≤ a.hi.z) → t = S.cont a b from fun t ht => by rw [Bool.eq_iff_iff, ht, cont_iff])
  have HXA := Lib.hid (fun w => ends_x a w)
  have HYA := Lib.hid (fun w => ends_y a w)
  have HZA := Lib.hid (fun w => ends_z a w)
  have HXB := Lib.hid (fun w => ends_x b w)
  have HYB := Lib.hid (fun w => ends_y b w)
  have HZB := Lib.hid (fun w => ends_z b w)
  unfold boxV
  go_enter Tryz.func260, Tryz.ntmps260
  go_wp2
  refine wp_loop_rounds 4 ?_
  rw [rounds_succ]
  go_wp2_with (first | (go_at_call 167; (with_reducible refine (HXA.out _).mono ?_); rintro e w1 ⟨rfl, hbw1⟩; obtain ⟨hcw1, hfw1⟩ := bcell hbw1; have hzw1_0 : w.heap.size < w1.heap.size := lt_via hbw1 (by first | omega | (simp; done) | (simp; omega)); have hzw1_1 : w.heap.size + 1 < w1.heap.size := lt_via hbw1 (by first | omega | (simp; done) | (simp; omega))) | (go_at_call 167; (with_reducible refine (HXB.out _).mono ?_); rintro e w2 ⟨rfl, hbw2⟩; obtain ⟨hcw2, hfw2⟩ := bcell hbw2; have hzw2_0 : w.heap.size < w2.heap.size := lt_via hbw2 (by first | omega | (simp; done) | (simp; omega)); have hzw2_1 : w.heap.size + 1 < w2.heap.size := lt_via hbw2 (by first | omega | (simp; done) | (simp; omega))))
  all_goals (try (go_ret; exact ⟨ret_b (H.out _ (by simp only [decide_eq_true_eq, decide_eq_false_iff_not, Bool.false_eq_true, true_iff, false_iff] at *; omega)), bel⟩))
  rw [rounds_succ]
  go_wp2_with (first | (go_at_call 167; (with_reducible refine (HYA.out _).mono ?_); rintro e w3 ⟨rfl, hbw3⟩; obtain ⟨hcw3, hfw3⟩ := bcell hbw3; have hzw3_0 : w.heap.size < w3.heap.size := lt_via hbw3 (by first | omega | (simp; done) | (simp; omega)); have hzw3_1 : w.heap.size + 1 < w3.heap.size := lt_via hbw3 (by first | omega | (simp; done) | (simp; omega))) | (go_at_call 167; (with_reducible refine (HYB.out _).mono ?_); rintro e w4 ⟨rfl, hbw4⟩; obtain ⟨hcw4, hfw4⟩ := bcell hbw4; have hzw4_0 : w.heap.size < w4.heap.size := lt_via hbw4 (by first | omega | (simp; done) | (simp; omega)); have hzw4_1 : w.heap.size + 1 < w4.heap.size := lt_via hbw4 (by first | omega | (simp; done) | (simp; omega))))
  all_goals (try (go_ret; exact ⟨ret_b (H.out _ (by simp only [decide_eq_true_eq, decide_eq_false_iff_not, Bool.false_eq_true, true_iff, false_iff] at *; omega)), bel⟩))
  rw [rounds_succ]
  go_wp2_with (first | (go_at_call 167; (with_reducible refine (HZA.out _).mono ?_); rintro e w5 ⟨rfl, hbw5⟩; obtain ⟨hcw5, hfw5⟩ := bcell hbw5; have hzw5_0 : w.heap.size < w5.heap.size := lt_via hbw5 (by first | omega | (simp; done) | (simp; omega)); have hzw5_1 : w.heap.size + 1 < w5.heap.size := lt_via hbw5 (by first | omega | (simp; done) | (simp; omega))) | (go_at_call 167; (with_reducible refine (HZB.out _).mono ?_); rintro e w6 ⟨rfl, hbw6⟩; obtain ⟨hcw6, hfw6⟩ := bcell hbw6; have hzw6_0 : w.heap.size < w6.heap.size := lt_via hbw6 (by first | omega | (simp; done) | (simp; omega)); have hzw6_1 : w.heap.size + 1 < w6.heap.size := lt_via hbw6 (by first | omega | (simp; done) | (simp; omega))))
  all_goals (try (go_ret; exact ⟨ret_b (H.out _ (by simp only [decide_eq_true_eq, decide_eq_false_iff_not, Bool.false_eq_true, true_iff, false_iff] at *; omega)), bel⟩))
  rw [rounds_succ]
  go_wp2
  (go_ret; exact ⟨ret_b (H.out _ (by simp only [decide_eq_true_eq, decide_eq_false_iff_not, Bool.false_eq_true, true_iff, false_iff] at *; omega)), bel⟩)
theorem bcontains_yes (a b : Bx) (w : World) (ha : S.boxOk a = true) (hb : S.boxOk b = true) :
    Calls Tryz.prog 220 #[boxV a, boxV b] w fun e w' => e = .returned (.tuple #[.bool (S.cont a b), .int .i64 0]) ∧ Below w.heap.size w w' := by
  have HA := Lib.hid (fun w => ha ▸ bvalid_any a w)
  have HB := Lib.hid (fun w => hb ▸ bvalid_any b w)
  have HC := Lib.hid (fun w => bcont_any a b w)
  generalize S.cont a b = t at *
  unfold boxV
  go_enter Tryz.func220, Tryz.ntmps220
  go_wp2_with (first
    | (go_at_call 107; (with_reducible refine (HA.out _).mono ?_); rintro e w1 ⟨rfl, hbw1⟩; obtain ⟨hcw1, hfw1⟩ := bcell hbw1; have hzw1_0 : w.heap.size < w1.heap.size := lt_via hbw1 (by first | omega | (simp; done) | (simp; omega)); have hzw1_1 : w.heap.size + 1 < w1.heap.size := lt_via hbw1 (by first | omega | (simp; done) | (simp; omega)))
    | (go_at_call 107; (with_reducible refine (HB.out _).mono ?_); rintro e w2 ⟨rfl, hbw2⟩; obtain ⟨hcw2, hfw2⟩ := bcell hbw2; have hzw2_0 : w.heap.size < w2.heap.size := lt_via hbw2 (by first | omega | (simp; done) | (simp; omega)); have hzw2_1 : w.heap.size + 1 < w2.heap.size := lt_via hbw2 (by first | omega | (simp; done) | (simp; omega)))
    | (go_at_call 260; (with_reducible refine (HC.out _).mono ?_); rintro e w3 ⟨rfl, hbw3⟩; obtain ⟨hcw3, hfw3⟩ := bcell hbw3; have hzw3_0 : w.heap.size < w3.heap.size := lt_via hbw3 (by first | omega | (simp; done) | (simp; omega)); have hzw3_1 : w.heap.size + 1 < w3.heap.size := lt_via hbw3 (by first | omega | (simp; done) | (simp; omega))))
  go_ret2
  exact ⟨rfl, bel⟩
theorem isMain_any (b : Bx) (w : World) :
    Calls Tryz.prog 219 #[boxV b] w fun e w' => e = .returned (.bool (S.isMainB b)) ∧ Below w.heap.size w w' := by
  have H := Lib.hid (show S.isMainB b = (decide (b.lo.x < b.hi.x) && decide (b.lo.y = b.hi.y) && decide (b.lo.z = b.hi.z)) from rfl)
  unfold boxV
  go_enter Tryz.func219, Tryz.ntmps219
  go_wp2
  all_goals (go_ret; exact ⟨ret_b (by rw [H.out, Bool.eq_iff_iff]; all_goals (first | (simp at *; done) | (simp at *; omega))), bel⟩)
theorem notok_any (b : Bx) (w : World) : Calls Tryz.prog 217 #[boxV b] w fun e w' => e = .returned (.bool (S.boxNot b)) ∧ Below w.heap.size w w' := by
  have HV := Lib.hid (fun w => bvalid_any b w)
  unfold boxV
  go_enter Tryz.func217, Tryz.ntmps217
  go_wp2_with (go_at_call 107; (with_reducible refine (HV.out _).mono ?_); rintro e w1 ⟨rfl, hbw1⟩; obtain ⟨hcw1, hfw1⟩ := bcell hbw1; have hzw1_0 : w.heap.size < w1.heap.size := lt_via hbw1 (by first | omega | (simp; done) | (simp; omega)))
  go_ret
  exact ⟨rfl, bel⟩
theorem anyb_of {α : Type} {xs : List α} {p : α → Bool} {k : Nat} (hk : k < xs.length) (h : p xs[k] = true) : anyb xs p = true := by
  unfold anyb
  rw [List.any_eq_true]
  exact ⟨_, List.getElem_mem hk, h⟩
theorem anyb_not {α : Type} {xs : List α} {p : α → Bool} (h : ∀ j (hj : j < xs.length), p xs[j] = false) : anyb xs p = false := by
  unfold anyb
  rw [List.any_eq_false]
  intro x hx
  obtain ⟨j, hj, rfl⟩ := List.mem_iff_getElem.1 hx
  simp [h j hj]
set_option maxHeartbeats 1000000 in
theorem rthick_any (b : Bx) (w : World) :
    Calls Tryz.prog 173 #[boxV b] w fun e w' => e = .returned (.bool (S.thick b)) ∧ Below w.heap.size w w' := by
  have HV := Lib.hid (fun w => rbvalid_any b w)
  have H := Lib.hid (show S.thick b = (S.boxOk b && decide (b.lo.x < b.hi.x) && decide (b.lo.y < b.hi.y) && decide (b.lo.z < b.hi.z)) from rfl)
  generalize S.boxOk b = t at *
  unfold boxV
  cases t
  all_goals (
    go_enter Tryz.func173, Tryz.ntmps173
    go_wp2_with (go_at_call 117; (with_reducible refine (HV.out _).mono ?_); rintro e w1 ⟨rfl, hbw1⟩; obtain ⟨hcw1, hfw1⟩ := bcell hbw1; have hzw1_0 : w.heap.size < w1.heap.size := lt_via hbw1 (by first | omega | (simp; done) | (simp; omega)))
    all_goals (go_ret; exact ⟨ret_b (by rw [H.out, Bool.eq_iff_iff]; all_goals (first | (simp; done) | (simp; omega))), bel⟩))
set_option maxRecDepth 100000 in
set_option maxHeartbeats 4000000 in
theorem rsvalid_any (A : Option Addr) (n c : Nat) (A' : Option Addr) (n' c' : Nat) (xs hs : List Bx) (B : Nat) (w : World) (hB : B ≤ w.heap.size) (hA : SolAt w B A n A' n' xs hs) :
    Calls Tryz.prog 113 #[solV A n c A' n' c'] w fun e w' => e = .returned (.bool (S.solid xs hs)) ∧ Below w.heap.size w w' := by
  have HA := Lib.hid hA
  have hm := hA.max
  have hm' := hA.max'
  have H := Lib.hid (show S.solid xs hs = (decide (1 ≤ n) && decide (n ≤ 20) && decide (n' ≤ 20) && !anyb xs S.thin && !anyb hs S.thin) by unfold S.solid; rw [hA.len, hA.len'])
  clear hA
  unfold solV
  by_cases hbad : n < 1 ∨ 20 < n ∨ 20 < n'
  · have HF : Hid (S.solid xs hs = false) := Lib.hid (by
      rw [H.out]
      rcases hbad with h | h | h
      · have : decide (1 ≤ n) = false := by simp; omega
        simp [this]
      · have : decide (n ≤ 20) = false := by simp; omega
        simp [this]
      · have : decide (n' ≤ 20) = false := by simp; omega
        simp [this])
    by_cases h1 : (n : Int) < 1
    · go_enter Tryz.func113, Tryz.ntmps113
      go_wp2
      go_ret
      exact ⟨ret_b HF.out.symm, bel⟩
    · by_cases h2 : (20 : Int) < n
      · go_enter Tryz.func113, Tryz.ntmps113
        go_wp2
        go_ret
        exact ⟨ret_b HF.out.symm, bel⟩
      · have h3 : (20 : Int) < n' := by omega
        go_enter Tryz.func113, Tryz.ntmps113
        go_wp2
        go_ret
        exact ⟨ret_b HF.out.symm, bel⟩
  · have g1 : ¬ (n : Int) < 1 := by omega
    have g2 : ¬ (20 : Int) < n := by omega
    have g3 : ¬ (20 : Int) < n' := by omega
    clear hbad
    go_enter Tryz.func113, Tryz.ntmps113
    go_wp2
    have hB0 : Blk (w.alloc (.cells #[.slice A n c, .slice A' n' c'] 24)) w.heap.size 24 #[.slice A n c, .slice A' n' c'] := Blk.new _ _ _
    have hW0 : Below w.heap.size w (w.alloc (.cells #[.slice A n c, .slice A' n' c'] 24)) := bel
    have HB0 := Lib.hid hB0
    clear hB0
    generalize w.alloc (.cells #[.slice A n c, .slice A' n' c'] 24) = W0 at *
    go_loopw [3] (fun i wr => ∃ k : Nat, k ≤ n ∧ i = .int .i64 k ∧ Hid (∀ j (h : j < xs.length), j < k → S.thin xs[j] = false) ∧ Below W0.heap.size W0 wr) (fun i _ => n - (intOf i).toNat)
    case atStart => exact ⟨0, Nat.zero_le _, rfl, Lib.hid fun j _ hj => absurd hj (by omega), Below.refl _ _⟩
    case round =>
      obtain ⟨k, hk, rfl, HNO, hbr⟩ := hrel
      have hBk := HB0.out.via hbr
      have x0 := hBk.cell 0
      have x1 := hBk.cell 1
      simp only [List.getElem?_toArray, List.getElem?_cons_zero, List.getElem?_cons_succ] at x0 x1
      have hBl := hBk.lt
      clear hBk
      by_cases hlt : k < n
      · have hki : (k : Int) < (n : Int) := by omega
        have hkx : k < xs.length := by have := HA.out.len; omega
        have hs' := (HA.out.below ((ba_via hbr hW0).mono hB)).cells
        obtain ⟨b, o, rfl, _, _⟩ := hs'.at_ (by rw [flat_len boxC 6 boxC_len]; omega)
        obtain ⟨c0, c1, c2, c3, c4, c5⟩ := hs'.boxes (List.getElem?_eq_getElem hkx)
        have HT := Lib.hid (rthick_any xs[k])
        have HTH := Lib.hid (show S.thin xs[k] = !S.thick xs[k] from rfl)
        generalize hq : S.thick xs[k] = q at *
        cases q
        · go_wp2_with (go_at_call 173; (with_reducible refine (HT.out _).mono ?_); rintro e w1 ⟨rfl, hbw1⟩; obtain ⟨hcw1, hfw1⟩ := bcell hbw1)
          go_ret
          exact ⟨ret_b (by rw [H.out, anyb_of hkx HTH.out]; simp), ba_via hbw1 (ba_via hbr hW0)⟩
        · go_wp2_with (go_at_call 173; (with_reducible refine (HT.out _).mono ?_); rintro e w1 ⟨rfl, hbw1⟩; obtain ⟨hcw1, hfw1⟩ := bcell hbw1)
          go_roundw
          case rel =>
            refine ⟨k + 1, by omega, by go_num, Lib.hid fun j hj hjk => ?_, ba_via hbw1 hbr⟩
            by_cases hjk' : j = k
            · subst hjk'; exact HTH.out
            · exact HNO.out j hj (by omega)
          case measure => simp [intOf]; omega
      · have HX := Lib.hid (anyb_not (p := S.thin) (xs := xs) fun j hj => HNO.out j hj (by have := HA.out.len; omega))
        have hbx := hbr
        go_wp2
        go_loopw [4] (fun i wr => ∃ k : Nat, k ≤ n' ∧ i = .int .i64 k ∧ Hid (∀ j (h : j < hs.length), j < k → S.thin hs[j] = false) ∧ Below W0.heap.size W0 wr) (fun i _ => n' - (intOf i).toNat)
        case atStart => exact ⟨0, Nat.zero_le _, rfl, Lib.hid fun j _ hj => absurd hj (by omega), hbx⟩
        case round =>
          obtain ⟨k', hk', rfl, HNO', hbr'⟩ := hrel
          have hBk := HB0.out.via hbr'
          have y0 := hBk.cell 0
          have y1 := hBk.cell 1
          simp only [List.getElem?_toArray, List.getElem?_cons_zero, List.getElem?_cons_succ] at y0 y1
          have hBl' := hBk.lt
          clear hBk
          by_cases hlt' : k' < n'
          · have hki : (k' : Int) < (n' : Int) := by omega
            have hkx : k' < hs.length := by have := HA.out.len'; omega
            have hs' := (HA.out.below ((ba_via hbr' hW0).mono hB)).cells'
            obtain ⟨b, o, rfl, _, _⟩ := hs'.at_ (by rw [flat_len boxC 6 boxC_len]; omega)
            obtain ⟨c0, c1, c2, c3, c4, c5⟩ := hs'.boxes (List.getElem?_eq_getElem hkx)
            have HT := Lib.hid (rthick_any hs[k'])
            have HTH := Lib.hid (show S.thin hs[k'] = !S.thick hs[k'] from rfl)
            generalize hq : S.thick hs[k'] = q at *
            cases q
            · go_wp2_with (go_at_call 173; (with_reducible refine (HT.out _).mono ?_); rintro e w1 ⟨rfl, hbw1⟩; obtain ⟨hcw1, hfw1⟩ := bcell hbw1)
              go_ret
              exact ⟨ret_b (by rw [H.out, HX.out, anyb_of hkx HTH.out]; simp), ba_via hbw1 (ba_via hbr' hW0)⟩
            · go_wp2_with (go_at_call 173; (with_reducible refine (HT.out _).mono ?_); rintro e w1 ⟨rfl, hbw1⟩; obtain ⟨hcw1, hfw1⟩ := bcell hbw1)
              go_roundw
              case rel =>
                refine ⟨k' + 1, by omega, by go_num, Lib.hid fun j hj hjk => ?_, ba_via hbw1 hbr'⟩
                by_cases hjk' : j = k'
                · subst hjk'; exact HTH.out
                · exact HNO'.out j hj (by omega)
              case measure => simp [intOf]; omega
          · go_wp2
            go_ret
            exact ⟨ret_b (by
              rw [H.out, HX.out, anyb_not (p := S.thin) (xs := hs) fun j hj => HNO'.out j hj (by have := HA.out.len'; omega)]
              simp; omega), ba_via hbr' hW0⟩
set_option maxHeartbeats 2000000 in
theorem rmember_any (m : Mem) (A : Option Addr) (n c : Nat) (A' : Option Addr) (n' c' : Nat) (B : Nat) (w : World) (hB : B ≤ w.heap.size) (hA : SolAt w B A n A' n' m.boxes m.holes) (hk : m.name.size ≤ 9223372036854775807) :
    Calls Tryz.prog 60 #[memV m A n c A' n' c'] w fun e w' => e = .returned (.bool (S.member m)) ∧ Below w.heap.size w w' := by
  have HA := Lib.hid hA
  have H := Lib.hid (show S.member m = (S.isName m.name && S.solid m.boxes m.holes && (decide (0 ≤ m.cover) && decide (m.cover ≤ 200)) && (decide (1 ≤ m.aggr) && decide (m.aggr ≤ 100)) && (decide (1 ≤ m.poker) && decide (m.poker ≤ 200))) from rfl)
  have HN := Lib.hid (fun w => risname_any m.name w hk)
  have HS := Lib.hid (fun (W : World) (hw : B ≤ W.heap.size) (h : SolAt W B A n A' n' m.boxes m.holes) => rsvalid_any A n c A' n' c' m.boxes m.holes B W hw h)
  clear hA
  generalize S.isName m.name = t0 at *
  generalize S.solid m.boxes m.holes = t1 at *
  unfold memV
  cases t0 <;> cases t1
  all_goals (
    go_enter Tryz.func60, Tryz.ntmps60
    go_wp2_with (first
      | (go_at_call 112; (with_reducible refine (HN.out _).mono ?_); rintro e w' ⟨rfl, rfl⟩)
      | (go_at_call 113; (with_reducible refine (HS.out _ (size_via hB bel) (SolAt.at_ HA.out hB bel)).mono ?_); rintro e w1 ⟨rfl, hbw1⟩; obtain ⟨hcw1, hfw1⟩ := bcell hbw1; have hzw1_0 : w.heap.size < w1.heap.size := lt_via hbw1 (by first | omega | (simp; done) | (simp; omega))))
    all_goals (go_ret; exact ⟨ret_b (by rw [H.out, Bool.eq_iff_iff]; all_goals (first | (simp; done) | (simp; omega))), bel⟩))
end Go.Proofs.YtffkmgjmlahfpaaGreat
