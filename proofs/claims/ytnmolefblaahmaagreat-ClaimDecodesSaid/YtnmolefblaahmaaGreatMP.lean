/- Contract of the reference: Bent. Contracts: anchor.poor, anchor.Poor. Contract: Path of the reference for layer 12. Contract: Hull of the reference for layer 12. The legs of a laid bar as boxes; its m -/
import Derived.Test.YtnmolefblaahmaaGreatMO
import Derived.Test.YtnmolefblaahmaaGreatMN
set_option linter.unusedVariables false
set_option linter.unusedSimpArgs false
namespace Go.Proofs.YtnmolefblaahmaaGreat
open Go.RowKit
abbrev S.pbox (p : Pt) : Bx := ⟨p, p⟩
def S.touch (xs : List Bx) (j : Nat) (p : Pt) : Bool := S.cont (xs.getD j S.zbox) (S.pbox p)
def S.bent (xs : List Bx) (k : Nat) (p : Pt) : Bool := (decide (0 < k) && S.touch xs (k - 1) p) || (decide (k + 1 < xs.length) && S.touch xs (k + 1) p)
def S.poor (xs : List Bx) (leg : Bx) : Bool := decide (250 < leg.lo.z - (S.hull (xs.headD ⟨⟨0, 0, 0⟩, ⟨0, 0, 0⟩⟩) xs).lo.z)
theorem move_at (b : Bar) (h : S.bar b = true) {k : Nat} (hk : k < (S.legsOf b.code).length) : ∃ P n, (S.moves b)[k]? = some P ∧ (S.legLens b)[k]? = some n ∧ 1 ≤ n ∧ n ≤ 262144 ∧ Within P 262144 ∧
 S.abs P.x + S.abs P.y + S.abs P.z = n ∧ 0 ≤ S.abs P.x ∧ 0 ≤ S.abs P.y ∧ 0 ≤ S.abs P.z ∧ S.ptAt b (k + 1) = ⟨(S.ptAt b k).x + P.x, (S.ptAt b k).y + P.y, (S.ptAt b k).z + P.z⟩ := by
 obtain ⟨n, _, g2, g3, g4, g5⟩ := lens_get b h hk
 refine ⟨S.step ⟨0, 0, 0⟩ (S.legsOf b.code)[k].2 n, n, ?_, g2, g3, g4, ?_⟩
 ·unfold S.legLens at g2
  rw [List.getElem?_map, List.getElem?_eq_getElem hk] at g2
  unfold S.moves
  rw [List.getElem?_map, List.getElem?_eq_getElem hk]
  simp only [Option.map_some, Option.some.injEq] at g2 ⊢
  rw [g2]
 ·rw [g5]
  rcases legs_way b.code hk with hw | hw | hw | hw | hw
  all_goals (
   rw [hw]
   refine ⟨?_, ?_, ?_, ?_, ?_, ?_⟩
   ·simp [Within, S.step]; omega
   ·simp [S.abs, S.step]; try (first | omega | (intro _; omega) | (split <;> omega))
   ·simp [S.abs, S.step]; try (first | omega | (intro _; omega) | (split <;> omega))
   ·simp [S.abs, S.step]; try (first | omega | (intro _; omega) | (split <;> omega))
   ·simp [S.abs, S.step]; try (first | omega | (intro _; omega) | (split <;> omega))
   ·simp [S.step]; try omega)
theorem ptAt_in (b : Bar) (h : S.bar b = true) (k : Nat) (hk : k ≤ (S.legsOf b.code).length) : Within (S.ptAt b k) 524288 := by
 have hD := bar_head h
 have hd : ∀ k (hk : k < (S.legsOf b.code).length), (S.legsOf b.code)[k].1 < b.dims.length := fun k hk => by have := legs_dim b.code hk; omega
 have h1 := ptAt_sum h hd k
 have h2 := sum_take_le (lens_pos h) k
 have h3 := (legs_sum h).1
 unfold Within at h1 ⊢
 omega
set_option maxRecDepth 100000 in
set_option maxHeartbeats 2000000 in
theorem rpath_yes (b : Bar) (A : Option Addr) (n c : Nat) (B : Nat) (w : World) (hB : B ≤ w.heap.size) (hA : BarAt w B A n b) (h : S.bar b = true) (L : Nat) (hL : (S.legsOf b.code).length = L) :
 Calls Tryz.prog 152 #[barV b A n c] w fun e w' => ∃ A' c', e = .returned (.slice A' (L + 1) c') ∧ w'.ownsRow w.heap.size 76 3 (.slice A' (L + 1) c') (L + 1) ((S.path b).flatMap ptC) ∧ Below w.heap.size w w' := by
 have HA := Lib.hid hA
 have hl6 := legs_len b.code
 have HM := Lib.hid (show ∀ k, k < (S.legsOf b.code).length → _ from fun k hk => move_at b h hk)
 have HPI := Lib.hid (fun k hk => ptAt_in b h k hk)
 have HML := Lib.hid (moves_len b)
 have HSN := Lib.hid (fun m => pathTo_snoc b m)
 have HPA := Lib.hid (show S.path b = S.pathTo b ((S.legsOf b.code).length + 1) from rfl)
 have HL := Lib.hid hL
 rw [hL] at hl6
 clear hA hL
 unfold barV
 go_enter Tryz.func152, Tryz.ntmps152
 go_wp2_with (go_at_call 210; (with_reducible refine (rmoves_any b A n c B _ (by simp; omega) (BarAt.at_ HA.out hB bel) h).mono ?_); rintro e w2 ⟨A2, rfl, hs, hb2, hz2'⟩; obtain ⟨hcw2, hfw2⟩ := bcell hb2; have hz2 : w.heap.size < w2.heap.size := lt_via hb2 (by simp); have hlen : (S.moves b).length = L := HML.out.trans HL.out; simp only [hlen])
 have hbw2 : Below w.heap.size w w2 := bel
 have hbw : Below w.heap.size w ((w2.alloc (.cells #[.int .i64 0, .int .i64 0, .int .i64 0] 76)).alloc (.cells #[.int .i64 0, .int .i64 0, .int .i64 0] 76)) := bel
 have hK0 : Blk ((w2.alloc (.cells #[.int .i64 0, .int .i64 0, .int .i64 0] 76)).alloc (.cells #[.int .i64 0, .int .i64 0, .int .i64 0] 76)) w2.heap.size 76 #[.int .i64 0, .int .i64 0, .int .i64 0] := (Blk.new _ _ _).alloc _
 have hsM := (hs.alloc (Nat.le_refl _) (.cells #[.int .i64 0, .int .i64 0, .int .i64 0] 76)).alloc (by simp) (.cells #[.int .i64 0, .int .i64 0, .int .i64 0] 76)
 have hrow : Row ((w2.alloc (.cells #[.int .i64 0, .int .i64 0, .int .i64 0] 76)).alloc (.cells #[.int .i64 0, .int .i64 0, .int .i64 0] 76)) ((w2.alloc (.cells #[.int .i64 0, .int .i64 0, .int .i64 0] 76)).alloc (.cells #[.int .i64 0, .int .i64 0, .int .i64 0] 76)) (some (w2.heap.size + 1)) w.heap.size 76 3 (.slice (some ⟨w2.heap.size + 1, 0, none⟩) 1 1) 1 ((S.pathTo b 1).flatMap ptC) := by
  refine ⟨?_, fun k hk => .inl (by simpa [Value.ownBlock] using hk.symm)⟩
  have h1 := World.ownsRow_lit (base := w.heap.size) (e := 76) (size := 3) (w2.alloc (.cells #[.int .i64 0, .int .i64 0, .int .i64 0] 76)) #[.int .i64 0, .int .i64 0, .int .i64 0] 1 (by simp; omega) (by unfold maxLen; omega) rfl
  simpa [S.pathTo, S.ptAt, List.range_succ] using h1
 have hzW : ((w2.alloc (.cells #[.int .i64 0, .int .i64 0, .int .i64 0] 76)).alloc (.cells #[.int .i64 0, .int .i64 0, .int .i64 0] 76)).heap.size = w2.heap.size + 2 := by simp
 clear hcw2 hfw2 hb2
 generalize (w2.alloc (.cells #[.int .i64 0, .int .i64 0, .int .i64 0] 76)).alloc (.cells #[.int .i64 0, .int .i64 0, .int .i64 0] 76) = W0 at *
 go_loopw [5, 6] (fun v i wr => ∃ (k : Nat) (A3 : Option Addr) (c3 : Nat), k ≤ L ∧ i = .int .i64 k ∧ v = .slice A3 (k + 1) c3 ∧ Row W0 wr (some (w2.heap.size + 1)) w.heap.size 76 3 (.slice A3 (k + 1) c3) (k + 1) ((S.pathTo b (k + 1)).flatMap ptC) ∧ Exc [w2.heap.size, w2.heap.size + 1] W0 wr ∧ Blk wr w2.heap.size 76 #[.int .i64 (S.ptAt b k).x, .int .i64 (S.ptAt b k).y, .int .i64 (S.ptAt b k).z]) (fun _ i _ => L - (intOf i).toNat)
 case atStart => exact ⟨0, _, 1, Nat.zero_le _, rfl, rfl, hrow, Exc.refl _ _, hK0⟩
 case round =>
  obtain ⟨k, A3, c3, hk, rfl, rfl, hR, hX, hK⟩ := hrel
  clear hrow hK0
  have hsz := hX.size
  by_cases hlt : k < L
  ·have hs' := hsM.below (hX.below (B := w2.heap.size) (by omega) (by intro j hj; simp at hj; omega))
   obtain ⟨b4, o4, rfl, hbl, _⟩ := hs'.at_ (by rw [flat_len ptC 3 ptC_len]; omega)
   obtain ⟨P, q, g1, g2, g3, g4, gw, _, _, _, _, gp⟩ := HM.out k (by have := HL.out; omega)
   obtain ⟨c1, c2, c3'⟩ := hs'.pts g1
   have hin := HPI.out k (by have := HL.out; omega)
   unfold Within at gw hin
   have k0 := hK.cell 0
   have k1 := hK.cell 1
   have k2 := hK.cell 2
   have kf0 := hK.frozen 0
   have kf1 := hK.frozen 1
   have kf2 := hK.frozen 2
   simp only [List.getElem?_toArray, List.getElem?_cons_zero, List.getElem?_cons_succ] at k0 k1 k2
   have hown : ∀ j, Value.ownBlock (.slice A3 (k + 1) c3) = some j → j ≠ w2.heap.size := fun j hj' => by
    rcases hR.place j hj' with h1 | h1
    ·injection h1 with h1; omega
    ·omega
   have HOWN := Lib.hid hown
   have HST := Lib.hid gp
   have HS1 := Lib.hid (HSN.out (k + 1))
   have hkl : (k : Int) < (L : Int) := by omega
   have hb4r : b4 < wr.heap.size := by omega
   have hg2 : w2.heap.size < wr.heap.size := hK.lt
   clear gp hown g1 g2
   generalize S.ptAt b k = p at *
   have e1 : IntKind.i64.wrap (p.x + P.x) = p.x + P.x := IntWalk.i64_in _ (by omega)
   have e2 : IntKind.i64.wrap (p.y + P.y) = p.y + P.y := IntWalk.i64_in _ (by omega)
   have e3 : IntKind.i64.wrap (p.z + P.z) = p.z + P.z := IntWalk.i64_in _ (by omega)
   go_wp2
   refine wp_region_grow_tail 25 (by kernel_rfl) (by kernel_rfl) ?_
   simp only [List.take_succ_cons, List.take_zero, List.drop_succ_cons, List.drop_zero]
   repeat (go_big_quiet_step (fail))
   all_goals (refine wpQuiet_nil ?_; intro wg hbwg; obtain ⟨hcwg, hfwg⟩ := bcell hbwg)
   have hK2 : Blk ((((wg.setCell ⟨w2.heap.size, 0, none⟩ (.int .i64 (p.x + P.x))).setCell ⟨w2.heap.size, 1, none⟩ (.int .i64 (p.y + P.y))).setCell ⟨w2.heap.size, 2, none⟩ (.int .i64 (p.z + P.z))).alloc (.cells #[.int .i64 (p.x + P.x), .int .i64 (p.y + P.y), .int .i64 (p.z + P.z)] 76)) w2.heap.size 76 #[.int .i64 (p.x + P.x), .int .i64 (p.y + P.y), .int .i64 (p.z + P.z)] := by
    have h6 := (((((hK.via hbwg).set 0 (.int .i64 (p.x + P.x))).set 1 (.int .i64 (p.y + P.y))).set 2 (.int .i64 (p.z + P.z))).alloc (.cells #[.int .i64 (p.x + P.x), .int .i64 (p.y + P.y), .int .i64 (p.z + P.z)] 76))
    simp only [List.setIfInBounds_toArray, List.set_cons_zero, List.set_cons_succ] at h6
    exact h6
   have hg3 : w2.heap.size < wg.heap.size := lt_via hbwg hg2
   go_wp2_with (at_builtin; refine wpList_push rfl (.tmp 43) (.tmp 45) _ rfl elemPt (((((hR.via hbwg).set (p := ⟨w2.heap.size, 0, none⟩) HOWN.out _).set (p := ⟨w2.heap.size, 1, none⟩) HOWN.out _).set (p := ⟨w2.heap.size, 2, none⟩) HOWN.out _).alloc _) (((((Exc.via hbwg hX).set (p := ⟨w2.heap.size, 0, none⟩) (.inl (by simp)) _).set (p := ⟨w2.heap.size, 1, none⟩) (.inl (by simp)) _).set (p := ⟨w2.heap.size, 2, none⟩) (.inl (by simp)) _).alloc _) (by simp) hbw.size rfl wg.heap.size 1 1 [.int .i64 (p.x + P.x), .int .i64 (p.y + P.y), .int .i64 (p.z + P.z)] rfl rfl ?_ (by simp [Value.oneCell']) (by unfold maxLen; omega) (by omega) ?_; (· intro j u hu; have := (Cells.newRow (((wg.setCell ⟨w2.heap.size, 0, none⟩ (.int .i64 (p.x + P.x))).setCell ⟨w2.heap.size, 1, none⟩ (.int .i64 (p.y + P.y))).setCell ⟨w2.heap.size, 2, none⟩ (.int .i64 (p.z + P.z))) #[.int .i64 (p.x + P.x), .int .i64 (p.y + P.y), .int .i64 (p.z + P.z)] 76 (0, 0)).get (k := j) (v := u) hu; simpa using this); intro v' w' hR' hX' hO')
   obtain ⟨A5, c5, rfl, _, _, _⟩ := own_form hR'.own
   go_roundw
   case rel => exact ⟨k + 1, A5, c5, by omega, by go_num, rfl, by rw [HS1.out, HST.out, List.flatMap_append]; exact hR', hX', by rw [HST.out]; exact (hO' _ hK2.lt (fun h => HOWN.out _ h rfl)).trans hK2⟩
   case measure => simp [intOf]; omega
  ·have he : k = L := by omega
   have HE := Lib.hid he
   clear he
   go_wp2
   go_ret
   refine ⟨A3, c3, by rw [HE.out]; rfl, ?_, ?_⟩
   ·have := hR.own
    rw [HPA.out, HL.out]
    rwa [HE.out] at this
   ·exact hbw.trans (hX.below (by have := hbw2.size; omega) (by intro j hj; simp at hj; have := hbw2.size; omega))
def S.ptBox (p : Pt) : Bx := ⟨p, p⟩
theorem join_self (p : Pt) : S.join (S.ptBox p) (S.ptBox p) = S.ptBox p := by simp [S.join, S.ptBox]
theorem hull_one (p : Pt) : S.hull (S.ptBox p) [S.ptBox p] = S.ptBox p := join_self p
set_option maxRecDepth 100000 in
set_option maxHeartbeats 2000000 in
theorem rhull_any (A : Option Addr) (n c : Nat) (ps : List Pt) (p0 : Pt) (B : Nat) (w : World) (hn : ps.length = n) (hm : n ≤ 1000000) (hB : B ≤ w.heap.size) (hs : Cells w B A (ps.flatMap ptC)) (h0 : ps[0]? = some p0) :
 Calls Tryz.prog 127 #[.slice A n c] w fun e w' => e = .returned (boxV (S.hull (S.ptBox p0) (ps.map S.ptBox))) ∧ Below w.heap.size w w' := by
 have hn0 : 0 < n := by have := (List.getElem?_eq_some_iff.1 h0).1; omega
 have hni : (0 : Int) < (n : Int) := by omega
 have HN := Lib.hid hn
 have HS := Lib.hid hs
 have hh1 : (ps.map S.ptBox).take 1 = [S.ptBox p0] := by
  obtain ⟨x, l, rfl⟩ : ∃ x l, ps = x :: l := by cases ps with
   | nil => simp at h0
   | cons x l => exact ⟨x, l, rfl⟩
  simp at h0
  subst h0
  simp
 have HH1 := Lib.hid hh1
 obtain ⟨b, o, rfl, hb, _⟩ := hs.at_ (by rw [flat_len ptC 3 ptC_len]; omega)
 obtain ⟨c0, c1, c2⟩ := hs.pts h0
 simp only [Nat.zero_mul, Nat.add_zero] at c0 c1 c2
 have hbw : b < w.heap.size := by omega
 clear hn hs h0 hh1
 go_enter Tryz.func127, Tryz.ntmps127
 go_wp2
 go_region
 go_wp2
 have hW : Below w.heap.size w ((w.alloc (.cells #[.int .i64 0, .int .i64 0, .int .i64 0, .int .i64 0, .int .i64 0, .int .i64 0] 122)).alloc (.cells #[.int .i64 p0.x, .int .i64 p0.y, .int .i64 p0.z, .int .i64 p0.x, .int .i64 p0.y, .int .i64 p0.z] 122)).drew := bel
 have hK0 : Blk ((w.alloc (.cells #[.int .i64 0, .int .i64 0, .int .i64 0, .int .i64 0, .int .i64 0, .int .i64 0] 122)).alloc (.cells #[.int .i64 p0.x, .int .i64 p0.y, .int .i64 p0.z, .int .i64 p0.x, .int .i64 p0.y, .int .i64 p0.z] 122)).drew (w.heap.size + 1) 122 #[.int .i64 p0.x, .int .i64 p0.y, .int .i64 p0.z, .int .i64 p0.x, .int .i64 p0.y, .int .i64 p0.z] := by
  have h6 : Blk ((w.alloc (.cells #[.int .i64 0, .int .i64 0, .int .i64 0, .int .i64 0, .int .i64 0, .int .i64 0] 122)).alloc (.cells #[.int .i64 p0.x, .int .i64 p0.y, .int .i64 p0.z, .int .i64 p0.x, .int .i64 p0.y, .int .i64 p0.z] 122)) (w.heap.size + 1) 122 #[.int .i64 p0.x, .int .i64 p0.y, .int .i64 p0.z, .int .i64 p0.x, .int .i64 p0.y, .int .i64 p0.z] := by simpa using Blk.new (w.alloc (.cells #[.int .i64 0, .int .i64 0, .int .i64 0, .int .i64 0, .int .i64 0, .int .i64 0] 122)) 122 #[.int .i64 p0.x, .int .i64 p0.y, .int .i64 p0.z, .int .i64 p0.x, .int .i64 p0.y, .int .i64 p0.z]
  exact h6
 have hR0 : Blk ((w.alloc (.cells #[.int .i64 0, .int .i64 0, .int .i64 0, .int .i64 0, .int .i64 0, .int .i64 0] 122)).alloc (.cells #[.int .i64 p0.x, .int .i64 p0.y, .int .i64 p0.z, .int .i64 p0.x, .int .i64 p0.y, .int .i64 p0.z] 122)).drew w.heap.size 122 #[.int .i64 0, .int .i64 0, .int .i64 0, .int .i64 0, .int .i64 0, .int .i64 0] := (Blk.new w _ _).alloc _
 have hC1 := HS.out.below (hW.mono hB)
 have hzW : ((w.alloc (.cells #[.int .i64 0, .int .i64 0, .int .i64 0, .int .i64 0, .int .i64 0, .int .i64 0] 122)).alloc (.cells #[.int .i64 p0.x, .int .i64 p0.y, .int .i64 p0.z, .int .i64 p0.x, .int .i64 p0.y, .int .i64 p0.z] 122)).drew.heap.size = w.heap.size + 2 := by simp
 have HR0 := Lib.hid hR0
 clear c0 c1 c2 hR0
 generalize ((w.alloc (.cells #[.int .i64 0, .int .i64 0, .int .i64 0, .int .i64 0, .int .i64 0, .int .i64 0] 122)).alloc (.cells #[.int .i64 p0.x, .int .i64 p0.y, .int .i64 p0.z, .int .i64 p0.x, .int .i64 p0.y, .int .i64 p0.z] 122)).drew = W1 at *
 go_loopw [4] (fun i wr => ∃ k : Nat, 1 ≤ k ∧ k ≤ n ∧ i = .int .i64 k ∧ Blk wr (w.heap.size + 1) 122 #[.int .i64 (S.hull (S.ptBox p0) ((ps.map S.ptBox).take k)).lo.x, .int .i64 (S.hull (S.ptBox p0) ((ps.map S.ptBox).take k)).lo.y, .int .i64 (S.hull (S.ptBox p0) ((ps.map S.ptBox).take k)).lo.z, .int .i64 (S.hull (S.ptBox p0) ((ps.map S.ptBox).take k)).hi.x, .int .i64 (S.hull (S.ptBox p0) ((ps.map S.ptBox).take k)).hi.y, .int .i64 (S.hull (S.ptBox p0) ((ps.map S.ptBox).take k)).hi.z] ∧ Exc [w.heap.size + 1] W1 wr) (fun i _ => n - (intOf i).toNat)
 case atStart => exact ⟨1, Nat.le_refl _, by omega, rfl, by rw [HH1.out, hull_one]; exact hK0, Exc.refl _ _⟩
 case round =>
  obtain ⟨k, hk1, hk, rfl, hK, hX⟩ := hrel
  have hsz := hX.size
  have hgr := hK.lt
  have k0 := hK.cell 0
  have k1 := hK.cell 1
  have k2 := hK.cell 2
  have k3 := hK.cell 3
  have k4 := hK.cell 4
  have k5 := hK.cell 5
  have f0 := hK.frozen 0
  have f1 := hK.frozen 1
  have f2 := hK.frozen 2
  have f3 := hK.frozen 3
  have f4 := hK.frozen 4
  have f5 := hK.frozen 5
  simp only [List.getElem?_toArray, List.getElem?_cons_zero, List.getElem?_cons_succ] at k0 k1 k2 k3 k4 k5
  by_cases hlt : k < n
  ·have hkx : k < ps.length := by have := HN.out; omega
   obtain ⟨c0, c1, c2⟩ := (hC1.below (hX.below (by have := hW.size; omega) (by intro x hx; simp at hx; omega))).pts (List.getElem?_eq_getElem hkx)
   have HT := Lib.hid (show S.hull (S.ptBox p0) ((ps.map S.ptBox).take (k + 1)) = S.join (S.hull (S.ptBox p0) ((ps.map S.ptBox).take k)) (S.ptBox ps[k]) by rw [List.take_succ_eq_append_getElem (by simpa using hkx), hull_snoc, List.getElem_map])
   have hbr : b < wr.heap.size := by omega
   generalize (S.hull (S.ptBox p0) ((ps.map S.ptBox).take k)) = Hk at *
   generalize ps[k] = Y at *
   have hki : (k : Int) < (n : Int) := by omega
   go_wp2
   go_roundw
   case rel =>
    refine ⟨k + 1, by omega, by omega, by go_num, ?_, ?_⟩
    ·rw [HT.out]
     have h6 := ((((((hK.set 0 (.int .i64 (S.join Hk (S.ptBox Y)).lo.x)).set 1 (.int .i64 (S.join Hk (S.ptBox Y)).lo.y)).set 2 (.int .i64 (S.join Hk (S.ptBox Y)).lo.z)).set 3 (.int .i64 (S.join Hk (S.ptBox Y)).hi.x)).set 4 (.int .i64 (S.join Hk (S.ptBox Y)).hi.y)).set 5 (.int .i64 (S.join Hk (S.ptBox Y)).hi.z)).alloc (.cells #[.int .i64 Y.x, .int .i64 Y.y, .int .i64 Y.z] 76)
     simp only [List.setIfInBounds_toArray, List.set_cons_zero, List.set_cons_succ] at h6
     exact h6
    ·exact ((((((hX.set (.inl (by simp)) _).set (.inl (by simp)) _).set (.inl (by simp)) _).set (.inl (by simp)) _).set (.inl (by simp)) _).set (.inl (by simp)) _).alloc _
   case measure => simp [intOf]; omega
  ·have he : k = n := by omega
   subst he
   have ht : (ps.map S.ptBox).take k = ps.map S.ptBox := List.take_of_length_le (by have := HN.out; simp; omega)
   rw [ht] at k0 k1 k2 k3 k4 k5
   have hRr : Blk wr w.heap.size 122 #[.int .i64 0, .int .i64 0, .int .i64 0, .int .i64 0, .int .i64 0, .int .i64 0] := (hX.block w.heap.size (by omega) (by simp)).trans HR0.out
   have z0 := hRr.cell 0
   have z1 := hRr.cell 1
   have z2 := hRr.cell 2
   have z3 := hRr.cell 3
   have z4 := hRr.cell 4
   have z5 := hRr.cell 5
   have y0 := hRr.frozen 0
   have y1 := hRr.frozen 1
   have y2 := hRr.frozen 2
   have y3 := hRr.frozen 3
   have y4 := hRr.frozen 4
   have y5 := hRr.frozen 5
   simp only [List.getElem?_toArray, List.getElem?_cons_zero, List.getElem?_cons_succ] at z0 z1 z2 z3 z4 z5
   have hrl := hRr.lt
   have hbel : Below w.heap.size w wr := hW.trans (hX.below (by omega) (by intro x hx; simp at hx; omega))
   clear hRr
   generalize hH : S.hull (S.ptBox p0) (ps.map S.ptBox) = Hk at *
   have HH := Lib.hid hH
   clear hH
   go_wp2
   exact bodyPost_ret (v := boxV Hk) (by simp [results, Tryz.results127, go_sem, *]) rfl ⟨by rw [HH.out], ((((((hbel.setCell (Nat.le_refl _) _).setCell (Nat.le_refl _) _).setCell (Nat.le_refl _) _).setCell (Nat.le_refl _) _).setCell (Nat.le_refl _) _).setCell (Nat.le_refl _) _)⟩
def S.legB (p q : Pt) : Bx := S.join (S.ptBox p) (S.ptBox q)
def S.ptD (l : List Pt) (k : Nat) : Pt := (l[k]?).getD ⟨0, 0, 0⟩
def S.legsTo (l : List Pt) (m : Nat) : List Bx := (List.range m).map fun k => S.legB (S.ptD l k) (S.ptD l (k + 1))
def S.legsL (l : List Pt) : List Bx := S.legsTo l (l.length - 1)
theorem legsTo_len (l : List Pt) (m : Nat) : (S.legsTo l m).length = m := by simp [S.legsTo]
theorem legsTo_snoc (l : List Pt) (m : Nat) : S.legsTo l (m + 1) = S.legsTo l m ++ [S.legB (S.ptD l m) (S.ptD l (m + 1))] := by simp [S.legsTo, List.range_succ]
theorem hull_two (p q : Pt) : S.hull (S.ptBox p) [S.ptBox p, S.ptBox q] = S.legB p q := by
 show S.join (S.join (S.ptBox p) (S.ptBox p)) (S.ptBox q) = _
 rw [join_self]
 rfl
theorem mnmx_eq (p q : Int) : (if q < p then q else p) = (if p < q then q else p) ↔ p = q := by
 split <;> split <;> omega
theorem mnmx_lt (p q : Int) : (if q < p then q else p) < (if p < q then q else p) ↔ p ≠ q := by
 split <;> split <;> omega
theorem isMainB_iff {b : Bx} : S.isMainB b = true ↔ b.lo.x < b.hi.x ∧ b.lo.y = b.hi.y ∧ b.lo.z = b.hi.z := by simp [S.isMainB, and_assoc]
theorem isMain_iff2 {p q : Pt} : S.isMain p q = true ↔ p.x ≠ q.x ∧ p.y = q.y ∧ p.z = q.z := by simp [S.isMain, and_assoc]
theorem legB_main (p q : Pt) : S.isMainB (S.legB p q) = S.isMain p q := by
 rw [Bool.eq_iff_iff, isMainB_iff, isMain_iff2]
 show (if q.x < p.x then q.x else p.x) < (if p.x < q.x then q.x else p.x) ∧ (if q.y < p.y then q.y else p.y) = (if p.y < q.y then q.y else p.y) ∧ (if q.z < p.z then q.z else p.z) = (if p.z < q.z then q.z else p.z) ↔ _
 rw [mnmx_lt, mnmx_eq, mnmx_eq]
theorem legB_box {p q : Pt} (h : S.isMain p q = true) : S.legB p q = S.legBx p q := by
 simp only [S.isMain, Bool.and_eq_true, decide_eq_true_eq, bne_iff_ne] at h
 obtain ⟨⟨h1, h2⟩, h3⟩ := h
 obtain ⟨px, py, pz⟩ := p
 obtain ⟨qx, qy, qz⟩ := q
 simp only [] at h1 h2 h3
 subst h2 h3
 simp only [S.legB, S.join, S.ptBox, S.legBx, S.lmn, S.lmx, Bx.mk.injEq, Pt.mk.injEq]
 simp
 exact ⟨rfl, rfl⟩
theorem mainTo_leg {l : List Pt} : ∀ {m : Nat}, m < l.length → (S.mainTo l m = none → ∀ k, k < m → S.isMainB (S.legB (S.ptD l k) (S.ptD l (k + 1))) = false) ∧
 (∀ b, S.mainTo l m = some b → ∃ j, j < m ∧ S.legB (S.ptD l j) (S.ptD l (j + 1)) = b ∧ S.isMainB b = true ∧ ∀ k, k < j → S.isMainB (S.legB (S.ptD l k) (S.ptD l (k + 1))) = false) := by
 intro m
 induction m with
 | zero => intro _; exact ⟨fun _ k hk => absurd hk (by omega), fun b h => by simp [S.mainTo] at h⟩
 | succ m ih =>
  intro hm
  obtain ⟨ih1, ih2⟩ := ih (by omega)
  have hp : l[m]? = some (S.ptD l m) := by simp [S.ptD, List.getElem?_eq_getElem (show m < l.length by omega)]
  have hq : l[m + 1]? = some (S.ptD l (m + 1)) := by simp [S.ptD, List.getElem?_eq_getElem hm]
  cases hc : S.mainTo l m with
  | some b =>
   have hs := mainTo_stay hc (m + 1) (by omega)
   refine ⟨fun h => (by rw [hs] at h; cases h), fun b' h => ?_⟩
   rw [hs] at h
   injection h with h
   subst h
   obtain ⟨j, h1, h2⟩ := ih2 b hc
   exact ⟨j, by omega, h2⟩
  | none =>
   have hs := mainTo_succ hc hp hq
   have hno := ih1 hc
   by_cases hx : S.isMain (S.ptD l m) (S.ptD l (m + 1)) = true
   ·rw [if_pos hx] at hs
    refine ⟨fun h => (by rw [hs] at h; cases h), fun b h => ?_⟩
    rw [hs] at h
    injection h with h
    subst h
    exact ⟨m, by omega, legB_box hx, by rw [← legB_box hx, legB_main]; exact hx, hno⟩
   ·rw [if_neg hx] at hs
    refine ⟨fun _ k hk => ?_, fun b h => by rw [hs] at h; cases h⟩
    by_cases hkm : k = m
    ·subst hkm; rw [legB_main]; simpa using hx
    ·exact hno k (by omega)
theorem legsL_get {l : List Pt} {k : Nat} (hk : k < l.length - 1) : (S.legsL l)[k]? = some (S.legB (S.ptD l k) (S.ptD l (k + 1))) := by
 unfold S.legsL S.legsTo
 rw [List.getElem?_map, List.getElem?_range hk]
 rfl
theorem main_none {l : List Pt} (hl : 0 < l.length) (h : S.mainLeg l = none) : idxf (S.legsL l) S.isMainB = -1 := by
 have h1 := (mainTo_leg (l := l) (m := l.length - 1) (by omega)).1 h
 refine idxf_miss (fun j hj => ?_)
 have hj' : j < l.length - 1 := by simpa [S.legsL, legsTo_len] using hj
 have := legsL_get hj'
 rw [List.getElem?_eq_getElem hj] at this
 injection this with this
 rw [this]
 exact h1 j hj'
theorem main_some {l : List Pt} {b : Bx} (hl : 0 < l.length) (h : S.mainLeg l = some b) : ∃ j : Nat, idxf (S.legsL l) S.isMainB = (j : Int) ∧ (S.legsL l)[j]? = some b ∧ j < l.length - 1 := by
 obtain ⟨j, hj, h1, h2, h3⟩ := (mainTo_leg (l := l) (m := l.length - 1) (by omega)).2 b h
 have hg := legsL_get hj
 obtain ⟨hj', he⟩ := List.getElem?_eq_some_iff.1 hg
 refine ⟨j, idxf_hit hj' (by rw [he, h1]; exact h2) (fun k hk hkj => ?_), by rw [hg, h1], hj⟩
 have hk' : k < l.length - 1 := by omega
 have := legsL_get hk'
 rw [List.getElem?_eq_getElem hk] at this
 injection this with this
 rw [this]
 exact h3 k hkj
section
variable {P : Program} {ops : Array Oper} {md : Region.Mode} {w0 : World}
def Gw (w w' : World) : Prop := Below w.heap.size w w'
theorem Gw.refl (w : World) : Gw w w := Below.refl _ _
theorem Gw.trans {w w' w'' : World} (h : Gw w w') (h' : Gw w' w'') : Gw w w'' := ba_via h' h
end
end Go.Proofs.YtnmolefblaahmaaGreat
