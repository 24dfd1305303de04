/- Contracts: shape.Path. -/
import Derived.Test.YtnmolefblaahmaaGreatMI
set_option linter.unusedVariables false
set_option linter.unusedSimpArgs false
namespace Go.Proofs.YtnmolefblaahmaaGreat
open Go.RowKit
set_option maxHeartbeats 4000000 in
theorem path_yes (b : Bar) (A : Option Addr) (n c : Nat) (B : Nat) (w : World) (hB : B ≤ w.heap.size) (hA : BarAt w B A n b) (h : S.bar b = true) :
 Calls Tryz.prog 164 #[barV b A n c] w (GivesRow 76 3 ((S.legsOf b.code).length + 1) ((S.path b).flatMap ptC) 0 w) := by
 have HA := Lib.hid (hA.below ((Below.refl B w).alloc hB (.cells #[.string b.mark, .int .i64 b.size, .int .i64 b.count, .int .i64 b.code, .slice A n c] 133)))
 have hcl := hA.cells
 have HN := Lib.hid hA.len
 have HD := Lib.hid (bar_head h)
 have hok : S.dimsOk b.dims = true := by simp only [S.bar, Bool.and_eq_true] at h; exact h.2
 have HOK := Lib.hid hok
 have hmx := hA.max
 have hl6 := legs_len b.code
 have hjs : ∀ k (hk : k < (S.legsOf b.code).length), (S.legsOf b.code)[k].1 < b.dims.length := fun k hk => by have := legs_dim b.code hk; have := HD.out; omega
 have HBD := Lib.hid (ptAt_bd b hok hjs)
 have HJS := Lib.hid hjs
 clear hA hok hjs
 unfold barV
 go_enter Tryz.func164, Tryz.ntmps164
 go_wp2_with (first
  | (go_at_call 136; (with_reducible refine (valid_any b A n c B _ (by simp; omega) HA.out).mono ?_); rintro e w1 ⟨rfl, hbw1⟩; obtain ⟨hcw1, hfw1⟩ := bcell hbw1; have hzw1_0 : w.heap.size < w1.heap.size := lt_via hbw1 sz)
  | (go_at_call 221; (with_reducible refine (legs_any b.code _).mono ?_); rintro e w2 ⟨A2, rfl, hs, hb2, hnew⟩; obtain ⟨hcw2, hfw2⟩ := bcell hb2; have hz2 : w.heap.size < w2.heap.size := lt_via hb2 (by simp; omega)))
 have hbw : Below w.heap.size w w2 := bel
 have hcl2 := hcl.below (hbw.mono hB)
 have hat : Blk w2 w1.heap.size 76 #[.int .i64 0, .int .i64 0, .int .i64 0] := ((Blk.new w1 _ _).alloc _).via hb2
 have hz4 : w1.heap.size + 1 < w2.heap.size := lt_via hb2 (by simp)
 have hz5 : w.heap.size < w1.heap.size := by omega
 have hrow : Row w2 w2 (some (w1.heap.size + 1)) w.heap.size 76 3 (.slice (some ⟨w1.heap.size + 1, 0, none⟩) 1 1) 1 ((S.pathTo b 1).flatMap ptC) := by
  refine ⟨?_, fun k hk => .inl (by simpa [Value.ownBlock] using hk.symm)⟩
  have h1 := World.ownsRow_lit (base := w.heap.size) (e := 76) (size := 3) (w1.alloc (.cells #[.int .i64 0, .int .i64 0, .int .i64 0] 76)) #[.int .i64 0, .int .i64 0, .int .i64 0] 1 (by simp; omega) (by unfold maxLen; omega) rfl
  have h2 := (Row.via (W := w2) (g0 := some (w1.heap.size + 1)) ⟨h1, fun k hk => .inl (by simpa [Value.ownBlock] using hk.symm)⟩ hb2).own
  simpa [S.pathTo, S.ptAt, List.range_succ] using h2
 have HNEW := Lib.hid hnew
 have hx4 : w2.cell? ⟨w.heap.size, 4, none⟩ = some (.slice A n c) := by
  rw [hcw2 _ _ (by simp; omega), World.cell?_alloc_lt _ _ _ (by simp; omega), World.cell?_alloc_lt _ _ _ (by simp; omega), hcw1 _ _ (by simp)]
  simp
 clear hnew
 go_loopw [5, 18] (fun v i wr => ∃ (k : Nat) (A3 : Option Addr) (c3 : Nat), k ≤ (S.legsOf b.code).length ∧ i = .int .i64 k ∧ v = .slice A3 (k + 1) c3 ∧ Row w2 wr (some (w1.heap.size + 1)) w.heap.size 76 3 (.slice A3 (k + 1) c3) (k + 1) ((S.pathTo b (k + 1)).flatMap ptC) ∧ Exc [w1.heap.size, w1.heap.size + 1] w2 wr ∧
  Blk wr w1.heap.size 76 #[.int .i64 (S.ptAt b k).x, .int .i64 (S.ptAt b k).y, .int .i64 (S.ptAt b k).z]) (fun _ i _ => (S.legsOf b.code).length - (intOf i).toNat)
 case atStart => exact ⟨0, _, 1, Nat.zero_le _, rfl, rfl, hrow, Exc.refl _ _, hat⟩
 case round =>
  obtain ⟨k, A3, c3, hk, rfl, rfl, hR, hX, hK⟩ := hrel
  clear hrow hat
  have hb1 := HBD.out k
  unfold Within at hb1
  by_cases hlt : k < (S.legsOf b.code).length
  ·have hlen : 0 < ((S.legsOf b.code).flatMap legC).length := by rw [flat_len legC 2 legC_len]; omega
   obtain ⟨b4, o4, rfl, hbl, _⟩ := hs.at_ hlen
   have hn4 : w1.heap.size + 2 ≤ b4 := by have := HNEW.out _ rfl; simpa using this
   have hn4' : b4 ∉ [w1.heap.size, w1.heap.size + 1] := by simp; omega
   have c0 := (hX.cell (p := ⟨b4, o4 + k * 2, none⟩) hbl hn4').trans (hs.row0 legC_len hlt rfl)
   have c1 := (hX.cell (p := ⟨b4, o4 + k * 2 + 1, none⟩) hbl hn4').trans (hs.rowj legC_len hlt 1 rfl)
   have hj := HJS.out k hlt
   have hjn : (S.legsOf b.code)[k].1 < n := by have := HN.out; omega
   have hcl3 := hcl2.below (hX.below (B := B) (by have := hbw.size; omega) (by intro j hj; simp at hj; omega))
   obtain ⟨bd, od, rfl, hbd, hcd⟩ := hcl3.at_ (by simp; omega)
   have hck := hcd _ _ (i64s_get hj)
   have hq := dim_bd HOK.out hj
   have hstep := ptAt_succ b hlt hj
   have hway := legs_way b.code hlt
   have hbx := (hX.cell (p := ⟨w.heap.size, 4, none⟩) hz2 (by simp; omega)).trans hx4
   have hsz := hX.size
   have hbd2 : bd < wr.heap.size := by have := hbw.size; omega
   have hbl2 : b4 < wr.heap.size := by omega
   have hz3 : w.heap.size < wr.heap.size := by omega
   have hz6 : w1.heap.size < wr.heap.size := by omega
   have k0 := hK.cell 0
   have k1 := hK.cell 1
   have k2 := hK.cell 2
   have kf0 := hK.frozen 0
   have kf1 := hK.frozen 1
   have kf2 := hK.frozen 2
   simp only [List.getElem?_toArray, List.getElem?_cons_zero, List.getElem?_cons_succ] at k0 k1 k2
   have hsn := pathTo_snoc b (k + 1)
   have HSN := Lib.hid hsn
   have hown : ∀ j, Value.ownBlock (.slice A3 (k + 1) c3) = some j → j ≠ w1.heap.size := fun j hj' => by
    rcases hR.place j hj' with h1 | h1
    ·injection h1 with h1; omega
    ·omega
   have HOWN := Lib.hid hown
   generalize hpt : S.ptAt b k = p at *
   generalize hqq : b.dims[(S.legsOf b.code)[k].1] = q at *
   clear hcd hsn hown hpt hqq
   rcases hway with hw | hw | hw | hw | hw
   ·rw [hw] at c1 hstep
    have HST := Lib.hid (hstep.trans (show S.step p 120 q = ⟨p.x + q, p.y, p.z⟩ by simp [S.step]))
    clear hstep hw
    have hK2 : Blk (((wr.setCell ⟨w1.heap.size, 0, none⟩ (.int .i64 (p.x + q))).alloc (.cells #[.int .i64 (S.legsOf b.code)[k].1, .int .u8 120] 283)).alloc (.cells #[.int .i64 (p.x + q), .int .i64 (p.y), .int .i64 (p.z)] 76)) w1.heap.size 76 #[.int .i64 (p.x + q), .int .i64 (p.y), .int .i64 (p.z)] := by simpa using ((hK.set 0 (.int .i64 (p.x + q))).alloc (.cells #[.int .i64 (S.legsOf b.code)[k].1, .int .u8 120] 283)).alloc (.cells #[.int .i64 (p.x + q), .int .i64 (p.y), .int .i64 (p.z)] 76)
    go_wp2_with (at_builtin; refine wpList_push rfl (.tmp 65) (.tmp 67) _ rfl elemPt (((hR.set (p := ⟨w1.heap.size, 0, none⟩) HOWN.out _).alloc _).alloc _) (((hX.set (p := ⟨w1.heap.size, 0, none⟩) (.inl (by simp)) _).alloc _).alloc _) (by simp) hbw.size rfl (wr.heap.size + 1) 1 1 [.int .i64 (p.x + q), .int .i64 (p.y), .int .i64 (p.z)] rfl rfl ?_ (by simp [Value.oneCell']) (by unfold maxLen; omega) (by omega) ?_; (· intro j u hu; have := (Cells.newRow ((wr.setCell ⟨w1.heap.size, 0, none⟩ (.int .i64 (p.x + q))).alloc (.cells #[.int .i64 (S.legsOf b.code)[k].1, .int .u8 120] 283)) #[.int .i64 (p.x + q), .int .i64 (p.y), .int .i64 (p.z)] 76 (0, 0)).get (k := j) (v := u) hu; simpa using this); intro v' w' hR' hX' hO')
    obtain ⟨A5, c5, rfl, _, _, _⟩ := own_form hR'.own
    go_roundw
    case rel => exact ⟨k + 1, A5, c5, by omega, by go_num, rfl, by rw [HSN.out, HST.out, List.flatMap_append]; exact hR', hX', by rw [HST.out]; exact (hO' _ hK2.lt (fun h => HOWN.out _ h rfl)).trans hK2⟩
    case measure => simp [intOf]; omega
   ·rw [hw] at c1 hstep
    have HST := Lib.hid (hstep.trans (show S.step p 88 q = ⟨p.x - q, p.y, p.z⟩ by simp [S.step]))
    clear hstep hw
    have hK2 : Blk (((wr.setCell ⟨w1.heap.size, 0, none⟩ (.int .i64 (p.x - q))).alloc (.cells #[.int .i64 (S.legsOf b.code)[k].1, .int .u8 88] 283)).alloc (.cells #[.int .i64 (p.x - q), .int .i64 (p.y), .int .i64 (p.z)] 76)) w1.heap.size 76 #[.int .i64 (p.x - q), .int .i64 (p.y), .int .i64 (p.z)] := by simpa using ((hK.set 0 (.int .i64 (p.x - q))).alloc (.cells #[.int .i64 (S.legsOf b.code)[k].1, .int .u8 88] 283)).alloc (.cells #[.int .i64 (p.x - q), .int .i64 (p.y), .int .i64 (p.z)] 76)
    go_wp2_with (at_builtin; refine wpList_push rfl (.tmp 65) (.tmp 67) _ rfl elemPt (((hR.set (p := ⟨w1.heap.size, 0, none⟩) HOWN.out _).alloc _).alloc _) (((hX.set (p := ⟨w1.heap.size, 0, none⟩) (.inl (by simp)) _).alloc _).alloc _) (by simp) hbw.size rfl (wr.heap.size + 1) 1 1 [.int .i64 (p.x - q), .int .i64 (p.y), .int .i64 (p.z)] rfl rfl ?_ (by simp [Value.oneCell']) (by unfold maxLen; omega) (by omega) ?_; (· intro j u hu; have := (Cells.newRow ((wr.setCell ⟨w1.heap.size, 0, none⟩ (.int .i64 (p.x - q))).alloc (.cells #[.int .i64 (S.legsOf b.code)[k].1, .int .u8 88] 283)) #[.int .i64 (p.x - q), .int .i64 (p.y), .int .i64 (p.z)] 76 (0, 0)).get (k := j) (v := u) hu; simpa using this); intro v' w' hR' hX' hO')
    obtain ⟨A5, c5, rfl, _, _, _⟩ := own_form hR'.own
    go_roundw
    case rel => exact ⟨k + 1, A5, c5, by omega, by go_num, rfl, by rw [HSN.out, HST.out, List.flatMap_append]; exact hR', hX', by rw [HST.out]; exact (hO' _ hK2.lt (fun h => HOWN.out _ h rfl)).trans hK2⟩
    case measure => simp [intOf]; omega
   ·rw [hw] at c1 hstep
    have HST := Lib.hid (hstep.trans (show S.step p 121 q = ⟨p.x, p.y + q, p.z⟩ by simp [S.step]))
    clear hstep hw
    have hK2 : Blk (((wr.setCell ⟨w1.heap.size, 1, none⟩ (.int .i64 (p.y + q))).alloc (.cells #[.int .i64 (S.legsOf b.code)[k].1, .int .u8 121] 283)).alloc (.cells #[.int .i64 (p.x), .int .i64 (p.y + q), .int .i64 (p.z)] 76)) w1.heap.size 76 #[.int .i64 (p.x), .int .i64 (p.y + q), .int .i64 (p.z)] := by simpa using ((hK.set 1 (.int .i64 (p.y + q))).alloc (.cells #[.int .i64 (S.legsOf b.code)[k].1, .int .u8 121] 283)).alloc (.cells #[.int .i64 (p.x), .int .i64 (p.y + q), .int .i64 (p.z)] 76)
    go_wp2_with (at_builtin; refine wpList_push rfl (.tmp 65) (.tmp 67) _ rfl elemPt (((hR.set (p := ⟨w1.heap.size, 1, none⟩) HOWN.out _).alloc _).alloc _) (((hX.set (p := ⟨w1.heap.size, 1, none⟩) (.inl (by simp)) _).alloc _).alloc _) (by simp) hbw.size rfl (wr.heap.size + 1) 1 1 [.int .i64 (p.x), .int .i64 (p.y + q), .int .i64 (p.z)] rfl rfl ?_ (by simp [Value.oneCell']) (by unfold maxLen; omega) (by omega) ?_; (· intro j u hu; have := (Cells.newRow ((wr.setCell ⟨w1.heap.size, 1, none⟩ (.int .i64 (p.y + q))).alloc (.cells #[.int .i64 (S.legsOf b.code)[k].1, .int .u8 121] 283)) #[.int .i64 (p.x), .int .i64 (p.y + q), .int .i64 (p.z)] 76 (0, 0)).get (k := j) (v := u) hu; simpa using this); intro v' w' hR' hX' hO')
    obtain ⟨A5, c5, rfl, _, _, _⟩ := own_form hR'.own
    go_roundw
    case rel => exact ⟨k + 1, A5, c5, by omega, by go_num, rfl, by rw [HSN.out, HST.out, List.flatMap_append]; exact hR', hX', by rw [HST.out]; exact (hO' _ hK2.lt (fun h => HOWN.out _ h rfl)).trans hK2⟩
    case measure => simp [intOf]; omega
   ·rw [hw] at c1 hstep
    have HST := Lib.hid (hstep.trans (show S.step p 89 q = ⟨p.x, p.y - q, p.z⟩ by simp [S.step]))
    clear hstep hw
    have hK2 : Blk (((wr.setCell ⟨w1.heap.size, 1, none⟩ (.int .i64 (p.y - q))).alloc (.cells #[.int .i64 (S.legsOf b.code)[k].1, .int .u8 89] 283)).alloc (.cells #[.int .i64 (p.x), .int .i64 (p.y - q), .int .i64 (p.z)] 76)) w1.heap.size 76 #[.int .i64 (p.x), .int .i64 (p.y - q), .int .i64 (p.z)] := by simpa using ((hK.set 1 (.int .i64 (p.y - q))).alloc (.cells #[.int .i64 (S.legsOf b.code)[k].1, .int .u8 89] 283)).alloc (.cells #[.int .i64 (p.x), .int .i64 (p.y - q), .int .i64 (p.z)] 76)
    go_wp2_with (at_builtin; refine wpList_push rfl (.tmp 65) (.tmp 67) _ rfl elemPt (((hR.set (p := ⟨w1.heap.size, 1, none⟩) HOWN.out _).alloc _).alloc _) (((hX.set (p := ⟨w1.heap.size, 1, none⟩) (.inl (by simp)) _).alloc _).alloc _) (by simp) hbw.size rfl (wr.heap.size + 1) 1 1 [.int .i64 (p.x), .int .i64 (p.y - q), .int .i64 (p.z)] rfl rfl ?_ (by simp [Value.oneCell']) (by unfold maxLen; omega) (by omega) ?_; (· intro j u hu; have := (Cells.newRow ((wr.setCell ⟨w1.heap.size, 1, none⟩ (.int .i64 (p.y - q))).alloc (.cells #[.int .i64 (S.legsOf b.code)[k].1, .int .u8 89] 283)) #[.int .i64 (p.x), .int .i64 (p.y - q), .int .i64 (p.z)] 76 (0, 0)).get (k := j) (v := u) hu; simpa using this); intro v' w' hR' hX' hO')
    obtain ⟨A5, c5, rfl, _, _, _⟩ := own_form hR'.own
    go_roundw
    case rel => exact ⟨k + 1, A5, c5, by omega, by go_num, rfl, by rw [HSN.out, HST.out, List.flatMap_append]; exact hR', hX', by rw [HST.out]; exact (hO' _ hK2.lt (fun h => HOWN.out _ h rfl)).trans hK2⟩
    case measure => simp [intOf]; omega
   ·rw [hw] at c1 hstep
    have HST := Lib.hid (hstep.trans (show S.step p 122 q = ⟨p.x, p.y, p.z + q⟩ by simp [S.step]))
    clear hstep hw
    have hK2 : Blk (((wr.setCell ⟨w1.heap.size, 2, none⟩ (.int .i64 (p.z + q))).alloc (.cells #[.int .i64 (S.legsOf b.code)[k].1, .int .u8 122] 283)).alloc (.cells #[.int .i64 (p.x), .int .i64 (p.y), .int .i64 (p.z + q)] 76)) w1.heap.size 76 #[.int .i64 (p.x), .int .i64 (p.y), .int .i64 (p.z + q)] := by simpa using ((hK.set 2 (.int .i64 (p.z + q))).alloc (.cells #[.int .i64 (S.legsOf b.code)[k].1, .int .u8 122] 283)).alloc (.cells #[.int .i64 (p.x), .int .i64 (p.y), .int .i64 (p.z + q)] 76)
    go_wp2_with (at_builtin; refine wpList_push rfl (.tmp 65) (.tmp 67) _ rfl elemPt (((hR.set (p := ⟨w1.heap.size, 2, none⟩) HOWN.out _).alloc _).alloc _) (((hX.set (p := ⟨w1.heap.size, 2, none⟩) (.inl (by simp)) _).alloc _).alloc _) (by simp) hbw.size rfl (wr.heap.size + 1) 1 1 [.int .i64 (p.x), .int .i64 (p.y), .int .i64 (p.z + q)] rfl rfl ?_ (by simp [Value.oneCell']) (by unfold maxLen; omega) (by omega) ?_; (· intro j u hu; have := (Cells.newRow ((wr.setCell ⟨w1.heap.size, 2, none⟩ (.int .i64 (p.z + q))).alloc (.cells #[.int .i64 (S.legsOf b.code)[k].1, .int .u8 122] 283)) #[.int .i64 (p.x), .int .i64 (p.y), .int .i64 (p.z + q)] 76 (0, 0)).get (k := j) (v := u) hu; simpa using this); intro v' w' hR' hX' hO')
    obtain ⟨A5, c5, rfl, _, _, _⟩ := own_form hR'.own
    go_roundw
    case rel => exact ⟨k + 1, A5, c5, by omega, by go_num, rfl, by rw [HSN.out, HST.out, List.flatMap_append]; exact hR', hX', by rw [HST.out]; exact (hO' _ hK2.lt (fun h => HOWN.out _ h rfl)).trans hK2⟩
    case measure => simp [intOf]; omega
  ·have he : k = (S.legsOf b.code).length := by omega
   have HE := Lib.hid he
   clear he
   go_wp2
   go_ret2
   refine ⟨A3, c3, by rw [HE.out]; rfl, ?_, ?_⟩
   ·have := hR.own
    rwa [HE.out] at this
   ·exact hbw.trans (hX.below (by have := hbw.size; omega) (by intro j hj; simp at hj; omega))
end Go.Proofs.YtnmolefblaahmaaGreat
