/- Contracts: shape.Path. Contracts: frame.near, frame.Path. Spans; contracts: lap.place, up, Stagger. Lists of bars in memory; contracts: slices.IndexFunc over bars, schedule.index, laid.find. -/
import Derived.Test.YtffkmgjmlahfpaaGreatQD
import Derived.Test.YtffkmgjmlahfpaaGreatQF
import Derived.Test.YtffkmgjmlahfpaaGreatQC
import Derived.Test.YtffkmgjmlahfpaaGreatQA
set_option linter.unusedVariables false
set_option linter.unusedSimpArgs false
namespace Go.Proofs.YtffkmgjmlahfpaaGreat
open Go.RowKit
set_option maxHeartbeats 4000000 in
theorem path_yes (b : Bar) (A : Option Addr) (n c : Nat) (B : Nat) (w : World) (hB : B ≤ w.heap.size) (hA : BarAt w B A n b) (h : S.bar b = true) :
    Calls Tryz.prog 189 #[barV b A n c] w (GivesRow 87 3 ((S.legsOf b.code).length + 1) ((S.path b).flatMap ptC) 0 w) := by
  have HA := Lib.hid (hA.below ((Below.refl B w).alloc hB (.cells #[.string b.mark, .int .i64 b.size, .int .i64 b.count, .int .i64 b.code, .slice A n c] 158)))
  have hcl := hA.cells
  have HN := Lib.hid hA.len
  have HD := Lib.hid (bar_head h)
  have hok : S.dimsOk b.dims = true := by simp only [S.bar, Bool.and_eq_true] at h; exact h.2
  have HOK := Lib.hid hok
  have hmx := hA.max
  have hl6 := legs_len b.code
  have hjs : ∀ k (hk : k < (S.legsOf b.code).length), (S.legsOf b.code)[k].1 < b.dims.length := fun k hk => by have := legs_dim b.code hk; have := HD.out; omega
  have HBD := Lib.hid (ptAt_bd b hok hjs)
  have HJS := Lib.hid hjs
  clear hA hok hjs
  unfold barV
  go_enter Tryz.func189, Tryz.ntmps189
  go_wp2_with (first
    | (go_at_call 215; (with_reducible refine (valid_any b A n c B _ (by simp; omega) HA.out).mono ?_); rintro e w1 ⟨rfl, hbw1⟩; obtain ⟨hcw1, hfw1⟩ := bcell hbw1; have hzw1_0 : w.heap.size < w1.heap.size := lt_via hbw1 (by first | omega | (simp; done) | (simp; omega)))
    | (go_at_call 248; (with_reducible refine (legs_any b.code _).mono ?_); rintro e w2 ⟨A2, rfl, hs, hb2, hnew⟩; obtain ⟨hcw2, hfw2⟩ := bcell hb2; have hz2 : w.heap.size < w2.heap.size := lt_via hb2 (by simp; omega)))
  have hbw : Below w.heap.size w w2 := (by repeat (first | exact Below.refl _ _ | assumption | refine ba_alloc ?_ _ | refine ba_drew ?_ | refine ba_drewN ?_ _ | refine ba_via (by assumption) ?_ | (refine ba_set ?_ ?_ _; rotate_left; (first | omega | (simp; omega) | simp))))
  have hcl2 := hcl.below (hbw.mono hB)
  have hat : Blk w2 w1.heap.size 87 #[.int .i64 0, .int .i64 0, .int .i64 0] := ((Blk.new w1 _ _).alloc _).via hb2
  have hz4 : w1.heap.size + 1 < w2.heap.size := lt_via hb2 (by simp)
  have hz5 : w.heap.size < w1.heap.size := by omega
  have hrow : Row w2 w2 (some (w1.heap.size + 1)) w.heap.size 87 3 (.slice (some ⟨w1.heap.size + 1, 0, none⟩) 1 1) 1 ((S.pathTo b 1).flatMap ptC) := by
    refine ⟨?_, fun k hk => .inl (by simpa [Value.ownBlock] using hk.symm)⟩
    have h1 := World.ownsRow_lit (base := w.heap.size) (e := 87) (size := 3) (w1.alloc (.cells #[.int .i64 0, .int .i64 0, .int .i64 0] 87)) #[.int .i64 0, .int .i64 0, .int .i64 0] 1 (by simp; omega) (by unfold maxLen; omega) rfl
    have h2 := (Row.via (W := w2) (g0 := some (w1.heap.size + 1)) ⟨h1, fun k hk => .inl (by simpa [Value.ownBlock] using hk.symm)⟩ hb2).own
    simpa [S.pathTo, S.ptAt, List.range_succ] using h2
  have HNEW := Lib.hid hnew
  have hx4 : w2.cell? ⟨w.heap.size, 4, none⟩ = some (.slice A n c) := by
    rw [hcw2 _ _ (by simp; omega), World.cell?_alloc_lt _ _ _ (by simp; omega), World.cell?_alloc_lt _ _ _ (by simp; omega), hcw1 _ _ (by simp)]
    simp
  clear hnew
  go_loopw [5, 18] (fun v i wr => ∃ (k : Nat) (A3 : Option Addr) (c3 : Nat), k ≤ (S.legsOf b.code).length ∧ i = .int .i64 k ∧ v = .slice A3 (k + 1) c3 ∧ Row w2 wr (some (w1.heap.size + 1)) w.heap.size 87 3 (.slice A3 (k + 1) c3) (k + 1) ((S.pathTo b (k + 1)).flatMap ptC) ∧ Exc [w1.heap.size, w1.heap.size + 1] w2 wr ∧
      Blk wr w1.heap.size 87 #[.int .i64 (S.ptAt b k).x, .int .i64 (S.ptAt b k).y, .int .i64 (S.ptAt b k).z]) (fun _ i _ => (S.legsOf b.code).length - (intOf i).toNat)
  case atStart => exact ⟨0, _, 1, Nat.zero_le _, rfl, rfl, hrow, Exc.refl _ _, hat⟩
  case round =>
    obtain ⟨k, A3, c3, hk, rfl, rfl, hR, hX, hK⟩ := hrel
    clear hrow hat
    have hb1 := HBD.out k
    unfold Within at hb1
    by_cases hlt : k < (S.legsOf b.code).length
    · have hlen : 0 < ((S.legsOf b.code).flatMap legC).length := by rw [flat_len legC 2 legC_len]; omega
      obtain ⟨b4, o4, rfl, hbl, _⟩ := hs.at_ hlen
      have hn4 : w1.heap.size + 2 ≤ b4 := by have := HNEW.out _ rfl; simpa using this
      have hn4' : b4 ∉ [w1.heap.size, w1.heap.size + 1] := by simp; omega
      have c0 := (hX.cell (p := ⟨b4, o4 + k * 2, none⟩) hbl hn4').trans (hs.row0 legC_len hlt rfl)
      have c1 := (hX.cell (p := ⟨b4, o4 + k * 2 + 1, none⟩) hbl hn4').trans (hs.rowj legC_len hlt 1 rfl)
      have hj := HJS.out k hlt
      have hjn : (S.legsOf b.code)[k].1 < n := by have := HN.out; omega
      have hcl3 := hcl2.below (hX.below (B := B) (by have := hbw.size; omega) (by intro j hj; simp at hj; omega))
      obtain ⟨bd, od, rfl, hbd, hcd⟩ := hcl3.at_ (by simp; omega)
      have hck := hcd _ _ (i64s_get hj)
      have hq := dim_bd HOK.out hj
      have hstep := ptAt_succ b hlt hj
      have hway := legs_way b.code hlt
      have hbx := (hX.cell (p := ⟨w.heap.size, 4, none⟩) hz2 (by simp; omega)).trans hx4
      have hsz := hX.size
      have hbd2 : bd < wr.heap.size := by have := hbw.size; omega
      have hbl2 : b4 < wr.heap.size := by omega
      have hz3 : w.heap.size < wr.heap.size := by omega
      have hz6 : w1.heap.size < wr.heap.size := by omega
      have k0 := hK.cell 0
      have k1 := hK.cell 1
      have k2 := hK.cell 2
      have kf0 := hK.frozen 0
      have kf1 := hK.frozen 1
      have kf2 := hK.frozen 2
      simp only [List.getElem?_toArray, List.getElem?_cons_zero, List.getElem?_cons_succ] at k0 k1 k2
      have hsn := pathTo_snoc b (k + 1)
      have HSN := Lib.hid hsn
      have hown : ∀ j, Value.ownBlock (.slice A3 (k + 1) c3) = some j → j ≠ w1.heap.size := fun j hj' => by
        rcases hR.place j hj' with h1 | h1
        · injection h1 with h1; omega
        · omega
      have HOWN := Lib.hid hown
      generalize hpt : S.ptAt b k = p at *
      generalize hqq : b.dims[(S.legsOf b.code)[k].1] = q at *
      clear hcd hsn hown hpt hqq
      rcases hway with hw | hw | hw | hw | hw
      · rw [hw] at c1 hstep
        have HST := Lib.hid (hstep.trans (show S.step p 120 q = ⟨p.x + q, p.y, p.z⟩ by simp [S.step]))
        clear hstep hw
        have hK2 : Blk (((wr.setCell ⟨w1.heap.size, 0, none⟩ (.int .i64 (p.x + q))).alloc (.cells #[.int .i64 (S.legsOf b.code)[k].1, .int .u8 120] 287)).alloc (.cells #[.int .i64 (p.x + q), .int .i64 (p.y), .int .i64 (p.z)] 87)) w1.heap.size 87 #[.int .i64 (p.x + q), .int .i64 (p.y), .int .i64 (p.z)] := by simpa using ((hK.set 0 (.int .i64 (p.x + q))).alloc (.cells #[.int .i64 (S.legsOf b.code)[k].1, .int .u8 120] 287)).alloc (.cells #[.int .i64 (p.x + q), .int .i64 (p.y), .int .i64 (p.z)] 87)
        go_wp2_with (at_builtin; refine wpList_push rfl (.tmp 65) (.tmp 67) _ rfl elemPt (((hR.set (p := ⟨w1.heap.size, 0, none⟩) HOWN.out _).alloc _).alloc _) (((hX.set (p := ⟨w1.heap.size, 0, none⟩) (.inl (by simp)) _).alloc _).alloc _) (by simp) hbw.size rfl (wr.heap.size + 1) 1 1 [.int .i64 (p.x + q), .int .i64 (p.y), .int .i64 (p.z)] rfl rfl ?_ (by simp [Value.oneCell']) (by unfold maxLen; omega) (by omega) ?_; (· intro j u hu; have := (Cells.newRow ((wr.setCell ⟨w1.heap.size, 0, none⟩ (.int .i64 (p.x + q))).alloc (.cells #[.int .i64 (S.legsOf b.code)[k].1, .int .u8 120] 287)) #[.int .i64 (p.x + q), .int .i64 (p.y), .int .i64 (p.z)] 87 (0, 0)).get (k := j) (v := u) hu; simpa using this); intro v' w' hR' hX' hO')
        obtain ⟨A5, c5, rfl, _, _, _⟩ := own_form hR'.own
        go_roundw
        case rel => exact ⟨k + 1, A5, c5, by omega, by go_num, rfl, by rw [HSN.out, HST.out, List.flatMap_append]; exact hR', hX', by rw [HST.out]; exact (hO' _ hK2.lt (fun h => HOWN.out _ h rfl)).trans hK2⟩
        case measure => simp [intOf]; omega
      · rw [hw] at c1 hstep
        have HST := Lib.hid (hstep.trans (show S.step p 88 q = ⟨p.x - q, p.y, p.z⟩ by simp [S.step]))
        clear hstep hw
        have hK2 : Blk (((wr.setCell ⟨w1.heap.size, 0, none⟩ (.int .i64 (p.x - q))).alloc (.cells #[.int .i64 (S.legsOf b.code)[k].1, .int .u8 88] 287)).alloc (.cells #[.int .i64 (p.x - q), .int .i64 (p.y), .int .i64 (p.z)] 87)) w1.heap.size 87 #[.int .i64 (p.x - q), .int .i64 (p.y), .int .i64 (p.z)] := by simpa using ((hK.set 0 (.int .i64 (p.x - q))).alloc (.cells #[.int .i64 (S.legsOf b.code)[k].1, .int .u8 88] 287)).alloc (.cells #[.int .i64 (p.x - q), .int .i64 (p.y), .int .i64 (p.z)] 87)
        go_wp2_with (at_builtin; refine wpList_push rfl (.tmp 65) (.tmp 67) _ rfl elemPt (((hR.set (p := ⟨w1.heap.size, 0, none⟩) HOWN.out _).alloc _).alloc _) (((hX.set (p := ⟨w1.heap.size, 0, none⟩) (.inl (by simp)) _).alloc _).alloc _) (by simp) hbw.size rfl (wr.heap.size + 1) 1 1 [.int .i64 (p.x - q), .int .i64 (p.y), .int .i64 (p.z)] rfl rfl ?_ (by simp [Value.oneCell']) (by unfold maxLen; omega) (by omega) ?_; (· intro j u hu; have := (Cells.newRow ((wr.setCell ⟨w1.heap.size, 0, none⟩ (.int .i64 (p.x - q))).alloc (.cells #[.int .i64 (S.legsOf b.code)[k].1, .int .u8 88] 287)) #[.int .i64 (p.x - q), .int .i64 (p.y), .int .i64 (p.z)] 87 (0, 0)).get (k := j) (v := u) hu; simpa using this); intro v' w' hR' hX' hO')
        obtain ⟨A5, c5, rfl, _, _, _⟩ := own_form hR'.own
        go_roundw
        case rel => exact ⟨k + 1, A5, c5, by omega, by go_num, rfl, by rw [HSN.out, HST.out, List.flatMap_append]; exact hR', hX', by rw [HST.out]; exact (hO' _ hK2.lt (fun h => HOWN.out _ h rfl)).trans hK2⟩
        case measure => simp [intOf]; omega
      · rw [hw] at c1 hstep
        have HST := Lib.hid (hstep.trans (show S.step p 121 q = ⟨p.x, p.y + q, p.z⟩ by simp [S.step]))
        clear hstep hw
        have hK2 : Blk (((wr.setCell ⟨w1.heap.size, 1, none⟩ (.int .i64 (p.y + q))).alloc (.cells #[.int .i64 (S.legsOf b.code)[k].1, .int .u8 121] 287)).alloc (.cells #[.int .i64 (p.x), .int .i64 (p.y + q), .int .i64 (p.z)] 87)) w1.heap.size 87 #[.int .i64 (p.x), .int .i64 (p.y + q), .int .i64 (p.z)] := by simpa using ((hK.set 1 (.int .i64 (p.y + q))).alloc (.cells #[.int .i64 (S.legsOf b.code)[k].1, .int .u8 121] 287)).alloc (.cells #[.int .i64 (p.x), .int .i64 (p.y + q), .int .i64 (p.z)] 87)
        go_wp2_with (at_builtin; refine wpList_push rfl (.tmp 65) (.tmp 67) _ rfl elemPt (((hR.set (p := ⟨w1.heap.size, 1, none⟩) HOWN.out _).alloc _).alloc _) (((hX.set (p := ⟨w1.heap.size, 1, none⟩) (.inl (by simp)) _).alloc _).alloc _) (by simp) hbw.size rfl (wr.heap.size + 1) 1 1 [.int .i64 (p.x), .int .i64 (p.y + q), .int .i64 (p.z)] rfl rfl ?_ (by simp [Value.oneCell']) (by unfold maxLen; omega) (by omega) ?_; (· intro j u hu; have := (Cells.newRow ((wr.setCell ⟨w1.heap.size, 1, none⟩ (.int .i64 (p.y + q))).alloc (.cells #[.int .i64 (S.legsOf b.code)[k].1, .int .u8 121] 287)) #[.int .i64 (p.x), .int .i64 (p.y + q), .int .i64 (p.z)] 87 (0, 0)).get (k := j) (v := u) hu; simpa using this); intro v' w' hR' hX' hO')
        obtain ⟨A5, c5, rfl, _, _, _⟩ := own_form hR'.own
        go_roundw
        case rel => exact ⟨k + 1, A5, c5, by omega, by go_num, rfl, by rw [HSN.out, HST.out, List.flatMap_append]; exact hR', hX', by rw [HST.out]; exact (hO' _ hK2.lt (fun h => HOWN.out _ h rfl)).trans hK2⟩
        case measure => simp [intOf]; omega
      · rw [hw] at c1 hstep
        have HST := Lib.hid (hstep.trans (show S.step p 89 q = ⟨p.x, p.y - q, p.z⟩ by simp [S.step]))
        clear hstep hw
        have hK2 : Blk (((wr.setCell ⟨w1.heap.size, 1, none⟩ (.int .i64 (p.y - q))).alloc (.cells #[.int .i64 (S.legsOf b.code)[k].1, .int .u8 89] 287)).alloc (.cells #[.int .i64 (p.x), .int .i64 (p.y - q), .int .i64 (p.z)] 87)) w1.heap.size 87 #[.int .i64 (p.x), .int .i64 (p.y - q), .int .i64 (p.z)] := by simpa using ((hK.set 1 (.int .i64 (p.y - q))).alloc (.cells #[.int .i64 (S.legsOf b.code)[k].1, .int .u8 89] 287)).alloc (.cells #[.int .i64 (p.x), .int .i64 (p.y - q), .int .i64 (p.z)] 87)
        go_wp2_with (at_builtin; refine wpList_push rfl (.tmp 65) (.tmp 67) _ rfl elemPt (((hR.set (p := ⟨w1.heap.size, 1, none⟩) HOWN.out _).alloc _).alloc _) (((hX.set (p := ⟨w1.heap.size, 1, none⟩) (.inl (by simp)) _).alloc _).alloc _) (by simp) hbw.size rfl (wr.heap.size + 1) 1 1 [.int .i64 (p.x), .int .i64 (p.y - q), .int .i64 (p.z)] rfl rfl ?_ (by simp [Value.oneCell']) (by unfold maxLen; omega) (by omega) ?_; (· intro j u hu; have := (Cells.newRow ((wr.setCell ⟨w1.heap.size, 1, none⟩ (.int .i64 (p.y - q))).alloc (.cells #[.int .i64 (S.legsOf b.code)[k].1, .int .u8 89] 287)) #[.int .i64 (p.x), .int .i64 (p.y - q), .int .i64 (p.z)] 87 (0, 0)).get (k := j) (v := u) hu; simpa using this); intro v' w' hR' hX' hO')
        obtain ⟨A5, c5, rfl, _, _, _⟩ := own_form hR'.own
        go_roundw
        case rel => exact ⟨k + 1, A5, c5, by omega, by go_num, rfl, by rw [HSN.out, HST.out, List.flatMap_append]; exact hR', hX', by rw [HST.out]; exact (hO' _ hK2.lt (fun h => HOWN.out _ h rfl)).trans hK2⟩
        case measure => simp [intOf]; omega
      · rw [hw] at c1 hstep
        have HST := Lib.hid (hstep.trans (show S.step p 122 q = ⟨p.x, p.y, p.z + q⟩ by simp [S.step]))
        clear hstep hw
        have hK2 : Blk (((wr.setCell ⟨w1.heap.size, 2, none⟩ (.int .i64 (p.z + q))).alloc (.cells #[.int .i64 (S.legsOf b.code)[k].1, .int .u8 122] 287)).alloc (.cells #[.int .i64 (p.x), .int .i64 (p.y), .int .i64 (p.z + q)] 87)) w1.heap.size 87 #[.int .i64 (p.x), .int .i64 (p.y), .int .i64 (p.z + q)] := by simpa using ((hK.set 2 (.int .i64 (p.z + q))).alloc (.cells #[.int .i64 (S.legsOf b.code)[k].1, .int .u8 122] 287)).alloc (.cells #[.int .i64 (p.x), .int .i64 (p.y), .int .i64 (p.z + q)] 87)
        go_wp2_with (at_builtin; refine wpList_push rfl (.tmp 65) (.tmp 67) _ rfl elemPt (((hR.set (p := ⟨w1.heap.size, 2, none⟩) HOWN.out _).alloc _).alloc _) (((hX.set (p := ⟨w1.heap.size, 2, none⟩) (.inl (by simp)) _).alloc _).alloc _) (by simp) hbw.size rfl (wr.heap.size + 1) 1 1 [.int .i64 (p.x), .int .i64 (p.y), .int .i64 (p.z + q)] rfl rfl ?_ (by simp [Value.oneCell']) (by unfold maxLen; omega) (by omega) ?_; (· intro j u hu; have := (Cells.newRow ((wr.setCell ⟨w1.heap.size, 2, none⟩ (.int .i64 (p.z + q))).alloc (.cells #[.int .i64 (S.legsOf b.code)[k].1, .int .u8 122] 287)) #[.int .i64 (p.x), .int .i64 (p.y), .int .i64 (p.z + q)] 87 (0, 0)).get (k := j) (v := u) hu; simpa using this); intro v' w' hR' hX' hO')
        obtain ⟨A5, c5, rfl, _, _, _⟩ := own_form hR'.own
        go_roundw
        case rel => exact ⟨k + 1, A5, c5, by omega, by go_num, rfl, by rw [HSN.out, HST.out, List.flatMap_append]; exact hR', hX', by rw [HST.out]; exact (hO' _ hK2.lt (fun h => HOWN.out _ h rfl)).trans hK2⟩
        case measure => simp [intOf]; omega
    · have he : k = (S.legsOf b.code).length := by omega
      have HE := Lib.hid he
      clear he
      go_wp2
      go_ret2
      refine ⟨A3, c3, by rw [HE.out]; rfl, ?_, ?_⟩
      · have := hR.own
        rwa [HE.out] at this
      · exact hbw.trans (hX.below (by have := hbw.size; omega) (by intro j hj; simp at hj; omega))
end Go.Proofs.YtffkmgjmlahfpaaGreat
set_option linter.unusedVariables false
set_option linter.unusedSimpArgs false
namespace Go.Proofs.YtffkmgjmlahfpaaGreat
open Go.RowKit
def S.near (l : List Pt) (m : Int) : Bool := l.all fun p => S.near1 p m
theorem near_bad {l : List Pt} {m : Int} {k : Nat} (hk : k < l.length) (h : S.near1 l[k] m = false) : S.near l m = false := by
  unfold S.near
  rw [List.all_eq_false]
  exact ⟨_, List.getElem_mem hk, by simp [h]⟩
theorem near_all {l : List Pt} {m : Int} (h : ∀ j (hj : j < l.length), S.near1 l[j] m = true) : S.near l m = true := by
  unfold S.near
  rw [List.all_eq_true]
  intro x hx
  obtain ⟨j, hj, rfl⟩ := List.mem_iff_getElem.1 hx
  exact h j hj
theorem near_in {l : List Pt} {m : Int} (h : S.near l m = true) {k : Nat} (hk : k < l.length) : S.near1 l[k] m = true := by
  unfold S.near at h
  rw [List.all_eq_true] at h
  exact h _ (List.getElem_mem hk)
set_option maxHeartbeats 4000000 in
theorem near_any (l : List Pt) (A : Option Addr) (n c : Nat) (B : Nat) (w : World) (hn : l.length = n) (hm : n ≤ 9223372036854775807) (hB : B ≤ w.heap.size) (hs : Cells w B A (l.flatMap ptC)) :
    Calls Tryz.prog 249 #[.slice A n c] w fun e w' => e = .returned (.bool (S.near l 1048576)) ∧ Below w.heap.size w w' := by
  have HN := Lib.hid hn
  clear hn
  go_enter Tryz.func249, Tryz.ntmps249
  go_wp2
  go_loopw [9] (fun i wr => ∃ k : Nat, k ≤ n ∧ i = .int .i64 k ∧ (∀ j (h : j < l.length), j < k → S.near1 l[j] 1048576 = true) ∧ Below w.heap.size w wr) (fun i _ => n - (intOf i).toNat)
  case atStart => exact ⟨0, Nat.zero_le _, rfl, fun j _ hj => absurd hj (by omega), Below.refl _ _⟩
  case round =>
    obtain ⟨k, hk, rfl, hno, hbr⟩ := hrel
    have HNO := Lib.hid hno
    clear hno
    by_cases hlt : k < n
    · have hkx : k < l.length := by have := HN.out; omega
      have hs' := hs.below (hbr.mono hB)
      obtain ⟨b, o, rfl, _, _⟩ := hs'.at_ (by rw [flat_len ptC 3 ptC_len]; omega)
      have c0 := hs'.row0 ptC_len hkx rfl
      have c1 := hs'.rowj ptC_len hkx 1 rfl
      have c2 := hs'.rowj ptC_len hkx 2 rfl
      have HBAD := Lib.hid (fun h => near_bad (m := 1048576) hkx h)
      have HGO := Lib.hid (fun (h : S.near1 l[k] 1048576 = true) (j : Nat) (hj : j < l.length) (hjk : j < k + 1) => show S.near1 l[j] 1048576 = true from by
        by_cases hjk' : j = k
        · subst hjk'; exact h
        · exact HNO.out j hj (by omega))
      generalize l[k] = p at *
      clear hs hs' HNO
      have i0 : ∀ W, (Instr.index 274 (.agg #[.int .i64 p.x, .int .i64 p.y, .int .i64 p.z]) (.int .i64 0)).run Tryz.prog W = .ok (.int .i64 p.x) W := fun _ => by kernel_rfl
      have i1 : ∀ W, (Instr.index 274 (.agg #[.int .i64 p.x, .int .i64 p.y, .int .i64 p.z]) (.int .i64 1)).run Tryz.prog W = .ok (.int .i64 p.y) W := fun _ => by kernel_rfl
      have i2 : ∀ W, (Instr.index 274 (.agg #[.int .i64 p.x, .int .i64 p.y, .int .i64 p.z]) (.int .i64 2)).run Tryz.prog W = .ok (.int .i64 p.z) W := fun _ => by kernel_rfl
      have hcs : (p.x < -1048576) ∨ (¬ p.x < -1048576 ∧ 1048576 < p.x) ∨ (¬ p.x < -1048576 ∧ ¬ 1048576 < p.x ∧ p.y < -1048576) ∨ (¬ p.x < -1048576 ∧ ¬ 1048576 < p.x ∧ ¬ p.y < -1048576 ∧ 1048576 < p.y) ∨ (¬ p.x < -1048576 ∧ ¬ 1048576 < p.x ∧ ¬ p.y < -1048576 ∧ ¬ 1048576 < p.y ∧ p.z < -1048576) ∨ (¬ p.x < -1048576 ∧ ¬ 1048576 < p.x ∧ ¬ p.y < -1048576 ∧ ¬ 1048576 < p.y ∧ ¬ p.z < -1048576 ∧ 1048576 < p.z) ∨ (¬ p.x < -1048576 ∧ ¬ 1048576 < p.x ∧ ¬ p.y < -1048576 ∧ ¬ 1048576 < p.y ∧ ¬ p.z < -1048576 ∧ ¬ 1048576 < p.z) := by omega
      rcases hcs with h1 | ⟨h1, h2⟩ | ⟨h1, h2, h3⟩ | ⟨h1, h2, h3, h4⟩ | ⟨h1, h2, h3, h4, h5⟩ | ⟨h1, h2, h3, h4, h5, h6⟩ | ⟨h1, h2, h3, h4, h5, h6⟩
      rotate_right
      · have HG := Lib.hid (HGO.out (by simp [S.near1]; omega))
        go_wp2
        refine wp_loop_rounds 4 ?_
        rw [rounds_succ]
        go_wp2
        rw [rounds_succ]
        go_wp2
        rw [rounds_succ]
        go_wp2
        rw [rounds_succ]
        go_wp2
        go_roundw
        case rel => exact ⟨k + 1, by omega, by go_num, HG.out, (by repeat (first | exact Below.refl _ _ | assumption | refine ba_alloc ?_ _ | refine ba_drew ?_ | refine ba_drewN ?_ _ | refine ba_via (by assumption) ?_ | (refine ba_set ?_ ?_ _; rotate_left; (first | omega | (simp; omega) | simp))))⟩
        case measure => simp [intOf]; omega
      all_goals (
        have HG := Lib.hid (HBAD.out (by simp [S.near1]; omega))
        go_wp2
        refine wp_loop_rounds 4 ?_
        rw [rounds_succ]
        go_wp2
        iterate 2 (try (rw [rounds_succ]; go_wp2))
        go_ret
        exact ⟨ret_b HG.out.symm, (by repeat (first | exact Below.refl _ _ | assumption | refine ba_alloc ?_ _ | refine ba_drew ?_ | refine ba_drewN ?_ _ | refine ba_via (by assumption) ?_ | (refine ba_set ?_ ?_ _; rotate_left; (first | omega | (simp; omega) | simp))))⟩)
    · go_wp2
      go_ret
      exact ⟨ret_b (near_all (fun j hj => HNO.out j hj (by have := HN.out; omega))).symm, hbr⟩
def S.fpErr (x y : Int) (o : Pt) (l : List Pt) : Int := if S.turn x y = false then 1 else if 1000 < l.length then 4 else if S.near1 o 1048576 = false ∨ S.near l 1048576 = false then 2 else 0
def S.fpath (x y : Int) (o : Pt) (l : List Pt) : List Pt := if S.fpErr x y o l = 0 then l.map (S.placed x y o) else []
theorem near_one (o : Pt) (m : Int) : S.near [o] m = S.near1 o m := by simp [S.near]
set_option maxHeartbeats 4000000 in
theorem fpath_any (x y : Int) (o : Pt) (l : List Pt) (A : Option Addr) (n c : Nat) (B : Nat) (w : World) (hn : l.length = n) (hm : n ≤ 9223372036854775807) (hB : B ≤ w.heap.size) (hs : Cells w B A (l.flatMap ptC)) :
    Calls Tryz.prog 190 #[turnV x y, ptV o, .slice A n c] w (GivesRow 87 3 (S.fpath x y o l).length ((S.fpath x y o l).flatMap ptC) (S.fpErr x y o l) w) := by
  have HV := Lib.hid (fun w => fvalid_any x y w)
  have HNL := Lib.hid (fun (W : World) (h : Below w.heap.size w W) => near_any l A n c B W hn hm (size_via hB h) (hs.below (h.mono hB)))
  have HNO := Lib.hid (fun (W : World) (A : Option Addr) (c : Nat) (h : Cells W W.heap.size A ([o].flatMap ptC)) => near_any [o] A 1 c W.heap.size W rfl (by decide) (Nat.le_refl _) h)
  rw [near_one] at HNO
  have HE : Hid (S.fpErr x y o l = if S.turn x y = false then 1 else if 1000 < n then 4 else if S.near1 o 1048576 = false ∨ S.near l 1048576 = false then 2 else 0) := Lib.hid (by rw [S.fpErr, hn])
  have HP : Hid (S.fpath x y o l = if S.fpErr x y o l = 0 then l.map (S.placed x y o) else []) := Lib.hid rfl
  have HPL := Lib.hid (fun (h : S.turn x y = true) (h' : S.near1 o 1048576 = true) (p : Pt) (h'' : S.near1 p 1048576 = true) (w : World) => placed_any x y h o p h' h'' w)
  have HN := Lib.hid hn
  clear hn
  by_cases h0 : S.turn x y = false
  · have HE' : Hid (S.fpErr x y o l = 1) := Lib.hid (by rw [HE.out, h0]; rfl)
    have HP' : Hid (S.fpath x y o l = []) := Lib.hid (by rw [HP.out, HE'.out]; rfl)
    rw [HE'.out, HP'.out]
    rw [h0] at HV
    clear HNO HNL HPL HE HP HE' HP' h0
    unfold turnV ptV
    unfold turnV at HV
    go_enter Tryz.func190, Tryz.ntmps190
    go_wp2_with (go_at_call 242; (with_reducible refine (HV.out _).mono ?_); rintro e w1 ⟨rfl, hbw1⟩; obtain ⟨hcw1, hfw1⟩ := bcell hbw1; have hzw1_0 : w.heap.size < w1.heap.size := lt_via hbw1 (by first | omega | (simp; done) | (simp; omega)); have hzw1_1 : w.heap.size + 1 < w1.heap.size := lt_via hbw1 (by first | omega | (simp; done) | (simp; omega)))
    go_ret2
    exact ⟨none, 0, rfl, World.ownsRow_nil _ _ _ _, (by repeat (first | exact Below.refl _ _ | assumption | refine ba_alloc ?_ _ | refine ba_drew ?_ | refine ba_drewN ?_ _ | refine ba_via (by assumption) ?_ | (refine ba_set ?_ ?_ _; rotate_left; (first | omega | (simp; omega) | simp))))⟩
  have ht : S.turn x y = true := by simpa using h0
  rw [ht] at HV HE
  by_cases h1 : 1000 < n
  · have HE' : Hid (S.fpErr x y o l = 4) := Lib.hid (by rw [HE.out, if_neg (by simp), if_pos h1])
    have HP' : Hid (S.fpath x y o l = []) := Lib.hid (by rw [HP.out, HE'.out]; rfl)
    rw [HE'.out, HP'.out]
    clear HNO HNL HPL HE HP HE' HP' h0 ht
    unfold turnV ptV
    unfold turnV at HV
    go_enter Tryz.func190, Tryz.ntmps190
    go_wp2_with (go_at_call 242; (with_reducible refine (HV.out _).mono ?_); rintro e w1 ⟨rfl, hbw1⟩; obtain ⟨hcw1, hfw1⟩ := bcell hbw1; have hzw1_0 : w.heap.size < w1.heap.size := lt_via hbw1 (by first | omega | (simp; done) | (simp; omega)); have hzw1_1 : w.heap.size + 1 < w1.heap.size := lt_via hbw1 (by first | omega | (simp; done) | (simp; omega)))
    go_ret2
    exact ⟨none, 0, rfl, World.ownsRow_nil _ _ _ _, (by repeat (first | exact Below.refl _ _ | assumption | refine ba_alloc ?_ _ | refine ba_drew ?_ | refine ba_drewN ?_ _ | refine ba_via (by assumption) ?_ | (refine ba_set ?_ ?_ _; rotate_left; (first | omega | (simp; omega) | simp))))⟩
  by_cases h2 : S.near1 o 1048576 = false
  · have HE' : Hid (S.fpErr x y o l = 2) := Lib.hid (by rw [HE.out, if_neg (by simp), if_neg h1, if_pos (.inl h2)])
    have HP' : Hid (S.fpath x y o l = []) := Lib.hid (by rw [HP.out, HE'.out]; rfl)
    rw [HE'.out, HP'.out]
    rw [h2] at HNO
    clear HNL HPL HE HP HE' HP' h0 ht h2
    unfold turnV ptV
    unfold turnV at HV
    go_enter Tryz.func190, Tryz.ntmps190
    go_wp2_with (first
      | (go_at_call 242; (with_reducible refine (HV.out _).mono ?_); rintro e w1 ⟨rfl, hbw1⟩; obtain ⟨hcw1, hfw1⟩ := bcell hbw1; have hzw1_0 : w.heap.size < w1.heap.size := lt_via hbw1 (by first | omega | (simp; done) | (simp; omega)); have hzw1_1 : w.heap.size + 1 < w1.heap.size := lt_via hbw1 (by first | omega | (simp; done) | (simp; omega)))
      | (go_at_call 249; (with_reducible refine (HNO.out _ _ _ (by simpa using Cells.newRow w1 #[.int .i64 o.x, .int .i64 o.y, .int .i64 o.z] 87 (0, 0))).mono ?_); rintro e w2 ⟨rfl, hbw2⟩; obtain ⟨hcw2, hfw2⟩ := bcell hbw2; have hzw2_0 : w.heap.size < w2.heap.size := lt_via hbw2 (by first | omega | (simp; done) | (simp; omega)); have hzw2_1 : w.heap.size + 1 < w2.heap.size := lt_via hbw2 (by first | omega | (simp; done) | (simp; omega))))
    go_ret2
    exact ⟨none, 0, rfl, World.ownsRow_nil _ _ _ _, (by repeat (first | exact Below.refl _ _ | assumption | refine ba_alloc ?_ _ | refine ba_drew ?_ | refine ba_drewN ?_ _ | refine ba_via (by assumption) ?_ | (refine ba_set ?_ ?_ _; rotate_left; (first | omega | (simp; omega) | simp))))⟩
  have h2' : S.near1 o 1048576 = true := by simpa using h2
  rw [h2'] at HNO
  by_cases h3 : S.near l 1048576 = false
  · have HE' : Hid (S.fpErr x y o l = 2) := Lib.hid (by rw [HE.out, if_neg (by simp), if_neg h1, if_pos (.inr h3)])
    have HP' : Hid (S.fpath x y o l = []) := Lib.hid (by rw [HP.out, HE'.out]; rfl)
    rw [HE'.out, HP'.out]
    rw [h3] at HNL
    clear HPL HE HP HE' HP' h0 ht h2 h2' h3
    unfold turnV ptV
    unfold turnV at HV
    go_enter Tryz.func190, Tryz.ntmps190
    go_wp2_with (first
      | (go_at_call 242; (with_reducible refine (HV.out _).mono ?_); rintro e w1 ⟨rfl, hbw1⟩; obtain ⟨hcw1, hfw1⟩ := bcell hbw1; have hzw1_0 : w.heap.size < w1.heap.size := lt_via hbw1 (by first | omega | (simp; done) | (simp; omega)); have hzw1_1 : w.heap.size + 1 < w1.heap.size := lt_via hbw1 (by first | omega | (simp; done) | (simp; omega)))
      | (go_at_call 249; (with_reducible refine (HNO.out _ _ _ (by simpa using Cells.newRow w1 #[.int .i64 o.x, .int .i64 o.y, .int .i64 o.z] 87 (0, 0))).mono ?_); rintro e w2 ⟨rfl, hbw2⟩; obtain ⟨hcw2, hfw2⟩ := bcell hbw2; have hzw2_0 : w.heap.size < w2.heap.size := lt_via hbw2 (by first | omega | (simp; done) | (simp; omega)); have hzw2_1 : w.heap.size + 1 < w2.heap.size := lt_via hbw2 (by first | omega | (simp; done) | (simp; omega)))
      | (go_at_call 249; (with_reducible refine (HNL.out _ (by repeat (first | exact Below.refl _ _ | assumption | refine ba_alloc ?_ _ | refine ba_drew ?_ | refine ba_drewN ?_ _ | refine ba_via (by assumption) ?_ | (refine ba_set ?_ ?_ _; rotate_left; (first | omega | (simp; omega) | simp))))).mono ?_); rintro e w3 ⟨rfl, hbw3⟩; obtain ⟨hcw3, hfw3⟩ := bcell hbw3; have hzw3_0 : w.heap.size < w3.heap.size := lt_via hbw3 (by first | omega | (simp; done) | (simp; omega)); have hzw3_1 : w.heap.size + 1 < w3.heap.size := lt_via hbw3 (by first | omega | (simp; done) | (simp; omega))))
    go_ret2
    exact ⟨none, 0, rfl, World.ownsRow_nil _ _ _ _, (by repeat (first | exact Below.refl _ _ | assumption | refine ba_alloc ?_ _ | refine ba_drew ?_ | refine ba_drewN ?_ _ | refine ba_via (by assumption) ?_ | (refine ba_set ?_ ?_ _; rotate_left; (first | omega | (simp; omega) | simp))))⟩
  have h3' : S.near l 1048576 = true := by simpa using h3
  rw [h3'] at HNL
  have HE' : Hid (S.fpErr x y o l = 0) := Lib.hid (by rw [HE.out, if_neg (by simp), if_neg h1, if_neg (by simp [h2', h3'])])
  have HP' : Hid (S.fpath x y o l = l.map (S.placed x y o)) := Lib.hid (by rw [HP.out, HE'.out]; rfl)
  have HNP := Lib.hid (fun (k : Nat) (hk : k < l.length) => HPL.out ht h2' l[k] (near_in h3' hk))
  rw [HE'.out, HP'.out, List.length_map, HN.out]
  clear HPL HE HP HE' HP' h0 ht h2 h2' h3 h3'
  generalize S.placed x y o = P at *
  unfold turnV ptV
  unfold turnV ptV at HNP
  unfold turnV at HV
  go_enter Tryz.func190, Tryz.ntmps190
  go_wp2_with (first
    | (go_at_call 242; (with_reducible refine (HV.out _).mono ?_); rintro e w1 ⟨rfl, hbw1⟩; obtain ⟨hcw1, hfw1⟩ := bcell hbw1; have hzw1_0 : w.heap.size < w1.heap.size := lt_via hbw1 (by first | omega | (simp; done) | (simp; omega)); have hzw1_1 : w.heap.size + 1 < w1.heap.size := lt_via hbw1 (by first | omega | (simp; done) | (simp; omega)))
    | (go_at_call 249; (with_reducible refine (HNO.out _ _ _ (by simpa using Cells.newRow w1 #[.int .i64 o.x, .int .i64 o.y, .int .i64 o.z] 87 (0, 0))).mono ?_); rintro e w2 ⟨rfl, hbw2⟩; obtain ⟨hcw2, hfw2⟩ := bcell hbw2; have hzw2_0 : w.heap.size < w2.heap.size := lt_via hbw2 (by first | omega | (simp; done) | (simp; omega)); have hzw2_1 : w.heap.size + 1 < w2.heap.size := lt_via hbw2 (by first | omega | (simp; done) | (simp; omega)))
    | (go_at_call 249; (with_reducible refine (HNL.out _ (by repeat (first | exact Below.refl _ _ | assumption | refine ba_alloc ?_ _ | refine ba_drew ?_ | refine ba_drewN ?_ _ | refine ba_via (by assumption) ?_ | (refine ba_set ?_ ?_ _; rotate_left; (first | omega | (simp; omega) | simp))))).mono ?_); rintro e w3 ⟨rfl, hbw3⟩; obtain ⟨hcw3, hfw3⟩ := bcell hbw3; have hzw3_0 : w.heap.size < w3.heap.size := lt_via hbw3 (by first | omega | (simp; done) | (simp; omega)); have hzw3_1 : w.heap.size + 1 < w3.heap.size := lt_via hbw3 (by first | omega | (simp; done) | (simp; omega))))
  have hbw : Below w.heap.size w w3 := (by repeat (first | exact Below.refl _ _ | assumption | refine ba_alloc ?_ _ | refine ba_drew ?_ | refine ba_drewN ?_ _ | refine ba_via (by assumption) ?_ | (refine ba_set ?_ ?_ _; rotate_left; (first | omega | (simp; omega) | simp))))
  have hT : Blk w3 w.heap.size 181 #[.int .i64 x, .int .i64 y] := Blk.via (Blk.via ((Blk.via ((Blk.new w _ _).alloc _) hbw1).alloc _) hbw2) hbw3
  have hO : Blk w3 (w.heap.size + 1) 87 #[.int .i64 o.x, .int .i64 o.y, .int .i64 o.z] := Blk.via (Blk.via ((Blk.via (by simpa using Blk.new (w.alloc (.cells #[.int .i64 x, .int .i64 y] 181)) 87 #[.int .i64 o.x, .int .i64 o.y, .int .i64 o.z]) hbw1).alloc _) hbw2) hbw3
  have hs3 := hs.below (hbw.mono hB)
  clear hs HV HNO HNL
  go_loopw [8, 31] (fun v i wr => ∃ (k : Nat) (A3 : Option Addr) (c3 : Nat), k ≤ n ∧ i = .int .i64 k ∧ v = .slice A3 k c3 ∧ Row w3 wr none w.heap.size 87 3 (.slice A3 k c3) k (((l.take k).map P).flatMap ptC) ∧ Exc [] w3 wr) (fun _ i _ => n - (intOf i).toNat)
  case atStart => exact ⟨0, none, 0, Nat.zero_le _, rfl, rfl, by simpa using Row.none_ w3 w.heap.size 87 3, Exc.refl _ _⟩
  case round =>
    obtain ⟨k, A3, c3, hk, rfl, rfl, hR, hX⟩ := hrel
    by_cases hlt : k < n
    · have hkx : k < l.length := by have := HN.out; omega
      have hs' := hs3.below (hX.below (B := B) (by have := hbw.size; omega) (by simp))
      obtain ⟨b, q, rfl, hbl, _⟩ := hs'.at_ (by rw [flat_len ptC 3 ptC_len]; omega)
      have c0 := hs'.row0 ptC_len hkx rfl
      have c1 := hs'.rowj ptC_len hkx 1 rfl
      have c2 := hs'.rowj ptC_len hkx 2 rfl
      have HP := Lib.hid (HNP.out k hkx)
      have HS := Lib.hid (show ((l.take (k + 1)).map P).flatMap ptC = ((l.take k).map P).flatMap ptC ++ [.int .i64 (P l[k]).x, .int .i64 (P l[k]).y, .int .i64 (P l[k]).z] from by
        rw [List.take_succ_eq_append_getElem hkx, List.map_append, List.flatMap_append]; rfl)
      have hT' : Blk wr w.heap.size 181 #[.int .i64 x, .int .i64 y] := (hX.block _ hT.lt (by simp)).trans hT
      have hO' : Blk wr (w.heap.size + 1) 87 #[.int .i64 o.x, .int .i64 o.y, .int .i64 o.z] := (hX.block _ hO.lt (by simp)).trans hO
      have t0 := hT'.cell 0
      have t1 := hT'.cell 1
      have o0 := hO'.cell 0
      have o1 := hO'.cell 1
      have o2 := hO'.cell 2
      have lt0 := hT'.lt
      have lt1 := hO'.lt
      have hsz := hX.size
      have hbs := hbw.size
      simp only [List.getElem?_toArray, List.getElem?_cons_zero, List.getElem?_cons_succ] at t0 t1 o0 o1 o2
      generalize P l[k] = p' at *
      generalize l[k] = p at *
      clear hs' hT hO hT' hO'
      go_wp2_with (first
        | (go_at_call 250; (with_reducible refine (HP.out _).mono ?_); rintro e w4 ⟨rfl, hbw4⟩; obtain ⟨hcw4, hfw4⟩ := bcell hbw4; have hzw4_0 : w.heap.size < w4.heap.size := lt_via hbw4 (by first | omega | (simp; done) | (simp; omega)); have hzw4_1 : w.heap.size + 1 < w4.heap.size := lt_via hbw4 (by first | omega | (simp; done) | (simp; omega)))
        | (at_builtin; refine wpList_push rfl (.tmp 35) (.tmp 40) _ rfl elemPt (((hR.alloc _).via hbw4).alloc _) ((Exc.via hbw4 (hX.alloc _)).alloc _) (by simp) hbw.size rfl w4.heap.size 1 1 [.int .i64 p'.x, .int .i64 p'.y, .int .i64 p'.z] rfl rfl ?_ (by simp [Value.oneCell']) (by unfold maxLen; omega) (by omega) ?_; (· intro j u hu; have := (Cells.newRow w4 #[.int .i64 p'.x, .int .i64 p'.y, .int .i64 p'.z] 87 (0, 0)).get (k := j) (v := u) hu; simpa using this); intro v' w' hR' hX' hO'))
      obtain ⟨A5, c5, rfl, _, _, _⟩ := own_form hR'.own
      go_roundw
      case rel => exact ⟨k + 1, A5, c5, by omega, by go_num, rfl, by rw [HS.out]; exact hR', hX'⟩
      case measure => simp [intOf]; omega
    · have he : k = n := by omega
      subst he
      have HT := Lib.hid (show l.take k = l from List.take_of_length_le (by rw [HN.out]; omega))
      rw [HT.out] at hR
      go_wp2
      go_ret2
      exact ⟨A3, c3, rfl, hR.own, hbw.trans (hX.below (by have := hbw.size; omega) (by simp))⟩
end Go.Proofs.YtffkmgjmlahfpaaGreat
set_option linter.unusedVariables false
set_option linter.unusedSimpArgs false
namespace Go.Proofs.YtffkmgjmlahfpaaGreat
open Go.RowKit
structure Sp where
  lo : Int
  hi : Int
namespace S
def place (n : Int) : Bool := decide (-1048576 ≤ n) && decide (n ≤ 1048576)
def wide (a b : Sp) : Int := if a.hi - a.lo < b.hi - b.lo then b.hi - b.lo else a.hi - a.lo
end S
end Go.Proofs.YtffkmgjmlahfpaaGreat
set_option linter.unusedVariables false
set_option linter.unusedSimpArgs false
namespace Go.Proofs.YtffkmgjmlahfpaaGreat
open Go.RowKit
/-- A bar, and where its dimensions lie. -/
structure BarR where
  b : Bar
  A : Option Addr
  n : Nat
  c : Nat
abbrev barC (r : BarR) : List Value := [.string r.b.mark, .int .i64 r.b.size, .int .i64 r.b.count, .int .i64 r.b.code, .slice r.A r.n r.c]
theorem barC_len (r : BarR) : (barC r).length = 5 := rfl
abbrev bars (l : List BarR) : List Bar := l.map BarR.b
/-- A list of bars lies in memory, below block B. -/
structure BarsAt (w : World) (B : Nat) (A : Option Addr) (n : Nat) (l : List BarR) : Prop where
  len : l.length = n
  max : n ≤ 9223372036854775807
  cells : Cells w B A (l.flatMap barC)
  each : ∀ r, r ∈ l → BarAt w B r.A r.n r.b
theorem BarsAt.below {w w' : World} {B : Nat} {A : Option Addr} {n : Nat} {l : List BarR} (h : BarsAt w B A n l) (hb : Below B w w') : BarsAt w' B A n l := ⟨h.len, h.max, h.cells.below hb, fun r hr => (h.each r hr).below hb⟩
theorem BarsAt.at_ {w w' : World} {B : Nat} {A : Option Addr} {n : Nat} {l : List BarR} (h : BarsAt w B A n l) (hB : B ≤ w.heap.size) (hb : Below w.heap.size w w') : BarsAt w' B A n l := h.below (hb.mono hB)
def AsksR (w : World) (F : Nat) (fst cap : Array Value) (p : BarR → Bool) : Prop :=
  ∀ (x : BarR) (w' : World), Below w.heap.size w w' → Calls Tryz.prog F (fst.push (barV x.b x.A x.n x.c) ++ cap) w' fun e w'' => e = .returned (.bool (p x)) ∧ Below w'.heap.size w' w''
theorem indexfR_any (F : Nat) (fst cap : Array Value) (p : BarR → Bool) (A : Option Addr) (n c : Nat) (xs : List BarR) (B : Nat) (w : World) (hn : xs.length = n) (hm : n ≤ 9223372036854775807) (hB : B ≤ w.heap.size)
    (hs : Cells w B A (xs.flatMap barC)) (hF : ∀ args w, Sem.run Tryz.prog (callFunc F args) w = .ok (.enter F args) w) (hf : AsksR w F fst cap p) :
    Calls Tryz.prog 148 #[.slice A n c, .func (.func F) fst cap] w fun e w' => e = .returned (.int .i64 (idxf xs p)) ∧ Below w.heap.size w w' := by
  have HN := Lib.hid hn
  clear hn
  go_enter Tryz.func148, Tryz.ntmps148
  go_wp2
  go_loopw [8] (fun i wr => ∃ k : Nat, k ≤ n ∧ i = .int .i64 k ∧ (∀ j (h : j < xs.length), j < k → p xs[j] = false) ∧ Below w.heap.size w wr) (fun i _ => n - (intOf i).toNat)
  case atStart => exact ⟨0, Nat.zero_le _, rfl, fun j _ hj => absurd hj (by omega), Below.refl _ _⟩
  case round =>
    obtain ⟨k, hk, rfl, hno, hbr⟩ := hrel
    have HNO := Lib.hid hno
    clear hno
    by_cases hlt : k < n
    · have hkx : k < xs.length := by have := HN.out; omega
      have hs' := hs.below (hbr.mono hB)
      obtain ⟨b, o, rfl, _, _⟩ := hs'.at_ (by rw [flat_len barC 5 barC_len]; omega)
      have c0 := hs'.row0 barC_len hkx rfl
      have c1 := hs'.rowj barC_len hkx 1 rfl
      have c2 := hs'.rowj barC_len hkx 2 rfl
      have c3 := hs'.rowj barC_len hkx 3 rfl
      have c4 := hs'.rowj barC_len hkx 4 rfl
      by_cases hx : p xs[k] = true
      · go_wp2_with (refine (hf _ _ hbr).mono ?_; rintro e w1 ⟨rfl, hb1⟩)
        go_ret
        exact ⟨ret_i (idxf_hit hkx hx HNO.out).symm, hbr.trans (hb1.mono hbr.size)⟩
      · have hx' : p xs[k] = false := by simpa using hx
        clear hx
        go_wp2_with (refine (hf _ _ hbr).mono ?_; rintro e w1 ⟨rfl, hb1⟩)
        go_roundw
        case rel =>
          refine ⟨k + 1, by omega, by go_num, fun j hj hjk => ?_, hbr.trans (hb1.mono hbr.size)⟩
          by_cases hjk' : j = k
          · subst hjk'; exact hx'
          · exact HNO.out j hj (by omega)
        case measure => simp [intOf]; omega
    · go_wp2
      go_ret
      exact ⟨ret_i (idxf_miss (fun j hj => HNO.out j hj (by have := HN.out; omega))).symm, hbr⟩
/-- Whether a bar has a mark. -/
def S.isMark (m : ByteArray) (b : Bar) : Bool := b.mark.toList == m.toList
def S.index (l : List Bar) (m : ByteArray) : Int := idxf l (S.isMark m)
theorem idxf_map {α β : Type} (f : α → β) (p : β → Bool) (l : List α) : idxf (l.map f) p = idxf l (fun x => p (f x)) := by
  unfold idxf
  rw [List.findIdx?_map]
  rfl
theorem smark_any (m : ByteArray) (r : BarR) (g : Nat) (w : World) (hc : w.cell? ⟨g, 0, none⟩ = some (.string m)) (hg : g < w.heap.size) :
    Calls Tryz.prog 269 #[barV r.b r.A r.n r.c, .pointer (some ⟨g, 0, none⟩)] w fun e w' => e = .returned (.bool (S.isMark m r.b)) ∧ Below w.heap.size w w' := by
  unfold barV
  go_enter Tryz.func269, Tryz.ntmps269
  go_wp2
  go_ret
  exact ⟨rfl, (by repeat (first | exact Below.refl _ _ | assumption | refine ba_alloc ?_ _ | refine ba_drew ?_ | refine ba_drewN ?_ _ | refine ba_via (by assumption) ?_ | (refine ba_set ?_ ?_ _; rotate_left; (first | omega | (simp; omega) | simp))))⟩
theorem lmark_any (m : ByteArray) (r : BarR) (g : Nat) (w : World) (hc : w.cell? ⟨g, 0, none⟩ = some (.string m)) (hg : g < w.heap.size) :
    Calls Tryz.prog 270 #[barV r.b r.A r.n r.c, .pointer (some ⟨g, 0, none⟩)] w fun e w' => e = .returned (.bool (S.isMark m r.b)) ∧ Below w.heap.size w w' := by
  unfold barV
  go_enter Tryz.func270, Tryz.ntmps270
  go_wp2
  go_ret
  exact ⟨rfl, (by repeat (first | exact Below.refl _ _ | assumption | refine ba_alloc ?_ _ | refine ba_drew ?_ | refine ba_drewN ?_ _ | refine ba_via (by assumption) ?_ | (refine ba_set ?_ ?_ _; rotate_left; (first | omega | (simp; omega) | simp))))⟩
theorem sindex_any (l : List BarR) (m : ByteArray) (A : Option Addr) (n c : Nat) (B : Nat) (w : World) (hB : B ≤ w.heap.size) (hA : BarsAt w B A n l) :
    Calls Tryz.prog 240 #[.slice A n c, .string m] w fun e w' => e = .returned (.int .i64 (S.index (bars l) m)) ∧ Below w.heap.size w w' := by
  have HA := Lib.hid hA
  have HI := Lib.hid (show S.index (bars l) m = idxf l (fun x => S.isMark m x.b) from idxf_map _ _ _)
  have hf : AsksR (w.alloc (.cells #[.string m] 9)) 269 #[] #[.pointer (some ⟨w.heap.size, 0, none⟩)] (fun x => S.isMark m x.b) := fun x w' hb => smark_any m x w.heap.size w' ((hb.cell (p := ⟨w.heap.size, 0, none⟩) (by simp)).trans (by simp)) (Nat.lt_of_lt_of_le (by simp) hb.size)
  have HF := Lib.hid Tryz.call269
  have HX := Lib.hid (indexfR_any 269 #[] #[.pointer (some ⟨w.heap.size, 0, none⟩)] (fun x => S.isMark m x.b) A n c l B (w.alloc (.cells #[.string m] 9)) HA.out.len HA.out.max (by simp; omega) (HA.out.cells.alloc hB _) HF.out hf)
  clear hA hf
  go_enter Tryz.func240, Tryz.ntmps240
  go_wp2_with (go_at_call 148; (with_reducible refine (HX.out).mono ?_); rintro e w1 ⟨rfl, hbw1⟩; obtain ⟨hcw1, hfw1⟩ := bcell hbw1)
  go_ret
  exact ⟨ret_i HI.out.symm, (by repeat (first | exact Below.refl _ _ | assumption | refine ba_alloc ?_ _ | refine ba_drew ?_ | refine ba_drewN ?_ _ | refine ba_via (by assumption) ?_ | (refine ba_set ?_ ?_ _; rotate_left; (first | omega | (simp; omega) | simp))))⟩
theorem lfind_any (l : List BarR) (m : ByteArray) (A : Option Addr) (n c : Nat) (B : Nat) (w : World) (hB : B ≤ w.heap.size) (hA : BarsAt w B A n l) :
    Calls Tryz.prog 241 #[.slice A n c, .string m] w fun e w' => e = .returned (.int .i64 (S.index (bars l) m)) ∧ Below w.heap.size w w' := by
  have HA := Lib.hid hA
  have HI := Lib.hid (show S.index (bars l) m = idxf l (fun x => S.isMark m x.b) from idxf_map _ _ _)
  have hf : AsksR (w.alloc (.cells #[.string m] 9)) 270 #[] #[.pointer (some ⟨w.heap.size, 0, none⟩)] (fun x => S.isMark m x.b) := fun x w' hb => lmark_any m x w.heap.size w' ((hb.cell (p := ⟨w.heap.size, 0, none⟩) (by simp)).trans (by simp)) (Nat.lt_of_lt_of_le (by simp) hb.size)
  have HF := Lib.hid Tryz.call270
  have HX := Lib.hid (indexfR_any 270 #[] #[.pointer (some ⟨w.heap.size, 0, none⟩)] (fun x => S.isMark m x.b) A n c l B (w.alloc (.cells #[.string m] 9)) HA.out.len HA.out.max (by simp; omega) (HA.out.cells.alloc hB _) HF.out hf)
  clear hA hf
  go_enter Tryz.func241, Tryz.ntmps241
  go_wp2_with (go_at_call 148; (with_reducible refine (HX.out).mono ?_); rintro e w1 ⟨rfl, hbw1⟩; obtain ⟨hcw1, hfw1⟩ := bcell hbw1)
  go_ret
  exact ⟨ret_i HI.out.symm, (by repeat (first | exact Below.refl _ _ | assumption | refine ba_alloc ?_ _ | refine ba_drew ?_ | refine ba_drewN ?_ _ | refine ba_via (by assumption) ?_ | (refine ba_set ?_ ?_ _; rotate_left; (first | omega | (simp; omega) | simp))))⟩
end Go.Proofs.YtffkmgjmlahfpaaGreat
