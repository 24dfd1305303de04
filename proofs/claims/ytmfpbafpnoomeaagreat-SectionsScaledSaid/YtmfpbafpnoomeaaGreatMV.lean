/- Lemmas. -/
import Derived.OwnWalkIn
import Derived.TacticsInMore
import Derived.LoopNIn
import Derived.LoopIn
import Derived.OrdersHeld
import Derived.Test.YtmfpbafpnoomeaaGreatMU
import Derived.Test.YtmfpbafpnoomeaaGreatMT
import Derived.Test.YtmfpbafpnoomeaaGreatMQ
set_option linter.unusedVariables false
set_option linter.unusedSimpArgs false
namespace Go.Proofs.YtmfpbafpnoomeaaGreat
open Go.RowKit
set_option maxRecDepth 20000 in
set_option maxHeartbeats 4000000 in
theorem rrun_in (l : List BarR) (r : Rn) (k0 : Nat) (b : BarR) (A : Option Addr) (n c : Nat) (B : Nat) (w : World) (hB : B <= w.heap.size) (hA : BarsAt w B A n l) (h : S.rightHead (bars l) r = true) (h' : S.rightStep r = true) (hk0 : S.index (bars l) r.mark = (k0 : Int)) (hbk : l[k0]? = some b) (hv : S.bar b.b = true) :
 Calls Tryz.prog 120 #[.slice A n c, rnV r] w fun e w' => e = .returned (.bool (S.near (S.laidPath b.b r 0) 1048576 && S.near (S.laidPath b.b r (r.count - 1).toNat) 1048576)) /\ Below w.heap.size w w' := by
 have HA := lh hA
 obtain ⟨⟨h0, h1, h2⟩, h3, h4⟩ := rightHead_out h
 obtain ⟨hkx, hkb⟩ := List.getElem?_eq_some_iff.1 hbk
 have hkn : k0 < n := by have := hA.len; omega
 have hs' := hA.cells
 obtain ⟨bb, o, rfl, hbb, _⟩ := hs'.at_ (by rw [flat_len barC 5 barC_len]; omega)
 have hbb' : bb < w.heap.size := by omega
 have c0 := hs'.row0 barC_len hkx rfl
 have c1 := hs'.rowj barC_len hkx 1 rfl
 have c2 := hs'.rowj barC_len hkx 2 rfl
 have c3 := hs'.rowj barC_len hkx 3 rfl
 have c4 := hs'.rowj barC_len hkx 4 rfl
 have HE := lh (hA.each l[k0] (List.getElem_mem hkx))
 rw [hkb] at c0 c1 c2 c3 c4 HE
 have HI := lh (fun (W : World) (hw : B <= W.heap.size) (hh : BarsAt W B (some ⟨bb, o, none⟩) n l) => hk0 ▸ rfind14_any l r.mark (some ⟨bb, o, none⟩) n c B W hw hh)
 have HV := lh (fun w => h1 ▸ rturn_any r.tx r.ty w)
 have HP := lh (fun w => h2 ▸ rnear1_any r.at_ w)
 have HS := lh (fun w => rtwice_any r.step w)
 have hz : ∀ W, (binOp .eql 76 (.agg #[.int .i64 r.step.x, .int .i64 r.step.y, .int .i64 r.step.z]) (.agg #[.int .i64 0, .int .i64 0, .int .i64 0])).run Tryz.prog W = .ok (.bool (S.pt0 r.step)) W := fun W => run_eq0 r.step W
 have z91 : ∀ W, (Instr.build 76 #[]).run Tryz.prog W = .ok (.agg #[.int .i64 0, .int .i64 0, .int .i64 0]) W := fun _ => by kernel_rfl
 obtain ⟨q, hq⟩ : ∃ q : Nat, q = (r.count - 1).toNat := ⟨_, rfl⟩
 have hqi : (q : Int) = r.count - 1 := by omega
 have hcs : (¬ 1 < r.count) ∨ (1 < r.count /\ S.pt0 r.step = false /\ S.near1 r.step 2097152 = true) := by
  by_cases h5 : 1 < r.count
  ·simp [S.rightStep, h5] at h'
   exact .inr ⟨h5, h'⟩
  ·exact .inl h5
 have hst : 0 < q -> S.near1 r.step 2097152 = true := fun hq0 => by
  rcases hcs with h5 | h5
  ·exfalso; omega
  ·exact h5.2.2
 have hl6 := legs_len b.b.code
 have HP0 := lh (fun (W : World) (hw : B <= W.heap.size) (hh : BarAt W B b.A b.n b.b) => show Calls Tryz.prog 173 #[barV b.b b.A b.n b.c, rnV r, .int .i64 0] W (GivesOne 76 3 ((S.legsOf b.b.code).length + 1) ((S.laidPath b.b r 0).flatMap ptC) W) from rpoints_any b.b r 0 b.A b.n b.c B W hw hh hv h1 h2 (by omega) (fun h => absurd h (by omega)) _ rfl)
 have HPQ := lh (fun (W : World) (hw : B <= W.heap.size) (hh : BarAt W B b.A b.n b.b) => rpoints_any b.b r q b.A b.n b.c B W hw hh hv h1 h2 (by omega) hst _ rfl)
 have HN0 := lh (fun (W : World) (A' : Option Addr) (c' : Nat) (B' : Nat) (hw : B' <= W.heap.size) (hh : Cells W B' A' ((S.laidPath b.b r 0).flatMap ptC)) => rnearL_any (S.laidPath b.b r 0) A' ((S.legsOf b.b.code).length + 1) c' B' W (laidPath_len _ _ _) (by omega) hw hh)
 have HNQ := lh (fun (W : World) (A' : Option Addr) (c' : Nat) (B' : Nat) (hw : B' <= W.heap.size) (hh : Cells W B' A' ((S.laidPath b.b r q).flatMap ptC)) => rnearL_any (S.laidPath b.b r q) A' ((S.legsOf b.b.code).length + 1) c' B' W (laidPath_len _ _ _) (by omega) hw hh)
 rw [<- hq]
 have e1 : IntKind.i64.wrap (r.count - 1) = (q : Int) := by rw [IntWalk.i64_in _ (by omega)]; omega
 have HQ := lh hqi
 generalize S.near (S.laidPath b.b r 0) 1048576 = N0 at *
 generalize S.near (S.laidPath b.b r q) 1048576 = NQ at *
 generalize (S.laidPath b.b r 0).flatMap ptC = P0 at *
 generalize (S.laidPath b.b r q).flatMap ptC = PQ at *
 have hj : ¬ (k0 : Int) < 0 := by omega
 have hki : (k0 : Int) < (n : Int) := by omega
 clear hA h h' h0 h1 h2 hv hbk hs' hst hq hqi hk0 hkb
 unfold turnV at HV
 unfold ptV at HP HS
 unfold barV rnV at HP0 HPQ
 unfold rnV
 have hW0 : Below w.heap.size w (w.alloc (.cells #[.string r.mark, .int .i64 r.tx, .int .i64 r.ty, .int .i64 r.at_.x, .int .i64 r.at_.y, .int .i64 r.at_.z, .int .i64 r.step.x, .int .i64 r.step.y, .int .i64 r.step.z, .int .i64 r.count] 142)) := ba_alloc (Below.refl _ _) _
 have HRB := lh (Blk.new w 142 #[.string r.mark, .int .i64 r.tx, .int .i64 r.ty, .int .i64 r.at_.x, .int .i64 r.at_.y, .int .i64 r.at_.z, .int .i64 r.step.x, .int .i64 r.step.y, .int .i64 r.step.z, .int .i64 r.count])
 have HC := lh (show w.cell? ⟨bb, o + k0 * 5, none⟩ = some (.string b.b.mark) /\ w.cell? ⟨bb, o + k0 * 5 + 1, none⟩ = some (.int .i64 b.b.size) /\ w.cell? ⟨bb, o + k0 * 5 + 2, none⟩ = some (.int .i64 b.b.count) /\ w.cell? ⟨bb, o + k0 * 5 + 3, none⟩ = some (.int .i64 b.b.code) /\ w.cell? ⟨bb, o + k0 * 5 + 4, none⟩ = some (.slice b.A b.n b.c) from ⟨c0, c1, c2, c3, c4⟩)
 clear c0 c1 c2 c3 c4
 rcases hcs with h5 | ⟨h5, h6, h7⟩
 case' inl =>
  go_enter Tryz.func120, Tryz.ntmps120
  go_upto_region 6 with (first
   | (go_at_call 168; (with_reducible refine (HI.out _ (by simp; omega) (HA.out.at_ hB bel)).mono ?_); rintro e w1 ⟨rfl, hbw1⟩; obtain ⟨hcw1, hfw1⟩ := bcell hbw1; have hzw1_0 : w.heap.size < w1.heap.size := lt_via hbw1 sz)
   | (go_at_call 169; (with_reducible refine (HV.out _).mono ?_); rintro e w2 ⟨rfl, hbw2⟩; obtain ⟨hcw2, hfw2⟩ := bcell hbw2; have hzw2_0 : w.heap.size < w2.heap.size := lt_via hbw2 sz)
   | (go_at_call 170; (with_reducible refine (HP.out _).mono ?_); rintro e w3 ⟨rfl, hbw3⟩; obtain ⟨hcw3, hfw3⟩ := bcell hbw3; have hzw3_0 : w.heap.size < w3.heap.size := lt_via hbw3 sz)
   | (go_at_call 171; (with_reducible refine (HS.out _).mono ?_); rintro e w4 ⟨rfl, hbw4⟩; obtain ⟨hcw4, hfw4⟩ := bcell hbw4; have hzw4_0 : w.heap.size < w4.heap.size := lt_via hbw4 sz))
  have hb0 : Below w.heap.size w w3 := bel
  have hR0 := ((HRB.out.via hbw1).via hbw2).via hbw3
  clear hcw1 hfw1 hcw2 hfw2 hcw3 hfw3
  clear hbw1 hbw2 hbw3
  generalize w3 = W0 at *
 case' inr =>
  rw [h6] at hz
  rw [h7] at HS
  go_enter Tryz.func120, Tryz.ntmps120
  go_upto_region 6 with (first
   | (go_at_call 168; (with_reducible refine (HI.out _ (by simp; omega) (HA.out.at_ hB bel)).mono ?_); rintro e w1 ⟨rfl, hbw1⟩; obtain ⟨hcw1, hfw1⟩ := bcell hbw1; have hzw1_0 : w.heap.size < w1.heap.size := lt_via hbw1 sz)
   | (go_at_call 169; (with_reducible refine (HV.out _).mono ?_); rintro e w2 ⟨rfl, hbw2⟩; obtain ⟨hcw2, hfw2⟩ := bcell hbw2; have hzw2_0 : w.heap.size < w2.heap.size := lt_via hbw2 sz)
   | (go_at_call 170; (with_reducible refine (HP.out _).mono ?_); rintro e w3 ⟨rfl, hbw3⟩; obtain ⟨hcw3, hfw3⟩ := bcell hbw3; have hzw3_0 : w.heap.size < w3.heap.size := lt_via hbw3 sz)
   | (go_at_call 171; (with_reducible refine (HS.out _).mono ?_); rintro e w4 ⟨rfl, hbw4⟩; obtain ⟨hcw4, hfw4⟩ := bcell hbw4; have hzw4_0 : w.heap.size < w4.heap.size := lt_via hbw4 sz))
  have hb0 : Below w.heap.size w w4 := bel
  have hR0 := (((HRB.out.via hbw1).via hbw2).via hbw3).via hbw4
  clear hcw1 hfw1 hcw2 hfw2 hcw3 hfw3 hcw4 hfw4
  clear hbw1 hbw2 hbw3 hbw4
  generalize w4 = W0 at *
 all_goals (
  have hkeep : ∀ W', Below W0.heap.size W0 W' -> W'.cell? ⟨bb, o + k0 * 5, none⟩ = some (.string b.b.mark) /\ W'.cell? ⟨bb, o + k0 * 5 + 1, none⟩ = some (.int .i64 b.b.size) /\ W'.cell? ⟨bb, o + k0 * 5 + 2, none⟩ = some (.int .i64 b.b.count) /\ W'.cell? ⟨bb, o + k0 * 5 + 3, none⟩ = some (.int .i64 b.b.code) /\ W'.cell? ⟨bb, o + k0 * 5 + 4, none⟩ = some (.slice b.A b.n b.c) /\ W'.cell? ⟨w.heap.size, 0, none⟩ = some (.string r.mark) /\ W'.cell? ⟨w.heap.size, 1, none⟩ = some (.int .i64 r.tx) /\ W'.cell? ⟨w.heap.size, 2, none⟩ = some (.int .i64 r.ty) /\ W'.cell? ⟨w.heap.size, 3, none⟩ = some (.int .i64 r.at_.x) /\ W'.cell? ⟨w.heap.size, 4, none⟩ = some (.int .i64 r.at_.y) /\ W'.cell? ⟨w.heap.size, 5, none⟩ = some (.int .i64 r.at_.z) /\ W'.cell? ⟨w.heap.size, 6, none⟩ = some (.int .i64 r.step.x) /\ W'.cell? ⟨w.heap.size, 7, none⟩ = some (.int .i64 r.step.y) /\ W'.cell? ⟨w.heap.size, 8, none⟩ = some (.int .i64 r.step.z) /\ W'.cell? ⟨w.heap.size, 9, none⟩ = some (.int .i64 r.count) := fun W' hw => by
   have g := (hb0.trans (hw.mono hb0.size))
   have g1 := hR0.via hw
   obtain ⟨c0, c1, c2, c3, c4⟩ := HC.out
   exact ⟨(g.cell (p := ⟨bb, _, none⟩) hbb').trans c0, (g.cell (p := ⟨bb, _, none⟩) hbb').trans c1, (g.cell (p := ⟨bb, _, none⟩) hbb').trans c2, (g.cell (p := ⟨bb, _, none⟩) hbb').trans c3, (g.cell (p := ⟨bb, _, none⟩) hbb').trans c4,
    g1.cell 0, g1.cell 1, g1.cell 2, g1.cell 3, g1.cell 4, g1.cell 5, g1.cell 6, g1.cell 7, g1.cell 8, g1.cell 9⟩
  have HK := lh hkeep
  clear hkeep hz HI HV HP HS HA
  have hrl := hR0.lt
  clear hR0
  obtain ⟨c0, c1, c2, c3, c4, d0, d1, d2, d3, d4, d5, d6, d7, d8, d9⟩ := HK.out W0 (Below.refl _ _)
  have hbb0 : bb < W0.heap.size := by have := hb0.size; omega
  cases N0
  all_goals (
   refine wp_region_mix 1 [5, 0, 9, 0] (by kernel_rfl) (by kernel_rfl) (of_decide_eq_true (by kernel_rfl)) ?_
   try simp only [wpSegs, gt1, gt2, gt3, gt4, List.take_nil, List.drop_nil]
   repeat (go_big_quiet_step (fail))
   refine wpQuiet_nil ?_
   show wpList _ _ _ _ _ _
   go_wp2_with ((go_at_call 173; (with_reducible refine (HP0.out _ (size_via hB belr) (HE.out.at_ hB belr)).mono ?_); rintro e wA ⟨AA, cAA, rfl, hoAA, hbAA⟩; have hcAA := (own_cells hoAA (by unfold maxLen; omega)).1))
   refine seg_next (grow_to belr) ?_
   try simp only [wpSegs, gt1, gt2, gt3, gt4, List.take_nil, List.drop_nil]
   repeat (go_big_quiet_step (fail))
   refine wpQuiet_nil ?_
   show wpList _ _ _ _ _ _
   go_wp2_with ((go_at_call 172; (with_reducible refine (HN0.out _ _ _ _ (Nat.le_refl _) hcAA).mono ?_); rintro e wB ⟨rfl, hbBB⟩; obtain ⟨hxBB, hyBB⟩ := bcell (show Below W0.heap.size W0 wB from belr)))
   refine seg_next (grow_to belr) ?_
   try simp only [wpSegs, gt1, gt2, gt3, gt4, List.take_nil, List.drop_nil]
   repeat (go_big_quiet_step (fail))
   refine wpQuiet_nil ?_
   show wpList _ _ _ _ _ _
   go_wp2_with ((go_at_call 173; (with_reducible refine (HPQ.out _ (size_via hB belr) (HE.out.at_ hB belr)).mono ?_); rintro e wC ⟨AC, cAC, rfl, hoAC, hbAC⟩; have hcAC := (own_cells hoAC (by unfold maxLen; omega)).1))
   refine seg_next (grow_to belr) ?_
   try simp only [wpSegs, gt1, gt2, gt3, gt4, List.take_nil, List.drop_nil]
   repeat (go_big_quiet_step (fail))
   refine wpQuiet_nil ?_
   show wpList _ _ _ _ _ _
   go_wp2_with ((go_at_call 172; (with_reducible refine (HNQ.out _ _ _ _ (Nat.le_refl _) hcAC).mono ?_); rintro e wD ⟨rfl, hbBD⟩; obtain ⟨hxBD, hyBD⟩ := bcell (show Below W0.heap.size W0 wD from belr)))
   refine seg_next (grow_to belr) ?_
   try simp only [wpSegs, gt1, gt2, gt3, gt4, List.take_nil, List.drop_nil]
   repeat (go_big_quiet_step (fail))
   refine wpQuiet_nil ?_
   show wpList _ _ _ _ _ _
   go_wp2
   go_ret
   exact ⟨rfl, belr⟩))
theorem rrun_any (l : List BarR) (r : Rn) (A : Option Addr) (n c : Nat) (B : Nat) (w : World) (hB : B <= w.heap.size) (hA : BarsAt w B A n l) (hs : S.sched (bars l) = true) :
 Calls Tryz.prog 120 #[.slice A n c, rnV r] w fun e w' => e = .returned (.bool (S.right (bars l) r)) /\ Below w.heap.size w w' := by
 rw [<- rrun_eq hs]
 by_cases h : S.rightHead (bars l) r = true
 ·by_cases h' : S.rightStep r = true
  ·obtain ⟨⟨h0, _⟩, _⟩ := rightHead_out h
   have hb := (index_bd (bars l) r.mark).2
   obtain ⟨k, hk⟩ : ∃ k : Nat, S.index (bars l) r.mark = (k : Int) := ⟨(S.index (bars l) r.mark).toNat, by omega⟩
   have hkl : k < l.length := by rw [hk] at hb; simpa using hb
   have e : S.rrun (bars l) r = (S.near (S.laidPath l[k].b r 0) 1048576 && S.near (S.laidPath l[k].b r (r.count - 1).toNat) 1048576) := by
    have : S.barAt (bars l) r.mark = some l[k].b := by
     unfold S.barAt
     rw [hk]
     simp [hkl]
    unfold S.rrun
    rw [h, h', this]
    rfl
   rw [e]
   exact rrun_in l r k l[k] A n c B w hB hA h h' hk (List.getElem?_eq_getElem hkl) (sched_bar hs (k := k) (by simp [hkl])).1
  ·have h2 : S.rightStep r = false := by simpa using h'
   have e : S.rrun (bars l) r = false := by unfold S.rrun; rw [h2]; simp
   rw [e]
   exact rrun_no1 l r A n c B w hB hA h h2
 ·have h2 : S.rightHead (bars l) r = false := by simpa using h
  have e : S.rrun (bars l) r = false := by unfold S.rrun; rw [h2]; simp
  rw [e]
  exact rrun_no0 l r A n c B w hB hA h2
set_option maxHeartbeats 1000000 in
theorem rlaid_any (l : List BarR) (rs : List Rn) (A : Option Addr) (n c : Nat) (A' : Option Addr) (n' c' : Nat) (B : Nat) (w : World) (hB : B <= w.heap.size) (hA : BarsAt w B A n l) (hR : RunsAt w B A' n' rs) :
 Calls Tryz.prog 86 #[.slice A n c, .slice A' n' c'] w fun e w' => e = .returned (.bool (S.laid (bars l) rs)) /\ Below w.heap.size w w' := by
 have HA := lh hA
 have HR := lh hR
 have HS := lh (fun (W : World) (hw : B <= W.heap.size) (hh : BarsAt W B A n l) => rsched_any l A n c B W hw hh)
 have HL := lh (show S.laid (bars l) rs = (S.sched (bars l) && decide (n' <= 60) && (rs.all (S.right (bars l)) && decide (S.sumAll rs <= 2000))) by unfold S.laid; rw [hR.len, runsOk_iff (by omega)])
 have hn := hR.len
 have hnm := hR.max
 by_cases hs : S.sched (bars l) = true
 rotate_left
 ·have hs' : S.sched (bars l) = false := by simpa using hs
  rw [hs'] at HS HL
  clear hA hR hs hs' hn
  go_enter Tryz.func86, Tryz.ntmps86
  go_wp2_with (first
   | (go_at_call 119; (with_reducible refine (HS.out _ hB HA.out).mono ?_); rintro e w1 ⟨rfl, hbw1⟩; obtain ⟨hcw1, hfw1⟩ := bcell hbw1))
  go_ret
  exact ⟨ret_b (by rw [HL.out]; rfl), bel⟩
 rw [hs] at HS HL
 have HRI := lh (fun (r : Rn) (W : World) (hw : B <= W.heap.size) (hh : BarsAt W B A n l) => rrun_any l r A n c B W hw hh hs)
 have HC := lh (fun (r : Rn) (h : S.right (bars l) r = true) => right_count h)
 have HCN := lh (fun (W : World) (hw : B <= W.heap.size) (hh : RunsAt W B A' n' rs) (h60 : n' <= 60) (hc : ∀ k (hk : k < rs.length), 0 <= rs[k].count /\ rs[k].count <= 1000) => rcount16_any rs A' n' c' B W hw hh h60 hc)
 unfold rnV at HRI
 by_cases h60 : 60 < n'
 ·have e : decide (n' <= 60) = false := by simpa using h60
  rw [e] at HL
  clear hA hR hs e hn
  go_enter Tryz.func86, Tryz.ntmps86
  go_wp2_with (first
   | (go_at_call 119; (with_reducible refine (HS.out _ hB HA.out).mono ?_); rintro e w1 ⟨rfl, hbw1⟩; obtain ⟨hcw1, hfw1⟩ := bcell hbw1))
  go_ret
  exact ⟨ret_b (by rw [HL.out]; rfl), bel⟩
 have e : decide (n' <= 60) = true := by simp; omega
 rw [e] at HL
 clear hA hR hs e hn
 go_enter Tryz.func86, Tryz.ntmps86
 go_wp2_with (first
  | (go_at_call 119; (with_reducible refine (HS.out _ hB HA.out).mono ?_); rintro e w1 ⟨rfl, hbw1⟩; obtain ⟨hcw1, hfw1⟩ := bcell hbw1))
 go_loopw [5] (fun i wr => ∃ (k : Nat), k <= n' /\ i = .int .i64 k /\ Hid (∀ j (hj : j < rs.length), j < k -> S.right (bars l) rs[j] = true) /\ Below w1.heap.size w1 wr) (fun i _ => n' - (intOf i).toNat)
 case atStart => exact ⟨0, Nat.zero_le _, rfl, lh (fun j _ hj => absurd hj (by omega)), Below.refl _ _⟩
 case round =>
  obtain ⟨k, hk, rfl, HNO, hbr⟩ := hrel
  have hbwr : Below w.heap.size w wr := hbw1.trans (hbr.mono hbw1.size)
  have hwr : B <= wr.heap.size := by have := hbwr.size; omega
  by_cases hlt : k < n'
  ·have hkx : k < rs.length := by have := HR.out.len; omega
   have hki : (k : Int) < (n' : Int) := by omega
   have HA' := lh (HA.out.at_ hB hbwr)
   have hs' := (HR.out.at_ hB hbwr).cells
   obtain ⟨b, o, hAe, _, _⟩ := hs'.at_ (by rw [flat_len rnC 10 rnC_len]; omega)
   subst hAe
   have c0 := hs'.row0 rnC_len hkx rfl
   have c1 := hs'.rowj rnC_len hkx 1 rfl
   have c2 := hs'.rowj rnC_len hkx 2 rfl
   have c3 := hs'.rowj rnC_len hkx 3 rfl
   have c4 := hs'.rowj rnC_len hkx 4 rfl
   have c5 := hs'.rowj rnC_len hkx 5 rfl
   have c6 := hs'.rowj rnC_len hkx 6 rfl
   have c7 := hs'.rowj rnC_len hkx 7 rfl
   have c8 := hs'.rowj rnC_len hkx 8 rfl
   have c9 := hs'.rowj rnC_len hkx 9 rfl
   have HRX := lh (fun (W : World) (hw : B <= W.heap.size) (hh : BarsAt W B A n l) => HRI.out rs[k] W hw hh)
   have HBAD := lh (fun (h : S.right (bars l) rs[k] = false) => all_no (p := S.right (bars l)) hkx h)
   have HGO := lh (fun (h : S.right (bars l) rs[k] = true) (j : Nat) (hj : j < rs.length) (hjk : j < k + 1) => show S.right (bars l) rs[j] = true from by
    by_cases hjk' : j = k
    ·subst hjk'; exact h
    ·exact HNO.out j hj (by omega))
   clear hs'
   generalize S.right (bars l) rs[k] = t at *
   generalize rs[k] = r at *
   cases t
   ·go_wp2_with (first
     | (go_at_call 120; (with_reducible refine (HRX.out _ hwr HA'.out).mono ?_); rintro e w2 ⟨rfl, hbw2⟩; obtain ⟨hcw2, hfw2⟩ := bcell hbw2))
    go_ret
    exact ⟨ret_b (by rw [HL.out, HBAD.out trivial]; rfl), hbwr.trans (hbw2.mono hbwr.size)⟩
   ·go_wp2_with (first
     | (go_at_call 120; (with_reducible refine (HRX.out _ hwr HA'.out).mono ?_); rintro e w2 ⟨rfl, hbw2⟩; obtain ⟨hcw2, hfw2⟩ := bcell hbw2))
    go_roundw
    case rel => exact ⟨k + 1, by omega, by go_num, lh (HGO.out trivial), hbr.trans (hbw2.mono hbr.size)⟩
    case measure => simp [intOf]; omega
  ·have hall : ∀ j (hj : j < rs.length), S.right (bars l) rs[j] = true := fun j hj => HNO.out j hj (by have := HR.out.len; omega)
   have HAL := lh (all_yes (p := S.right (bars l)) hall)
   have HCX := lh (HCN.out wr hwr (HR.out.at_ hB hbwr) (by omega) (fun j hj => by have := HC.out _ (hall j hj); omega))
   clear hall
   generalize S.sumAll rs = sm at *
   go_wp2_with (first
    | (go_at_call 121; (with_reducible refine (HCX.out).mono ?_); rintro e w' ⟨rfl, rfl⟩))
   go_ret
   exact ⟨ret_b (by rw [HL.out, HAL.out]; simp), hbwr⟩
theorem rplace_any (rs : List Rn) (A : Option Addr) (n c : Nat) (B : Nat) (w : World) (hB : B <= w.heap.size) (hR : RunsAt w B A n rs) (hc : ∀ k (hk : k < rs.length), 0 <= rs[k].count) (i k j : Nat) (hk : k < rs.length) (hi : (i : Int) = S.sumTo rs k + j) (hj : (j : Int) < rs[k].count) (hi64 : i <= 1000000) :
 Calls Tryz.prog 199 #[.slice A n c, .int .i64 i] w fun e w' => e = .returned (.tuple #[.int .i64 k, .int .i64 j]) /\ w = w' := by
 have HN := lh hR.len
 have HS := lh hR.cells
 have hnm := hR.max
 have hkn : k < n := by have := hR.len; omega
 have HSM := lh (fun (m : Nat) (hm : m <= k) => sumTo_mono (rs := rs) hc hm (by omega))
 have HSZ := lh (fun (m : Nat) (hm : m <= rs.length) => sumTo_mono (rs := rs) hc (Nat.zero_le m) hm)
 have HSS := lh (fun (m : Nat) (hm : m < rs.length) => sumTo_succ rs hm)
 have HI := lh hi
 have HJ := lh hj
 clear hR hi hj
 go_enter Tryz.func199, Tryz.ntmps199
 go_wp2
 go_loop [1, 6] (fun v m => ∃ q : Nat, q <= k /\ m = .int .i64 q /\ v = .int .i64 ((i : Int) - S.sumTo rs q)) (fun _ m => k - (intOf m).toNat)
 case atStart => exact ⟨0, Nat.zero_le _, rfl, by rw [sumTo_zero]; simp⟩
 case round =>
  obtain ⟨q, hq, rfl, rfl⟩ := hrel
  have hl := HN.out
  have hqx : q < rs.length := by omega
  have hqi : (q : Int) < (n : Int) := by omega
  have hs' := HS.out
  obtain ⟨b, o, rfl, _, _⟩ := hs'.at_ (by rw [flat_len rnC 10 rnC_len]; omega)
  have c9 := hs'.rowj rnC_len hqx 9 rfl
  have h0 := HSZ.out q (by omega)
  rw [sumTo_zero] at h0
  have h1 := HI.out
  have h2 := HSM.out q hq
  have h3 := HSS.out q hqx
  have h5 := hc q hqx
  clear hs' hl
  by_cases hlt : q < k
  ·have h4 := HSM.out (q + 1) (by omega)
   have hge : rs[q].count <= (i : Int) - S.sumTo rs q := by omega
   have e1 : IntKind.i64.wrap ((i : Int) - S.sumTo rs q - rs[q].count) = (i : Int) - S.sumTo rs (q + 1) := by
    rw [IntWalk.i64_in _ (by omega)]; omega
   have hd : decide (rs[q].count <= (i : Int) - S.sumTo rs q) = true := decide_eq_true hge
   clear h0 h1 h2 h3 h4 h5
   generalize hs1 : S.sumTo rs (q + 1) = s1 at *
   have HS1 := lh hs1
   clear hs1
   generalize S.sumTo rs q = s0 at *
   generalize rs[q].count = cq at *
   go_wp2
   go_round
   case rel => exact ⟨q + 1, by omega, by go_num, by rw [HS1.out]⟩
   case measure => simp [intOf]; omega
  ·have hqk : q = k := by omega
   subst hqk
   have hj' := HJ.out
   have hlt2 : ¬ rs[q].count <= (i : Int) - S.sumTo rs q := by omega
   have HE := lh (show (i : Int) - S.sumTo rs q = j by omega)
   clear h0 h1 h2 h3 hj'
   generalize (i : Int) - S.sumTo rs q = v at *
   generalize rs[q].count = cq at *
   go_wp2
   go_ret2
   exact ⟨ret_2 rfl HE.out, rfl⟩
structure Lies (l : List BarR) (rs : List Rn) (i k j k0 : Nat) (r : BarR) : Prop where
 st : Stands (bars l) rs i k j k0 r.b
 get : l[k0]? = some r
 cnt : ∀ k (hk : k < rs.length), 0 <= rs[k].count /\ rs[k].count <= 1000
 lim : i <= 1000000
theorem lies_of {l : List BarR} {rs : List Rn} (h : S.laid (bars l) rs = true) {i : Nat} (hi : i < (S.mains (bars l) rs).length) : ∃ k j k0 r, Lies l rs i k j k0 r := by
 obtain ⟨k, j, k0, b, hs⟩ := stands_of h hi
 have hg := hs.ok.get
 rw [List.getElem?_map] at hg
 cases hr : l[k0]? with
 | none => rw [hr] at hg; cases hg
 | some r =>
  rw [hr] at hg
  simp only [Option.map_some, Option.some.injEq] at hg
  subst hg
  simp only [S.laid, Bool.and_eq_true, decide_eq_true_eq] at h
  have hml := mains_len h.2 (by omega)
  exact ⟨k, j, k0, r, hs, hr, fun k hk => by have := right_count (runs_in h.2 (List.getElem_mem hk)); omega, by omega⟩
set_option maxHeartbeats 1000000 in
theorem rbar16_any (l : List BarR) (rs : List Rn) (A : Option Addr) (n c : Nat) (A' : Option Addr) (n' c' : Nat) (B : Nat) (w : World) (hB : B <= w.heap.size) (hA : BarsAt w B A n l) (hR : RunsAt w B A' n' rs) (i k j k0 : Nat) (r : BarR) (hL : Lies l rs i k j k0 r) :
 Calls Tryz.prog 150 #[.slice A n c, .slice A' n' c', .int .i64 i] w fun e w' => e = .returned (barV r.b r.A r.n r.c) /\ Below w.heap.size w w' := by
 have HA := lh hA
 have hkx := hL.st.lt
 have hkn : k < n' := by have := hR.len; omega
 have hki : (k : Int) < (n' : Int) := by omega
 have HP := lh (fun (W : World) (hw : B <= W.heap.size) (hh : RunsAt W B A' n' rs) => rplace_any rs A' n' c' B W hw hh (fun k hk => (hL.cnt k hk).1) i k j hkx hL.st.sum hL.st.inr hL.lim)
 have HR := lh hR
 have hix := hL.st.ok.index
 obtain ⟨hk0, hrg⟩ := List.getElem?_eq_some_iff.1 hL.get
 have hk0n : k0 < n := by have := hA.len; omega
 have hk0i : (k0 : Int) < (n : Int) := by omega
 have HF := lh (fun (W : World) (hw : B <= W.heap.size) (hh : BarsAt W B A n l) => hix ▸ rfind14_any l rs[k].mark A n c B W hw hh)
 have hs' := hR.cells
 obtain ⟨b, o, hAe, hbB, _⟩ := hs'.at_ (by rw [flat_len rnC 10 rnC_len]; omega)
 subst hAe
 have c0 := hs'.row0 rnC_len hkx rfl
 have hs2 := hA.cells
 obtain ⟨b2, o2, hAe2, hbB2, _⟩ := hs2.at_ (by rw [flat_len barC 5 barC_len]; omega)
 subst hAe2
 have d0 := hs2.row0 barC_len hk0 rfl
 have d1 := hs2.rowj barC_len hk0 1 rfl
 have d2 := hs2.rowj barC_len hk0 2 rfl
 have d3 := hs2.rowj barC_len hk0 3 rfl
 have d4 := hs2.rowj barC_len hk0 4 rfl
 rw [hrg] at d0 d1 d2 d3 d4
 have hb1 : b < w.heap.size := by omega
 have hb2 : b2 < w.heap.size := by omega
 clear hA hR hs' hs2 hix hrg
 clear hL
 generalize rs[k].mark = mk at *
 unfold barV
 go_enter Tryz.func150, Tryz.ntmps150
 go_wp2_with (first
  | (go_at_call 199; (with_reducible refine (HP.out _ (size_via hB bel) (HR.out.at_ hB bel)).mono ?_); rintro e w' ⟨rfl, rfl⟩)
  | (go_at_call 168; (with_reducible refine (HF.out _ (size_via hB bel) (HA.out.at_ hB bel)).mono ?_); rintro e w2 ⟨rfl, hbw2⟩; obtain ⟨hcw2, hfw2⟩ := bcell hbw2; have hzw2_0 : w.heap.size < w2.heap.size := lt_via hbw2 sz))
 have hbel : Below w.heap.size w w2 := bel
 exact bodyPost_ret (v := .agg #[.string r.b.mark, .int .i64 r.b.size, .int .i64 r.b.count, .int .i64 r.b.code, .slice r.A r.n r.c]) (by simp [results, Tryz.results150, go_sem, *]) rfl ⟨rfl, (((((hbel.setCell (Nat.le_refl _) _).setCell (Nat.le_refl _) _).setCell (Nat.le_refl _) _).setCell (Nat.le_refl _) _).setCell (Nat.le_refl _) _)⟩
set_option maxHeartbeats 2000000 in
theorem rpoints16_any (l : List BarR) (rs : List Rn) (A : Option Addr) (n c : Nat) (A' : Option Addr) (n' c' : Nat) (B : Nat) (w : World) (hB : B <= w.heap.size) (hA : BarsAt w B A n l) (hR : RunsAt w B A' n' rs) (i k j k0 : Nat) (r : BarR) (hL : Lies l rs i k j k0 r) (L : Nat) (hLL : (S.legsOf r.b.code).length = L) :
 Calls Tryz.prog 193 #[.slice A n c, .slice A' n' c', .int .i64 i] w (GivesOne 76 3 (L + 1) ((S.laidPath r.b (rs[k]'hL.st.lt) j).flatMap ptC) w) := by
 have HA := lh hA
 have hkx := hL.st.lt
 have hkn : k < n' := by have := hR.len; omega
 have hki : (k : Int) < (n' : Int) := by omega
 have HP := lh (fun (W : World) (hw : B <= W.heap.size) (hh : RunsAt W B A' n' rs) => rplace_any rs A' n' c' B W hw hh (fun k hk => (hL.cnt k hk).1) i k j hkx hL.st.sum hL.st.inr hL.lim)
 have HR := lh hR
 have HBR := lh (fun (W : World) (hw : B <= W.heap.size) (hh : BarsAt W B A n l) (hr : RunsAt W B A' n' rs) => rbar16_any l rs A n c A' n' c' B W hw hh hr i k j k0 r hL)
 obtain ⟨hk0, hrg⟩ := List.getElem?_eq_some_iff.1 hL.get
 have HE := lh (hrg ▸ hA.each l[k0] (List.getElem_mem hk0))
 have hok := hL.st.ok
 have hcn := hL.cnt k hkx
 have hjr := hL.st.inr
 have hst : 0 < j -> S.near1 rs[k].step 2097152 = true := fun hj => by
  have h1 := hok.start 1 (by omega) (by omega)
  have h2 := hok.home
  obtain ⟨ax, ay, az⟩ := near1_out h2
  obtain ⟨bx, by', bz⟩ := near1_out h1
  rw [show S.plus rs[k].at_ rs[k].step 1 = ⟨rs[k].at_.x + 1 * rs[k].step.x, rs[k].at_.y + 1 * rs[k].step.y, rs[k].at_.z + 1 * rs[k].step.z⟩ from rfl] at bx by' bz
  simp only [S.near1, Bool.and_eq_true, decide_eq_true_eq]
  simp only [] at bx by' bz
  omega
 have HPT := lh (fun (W : World) (hw : B <= W.heap.size) (hh : BarAt W B r.A r.n r.b) => rpoints_any r.b rs[k] j r.A r.n r.c B W hw hh hok.bar hok.turn hok.home (by omega) hst L hLL)
 have hs' := hR.cells
 obtain ⟨b, o, hAe, hbB, _⟩ := hs'.at_ (by rw [flat_len rnC 10 rnC_len]; omega)
 subst hAe
 have c0 := hs'.row0 rnC_len hkx rfl
 have c1 := hs'.rowj rnC_len hkx 1 rfl
 have c2 := hs'.rowj rnC_len hkx 2 rfl
 have c3 := hs'.rowj rnC_len hkx 3 rfl
 have c4 := hs'.rowj rnC_len hkx 4 rfl
 have c5 := hs'.rowj rnC_len hkx 5 rfl
 have c6 := hs'.rowj rnC_len hkx 6 rfl
 have c7 := hs'.rowj rnC_len hkx 7 rfl
 have c8 := hs'.rowj rnC_len hkx 8 rfl
 have c9 := hs'.rowj rnC_len hkx 9 rfl
 have hb1 : b < w.heap.size := by omega
 clear hA hR hs' hrg hok hcn hjr hst
 generalize S.laidPath r.b rs[k] j = LP at *
 generalize rs[k] = rr at *
 unfold barV at HBR HPT
 unfold rnV at HPT
 go_enter Tryz.func193, Tryz.ntmps193
 go_wp2_with (first
  | (go_at_call 199; (with_reducible refine (HP.out _ (size_via hB bel) (HR.out.at_ hB bel)).mono ?_); rintro e w' ⟨rfl, rfl⟩))
 refine wp_region_mix 0 [3, 5] (by kernel_rfl) (by kernel_rfl) (of_decide_eq_true (by kernel_rfl)) ?_
 try simp only [wpSegs, gt1, gt2, gt3, gt4, List.take_nil, List.drop_nil]
 repeat (go_big_quiet_step (fail))
 refine wpQuiet_nil ?_
 show wpList _ _ _ _ _ _
 go_wp2_with ((go_at_call 150; (with_reducible refine (HBR.out _ (size_via hB belr) (HA.out.at_ hB belr) (HR.out.at_ hB belr)).mono ?_); rintro e w1 ⟨rfl, hbw1⟩))
 refine seg_next (grow_to belr) ?_
 try simp only [wpSegs, gt1, gt2, gt3, gt4, List.take_nil, List.drop_nil]
 repeat (go_big_quiet_step (fail))
 refine wpQuiet_nil ?_
 show wpList _ _ _ _ _ _
 go_wp2_with ((go_at_call 173; (with_reducible refine (HPT.out _ (size_via hB belr) (HE.out.at_ hB belr)).mono ?_); rintro e w2 ⟨A2, c2', rfl, ho2, hbw2⟩))
 refine seg_next (grow_to belr) ?_
 try simp only [wpSegs, gt1, gt2, gt3, gt4, List.take_nil, List.drop_nil]
 repeat (go_big_quiet_step (fail))
 refine wpQuiet_nil ?_
 show wpList _ _ _ _ _ _
 go_wp2
 go_ret
 exact ⟨A2, c2', rfl, own_mono ho2 (show w.heap.size <= w1.heap.size from Below.size (w := w) belr), belr⟩
structure It where
 k : Nat
 A : Option Addr
 pts : List Pt
abbrev itE (y : It) : Array Value := #[.int .i64 y.k, .slice y.A y.pts.length y.pts.length]
structure KpL (B : Nat) (M : List Nat) (A C : World) : Prop where
 bel : Below B A C
 cells : ∀ k cs t fr, k ∉ M -> A.heap[k]? = some (.cells cs t fr) -> C.heap[k]? = some (.cells cs t fr)
theorem KpL.blk {B : Nat} {M : List Nat} {A C : World} (h : KpL B M A C) {g : Nat} {t : TypeId} {cs : Array Value} (hb : Blk A g t cs) (hg : g ∉ M) : Blk C g t cs := h.cells g cs t _ hg hb
def itR (x : Dt) (n0 : Nat) (pre : List It) (y : It) (V : World) : Prop :=
 y.k = pre.length /\ (∃ k j k0 r, ∃ hL : Lies x.bs x.rs y.k k j k0 r, y.pts = S.laidPath r.b (x.rs[k]'hL.st.lt) j) /\ ∃ g, y.A = some ⟨g, 0, none⟩ /\ n0 <= g /\ Blk V g 76 (y.pts.flatMap ptC).toArray
def fillA (cs : List Value) (m : Nat) : Array Value := (cs.take m ++ List.replicate (cs.length - m) (Value.int .i64 0)).toArray
theorem fillA_zero (cs : List Value) : fillA cs 0 = (List.replicate cs.length (Value.int .i64 0)).toArray := by simp [fillA]
theorem fillA_full (cs : List Value) : fillA cs cs.length = cs.toArray := by simp [fillA]
theorem fillA_get {cs : List Value} {m j : Nat} (hj : j < cs.length) : (fillA cs m)[j]? = if j < m then cs[j]? else some (Value.int .i64 0) := by
 unfold fillA
 simp only [List.getElem?_toArray]
 by_cases h : j < m
 ·rw [if_pos h, List.getElem?_append_left (by simp; omega), List.getElem?_take, if_pos h]
 ·have hl : (cs.take m).length = m := by rw [List.length_take]; omega
  rw [if_neg h, List.getElem?_append_right (by omega), hl, List.getElem?_replicate, if_pos (by omega)]
theorem fillA_out {cs : List Value} {m j : Nat} (hm : m <= cs.length) (hj : cs.length <= j) : (fillA cs m)[j]? = none := by
 rw [Array.getElem?_eq_none]
 simp [fillA]
 omega
theorem fillA_three {cs : List Value} {m : Nat} (hm : m + 3 <= cs.length) {D : Array Value} (hD : D = fillA cs m ∨ ∃ u0 u1 u2, D = (((fillA cs m).setIfInBounds m u0).setIfInBounds (m + 1) u1).setIfInBounds (m + 2) u2) {v0 v1 v2 : Value} (h0 : cs[m]? = some v0) (h1 : cs[m + 1]? = some v1) (h2 : cs[m + 2]? = some v2) :
 ((D.setIfInBounds m v0).setIfInBounds (m + 1) v1).setIfInBounds (m + 2) v2 = fillA cs (m + 3) := by
 have hz : (fillA cs m).size = cs.length := by simp [fillA]; omega
 have hs : D.size = cs.length := by
  rcases hD with rfl | ⟨u0, u1, u2, rfl⟩
  ·exact hz
  ·simpa using hz
 have hget : ∀ j, j ≠ m -> j ≠ m + 1 -> j ≠ m + 2 -> D[j]? = (fillA cs m)[j]? := by
  intro j a b c
  rcases hD with rfl | ⟨u0, u1, u2, rfl⟩
  ·rfl
  ·rw [Array.getElem?_setIfInBounds, if_neg (by omega), Array.getElem?_setIfInBounds, if_neg (by omega), Array.getElem?_setIfInBounds, if_neg (by omega)]
 apply Array.ext_getElem?
 intro j
 by_cases hj : j < cs.length
 ·rw [fillA_get hj]
  by_cases e2 : j = m + 2
  ·subst e2
   rw [if_pos (by omega), Array.getElem?_setIfInBounds, if_pos rfl, if_pos (by simp [hs]; omega), h2]
  ·rw [Array.getElem?_setIfInBounds, if_neg (by omega)]
   by_cases e1 : j = m + 1
   ·subst e1
    rw [if_pos (by omega), Array.getElem?_setIfInBounds, if_pos rfl, if_pos (by simp [hs]; omega), h1]
   ·rw [Array.getElem?_setIfInBounds, if_neg (by omega)]
    by_cases e0 : j = m
    ·subst e0
     rw [if_pos (by omega), Array.getElem?_setIfInBounds, if_pos rfl, if_pos (by simp [hs]; omega), h0]
    ·rw [Array.getElem?_setIfInBounds, if_neg (by omega), hget j e0 e1 e2, fillA_get hj]
     by_cases h : j < m
     ·rw [if_pos h, if_pos (by omega)]
     ·rw [if_neg h, if_neg (by omega)]
 ·rw [fillA_out (by omega) (by omega), Array.getElem?_eq_none]
  simp [hs]
  omega
theorem three_get {D : Array Value} {m : Nat} (h : m + 3 <= D.size) (a b c : Value) :
 (((D.setIfInBounds m a).setIfInBounds (m + 1) b).setIfInBounds (m + 2) c)[m]? = some a /\ (((D.setIfInBounds m a).setIfInBounds (m + 1) b).setIfInBounds (m + 2) c)[m + 1]? = some b /\ (((D.setIfInBounds m a).setIfInBounds (m + 1) b).setIfInBounds (m + 2) c)[m + 2]? = some c := by
 refine ⟨?_, ?_, ?_⟩
 ·rw [Array.getElem?_setIfInBounds, if_neg (by omega), Array.getElem?_setIfInBounds, if_neg (by omega), Array.getElem?_setIfInBounds, if_pos rfl, if_pos (by omega)]
 ·rw [Array.getElem?_setIfInBounds, if_neg (by omega), Array.getElem?_setIfInBounds, if_pos rfl, if_pos (by simp; omega)]
 ·rw [Array.getElem?_setIfInBounds, if_pos rfl, if_pos (by simp; omega)]
theorem fillA_size {cs : List Value} {m : Nat} (h : m <= cs.length) : (fillA cs m).size = cs.length := by
 simp [fillA]
 omega
theorem laid_map {b : Bar} {r : Rn} (ht : S.turn r.tx r.ty = true) (h : S.bar b = true) (j : Nat) : (S.turned b r).map (S.laidPt r j) = S.laidPath b r j := by
 rw [turned_eq ht h]
 unfold S.laidPath
 rw [List.map_map]
 apply List.map_congr_left
 intro p _
 show S.laidPt r j (S.placed r.tx r.ty ⟨0, 0, 0⟩ p) = S.placed r.tx r.ty (S.plus r.at_ r.step j) p
 unfold S.laidPt S.placed S.plus
 by_cases hj : (0 : Int) < (j : Int)
 ·rw [if_pos hj]
  simp only [Pt.mk.injEq]
  omega
 ·have h0 : j = 0 := by omega
  subst h0
  rw [if_neg hj]
  simp only [Pt.mk.injEq]
  omega
theorem laid_bounds {bs : List Bar} {r : Rn} {k0 : Nat} {b : Bar} (ho : RunOk bs r k0 b) {p : Pt} (hp : p ∈ S.turned b r) {j : Nat} (hj : (j : Int) < r.count) :
 S.near1 p 4398046511104 = true /\ S.near1 r.at_ 4194304 = true /\ S.near1 (S.plus p r.at_ 1) 4398046511104 = true /\ ((0 : Int) < j -> S.near1 r.step 4194304 = true) := by
 have h1 : S.near1 p 4194304 = true := fpath_near hp
 have h2 := plus_near h1 ho.home (k := 1) (c := 1) (by omega) (by omega)
 refine ⟨near1_mono h1 (by omega), near1_mono ho.home (by omega), near1_mono h2 (by omega), fun h0 => ?_⟩
 obtain ⟨ax, ay, az⟩ := near1_out ho.home
 obtain ⟨bx, by', bz⟩ := near1_out (ho.start 1 (by omega) (by omega))
 simp only [S.plus] at bx by' bz
 simp only [S.near1, Bool.and_eq_true, decide_eq_true_eq]
 omega
theorem lies_at {l : List BarR} {rs : List Rn} (h : S.laid (bars l) rs = true) {i k j k0 : Nat} {b : BarR} (hk : k < rs.length) (hg : l[k0]? = some b) (ho : RunOk (bars l) rs[k] k0 b.b) (hi : (i : Int) = S.sumTo rs k + j) (hj : (j : Int) < rs[k].count) : Lies l rs i k j k0 b := by
 have hh := h
 simp only [S.laid, Bool.and_eq_true, decide_eq_true_eq] at hh
 obtain ⟨⟨hs, hl⟩, hr⟩ := hh
 have hin : ∀ r, r ∈ rs -> S.right (bars l) r = true := fun r hr' => runs_in hr hr'
 have hm := mains_sum hs hin (k := k) (by omega)
 have hsn := mains_snoc (bars l) rs hk ho.at_
 have hlen : i < (S.mains (bars l) rs).length := by
  have hm2 := mains_sum hs hin (k := k + 1) (by omega)
  rw [sumTo_succ rs hk] at hm2
  have hm3 := mains_sum hs hin (k := rs.length) (Nat.le_refl _)
  rw [List.take_length] at hm3
  have hmono := sumTo_mono (rs := rs) (fun q hq => by have := right_count (hin _ (List.getElem_mem hq)); omega) (show k + 1 <= rs.length by omega) (Nat.le_refl _)
  rw [sumTo_succ rs hk] at hmono
  omega
 obtain ⟨k', j', k0', b', hL⟩ := lies_of h hlen
 refine ⟨⟨hk, ho, hi, hj, ?_⟩, hg, hL.cnt, hL.lim⟩
 -- the same place: read it off the lists
 have hpre : S.mains (bars l) rs = S.mains (bars l) (rs.take (k + 1)) ++ S.mains (bars l) (rs.drop (k + 1)) := by
  unfold S.mains
  rw [<- List.flatMap_append, List.take_append_drop]
 rw [hpre, List.getElem?_append_left (by rw [hsn, List.length_append, mainsOf_len]; omega), hsn, List.getElem?_append_right (by omega)]
 have e : i - (S.mains (bars l) (rs.take k)).length = j := by omega
 rw [e]
 unfold S.mainsOf
 rw [List.getElem?_map, List.getElem?_range (by omega)]
 rfl
attribute [local go_sem] Oper.semAt_some
theorem pointInfo : (Tryz.prog.info? 76).map (fun i => (i.zero, i.size, i.bytes)) = some (some (.agg #[.int .i64 0, .int .i64 0, .int .i64 0]), 3, 24) := by kernel_rfl
theorem Blk.of_own {w : World} {base E size : Nat} {A : Option Addr} {n c : Nat} {xs : List Value} (h : w.ownsRow base E size (.slice A n c) n xs) (hn : 0 < n) (hm : n <= maxLen) :
 ∃ (g : Nat) (cur : Array Value) (t : TypeId) (fr : Nat × Nat), A = some ⟨g, 0, none⟩ /\ base <= g /\ w.heap[g]? = some (.cells cur t fr) /\ ∀ (j : Nat) (v : Value), xs[j]? = some v -> cur[j]? = some v := by
 have hc := (own_cells h hm).1
 rcases h.2 with ⟨_, h0⟩ | ⟨g, cap, cur, hv, hbg, hh, _⟩
 ·omega
 ·injection hv with hA _ _
  subst hA
  refine ⟨g, _, _, _, rfl, hbg, hh, fun j v hj => ?_⟩
  have h1 := h.cells (g := g) rfl j v hj
  have e : (⟨g, 0, none⟩ : Addr).add j = ⟨g, j, none⟩ := by unfold Addr.add; split <;> simp_all
  rw [e] at h1
  have h2 := cell_of_row w g j _ _ _ hh
  rw [h2] at h1
  exact h1
theorem made_three (n : Nat) (z : Value) : madeCells #[z, z, z] (n * 3) = (List.replicate (n * 3) z).toArray := by
 apply Array.ext_getElem?
 intro j
 by_cases hj : j < n * 3
 ·have h3 : j % 3 = 0 ∨ j % 3 = 1 ∨ j % 3 = 2 := by omega
  have e : (madeCells #[z, z, z] (n * 3))[j]? = some z := by
   unfold madeCells
   rw [Array.getElem?_map, Array.getElem?_range, if_pos (by simpa using hj)]
   simp only [Option.map_some]
   rcases h3 with h | h | h <;> simp [h]
  rw [e]
  simp [hj]
 ·rw [Array.getElem?_eq_none (by simp [madeCells]; omega), Array.getElem?_eq_none (by simp; omega)]
theorem make_points (cs : List Value) (n : Nat) (hn : n <= 100) (hc : cs.length = n * 3) (V : World) :
 (Instr.makeSlice 229 (.int .i64 (n : Int)) (.int .i64 (n : Int))).run Tryz.prog V = .ok (.slice (some ⟨V.heap.size, 0, none⟩) n n) (V.alloc (.cells (fillA cs 0) 76)) := by
 obtain ⟨i, hi, hz, hsz, hby⟩ := info_parts pointInfo
 have := run_make (P := Tryz.prog) V 229 76 i _ Tryz.underlying229 hi hz .i64 .i64 (n : Int) (n : Int) (by omega) (Int.le_refl _) (by rw [hby]; omega) (by omega)
 rw [this, hsz, fillA_zero, hc, <- made_three]
 rfl
set_option maxRecDepth 20000 in
set_option maxHeartbeats 8000000 in
theorem lall_laid (x : Dt) (B n0 : Nat) (M : List Nat) (b2 b3 : Nat) (m : Nat) (w : World) (h1 : 1 <= m) (hB : B <= n0) (hn0 : n0 <= w.heap.size) (hM : ∀ k, k ∈ M -> B <= k /\ k < n0) (h2M : b2 ∉ M) (h3M : b3 ∉ M) (hA : DtAt w B x) (h : S.laid (bars x.bs) x.rs = true)
 (hb3 : Blk w b3 28 #[.slice x.rA x.rn x.rc]) (hb2 : Blk w b2 27 #[.slice x.bA x.bn x.bc]) :
 SeqLaid Fence.wide m Tryz.prog 275 #[.pointer (some ⟨b3, 0, none⟩), .pointer (some ⟨b2, 0, none⟩)] itE (KpL B M) (itR x n0) (fun xs => (xs.length : Int) = S.sumAll x.rs) w := by
 intro l J Jx W hbW hJ hJx hY h0
 refine callsIn_wide.2 ?_
 show Calls Tryz.prog 275 #[.func (.yield l) #[] #[], .pointer (some ⟨b3, 0, none⟩), .pointer (some ⟨b2, 0, none⟩)] W _
 have hBw : B <= w.heap.size := by omega
 have hAW := hA.at_ hBw hbW
 have hRc := hAW.runs.cells
 have hrl := hAW.runs.len
 have hrm := hAW.runs.max
 have HBS := lh hAW.bars
 have hb3W := hb3.via hbW
 have hb2W := hb2.via hbW
 have HF := lh (fun (k : Nat) (hk : k < x.rs.length) => run_facts (x := x) (B := B) (w := w) h hk)
 have HL := lh h
 have HJ := lh hJ
 have HJx := lh hJx
 have HY := lh hY
 have hWs := hbW.size
 have hWB : B <= W.heap.size := by omega
 clear hA hAW hJ hJx hY h hb3 hb2 hbW
 generalize hrA : x.rA = rA at *
 clear hrA
 have c3 := hb3W.cell 0
 have c2 := hb2W.cell 0
 have l3 := hb3W.lt
 have l2 := hb2W.lt
 simp only [ga1, ga2, ga3] at c3 c2
 go_enter Tryz.func275, Tryz.ntmps275
 go_wp2
 go_loopw [14, 4] (fun s t wr => ∃ (k : Nat) (pre : List It), k <= x.rn /\ s = .int .i64 k /\ t = .int .i64 pre.length /\ Hid ((pre.length : Int) = S.sumTo x.rs k) /\ J pre wr /\ Below B W wr /\ Blk wr b3 28 #[.slice rA x.rn x.rc] /\ Blk wr b2 27 #[.slice x.bA x.bn x.bc] /\ W.heap.size <= wr.heap.size) (fun s _ _ => x.rn - (intOf s).toNat)
 case atStart => exact ⟨0, [], Nat.zero_le _, rfl, rfl, lh (by rw [sumTo_zero]; rfl), h0, Below.refl _ _, hb3W, hb2W, Nat.le_refl _⟩
 case round =>
  obtain ⟨k, pre, hk, rfl, rfl, hsum, hJr, hbr, hB3, hB2, hWr⟩ := hrel
  clear c3 c2 l3 l2 hb3W hb2W h0
  by_cases hlt : k < x.rn
  ·have hkx : k < x.rs.length := by omega
   have hki : (k : Int) < x.rn := by omega
   have hRr := hRc.below hbr
   obtain ⟨bR, oR, hRe, hbR, hxx⟩ := hRr.at_ (by rw [flat_len rnC 10 rnC_len]; omega)
   clear hxx
   subst hRe
   have c0 := hRr.row0 rnC_len hkx rfl
   have d1 := hRr.rowj rnC_len hkx 1 rfl
   have d2 := hRr.rowj rnC_len hkx 2 rfl
   have d3 := hRr.rowj rnC_len hkx 3 rfl
   have d4 := hRr.rowj rnC_len hkx 4 rfl
   have d5 := hRr.rowj rnC_len hkx 5 rfl
   have d6 := hRr.rowj rnC_len hkx 6 rfl
   have d7 := hRr.rowj rnC_len hkx 7 rfl
   have d8 := hRr.rowj rnC_len hkx 8 rfl
   have d9 := hRr.rowj rnC_len hkx 9 rfl
   obtain ⟨k0, b, hget, hok, hfe, hfi, hle⟩ := HF.out k hkx
   have hbRl : bR < wr.heap.size := by omega
   have HOK := lh hok
   have HTU := lh (fun (V : World) (hV : B <= V.heap.size) (hh : BarsAt V B x.bA x.bn x.bs) => turned_any x.bs x.rs[k] k0 b x.bA x.bn x.bc B V hV hh hok.index hget hok.bar)
   have hcnt := hok.count
   have hTL : (S.turned b.b x.rs[k]).length = (S.legsOf b.b.code).length + 1 := by
    rw [<- path_len b.b, <- List.length_map (f := S.laidPt x.rs[k] ((0 : Nat) : Int)), laid_map hok.turn hok.bar]
    simp [S.laidPath]
   have hl6 := legs_len b.b.code
   have hT0 : 0 < (S.turned b.b x.rs[k]).length /\ (S.turned b.b x.rs[k]).length <= 100 := by omega
   clear hTL hl6
   have HLIES := lh (fun (j : Nat) (hj : (j : Int) < x.rs[k].count) (i : Nat) (hi : (i : Int) = S.sumTo x.rs k + j) => lies_at HL.out hkx hget hok hi hj)
   unfold rnV at HTU
   clear hRr hok hfe hfi
   generalize hrk : x.rs[k] = r at *
   have e3 := hB3.cell 0
   have e2 := hB2.cell 0
   have l3 := hB3.lt
   have l2 := hB2.lt
   simp only [ga1, ga2, ga3] at e3 e2
   go_upto_region 4 with fail
   have hW6 : Below wr.heap.size wr (wr.alloc (.cells #[.string r.mark, .int .i64 r.tx, .int .i64 r.ty, .int .i64 r.at_.x, .int .i64 r.at_.y, .int .i64 r.at_.z, .int .i64 r.step.x, .int .i64 r.step.y, .int .i64 r.step.z, .int .i64 r.count] 142)) := ba_alloc (Below.refl _ _) _
   have hB6 := Blk.new wr 142 #[.string r.mark, .int .i64 r.tx, .int .i64 r.ty, .int .i64 r.at_.x, .int .i64 r.at_.y, .int .i64 r.at_.z, .int .i64 r.step.x, .int .i64 r.step.y, .int .i64 r.step.z, .int .i64 r.count]
   generalize (wr.alloc (.cells #[.string r.mark, .int .i64 r.tx, .int .i64 r.ty, .int .i64 r.at_.x, .int .i64 r.at_.y, .int .i64 r.at_.z, .int .i64 r.step.x, .int .i64 r.step.y, .int .i64 r.step.z, .int .i64 r.count] 142)) = W6 at *
   have hbW6 : Below B W W6 := hbr.trans (hW6.mono (by omega))
   have HB6 := lh hB6
   have hB3' := hB3.via hW6
   have hB2' := hB2.via hW6
   have HB3 := lh hB3'
   have HB2 := lh hB2'
   have e2' := hB2'.cell 0
   have l2' := hB2'.lt
   simp only [ga1, ga2, ga3] at e2'
   have hs6 := hbW6.size
   have hJ6 := HJ.out _ _ _ hJr (hW6.mono (by omega))
   clear c0 d1 d2 d3 d4 d5 d6 d7 d8 d9 e3 e2 l3 l2 hB3 hB2 hB3' hB2' hbr hJr
   go_upto_region 5 with (first
    | (refine wpList_load_mid rfl 142 (.tmp 6) rfl _ _ rfl _ _ (HB6.out).range Tryz.underlying142 rfl (by kernel_rfl) ?_)
    | (go_at_call 208; (with_reducible refine (HTU.out _ (by omega) (HBS.out.below hbW6)).mono ?_); rintro e w7 ⟨A7, c7, rfl, how7, hbw7⟩))
   obtain ⟨g7, cur7, t7, fr7, rfl, hg7, hh7, hc7⟩ := Blk.of_own how7 (by omega) (by unfold maxLen; omega)
   have hB6' := HB6.out.via hbw7
   have HHC := lh hc7
   have hB3' := HB3.out.via hbw7
   have hB2' := HB2.out.via hbw7
   have hb7W : Below B W w7 := hbW6.trans (hbw7.mono (by omega))
   have hJ7 := HJ.out _ _ _ hJ6 (hbw7.mono hs6)
   have hs7 := hbw7.size
   have d9 := hB6'.cell 9
   have l6 := hB6'.lt
   simp only [ga1, ga2, ga3] at d9
   clear how7 HB6 HB3 HB2 e2' l2' hJ6 hbW6 hB6 hW6 HTU hc7
   have HSS := lh (sumTo_succ x.rs hkx)
   rw [hrk] at HSS
   go_wp2
   clear d9 l6
   go_loopw [23, 4] (fun s t wq => ∃ (j : Nat) (pre' : List It), (j : Int) <= r.count /\ s = .int .i64 j /\ t = .int .i64 pre'.length /\ Hid ((pre'.length : Int) = S.sumTo x.rs k + j) /\ J pre' wq /\ Below B W wq /\ Blk wq b3 28 #[.slice (some ⟨bR, oR, none⟩) x.rn x.rc] /\ Blk wq b2 27 #[.slice x.bA x.bn x.bc] /\ Blk wq wr.heap.size 142 #[.string r.mark, .int .i64 r.tx, .int .i64 r.ty, .int .i64 r.at_.x, .int .i64 r.at_.y, .int .i64 r.at_.z, .int .i64 r.step.x, .int .i64 r.step.y, .int .i64 r.step.z, .int .i64 r.count] /\ wq.heap[g7]? = some (.cells cur7 t7 fr7) /\ w7.heap.size <= wq.heap.size) (fun s _ _ => r.count.toNat - (intOf s).toNat)
   case atStart => exact ⟨0, pre, by omega, rfl, rfl, lh (by have := hsum.out; omega), hJ7, hb7W, hB3', hB2', hB6', hh7, Nat.le_refl _⟩
   case round =>
    generalize wr = wq at *
    obtain ⟨j, pre', hj, rfl, rfl, hsum', hJq, hbq, hB3, hB2, hB6, hq7, hsq⟩ := hrel
    clear hJ7 hb7W hB3' hB2' hB6' hh7 hbw7
    by_cases hltj : (j : Int) < r.count
    ·have hjl := HLIES.out j hltj
     have hJL := lh hjl
     clear hjl
     have hCl : (((S.turned b.b r).map (S.laidPt r j)).flatMap ptC).length = (S.turned b.b r).length * 3 := by rw [flat_len ptC 3 ptC_len, List.length_map]
     have HCL := lh hCl
     have HCG := lh (fun (i : Nat) (hi : i < (S.turned b.b r).length) (q : Nat) (hq : q < 3) => show (((S.turned b.b r).map (S.laidPt r j)).flatMap ptC)[i * 3 + q]? = (ptC (S.laidPt r j (S.turned b.b r)[i]))[q]? from by
      rw [flat_get ptC 3 ptC_len _ i (by rw [List.length_map]; exact hi) q hq, List.getElem_map])
     have hmk := make_points _ (S.turned b.b r).length (by omega) hCl
     have HBD := lh (fun (p : Pt) (hp : p ∈ S.turned b.b r) => laid_bounds HOK.out hp hltj)
     have HPM := lh (show (S.turned b.b r).map (S.laidPt r j) = S.laidPath b.b r j from laid_map HOK.out.turn HOK.out.bar j)
     have HQL := lh (fun (i : Nat) (hi : i < (S.turned b.b r).length) (q : Nat) (v : Value) (hv : (ptC (S.turned b.b r)[i])[q]? = some v) (hq : q < 3) => HHC.out (i * 3 + q) v (by rw [flat_get ptC 3 ptC_len _ i hi q hq]; exact hv))
     clear hCl
     generalize hCs : ((S.turned b.b r).map (S.laidPt r j)).flatMap ptC = Cs at *
     have HCS := lh hCs
     clear hCs
     have d9 := hB6.cell 9
     have l6 := hB6.lt
     simp only [ga1, ga2, ga3] at d9
     go_upto_region 9 with fail
     have hBA := Blk.new wq 76 (fillA Cs 0)
     have hWA : Below wq.heap.size wq (wq.alloc (.cells (fillA Cs 0) 76)) := ba_alloc (Below.refl _ _) _
     have hsA : (wq.alloc (.cells (fillA Cs 0) 76)).heap.size = wq.heap.size + 1 := by simp
     clear hmk d9
     generalize (wq.alloc (.cells (fillA Cs 0) 76)) = wA at *
     have hBA6 := hB6.via hWA
     have hA7 : wA.heap[g7]? = some (.cells cur7 t7 fr7) := (hWA.block g7 (Array.getElem?_eq_some_iff.1 hq7).1).trans hq7
     have l7 := (Array.getElem?_eq_some_iff.1 hq7).1
     go_wp2
     go_loopw [31] (fun s wx => ∃ i : Nat, i <= (S.turned b.b r).length /\ s = .int .i64 i /\ Blk wx wq.heap.size 76 (fillA Cs (i * 3)) /\ Exc [wq.heap.size] wA wx) (fun s _ => (S.turned b.b r).length - (intOf s).toNat)
     case atStart => exact ⟨0, Nat.zero_le _, rfl, by rw [Nat.zero_mul]; exact hBA, Exc.refl _ _⟩
     case round =>
      generalize wr = wx at *
      obtain ⟨i, hi, rfl, hC, hX⟩ := hrel
      have hsx := hX.size
      by_cases hlti : i < (S.turned b.b r).length
      ·have hii : (i : Int) < (S.turned b.b r).length := by omega
       have hx7 : wx.heap[g7]? = some (.cells cur7 t7 fr7) := (hX.block g7 (by omega) (by simp; omega)).trans hA7
       have hbd := HBD.out (S.turned b.b r)[i] (List.getElem_mem hlti)
       have p0 : wx.cell? ⟨g7, i * 3, none⟩ = some (.int .i64 (S.turned b.b r)[i].x) := (cell_of_row wx g7 (i * 3) cur7 t7 fr7 hx7).trans (HQL.out i hlti 0 _ rfl (by omega))
       have p1 : wx.cell? ⟨g7, i * 3 + 1, none⟩ = some (.int .i64 (S.turned b.b r)[i].y) := (cell_of_row wx g7 (i * 3 + 1) cur7 t7 fr7 hx7).trans (HQL.out i hlti 1 _ rfl (by omega))
       have p2 : wx.cell? ⟨g7, i * 3 + 2, none⟩ = some (.int .i64 (S.turned b.b r)[i].z) := (cell_of_row wx g7 (i * 3 + 2) cur7 t7 fr7 hx7).trans (HQL.out i hlti 2 _ rfl (by omega))
       have HG0 := lh (HCG.out i hlti 0 (by omega))
       have HG1 := lh (HCG.out i hlti 1 (by omega))
       have HG2 := lh (HCG.out i hlti 2 (by omega))
       have l7x : g7 < wx.heap.size := by omega
       have hX6 := hBA6.exc hX (by simp; omega)
       generalize (S.turned b.b r)[i] = p at *
       go_upto_region 12 with fail
       have h12 : Below wx.heap.size wx (wx.alloc (.cells #[.int .i64 p.x, .int .i64 p.y, .int .i64 p.z] 76)) := ba_alloc (Below.refl _ _) _
       have hB12 := Blk.new wx 76 #[.int .i64 p.x, .int .i64 p.y, .int .i64 p.z]
       have hC12 := hC.alloc (.cells #[.int .i64 p.x, .int .i64 p.y, .int .i64 p.z] 76)
       have hX12 := hX.alloc (.cells #[.int .i64 p.x, .int .i64 p.y, .int .i64 p.z] 76)
       have hX612 := hX6.alloc (.cells #[.int .i64 p.x, .int .i64 p.y, .int .i64 p.z] 76)
       generalize (wx.alloc (.cells #[.int .i64 p.x, .int .i64 p.y, .int .i64 p.z] 76)) = W12 at *
       have s0 := hB12.cell 0
       have s1 := hB12.cell 1
       have s2 := hB12.cell 2
       have sl := hB12.lt
       have r3 := hX612.cell 3
       have r4 := hX612.cell 4
       have r5 := hX612.cell 5
       have rl := hX612.lt
       simp only [ga1, ga2, ga3] at s0 s1 s2 r3 r4 r5
       have hCl := HCL.out
       have hm3 : i * 3 + 3 <= Cs.length := by omega
       have HP1 := lh (fun (V : World) => plus_any p r.at_ 1 hbd.1 hbd.2.1 (by omega) V)
       have HP2 := lh (fun (h0 : (0 : Int) < j) (V : World) => plus_any (S.plus p r.at_ 1) r.step j hbd.2.2.1 (hbd.2.2.2 h0) (by omega) V)
       unfold ptV at HP1 HP2
       have HLP := lh (show S.laidPt r j p = if (0 : Int) < (j : Int) then S.plus (S.plus p r.at_ 1) r.step j else S.plus p r.at_ 1 from rfl)
       clear p0 p1 p2 hx7 l7x hC hX hX6 hB12 hX612 hbd
       generalize S.plus p r.at_ 1 = q1 at *
       go_upto_region 13 with (first
        | (go_at_call 209; (with_reducible refine (HP1.out _).mono ?_); rintro e w5 ⟨rfl, hbw5⟩; have hC5 := hC12.via hbw5; have y0 := hC5.cell (i * 3); have y1 := hC5.cell (i * 3 + 1); have y2 := hC5.cell (i * 3 + 2); rw [fillA_get (by omega), if_neg (by omega)] at y0 y1 y2; have f0 := hC5.frozen (i * 3); have f1 := hC5.frozen (i * 3 + 1); have f2 := hC5.frozen (i * 3 + 2); have yl := hC5.lt))
       have hD := ((hC5.set (i * 3) (.int .i64 q1.x)).set (i * 3 + 1) (.int .i64 q1.y)).set (i * 3 + 2) (.int .i64 q1.z)
       have hX13 : Exc [wq.heap.size] wA (((w5.setCell ⟨wq.heap.size, i * 3, none⟩ (.int .i64 q1.x)).setCell ⟨wq.heap.size, i * 3 + 1, none⟩ (.int .i64 q1.y)).setCell ⟨wq.heap.size, i * 3 + 2, none⟩ (.int .i64 q1.z)) := (((Exc.via hbw5 hX12).set (.inl (by simp)) _).set (.inl (by simp)) _).set (.inl (by simp)) _
       have hs13 : wq.heap.size < (((w5.setCell ⟨wq.heap.size, i * 3, none⟩ (.int .i64 q1.x)).setCell ⟨wq.heap.size, i * 3 + 1, none⟩ (.int .i64 q1.y)).setCell ⟨wq.heap.size, i * 3 + 2, none⟩ (.int .i64 q1.z)).heap.size := hD.lt
       have hsz : (fillA Cs (i * 3)).size = Cs.length := fillA_size (by omega)
       clear y0 y1 y2 f0 f1 f2 yl hC5 hbw5 hC12 hX12 s0 s1 s2 sl r3 r4 r5 rl HP1
       generalize (((w5.setCell ⟨wq.heap.size, i * 3, none⟩ (.int .i64 q1.x)).setCell ⟨wq.heap.size, i * 3 + 1, none⟩ (.int .i64 q1.y)).setCell ⟨wq.heap.size, i * 3 + 2, none⟩ (.int .i64 q1.z)) = W13 at *
       clear w5
       have hv0 : Cs[i * 3]? = some (.int .i64 (S.laidPt r j p).x) := HG0.out
       have hv1 : Cs[i * 3 + 1]? = some (.int .i64 (S.laidPt r j p).y) := HG1.out
       have hv2 : Cs[i * 3 + 2]? = some (.int .i64 (S.laidPt r j p).z) := HG2.out
       rw [HLP.out] at hv0 hv1 hv2
       by_cases hj0 : (0 : Int) < (j : Int)
       ·rw [if_pos hj0] at hv0 hv1 hv2
        have HV := lh (And.intro hv0 (And.intro hv1 hv2))
        have HPP := lh (HP2.out hj0)
        have hX6 := hBA6.exc hX13 (by simp; omega)
        have r6 := hX6.cell 6
        have r7 := hX6.cell 7
        have r8 := hX6.cell 8
        have rl := hX6.lt
        simp only [ga1, ga2, ga3] at r6 r7 r8
        obtain ⟨g0, g1, g2⟩ := three_get (D := fillA Cs (i * 3)) (m := i * 3) (by omega) (.int .i64 q1.x) (.int .i64 q1.y) (.int .i64 q1.z)
        have y0 := (hD.cell (i * 3)).trans g0
        have y1 := (hD.cell (i * 3 + 1)).trans g1
        have y2 := (hD.cell (i * 3 + 2)).trans g2
        clear hv0 hv1 hv2 HLP HP2 HG0 HG1 HG2 g0 g1 g2 hX6
        generalize S.plus q1 r.step j = q2 at *
        go_upto_region 14 with fail
        refine wp_region_mix 1 [9] (by kernel_rfl) (by kernel_rfl) (of_decide_eq_true (by kernel_rfl)) ?_
        try simp only [wpSegs, gt1, gt2, gt3, gt4, List.take_nil, List.drop_nil]
        repeat (go_big_quiet_step (fail))
        refine wpQuiet_nil ?_
        show wpList _ _ _ _ _ _
        go_wp2_with ((go_at_call 209; (with_reducible refine (HPP.out _).mono ?_); rintro e w6 ⟨rfl, hbw6⟩))
        refine seg_next (grow_to belr) ?_
        try simp only [wpSegs, gt1, gt2, gt3, gt4, List.take_nil, List.drop_nil]
        repeat (go_big_quiet_step (fail))
        refine wpQuiet_nil ?_
        show wpList _ _ _ _ _ _
        have hb6 : Below W13.heap.size W13 w6 := belr
        have hD6 := hD.via hb6
        have hsz6 := hb6.size
        obtain ⟨g0, g1, g2⟩ := three_get (D := fillA Cs (i * 3)) (m := i * 3) (by omega) (.int .i64 q1.x) (.int .i64 q1.y) (.int .i64 q1.z)
        have z0 := (hD6.cell (i * 3)).trans g0
        have z1 := (hD6.cell (i * 3 + 1)).trans g1
        have z2 := (hD6.cell (i * 3 + 2)).trans g2
        have f0 := hD6.frozen (i * 3)
        have f1 := hD6.frozen (i * 3 + 1)
        have f2 := hD6.frozen (i * 3 + 2)
        have hl6 := hD6.lt
        have hXE : Exc [wq.heap.size] wA (((w6.setCell ⟨wq.heap.size, i * 3, none⟩ (.int .i64 q2.x)).setCell ⟨wq.heap.size, i * 3 + 1, none⟩ (.int .i64 q2.y)).setCell ⟨wq.heap.size, i * 3 + 2, none⟩ (.int .i64 q2.z)) := (((Exc.via hb6 hX13).set (.inl (by simp)) _).set (.inl (by simp)) _).set (.inl (by simp)) _
        have hE := ((hD6.set (i * 3) (.int .i64 q2.x)).set (i * 3 + 1) (.int .i64 q2.y)).set (i * 3 + 2) (.int .i64 q2.z)
        clear g0 g1 g2 y0 y1 y2 r6 r7 r8
        go_wp2
        go_roundw
        case rel =>
         refine ⟨i + 1, by omega, by go_num, ?_, hXE⟩
         rw [show (i + 1) * 3 = i * 3 + 3 by omega, <- fillA_three hm3 (.inr ⟨_, _, _, rfl⟩) HV.out.1 HV.out.2.1 HV.out.2.2]
         exact hE
        case measure => simp [intOf]; omega
       ·rw [if_neg hj0] at hv0 hv1 hv2
        have HV := lh (And.intro hv0 (And.intro hv1 hv2))
        clear hv0 hv1 hv2 HLP HP2 HG0 HG1 HG2
        go_wp2
        go_roundw
        case rel =>
         refine ⟨i + 1, by omega, by go_num, ?_, hX13⟩
         rw [show (i + 1) * 3 = i * 3 + 3 by omega, <- fillA_three hm3 (.inl rfl) HV.out.1 HV.out.2.1 HV.out.2.2]
         exact hD
        case measure => simp [intOf]; omega
      ·have hie : i = (S.turned b.b r).length := by omega
       subst hie
       rw [<- HCL.out, fillA_full] at hC
       have hXq : Below B wq wx := (hWA.mono (by omega)).trans (hX.below (by omega) (by intro g hg; simp at hg; omega))
       have hbx : Below B W wx := hbq.trans hXq
       have hJx' : J pre' wx := HJ.out _ _ _ hJq ((hWA.mono (by omega)).trans (hX.below (by omega) (by intro g hg; simp at hg; omega)))
       have hx7 : wx.heap[g7]? = some (.cells cur7 t7 fr7) := (hX.block g7 (by omega) (by simp; omega)).trans hA7
       have hx3 := (hB3.via hWA).exc hX (by have := hB3.lt; simp; omega)
       have hx2 := (hB2.via hWA).exc hX (by have := hB2.lt; simp; omega)
       have hx6 := hBA6.exc hX (by simp; omega)
       have hpl : ((S.turned b.b r).map (S.laidPt r j)).length = (S.turned b.b r).length := List.length_map ..
       have hRy : itR x n0 pre' ⟨pre'.length, some ⟨wq.heap.size, 0, none⟩, (S.turned b.b r).map (S.laidPt r j)⟩ wx := by
        refine ⟨rfl, ⟨k, j, k0, b, hJL.out pre'.length hsum'.out, ?_⟩, wq.heap.size, rfl, by omega, ?_⟩
        ·show (S.turned b.b r).map (S.laidPt r j) = S.laidPath b.b x.rs[k] j
         rw [hrk]
         exact HPM.out
        ·show Blk wx wq.heap.size _ (((S.turned b.b r).map (S.laidPt r j)).flatMap ptC).toArray
         rw [HCS.out]
         exact hC
       obtain ⟨fn, tmps, assign, body, hy, hR⟩ := HY.out pre' _ wx hJx' hRy
       simp only [itE, hpl] at hy
       have HRY := lh hRy
       clear hRy hpl hC hX hJx' hJq hbq hB3 hB2 hB6 hq7 hBA6 hA7 hXq
       go_upto_region 16 with fail
       refine (wpIn_wide (n := m)).1 ?_
       gi_wp2
       refine hR.mono ?_
       have hnM : ∀ g, n0 <= g -> g ∉ M := fun g hg hm => by have := hM g hm; omega
       rintro e V' ⟨hkp, (⟨rfl, hJ'⟩ | ⟨rfl, hJz⟩)⟩
       ·have hv7 := hkp.cells g7 _ _ _ (hnM g7 (by omega)) hx7
        have hv3 := hkp.blk hx3 h3M
        have hv2 := hkp.blk hx2 h2M
        have hv6 := hkp.blk hx6 (hnM _ (by omega))
        have hbv : Below B W V' := hbx.trans hkp.bel
        have hsv := hkp.bel.size
        have hlim := (hJL.out pre'.length hsum'.out).lim
        have e1 : IntKind.i64.wrap ((pre'.length : Int) + 1) = (pre'.length : Int) + 1 := IntWalk.i64_in _ (by omega)
        gi_wp2
        go_wp2
        go_roundw
        case rel => exact ⟨j + 1, pre' ++ [⟨pre'.length, some ⟨wq.heap.size, 0, none⟩, (S.turned b.b r).map (S.laidPt r j)⟩], by omega, by go_num, by simp, lh (by have := hsum'.out; simp; omega), hJ', hbv, hv3, hv2, hv6, hv7, by omega⟩
        case measure => simp [intOf]; omega
       ·gi_wp2
        go_wp2
        refine bodyPost_ret (results_none rfl _ _ _) rfl ?_
        obtain ⟨q1, q2, g, q3, q4, q5⟩ := HRY.out
        exact ⟨⟨_, rfl⟩, .inr ⟨pre', _, hJz, q1, q2, g, q3, q4, hkp.blk q5 (hnM g q4)⟩⟩
    ·have hje : (j : Int) = r.count := by omega
     have d9 := hB6.cell 9
     have l6 := hB6.lt
     simp only [ga1, ga2, ga3] at d9
     have hsq2 := hsum'
     clear hB6 hltj hj
     have HJE := lh hje
     clear hje
     have hnl : ¬ ((j : Int) < r.count) := by have := HJE.out; omega
     go_wp2
     go_roundw
     case rel => exact ⟨k + 1, pre', by omega, by go_num, rfl, lh (by have := HSS.out; have := hsq2.out; have := HJE.out; omega), hJq, hbq, hB3, hB2, by omega⟩
     case measure => simp [intOf]; omega
  ·have hke : k = x.rn := by omega
   have HKE := lh hke
   clear hke
   have hki : ¬ ((k : Int) < x.rn) := by have := HKE.out; omega
   go_wp2
   go_end0
   refine ⟨⟨_, rfl⟩, .inl ⟨pre, ?_, hJr⟩⟩
   have h5 := hsum.out
   rw [HKE.out, <- hrl] at h5
   exact h5
theorem ptD_get {l : List Pt} {k : Nat} (h : k < l.length) : l[k]? = some (S.ptD l k) := by simp [S.ptD, List.getElem?_eq_getElem h]
theorem Cells.two {w : World} {B b o : Nat} {l : List Pt} (h : Cells w B (some ⟨b, o, none⟩) (l.flatMap ptC)) {k : Nat} (hk : k + 1 < l.length) : Cells w B (some ⟨b, o + k * 3, none⟩) ([S.ptD l k, S.ptD l (k + 1)].flatMap ptC) := by
 obtain ⟨b', o', he, hb, _⟩ := h.at_ (by rw [flat_len ptC 3 ptC_len]; omega)
 injection he with he
 injection he with h1 h2
 subst h1 h2
 obtain ⟨c0, c1, c2⟩ := h.pts (ptD_get (show k < l.length by omega))
 obtain ⟨d0, d1, d2⟩ := h.pts (ptD_get hk)
 refine .inr ⟨b, o + k * 3, rfl, hb, fun j v hv => ?_⟩
 have e : o + (k + 1) * 3 = o + k * 3 + 3 := by omega
 rw [e] at d0 d1 d2
 simp only [List.flatMap_cons, List.flatMap_nil, List.append_nil, List.cons_append, List.nil_append] at hv
 have hj : j < 6 := by
  have := (List.getElem?_eq_some_iff.1 hv).1
  simpa using this
 have : j = 0 ∨ j = 1 ∨ j = 2 ∨ j = 3 ∨ j = 4 ∨ j = 5 := by omega
 rcases this with rfl | rfl | rfl | rfl | rfl | rfl
 all_goals (simp only [List.getElem?_cons_zero, List.getElem?_cons_succ, Option.some.injEq] at hv; subst hv)
 ·exact c0
 ·exact c1
 ·exact c2
 ·exact d0
 ·exact d1
 ·exact d2
set_option maxRecDepth 20000 in
set_option maxHeartbeats 2000000 in
theorem rlegs16_any (l : List BarR) (rs : List Rn) (A : Option Addr) (n c : Nat) (A' : Option Addr) (n' c' : Nat) (B : Nat) (w : World) (hB : B <= w.heap.size) (hA : BarsAt w B A n l) (hR : RunsAt w B A' n' rs) (i k j k0 : Nat) (r : BarR) (hL : Lies l rs i k j k0 r) (L : Nat) (hLL : (S.legsOf r.b.code).length = L) :
 Calls Tryz.prog 147 #[.slice A n c, .slice A' n' c', .int .i64 i] w (GivesOne 78 6 L ((S.legsL (S.laidPath r.b (rs[k]'hL.st.lt) j)).flatMap boxC) w) := by
 have HP := lh (rpoints16_any l rs A n c A' n' c' B w hB hA hR i k j k0 r hL L hLL)
 have HLP := lh (show (S.laidPath r.b (rs[k]'hL.st.lt) j).length = L + 1 by rw [laidPath_len, hLL])
 have hl6 := legs_len r.b.code
 rw [hLL] at hl6
 clear hA hR
 generalize S.laidPath r.b (rs[k]'hL.st.lt) j = LP at *
 clear hL hLL
 have HLN := lh (show (S.legsL LP).length = L by rw [S.legsL, legsTo_len, HLP.out]; rfl)
 have HLL := lh (show S.legsL LP = S.legsTo LP L by rw [S.legsL, HLP.out]; rfl)
 have HLS := lh (fun m => legsTo_snoc LP m)
 have HTW := lh (fun (p q : Pt) (W : World) (A : Option Addr) (c B' : Nat) (hw : B' <= W.heap.size) (hs : Cells W B' A ([p, q].flatMap ptC)) => hull_two p q ▸ rhull_any A 2 c [p, q] p B' W rfl (by omega) hw hs rfl)
 go_enter Tryz.func147, Tryz.ntmps147
 go_wp2_with (first
  | (go_at_call 193; (with_reducible refine (HP.out).mono ?_); rintro e w1 ⟨Aw1, cw1, rfl, how1, hbw1⟩; obtain ⟨hcw1, hfw1⟩ := bcell hbw1))
 have hs1 := (own_cells how1 (by unfold maxLen; omega)).1
 have hcw := (own_cells how1 (by unfold maxLen; omega)).2.1
 have hbw : Below w.heap.size w w1 := hbw1
 clear hcw1 hfw1 how1
 go_loopw [8, 9] (fun v i wr => ∃ (q : Nat) (A3 : Option Addr) (c3 : Nat), q <= L /\ i = .int .i64 ((q + 1 : Nat) : Int) /\ v = .slice A3 q c3 /\ Row w1 wr none w.heap.size 78 6 (.slice A3 q c3) q ((S.legsTo LP q).flatMap boxC) /\ Exc [] w1 wr) (fun _ i _ => L + 1 - (intOf i).toNat)
 case atStart => exact ⟨0, none, 0, Nat.zero_le _, rfl, rfl, by simpa [S.legsTo] using Row.none_ _ _ _ _, Exc.refl _ _⟩
 case round =>
  obtain ⟨q, A3, c3, hq, rfl, rfl, hRW, hX⟩ := hrel
  have hbx : Below w1.heap.size w1 wr := hX.below (Nat.le_refl _) (by simp)
  have hsz := hbx.size
  by_cases hlt : q < L
  ·have hs' := hs1.below hbx
   obtain ⟨b4, o4, rfl, hbl, _⟩ := hs'.at_ (by rw [flat_len ptC 3 ptC_len, HLP.out]; omega)
   have hs2 := Cells.two (k := q) hs' (by have := HLP.out; omega)
   have HTq := lh (fun (W : World) (A : Option Addr) (c B' : Nat) (hw : B' <= W.heap.size) (hs : Cells W B' A ([S.ptD LP q, S.ptD LP (q + 1)].flatMap ptC)) => HTW.out _ _ W A c B' hw hs)
   have HSq := lh (show (S.legsTo LP (q + 1)).flatMap boxC = (S.legsTo LP q).flatMap boxC ++ boxC (S.legB (S.ptD LP q) (S.ptD LP (q + 1))) by rw [HLS.out, List.flatMap_append]; simp)
   generalize S.legB (S.ptD LP q) (S.ptD LP (q + 1)) = X at *
   generalize [S.ptD LP q, S.ptD LP (q + 1)].flatMap ptC = P2 at *
   have hki : (q : Int) + 1 < (L : Int) + 1 := by omega
   have hq6 : q <= 6 := by omega
   have hcp : q + 1 + 1 <= cw1 := by omega
   have hcpi : (q : Int) + 1 + 1 <= (cw1 : Int) := by omega
   have e2 : q + 1 + 1 - q = 2 := by omega
   go_wp2_with (first
    | (go_at_call 194; (with_reducible refine (HTq.out _ _ _ _ (Nat.le_trans (Nat.le_refl _) hsz) hs2).mono ?_); rintro e w2 ⟨rfl, hbw2⟩; obtain ⟨hcw2, hfw2⟩ := bcell hbw2)
    | (at_builtin; refine wpList_push rfl (.tmp 20) (.tmp 28) _ rfl elemBx ((hRW.via hbw2).alloc _) ((Exc.via hbw2 hX).alloc _) (by simp) hbw.size rfl (w2.heap.size) 1 1 [.int .i64 X.lo.x, .int .i64 X.lo.y, .int .i64 X.lo.z, .int .i64 X.hi.x, .int .i64 X.hi.y, .int .i64 X.hi.z] rfl rfl ?_ (by simp [Value.oneCell']) (by unfold maxLen; omega) (by omega) ?_; (· intro j u hu; exact by have := (Cells.newRow w2 #[.int .i64 X.lo.x, .int .i64 X.lo.y, .int .i64 X.lo.z, .int .i64 X.hi.x, .int .i64 X.hi.y, .int .i64 X.hi.z] 78 (0, 0)).get (k := j) (v := u) hu; rwa [Nat.zero_add] at this); intro v' w' hR' hX' hO'))
   obtain ⟨A5, c5, rfl, _, _, _⟩ := own_form hR'.own
   go_roundw
   case rel => exact ⟨q + 1, A5, c5, by omega, by go_num, rfl, by rw [HSq.out]; exact hR', hX'⟩
   case measure => simp [intOf]; omega
  ·have he : q = L := by omega
   subst he
   have hki : ¬ (q : Int) + 1 < (q : Int) + 1 := by omega
   go_wp2
   go_ret
   refine ⟨A3, c3, rfl, ?_, ba_via hbx hbw⟩
   have := hRW.own
   rwa [<- HLL.out] at this
theorem Blk.there {w : World} {g : Nat} {t : TypeId} {cs : Array Value} (h : Blk w g t cs) {n : Nat} (hn : n <= cs.size) : w.there g 0 n := fun j hj => ⟨by rw [Nat.zero_add, h.cell]; simp; omega, h.frozen _⟩
theorem Blk.put {t : TypeId} {g : Nat} : ∀ (vs : List Value) (o : Nat) (w : World) (cs : Array Value), Blk w g t cs -> o + vs.length <= cs.size ->
 ∃ cs', Blk (w.setCells g o vs) g t cs' /\ cs'.size = cs.size /\ ∀ j, cs'[j]? = if o <= j /\ j < o + vs.length then vs[j - o]? else cs[j]? := by
 intro vs
 induction vs with
 | nil => intro o w cs h _; exact ⟨cs, h, rfl, fun j => by rw [if_neg (by simp)]⟩
 | cons v r ih =>
  intro o w cs h hl
  simp only [List.length_cons] at hl
  obtain ⟨cs', h1, h2, h3⟩ := ih (o + 1) _ _ (h.set o v) (by simp; omega)
  refine ⟨cs', h1, by simpa using h2, fun j => ?_⟩
  rw [h3 j, Array.getElem?_setIfInBounds]
  simp only [List.length_cons]
  by_cases e : o = j
  ·subst e
   rw [if_neg (by omega), if_pos rfl, if_pos (by omega), if_pos (by omega), Nat.sub_self]
   rfl
  ·by_cases e2 : o + 1 <= j /\ j < o + 1 + r.length
   ·rw [if_pos e2, if_pos (by omega)]
    obtain ⟨m, rfl⟩ : ∃ m, j = o + 1 + m := ⟨j - (o + 1), by omega⟩
    rw [show o + 1 + m - (o + 1) = m by omega, show o + 1 + m - o = m + 1 by omega]
    rfl
   ·rw [if_neg e2, if_neg e, if_neg (by omega)]
theorem Blk.put0 {t : TypeId} {g : Nat} {w : World} {cs : Array Value} (h : Blk w g t cs) (vs : Array Value) (hl : vs.size = cs.size) : Blk (w.setCells g 0 vs.toList) g t vs := by
 obtain ⟨cs', h1, h2, h3⟩ := Blk.put vs.toList 0 w cs h (by simp; omega)
 have : cs' = vs := by
  apply Array.ext_getElem?
  intro j
  rw [h3 j]
  by_cases hj : j < vs.size
  ·rw [if_pos ⟨by omega, by simpa using hj⟩]
   simp
  ·rw [if_neg (by simp; omega), Array.getElem?_eq_none (by omega), Array.getElem?_eq_none (by omega)]
 rw [this] at h1
 exact h1
theorem at_loadg {P : Program} {ops : Array Oper} {Q : Exit -> Act -> World -> Prop} {rest : List Oper} {a : Act} {w : World} (ty : TypeId) (s : Nat) {dst : Option Nat} {t : TypeId} {pos : String} {after : Array Edge} {gd : Nat × Bool}
 (h : wpList P ops Q ({ dst := dst, op := .load ty (.tmp s), type := t, pos := pos, after := after, guard := some gd } :: rest) a w) : wpList P ops Q ({ dst := dst, op := .load ty (.tmp s), type := t, pos := pos, after := after, guard := some gd } :: rest) a w := h
theorem at_loadw {P : Program} {K : Act -> World -> Prop} {Q : Exit -> Act -> World -> Prop} {a : Act} {w : World} (ty : TypeId) (s : Nat) {dst : Option Nat} {t : TypeId} {pos : String} {after : Array Edge} {gd : Option (Nat × Bool)}
 (h : Oper.wp P { dst := dst, op := .load ty (.tmp s), type := t, pos := pos, after := after, guard := gd } a w K Q) : Oper.wp P { dst := dst, op := .load ty (.tmp s), type := t, pos := pos, after := after, guard := gd } a w K Q := h
end Go.Proofs.YtmfpbafpnoomeaaGreat
