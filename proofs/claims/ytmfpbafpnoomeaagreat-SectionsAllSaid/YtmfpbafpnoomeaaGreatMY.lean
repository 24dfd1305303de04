/- Lemmas. -/
import Derived.OwnWalkIn
import Derived.TacticsInMore
import Derived.LoopNIn
import Derived.LoopIn
import Derived.Test.YtmfpbafpnoomeaaGreatMU
import Derived.Test.YtmfpbafpnoomeaaGreatMV
import Derived.Test.YtmfpbafpnoomeaaGreatMX
set_option linter.unusedVariables false
set_option linter.unusedSimpArgs false
namespace Go.Proofs.YtmfpbafpnoomeaaGreat
open Go.RowKit
set_option maxRecDepth 20000 in
set_option maxHeartbeats 4000000 in
theorem rrun_in (l : List BarR) (r : Rn) (k0 : Nat) (b : BarR) (A : Option Addr) (n c : Nat) (B : Nat) (w : World) (hB : B <= w.heap.size) (hA : BarsAt w B A n l) (h : S.rightHead (bars l) r = true) (h' : S.rightStep r = true) (hk0 : S.index (bars l) r.mark = (k0 : Int)) (hbk : l[k0]? = some b) (hv : S.bar b.b = true) :
 Calls Tryz.prog 120 #[.slice A n c, rnV r] w fun e w' => e = .returned (.bool (S.near (S.laidPath b.b r 0) 1048576 && S.near (S.laidPath b.b r (r.count - 1).toNat) 1048576)) /\ Below w.heap.size w w' := by
 have HA := lh hA
 obtain ⟨⟨h0, h1, h2⟩, h3, h4⟩ := rightHead_out h
 obtain ⟨hkx, hkb⟩ := List.getElem?_eq_some_iff.1 hbk
 have hkn : k0 < n := by have := hA.len; omega
 have hs' := hA.cells
 obtain ⟨bb, o, rfl, hbb, _⟩ := hs'.at_ (by rw [flat_len barC 5 barC_len]; omega)
 have hbb' : bb < w.heap.size := by omega
 have c0 := hs'.row0 barC_len hkx rfl
 have c1 := hs'.rowj barC_len hkx 1 rfl
 have c2 := hs'.rowj barC_len hkx 2 rfl
 have c3 := hs'.rowj barC_len hkx 3 rfl
 have c4 := hs'.rowj barC_len hkx 4 rfl
 have HE := lh (hA.each l[k0] (List.getElem_mem hkx))
 rw [hkb] at c0 c1 c2 c3 c4 HE
 have HI := lh (fun (W : World) (hw : B <= W.heap.size) (hh : BarsAt W B (some ⟨bb, o, none⟩) n l) => hk0 ▸ rfind14_any l r.mark (some ⟨bb, o, none⟩) n c B W hw hh)
 have HV := lh (fun w => h1 ▸ rturn_any r.tx r.ty w)
 have HP := lh (fun w => h2 ▸ rnear1_any r.at_ w)
 have HS := lh (fun w => rtwice_any r.step w)
 have hz : ∀ W, (binOp .eql 76 (.agg #[.int .i64 r.step.x, .int .i64 r.step.y, .int .i64 r.step.z]) (.agg #[.int .i64 0, .int .i64 0, .int .i64 0])).run Tryz.prog W = .ok (.bool (S.pt0 r.step)) W := fun W => run_eq0 r.step W
 have z91 : ∀ W, (Instr.build 76 #[]).run Tryz.prog W = .ok (.agg #[.int .i64 0, .int .i64 0, .int .i64 0]) W := fun _ => by kernel_rfl
 obtain ⟨q, hq⟩ : ∃ q : Nat, q = (r.count - 1).toNat := ⟨_, rfl⟩
 have hqi : (q : Int) = r.count - 1 := by omega
 have hcs : (¬ 1 < r.count) ∨ (1 < r.count /\ S.pt0 r.step = false /\ S.near1 r.step 2097152 = true) := by
  by_cases h5 : 1 < r.count
  ·simp [S.rightStep, h5] at h'
   exact .inr ⟨h5, h'⟩
  ·exact .inl h5
 have hst : 0 < q -> S.near1 r.step 2097152 = true := fun hq0 => by
  rcases hcs with h5 | h5
  ·exfalso; omega
  ·exact h5.2.2
 have hl6 := legs_len b.b.code
 have HP0 := lh (fun (W : World) (hw : B <= W.heap.size) (hh : BarAt W B b.A b.n b.b) => show Calls Tryz.prog 173 #[barV b.b b.A b.n b.c, rnV r, .int .i64 0] W (GivesOne 76 3 ((S.legsOf b.b.code).length + 1) ((S.laidPath b.b r 0).flatMap ptC) W) from rpoints_any b.b r 0 b.A b.n b.c B W hw hh hv h1 h2 (by omega) (fun h => absurd h (by omega)) _ rfl)
 have HPQ := lh (fun (W : World) (hw : B <= W.heap.size) (hh : BarAt W B b.A b.n b.b) => rpoints_any b.b r q b.A b.n b.c B W hw hh hv h1 h2 (by omega) hst _ rfl)
 have HN0 := lh (fun (W : World) (A' : Option Addr) (c' : Nat) (B' : Nat) (hw : B' <= W.heap.size) (hh : Cells W B' A' ((S.laidPath b.b r 0).flatMap ptC)) => rnearL_any (S.laidPath b.b r 0) A' ((S.legsOf b.b.code).length + 1) c' B' W (laidPath_len _ _ _) (by omega) hw hh)
 have HNQ := lh (fun (W : World) (A' : Option Addr) (c' : Nat) (B' : Nat) (hw : B' <= W.heap.size) (hh : Cells W B' A' ((S.laidPath b.b r q).flatMap ptC)) => rnearL_any (S.laidPath b.b r q) A' ((S.legsOf b.b.code).length + 1) c' B' W (laidPath_len _ _ _) (by omega) hw hh)
 rw [<- hq]
 have e1 : IntKind.i64.wrap (r.count - 1) = (q : Int) := by rw [IntWalk.i64_in _ (by omega)]; omega
 have HQ := lh hqi
 generalize S.near (S.laidPath b.b r 0) 1048576 = N0 at *
 generalize S.near (S.laidPath b.b r q) 1048576 = NQ at *
 generalize (S.laidPath b.b r 0).flatMap ptC = P0 at *
 generalize (S.laidPath b.b r q).flatMap ptC = PQ at *
 have hj : ¬ (k0 : Int) < 0 := by omega
 have hki : (k0 : Int) < (n : Int) := by omega
 clear hA h h' h0 h1 h2 hv hbk hs' hst hq hqi hk0 hkb
 unfold turnV at HV
 unfold ptV at HP HS
 unfold barV rnV at HP0 HPQ
 unfold rnV
 have hW0 : Below w.heap.size w (w.alloc (.cells #[.string r.mark, .int .i64 r.tx, .int .i64 r.ty, .int .i64 r.at_.x, .int .i64 r.at_.y, .int .i64 r.at_.z, .int .i64 r.step.x, .int .i64 r.step.y, .int .i64 r.step.z, .int .i64 r.count] 142)) := ba_alloc (Below.refl _ _) _
 have HRB := lh (Blk.new w 142 #[.string r.mark, .int .i64 r.tx, .int .i64 r.ty, .int .i64 r.at_.x, .int .i64 r.at_.y, .int .i64 r.at_.z, .int .i64 r.step.x, .int .i64 r.step.y, .int .i64 r.step.z, .int .i64 r.count])
 have HC := lh (show w.cell? ⟨bb, o + k0 * 5, none⟩ = some (.string b.b.mark) /\ w.cell? ⟨bb, o + k0 * 5 + 1, none⟩ = some (.int .i64 b.b.size) /\ w.cell? ⟨bb, o + k0 * 5 + 2, none⟩ = some (.int .i64 b.b.count) /\ w.cell? ⟨bb, o + k0 * 5 + 3, none⟩ = some (.int .i64 b.b.code) /\ w.cell? ⟨bb, o + k0 * 5 + 4, none⟩ = some (.slice b.A b.n b.c) from ⟨c0, c1, c2, c3, c4⟩)
 clear c0 c1 c2 c3 c4
 rcases hcs with h5 | ⟨h5, h6, h7⟩
 case' inl =>
  go_enter Tryz.func120, Tryz.ntmps120
  go_upto_region 6 with (first
   | (go_at_call 168; (with_reducible refine (HI.out _ (by simp; omega) (HA.out.at_ hB bel)).mono ?_); rintro e w1 ⟨rfl, hbw1⟩; obtain ⟨hcw1, hfw1⟩ := bcell hbw1; have hzw1_0 : w.heap.size < w1.heap.size := lt_via hbw1 sz)
   | (go_at_call 169; (with_reducible refine (HV.out _).mono ?_); rintro e w2 ⟨rfl, hbw2⟩; obtain ⟨hcw2, hfw2⟩ := bcell hbw2; have hzw2_0 : w.heap.size < w2.heap.size := lt_via hbw2 sz)
   | (go_at_call 170; (with_reducible refine (HP.out _).mono ?_); rintro e w3 ⟨rfl, hbw3⟩; obtain ⟨hcw3, hfw3⟩ := bcell hbw3; have hzw3_0 : w.heap.size < w3.heap.size := lt_via hbw3 sz)
   | (go_at_call 171; (with_reducible refine (HS.out _).mono ?_); rintro e w4 ⟨rfl, hbw4⟩; obtain ⟨hcw4, hfw4⟩ := bcell hbw4; have hzw4_0 : w.heap.size < w4.heap.size := lt_via hbw4 sz))
  have hb0 : Below w.heap.size w w3 := bel
  have hR0 := ((HRB.out.via hbw1).via hbw2).via hbw3
  clear hcw1 hfw1 hcw2 hfw2 hcw3 hfw3
  clear hbw1 hbw2 hbw3
  generalize w3 = W0 at *
 case' inr =>
  rw [h6] at hz
  rw [h7] at HS
  go_enter Tryz.func120, Tryz.ntmps120
  go_upto_region 6 with (first
   | (go_at_call 168; (with_reducible refine (HI.out _ (by simp; omega) (HA.out.at_ hB bel)).mono ?_); rintro e w1 ⟨rfl, hbw1⟩; obtain ⟨hcw1, hfw1⟩ := bcell hbw1; have hzw1_0 : w.heap.size < w1.heap.size := lt_via hbw1 sz)
   | (go_at_call 169; (with_reducible refine (HV.out _).mono ?_); rintro e w2 ⟨rfl, hbw2⟩; obtain ⟨hcw2, hfw2⟩ := bcell hbw2; have hzw2_0 : w.heap.size < w2.heap.size := lt_via hbw2 sz)
   | (go_at_call 170; (with_reducible refine (HP.out _).mono ?_); rintro e w3 ⟨rfl, hbw3⟩; obtain ⟨hcw3, hfw3⟩ := bcell hbw3; have hzw3_0 : w.heap.size < w3.heap.size := lt_via hbw3 sz)
   | (go_at_call 171; (with_reducible refine (HS.out _).mono ?_); rintro e w4 ⟨rfl, hbw4⟩; obtain ⟨hcw4, hfw4⟩ := bcell hbw4; have hzw4_0 : w.heap.size < w4.heap.size := lt_via hbw4 sz))
  have hb0 : Below w.heap.size w w4 := bel
  have hR0 := (((HRB.out.via hbw1).via hbw2).via hbw3).via hbw4
  clear hcw1 hfw1 hcw2 hfw2 hcw3 hfw3 hcw4 hfw4
  clear hbw1 hbw2 hbw3 hbw4
  generalize w4 = W0 at *
 all_goals (
  have hkeep : ∀ W', Below W0.heap.size W0 W' -> W'.cell? ⟨bb, o + k0 * 5, none⟩ = some (.string b.b.mark) /\ W'.cell? ⟨bb, o + k0 * 5 + 1, none⟩ = some (.int .i64 b.b.size) /\ W'.cell? ⟨bb, o + k0 * 5 + 2, none⟩ = some (.int .i64 b.b.count) /\ W'.cell? ⟨bb, o + k0 * 5 + 3, none⟩ = some (.int .i64 b.b.code) /\ W'.cell? ⟨bb, o + k0 * 5 + 4, none⟩ = some (.slice b.A b.n b.c) /\ W'.cell? ⟨w.heap.size, 0, none⟩ = some (.string r.mark) /\ W'.cell? ⟨w.heap.size, 1, none⟩ = some (.int .i64 r.tx) /\ W'.cell? ⟨w.heap.size, 2, none⟩ = some (.int .i64 r.ty) /\ W'.cell? ⟨w.heap.size, 3, none⟩ = some (.int .i64 r.at_.x) /\ W'.cell? ⟨w.heap.size, 4, none⟩ = some (.int .i64 r.at_.y) /\ W'.cell? ⟨w.heap.size, 5, none⟩ = some (.int .i64 r.at_.z) /\ W'.cell? ⟨w.heap.size, 6, none⟩ = some (.int .i64 r.step.x) /\ W'.cell? ⟨w.heap.size, 7, none⟩ = some (.int .i64 r.step.y) /\ W'.cell? ⟨w.heap.size, 8, none⟩ = some (.int .i64 r.step.z) /\ W'.cell? ⟨w.heap.size, 9, none⟩ = some (.int .i64 r.count) := fun W' hw => by
   have g := (hb0.trans (hw.mono hb0.size))
   have g1 := hR0.via hw
   obtain ⟨c0, c1, c2, c3, c4⟩ := HC.out
   exact ⟨(g.cell (p := ⟨bb, _, none⟩) hbb').trans c0, (g.cell (p := ⟨bb, _, none⟩) hbb').trans c1, (g.cell (p := ⟨bb, _, none⟩) hbb').trans c2, (g.cell (p := ⟨bb, _, none⟩) hbb').trans c3, (g.cell (p := ⟨bb, _, none⟩) hbb').trans c4,
    g1.cell 0, g1.cell 1, g1.cell 2, g1.cell 3, g1.cell 4, g1.cell 5, g1.cell 6, g1.cell 7, g1.cell 8, g1.cell 9⟩
  have HK := lh hkeep
  clear hkeep hz HI HV HP HS HA
  have hrl := hR0.lt
  clear hR0
  obtain ⟨c0, c1, c2, c3, c4, d0, d1, d2, d3, d4, d5, d6, d7, d8, d9⟩ := HK.out W0 (Below.refl _ _)
  have hbb0 : bb < W0.heap.size := by have := hb0.size; omega
  cases N0
  all_goals (
   refine wp_region_mix 1 [5, 0, 9, 0] (by kernel_rfl) (by kernel_rfl) (of_decide_eq_true (by kernel_rfl)) ?_
   try simp only [wpSegs, gt1, gt2, gt3, gt4, List.take_nil, List.drop_nil]
   repeat (go_big_quiet_step (fail))
   refine wpQuiet_nil ?_
   show wpList _ _ _ _ _ _
   go_wp2_with ((go_at_call 173; (with_reducible refine (HP0.out _ (size_via hB belr) (HE.out.at_ hB belr)).mono ?_); rintro e wA ⟨AA, cAA, rfl, hoAA, hbAA⟩; have hcAA := (own_cells hoAA (by unfold maxLen; omega)).1))
   refine seg_next (grow_to belr) ?_
   try simp only [wpSegs, gt1, gt2, gt3, gt4, List.take_nil, List.drop_nil]
   repeat (go_big_quiet_step (fail))
   refine wpQuiet_nil ?_
   show wpList _ _ _ _ _ _
   go_wp2_with ((go_at_call 172; (with_reducible refine (HN0.out _ _ _ _ (Nat.le_refl _) hcAA).mono ?_); rintro e wB ⟨rfl, hbBB⟩; obtain ⟨hxBB, hyBB⟩ := bcell (show Below W0.heap.size W0 wB from belr)))
   refine seg_next (grow_to belr) ?_
   try simp only [wpSegs, gt1, gt2, gt3, gt4, List.take_nil, List.drop_nil]
   repeat (go_big_quiet_step (fail))
   refine wpQuiet_nil ?_
   show wpList _ _ _ _ _ _
   go_wp2_with ((go_at_call 173; (with_reducible refine (HPQ.out _ (size_via hB belr) (HE.out.at_ hB belr)).mono ?_); rintro e wC ⟨AC, cAC, rfl, hoAC, hbAC⟩; have hcAC := (own_cells hoAC (by unfold maxLen; omega)).1))
   refine seg_next (grow_to belr) ?_
   try simp only [wpSegs, gt1, gt2, gt3, gt4, List.take_nil, List.drop_nil]
   repeat (go_big_quiet_step (fail))
   refine wpQuiet_nil ?_
   show wpList _ _ _ _ _ _
   go_wp2_with ((go_at_call 172; (with_reducible refine (HNQ.out _ _ _ _ (Nat.le_refl _) hcAC).mono ?_); rintro e wD ⟨rfl, hbBD⟩; obtain ⟨hxBD, hyBD⟩ := bcell (show Below W0.heap.size W0 wD from belr)))
   refine seg_next (grow_to belr) ?_
   try simp only [wpSegs, gt1, gt2, gt3, gt4, List.take_nil, List.drop_nil]
   repeat (go_big_quiet_step (fail))
   refine wpQuiet_nil ?_
   show wpList _ _ _ _ _ _
   go_wp2
   go_ret
   exact ⟨rfl, belr⟩))
theorem rrun_any (l : List BarR) (r : Rn) (A : Option Addr) (n c : Nat) (B : Nat) (w : World) (hB : B <= w.heap.size) (hA : BarsAt w B A n l) (hs : S.sched (bars l) = true) :
 Calls Tryz.prog 120 #[.slice A n c, rnV r] w fun e w' => e = .returned (.bool (S.right (bars l) r)) /\ Below w.heap.size w w' := by
 rw [<- rrun_eq hs]
 by_cases h : S.rightHead (bars l) r = true
 ·by_cases h' : S.rightStep r = true
  ·obtain ⟨⟨h0, _⟩, _⟩ := rightHead_out h
   have hb := (index_bd (bars l) r.mark).2
   obtain ⟨k, hk⟩ : ∃ k : Nat, S.index (bars l) r.mark = (k : Int) := ⟨(S.index (bars l) r.mark).toNat, by omega⟩
   have hkl : k < l.length := by rw [hk] at hb; simpa using hb
   have e : S.rrun (bars l) r = (S.near (S.laidPath l[k].b r 0) 1048576 && S.near (S.laidPath l[k].b r (r.count - 1).toNat) 1048576) := by
    have : S.barAt (bars l) r.mark = some l[k].b := by
     unfold S.barAt
     rw [hk]
     simp [hkl]
    unfold S.rrun
    rw [h, h', this]
    rfl
   rw [e]
   exact rrun_in l r k l[k] A n c B w hB hA h h' hk (List.getElem?_eq_getElem hkl) (sched_bar hs (k := k) (by simp [hkl])).1
  ·have h2 : S.rightStep r = false := by simpa using h'
   have e : S.rrun (bars l) r = false := by unfold S.rrun; rw [h2]; simp
   rw [e]
   exact rrun_no1 l r A n c B w hB hA h h2
 ·have h2 : S.rightHead (bars l) r = false := by simpa using h
  have e : S.rrun (bars l) r = false := by unfold S.rrun; rw [h2]; simp
  rw [e]
  exact rrun_no0 l r A n c B w hB hA h2
set_option maxHeartbeats 1000000 in
theorem rlaid_any (l : List BarR) (rs : List Rn) (A : Option Addr) (n c : Nat) (A' : Option Addr) (n' c' : Nat) (B : Nat) (w : World) (hB : B <= w.heap.size) (hA : BarsAt w B A n l) (hR : RunsAt w B A' n' rs) :
 Calls Tryz.prog 86 #[.slice A n c, .slice A' n' c'] w fun e w' => e = .returned (.bool (S.laid (bars l) rs)) /\ Below w.heap.size w w' := by
 have HA := lh hA
 have HR := lh hR
 have HS := lh (fun (W : World) (hw : B <= W.heap.size) (hh : BarsAt W B A n l) => rsched_any l A n c B W hw hh)
 have HL := lh (show S.laid (bars l) rs = (S.sched (bars l) && decide (n' <= 60) && (rs.all (S.right (bars l)) && decide (S.sumAll rs <= 2000))) by unfold S.laid; rw [hR.len, runsOk_iff (by omega)])
 have hn := hR.len
 have hnm := hR.max
 by_cases hs : S.sched (bars l) = true
 rotate_left
 ·have hs' : S.sched (bars l) = false := by simpa using hs
  rw [hs'] at HS HL
  clear hA hR hs hs' hn
  go_enter Tryz.func86, Tryz.ntmps86
  go_wp2_with (first
   | (go_at_call 119; (with_reducible refine (HS.out _ hB HA.out).mono ?_); rintro e w1 ⟨rfl, hbw1⟩; obtain ⟨hcw1, hfw1⟩ := bcell hbw1))
  go_ret
  exact ⟨ret_b (by rw [HL.out]; rfl), bel⟩
 rw [hs] at HS HL
 have HRI := lh (fun (r : Rn) (W : World) (hw : B <= W.heap.size) (hh : BarsAt W B A n l) => rrun_any l r A n c B W hw hh hs)
 have HC := lh (fun (r : Rn) (h : S.right (bars l) r = true) => right_count h)
 have HCN := lh (fun (W : World) (hw : B <= W.heap.size) (hh : RunsAt W B A' n' rs) (h60 : n' <= 60) (hc : ∀ k (hk : k < rs.length), 0 <= rs[k].count /\ rs[k].count <= 1000) => rcount16_any rs A' n' c' B W hw hh h60 hc)
 unfold rnV at HRI
 by_cases h60 : 60 < n'
 ·have e : decide (n' <= 60) = false := by simpa using h60
  rw [e] at HL
  clear hA hR hs e hn
  go_enter Tryz.func86, Tryz.ntmps86
  go_wp2_with (first
   | (go_at_call 119; (with_reducible refine (HS.out _ hB HA.out).mono ?_); rintro e w1 ⟨rfl, hbw1⟩; obtain ⟨hcw1, hfw1⟩ := bcell hbw1))
  go_ret
  exact ⟨ret_b (by rw [HL.out]; rfl), bel⟩
 have e : decide (n' <= 60) = true := by simp; omega
 rw [e] at HL
 clear hA hR hs e hn
 go_enter Tryz.func86, Tryz.ntmps86
 go_wp2_with (first
  | (go_at_call 119; (with_reducible refine (HS.out _ hB HA.out).mono ?_); rintro e w1 ⟨rfl, hbw1⟩; obtain ⟨hcw1, hfw1⟩ := bcell hbw1))
 go_loopw [5] (fun i wr => ∃ (k : Nat), k <= n' /\ i = .int .i64 k /\ Hid (∀ j (hj : j < rs.length), j < k -> S.right (bars l) rs[j] = true) /\ Below w1.heap.size w1 wr) (fun i _ => n' - (intOf i).toNat)
 case atStart => exact ⟨0, Nat.zero_le _, rfl, lh (fun j _ hj => absurd hj (by omega)), Below.refl _ _⟩
 case round =>
  obtain ⟨k, hk, rfl, HNO, hbr⟩ := hrel
  have hbwr : Below w.heap.size w wr := hbw1.trans (hbr.mono hbw1.size)
  have hwr : B <= wr.heap.size := by have := hbwr.size; omega
  by_cases hlt : k < n'
  ·have hkx : k < rs.length := by have := HR.out.len; omega
   have hki : (k : Int) < (n' : Int) := by omega
   have HA' := lh (HA.out.at_ hB hbwr)
   have hs' := (HR.out.at_ hB hbwr).cells
   obtain ⟨b, o, hAe, _, _⟩ := hs'.at_ (by rw [flat_len rnC 10 rnC_len]; omega)
   subst hAe
   have c0 := hs'.row0 rnC_len hkx rfl
   have c1 := hs'.rowj rnC_len hkx 1 rfl
   have c2 := hs'.rowj rnC_len hkx 2 rfl
   have c3 := hs'.rowj rnC_len hkx 3 rfl
   have c4 := hs'.rowj rnC_len hkx 4 rfl
   have c5 := hs'.rowj rnC_len hkx 5 rfl
   have c6 := hs'.rowj rnC_len hkx 6 rfl
   have c7 := hs'.rowj rnC_len hkx 7 rfl
   have c8 := hs'.rowj rnC_len hkx 8 rfl
   have c9 := hs'.rowj rnC_len hkx 9 rfl
   have HRX := lh (fun (W : World) (hw : B <= W.heap.size) (hh : BarsAt W B A n l) => HRI.out rs[k] W hw hh)
   have HBAD := lh (fun (h : S.right (bars l) rs[k] = false) => all_no (p := S.right (bars l)) hkx h)
   have HGO := lh (fun (h : S.right (bars l) rs[k] = true) (j : Nat) (hj : j < rs.length) (hjk : j < k + 1) => show S.right (bars l) rs[j] = true from by
    by_cases hjk' : j = k
    ·subst hjk'; exact h
    ·exact HNO.out j hj (by omega))
   clear hs'
   generalize S.right (bars l) rs[k] = t at *
   generalize rs[k] = r at *
   cases t
   ·go_wp2_with (first
     | (go_at_call 120; (with_reducible refine (HRX.out _ hwr HA'.out).mono ?_); rintro e w2 ⟨rfl, hbw2⟩; obtain ⟨hcw2, hfw2⟩ := bcell hbw2))
    go_ret
    exact ⟨ret_b (by rw [HL.out, HBAD.out trivial]; rfl), hbwr.trans (hbw2.mono hbwr.size)⟩
   ·go_wp2_with (first
     | (go_at_call 120; (with_reducible refine (HRX.out _ hwr HA'.out).mono ?_); rintro e w2 ⟨rfl, hbw2⟩; obtain ⟨hcw2, hfw2⟩ := bcell hbw2))
    go_roundw
    case rel => exact ⟨k + 1, by omega, by go_num, lh (HGO.out trivial), hbr.trans (hbw2.mono hbr.size)⟩
    case measure => simp [intOf]; omega
  ·have hall : ∀ j (hj : j < rs.length), S.right (bars l) rs[j] = true := fun j hj => HNO.out j hj (by have := HR.out.len; omega)
   have HAL := lh (all_yes (p := S.right (bars l)) hall)
   have HCX := lh (HCN.out wr hwr (HR.out.at_ hB hbwr) (by omega) (fun j hj => by have := HC.out _ (hall j hj); omega))
   clear hall
   generalize S.sumAll rs = sm at *
   go_wp2_with (first
    | (go_at_call 121; (with_reducible refine (HCX.out).mono ?_); rintro e w' ⟨rfl, rfl⟩))
   go_ret
   exact ⟨ret_b (by rw [HL.out, HAL.out]; simp), hbwr⟩
theorem rplace_any (rs : List Rn) (A : Option Addr) (n c : Nat) (B : Nat) (w : World) (hB : B <= w.heap.size) (hR : RunsAt w B A n rs) (hc : ∀ k (hk : k < rs.length), 0 <= rs[k].count) (i k j : Nat) (hk : k < rs.length) (hi : (i : Int) = S.sumTo rs k + j) (hj : (j : Int) < rs[k].count) (hi64 : i <= 1000000) :
 Calls Tryz.prog 199 #[.slice A n c, .int .i64 i] w fun e w' => e = .returned (.tuple #[.int .i64 k, .int .i64 j]) /\ w = w' := by
 have HN := lh hR.len
 have HS := lh hR.cells
 have hnm := hR.max
 have hkn : k < n := by have := hR.len; omega
 have HSM := lh (fun (m : Nat) (hm : m <= k) => sumTo_mono (rs := rs) hc hm (by omega))
 have HSZ := lh (fun (m : Nat) (hm : m <= rs.length) => sumTo_mono (rs := rs) hc (Nat.zero_le m) hm)
 have HSS := lh (fun (m : Nat) (hm : m < rs.length) => sumTo_succ rs hm)
 have HI := lh hi
 have HJ := lh hj
 clear hR hi hj
 go_enter Tryz.func199, Tryz.ntmps199
 go_wp2
 go_loop [1, 6] (fun v m => ∃ q : Nat, q <= k /\ m = .int .i64 q /\ v = .int .i64 ((i : Int) - S.sumTo rs q)) (fun _ m => k - (intOf m).toNat)
 case atStart => exact ⟨0, Nat.zero_le _, rfl, by rw [sumTo_zero]; simp⟩
 case round =>
  obtain ⟨q, hq, rfl, rfl⟩ := hrel
  have hl := HN.out
  have hqx : q < rs.length := by omega
  have hqi : (q : Int) < (n : Int) := by omega
  have hs' := HS.out
  obtain ⟨b, o, rfl, _, _⟩ := hs'.at_ (by rw [flat_len rnC 10 rnC_len]; omega)
  have c9 := hs'.rowj rnC_len hqx 9 rfl
  have h0 := HSZ.out q (by omega)
  rw [sumTo_zero] at h0
  have h1 := HI.out
  have h2 := HSM.out q hq
  have h3 := HSS.out q hqx
  have h5 := hc q hqx
  clear hs' hl
  by_cases hlt : q < k
  ·have h4 := HSM.out (q + 1) (by omega)
   have hge : rs[q].count <= (i : Int) - S.sumTo rs q := by omega
   have e1 : IntKind.i64.wrap ((i : Int) - S.sumTo rs q - rs[q].count) = (i : Int) - S.sumTo rs (q + 1) := by
    rw [IntWalk.i64_in _ (by omega)]; omega
   have hd : decide (rs[q].count <= (i : Int) - S.sumTo rs q) = true := decide_eq_true hge
   clear h0 h1 h2 h3 h4 h5
   generalize hs1 : S.sumTo rs (q + 1) = s1 at *
   have HS1 := lh hs1
   clear hs1
   generalize S.sumTo rs q = s0 at *
   generalize rs[q].count = cq at *
   go_wp2
   go_round
   case rel => exact ⟨q + 1, by omega, by go_num, by rw [HS1.out]⟩
   case measure => simp [intOf]; omega
  ·have hqk : q = k := by omega
   subst hqk
   have hj' := HJ.out
   have hlt2 : ¬ rs[q].count <= (i : Int) - S.sumTo rs q := by omega
   have HE := lh (show (i : Int) - S.sumTo rs q = j by omega)
   clear h0 h1 h2 h3 hj'
   generalize (i : Int) - S.sumTo rs q = v at *
   generalize rs[q].count = cq at *
   go_wp2
   go_ret2
   exact ⟨ret_2 rfl HE.out, rfl⟩
structure Lies (l : List BarR) (rs : List Rn) (i k j k0 : Nat) (r : BarR) : Prop where
 st : Stands (bars l) rs i k j k0 r.b
 get : l[k0]? = some r
 cnt : ∀ k (hk : k < rs.length), 0 <= rs[k].count /\ rs[k].count <= 1000
 lim : i <= 1000000
theorem lies_of {l : List BarR} {rs : List Rn} (h : S.laid (bars l) rs = true) {i : Nat} (hi : i < (S.mains (bars l) rs).length) : ∃ k j k0 r, Lies l rs i k j k0 r := by
 obtain ⟨k, j, k0, b, hs⟩ := stands_of h hi
 have hg := hs.ok.get
 rw [List.getElem?_map] at hg
 cases hr : l[k0]? with
 | none => rw [hr] at hg; cases hg
 | some r =>
  rw [hr] at hg
  simp only [Option.map_some, Option.some.injEq] at hg
  subst hg
  simp only [S.laid, Bool.and_eq_true, decide_eq_true_eq] at h
  have hml := mains_len h.2 (by omega)
  exact ⟨k, j, k0, r, hs, hr, fun k hk => by have := right_count (runs_in h.2 (List.getElem_mem hk)); omega, by omega⟩
set_option maxHeartbeats 1000000 in
theorem rbar16_any (l : List BarR) (rs : List Rn) (A : Option Addr) (n c : Nat) (A' : Option Addr) (n' c' : Nat) (B : Nat) (w : World) (hB : B <= w.heap.size) (hA : BarsAt w B A n l) (hR : RunsAt w B A' n' rs) (i k j k0 : Nat) (r : BarR) (hL : Lies l rs i k j k0 r) :
 Calls Tryz.prog 150 #[.slice A n c, .slice A' n' c', .int .i64 i] w fun e w' => e = .returned (barV r.b r.A r.n r.c) /\ Below w.heap.size w w' := by
 have HA := lh hA
 have hkx := hL.st.lt
 have hkn : k < n' := by have := hR.len; omega
 have hki : (k : Int) < (n' : Int) := by omega
 have HP := lh (fun (W : World) (hw : B <= W.heap.size) (hh : RunsAt W B A' n' rs) => rplace_any rs A' n' c' B W hw hh (fun k hk => (hL.cnt k hk).1) i k j hkx hL.st.sum hL.st.inr hL.lim)
 have HR := lh hR
 have hix := hL.st.ok.index
 obtain ⟨hk0, hrg⟩ := List.getElem?_eq_some_iff.1 hL.get
 have hk0n : k0 < n := by have := hA.len; omega
 have hk0i : (k0 : Int) < (n : Int) := by omega
 have HF := lh (fun (W : World) (hw : B <= W.heap.size) (hh : BarsAt W B A n l) => hix ▸ rfind14_any l rs[k].mark A n c B W hw hh)
 have hs' := hR.cells
 obtain ⟨b, o, hAe, hbB, _⟩ := hs'.at_ (by rw [flat_len rnC 10 rnC_len]; omega)
 subst hAe
 have c0 := hs'.row0 rnC_len hkx rfl
 have hs2 := hA.cells
 obtain ⟨b2, o2, hAe2, hbB2, _⟩ := hs2.at_ (by rw [flat_len barC 5 barC_len]; omega)
 subst hAe2
 have d0 := hs2.row0 barC_len hk0 rfl
 have d1 := hs2.rowj barC_len hk0 1 rfl
 have d2 := hs2.rowj barC_len hk0 2 rfl
 have d3 := hs2.rowj barC_len hk0 3 rfl
 have d4 := hs2.rowj barC_len hk0 4 rfl
 rw [hrg] at d0 d1 d2 d3 d4
 have hb1 : b < w.heap.size := by omega
 have hb2 : b2 < w.heap.size := by omega
 clear hA hR hs' hs2 hix hrg
 clear hL
 generalize rs[k].mark = mk at *
 unfold barV
 go_enter Tryz.func150, Tryz.ntmps150
 go_wp2_with (first
  | (go_at_call 199; (with_reducible refine (HP.out _ (size_via hB bel) (HR.out.at_ hB bel)).mono ?_); rintro e w' ⟨rfl, rfl⟩)
  | (go_at_call 168; (with_reducible refine (HF.out _ (size_via hB bel) (HA.out.at_ hB bel)).mono ?_); rintro e w2 ⟨rfl, hbw2⟩; obtain ⟨hcw2, hfw2⟩ := bcell hbw2; have hzw2_0 : w.heap.size < w2.heap.size := lt_via hbw2 sz))
 have hbel : Below w.heap.size w w2 := bel
 exact bodyPost_ret (v := .agg #[.string r.b.mark, .int .i64 r.b.size, .int .i64 r.b.count, .int .i64 r.b.code, .slice r.A r.n r.c]) (by simp [results, Tryz.results150, go_sem, *]) rfl ⟨rfl, (((((hbel.setCell (Nat.le_refl _) _).setCell (Nat.le_refl _) _).setCell (Nat.le_refl _) _).setCell (Nat.le_refl _) _).setCell (Nat.le_refl _) _)⟩
set_option maxHeartbeats 2000000 in
theorem rpoints16_any (l : List BarR) (rs : List Rn) (A : Option Addr) (n c : Nat) (A' : Option Addr) (n' c' : Nat) (B : Nat) (w : World) (hB : B <= w.heap.size) (hA : BarsAt w B A n l) (hR : RunsAt w B A' n' rs) (i k j k0 : Nat) (r : BarR) (hL : Lies l rs i k j k0 r) (L : Nat) (hLL : (S.legsOf r.b.code).length = L) :
 Calls Tryz.prog 193 #[.slice A n c, .slice A' n' c', .int .i64 i] w (GivesOne 76 3 (L + 1) ((S.laidPath r.b (rs[k]'hL.st.lt) j).flatMap ptC) w) := by
 have HA := lh hA
 have hkx := hL.st.lt
 have hkn : k < n' := by have := hR.len; omega
 have hki : (k : Int) < (n' : Int) := by omega
 have HP := lh (fun (W : World) (hw : B <= W.heap.size) (hh : RunsAt W B A' n' rs) => rplace_any rs A' n' c' B W hw hh (fun k hk => (hL.cnt k hk).1) i k j hkx hL.st.sum hL.st.inr hL.lim)
 have HR := lh hR
 have HBR := lh (fun (W : World) (hw : B <= W.heap.size) (hh : BarsAt W B A n l) (hr : RunsAt W B A' n' rs) => rbar16_any l rs A n c A' n' c' B W hw hh hr i k j k0 r hL)
 obtain ⟨hk0, hrg⟩ := List.getElem?_eq_some_iff.1 hL.get
 have HE := lh (hrg ▸ hA.each l[k0] (List.getElem_mem hk0))
 have hok := hL.st.ok
 have hcn := hL.cnt k hkx
 have hjr := hL.st.inr
 have hst : 0 < j -> S.near1 rs[k].step 2097152 = true := fun hj => by
  have h1 := hok.start 1 (by omega) (by omega)
  have h2 := hok.home
  obtain ⟨ax, ay, az⟩ := near1_out h2
  obtain ⟨bx, by', bz⟩ := near1_out h1
  rw [show S.plus rs[k].at_ rs[k].step 1 = ⟨rs[k].at_.x + 1 * rs[k].step.x, rs[k].at_.y + 1 * rs[k].step.y, rs[k].at_.z + 1 * rs[k].step.z⟩ from rfl] at bx by' bz
  simp only [S.near1, Bool.and_eq_true, decide_eq_true_eq]
  simp only [] at bx by' bz
  omega
 have HPT := lh (fun (W : World) (hw : B <= W.heap.size) (hh : BarAt W B r.A r.n r.b) => rpoints_any r.b rs[k] j r.A r.n r.c B W hw hh hok.bar hok.turn hok.home (by omega) hst L hLL)
 have hs' := hR.cells
 obtain ⟨b, o, hAe, hbB, _⟩ := hs'.at_ (by rw [flat_len rnC 10 rnC_len]; omega)
 subst hAe
 have c0 := hs'.row0 rnC_len hkx rfl
 have c1 := hs'.rowj rnC_len hkx 1 rfl
 have c2 := hs'.rowj rnC_len hkx 2 rfl
 have c3 := hs'.rowj rnC_len hkx 3 rfl
 have c4 := hs'.rowj rnC_len hkx 4 rfl
 have c5 := hs'.rowj rnC_len hkx 5 rfl
 have c6 := hs'.rowj rnC_len hkx 6 rfl
 have c7 := hs'.rowj rnC_len hkx 7 rfl
 have c8 := hs'.rowj rnC_len hkx 8 rfl
 have c9 := hs'.rowj rnC_len hkx 9 rfl
 have hb1 : b < w.heap.size := by omega
 clear hA hR hs' hrg hok hcn hjr hst
 generalize S.laidPath r.b rs[k] j = LP at *
 generalize rs[k] = rr at *
 unfold barV at HBR HPT
 unfold rnV at HPT
 go_enter Tryz.func193, Tryz.ntmps193
 go_wp2_with (first
  | (go_at_call 199; (with_reducible refine (HP.out _ (size_via hB bel) (HR.out.at_ hB bel)).mono ?_); rintro e w' ⟨rfl, rfl⟩))
 refine wp_region_mix 0 [3, 5] (by kernel_rfl) (by kernel_rfl) (of_decide_eq_true (by kernel_rfl)) ?_
 try simp only [wpSegs, gt1, gt2, gt3, gt4, List.take_nil, List.drop_nil]
 repeat (go_big_quiet_step (fail))
 refine wpQuiet_nil ?_
 show wpList _ _ _ _ _ _
 go_wp2_with ((go_at_call 150; (with_reducible refine (HBR.out _ (size_via hB belr) (HA.out.at_ hB belr) (HR.out.at_ hB belr)).mono ?_); rintro e w1 ⟨rfl, hbw1⟩))
 refine seg_next (grow_to belr) ?_
 try simp only [wpSegs, gt1, gt2, gt3, gt4, List.take_nil, List.drop_nil]
 repeat (go_big_quiet_step (fail))
 refine wpQuiet_nil ?_
 show wpList _ _ _ _ _ _
 go_wp2_with ((go_at_call 173; (with_reducible refine (HPT.out _ (size_via hB belr) (HE.out.at_ hB belr)).mono ?_); rintro e w2 ⟨A2, c2', rfl, ho2, hbw2⟩))
 refine seg_next (grow_to belr) ?_
 try simp only [wpSegs, gt1, gt2, gt3, gt4, List.take_nil, List.drop_nil]
 repeat (go_big_quiet_step (fail))
 refine wpQuiet_nil ?_
 show wpList _ _ _ _ _ _
 go_wp2
 go_ret
 exact ⟨A2, c2', rfl, own_mono ho2 (show w.heap.size <= w1.heap.size from Below.size (w := w) belr), belr⟩
structure It where
 k : Nat
 A : Option Addr
 pts : List Pt
abbrev itE (y : It) : Array Value := #[.int .i64 y.k, .slice y.A y.pts.length y.pts.length]
structure KpL (B : Nat) (M : List Nat) (A C : World) : Prop where
 bel : Below B A C
 cells : ∀ k cs t fr, k ∉ M -> A.heap[k]? = some (.cells cs t fr) -> C.heap[k]? = some (.cells cs t fr)
theorem KpL.blk {B : Nat} {M : List Nat} {A C : World} (h : KpL B M A C) {g : Nat} {t : TypeId} {cs : Array Value} (hb : Blk A g t cs) (hg : g ∉ M) : Blk C g t cs := h.cells g cs t _ hg hb
def itR (x : Dt) (n0 : Nat) (pre : List It) (y : It) (V : World) : Prop :=
 y.k = pre.length /\ (∃ k j k0 r, ∃ hL : Lies x.bs x.rs y.k k j k0 r, y.pts = S.laidPath r.b (x.rs[k]'hL.st.lt) j) /\ ∃ g, y.A = some ⟨g, 0, none⟩ /\ n0 <= g /\ Blk V g 76 (y.pts.flatMap ptC).toArray
def fillA (cs : List Value) (m : Nat) : Array Value := (cs.take m ++ List.replicate (cs.length - m) (Value.int .i64 0)).toArray
theorem fillA_zero (cs : List Value) : fillA cs 0 = (List.replicate cs.length (Value.int .i64 0)).toArray := by simp [fillA]
theorem fillA_full (cs : List Value) : fillA cs cs.length = cs.toArray := by simp [fillA]
theorem fillA_get {cs : List Value} {m j : Nat} (hj : j < cs.length) : (fillA cs m)[j]? = if j < m then cs[j]? else some (Value.int .i64 0) := by
 unfold fillA
 simp only [List.getElem?_toArray]
 by_cases h : j < m
 ·rw [if_pos h, List.getElem?_append_left (by simp; omega), List.getElem?_take, if_pos h]
 ·have hl : (cs.take m).length = m := by rw [List.length_take]; omega
  rw [if_neg h, List.getElem?_append_right (by omega), hl, List.getElem?_replicate, if_pos (by omega)]
theorem fillA_out {cs : List Value} {m j : Nat} (hm : m <= cs.length) (hj : cs.length <= j) : (fillA cs m)[j]? = none := by
 rw [Array.getElem?_eq_none]
 simp [fillA]
 omega
theorem fillA_three {cs : List Value} {m : Nat} (hm : m + 3 <= cs.length) {D : Array Value} (hD : D = fillA cs m ∨ ∃ u0 u1 u2, D = (((fillA cs m).setIfInBounds m u0).setIfInBounds (m + 1) u1).setIfInBounds (m + 2) u2) {v0 v1 v2 : Value} (h0 : cs[m]? = some v0) (h1 : cs[m + 1]? = some v1) (h2 : cs[m + 2]? = some v2) :
 ((D.setIfInBounds m v0).setIfInBounds (m + 1) v1).setIfInBounds (m + 2) v2 = fillA cs (m + 3) := by
 have hz : (fillA cs m).size = cs.length := by simp [fillA]; omega
 have hs : D.size = cs.length := by
  rcases hD with rfl | ⟨u0, u1, u2, rfl⟩
  ·exact hz
  ·simpa using hz
 have hget : ∀ j, j ≠ m -> j ≠ m + 1 -> j ≠ m + 2 -> D[j]? = (fillA cs m)[j]? := by
  intro j a b c
  rcases hD with rfl | ⟨u0, u1, u2, rfl⟩
  ·rfl
  ·rw [Array.getElem?_setIfInBounds, if_neg (by omega), Array.getElem?_setIfInBounds, if_neg (by omega), Array.getElem?_setIfInBounds, if_neg (by omega)]
 apply Array.ext_getElem?
 intro j
 by_cases hj : j < cs.length
 ·rw [fillA_get hj]
  by_cases e2 : j = m + 2
  ·subst e2
   rw [if_pos (by omega), Array.getElem?_setIfInBounds, if_pos rfl, if_pos (by simp [hs]; omega), h2]
  ·rw [Array.getElem?_setIfInBounds, if_neg (by omega)]
   by_cases e1 : j = m + 1
   ·subst e1
    rw [if_pos (by omega), Array.getElem?_setIfInBounds, if_pos rfl, if_pos (by simp [hs]; omega), h1]
   ·rw [Array.getElem?_setIfInBounds, if_neg (by omega)]
    by_cases e0 : j = m
    ·subst e0
     rw [if_pos (by omega), Array.getElem?_setIfInBounds, if_pos rfl, if_pos (by simp [hs]; omega), h0]
    ·rw [Array.getElem?_setIfInBounds, if_neg (by omega), hget j e0 e1 e2, fillA_get hj]
     by_cases h : j < m
     ·rw [if_pos h, if_pos (by omega)]
     ·rw [if_neg h, if_neg (by omega)]
 ·rw [fillA_out (by omega) (by omega), Array.getElem?_eq_none]
  simp [hs]
  omega
theorem three_get {D : Array Value} {m : Nat} (h : m + 3 <= D.size) (a b c : Value) :
 (((D.setIfInBounds m a).setIfInBounds (m + 1) b).setIfInBounds (m + 2) c)[m]? = some a /\ (((D.setIfInBounds m a).setIfInBounds (m + 1) b).setIfInBounds (m + 2) c)[m + 1]? = some b /\ (((D.setIfInBounds m a).setIfInBounds (m + 1) b).setIfInBounds (m + 2) c)[m + 2]? = some c := by
 refine ⟨?_, ?_, ?_⟩
 ·rw [Array.getElem?_setIfInBounds, if_neg (by omega), Array.getElem?_setIfInBounds, if_neg (by omega), Array.getElem?_setIfInBounds, if_pos rfl, if_pos (by omega)]
 ·rw [Array.getElem?_setIfInBounds, if_neg (by omega), Array.getElem?_setIfInBounds, if_pos rfl, if_pos (by simp; omega)]
 ·rw [Array.getElem?_setIfInBounds, if_pos rfl, if_pos (by simp; omega)]
theorem fillA_size {cs : List Value} {m : Nat} (h : m <= cs.length) : (fillA cs m).size = cs.length := by
 simp [fillA]
 omega
theorem laid_map {b : Bar} {r : Rn} (ht : S.turn r.tx r.ty = true) (h : S.bar b = true) (j : Nat) : (S.turned b r).map (S.laidPt r j) = S.laidPath b r j := by
 rw [turned_eq ht h]
 unfold S.laidPath
 rw [List.map_map]
 apply List.map_congr_left
 intro p _
 show S.laidPt r j (S.placed r.tx r.ty ⟨0, 0, 0⟩ p) = S.placed r.tx r.ty (S.plus r.at_ r.step j) p
 unfold S.laidPt S.placed S.plus
 by_cases hj : (0 : Int) < (j : Int)
 ·rw [if_pos hj]
  simp only [Pt.mk.injEq]
  omega
 ·have h0 : j = 0 := by omega
  subst h0
  rw [if_neg hj]
  simp only [Pt.mk.injEq]
  omega
theorem laid_bounds {bs : List Bar} {r : Rn} {k0 : Nat} {b : Bar} (ho : RunOk bs r k0 b) {p : Pt} (hp : p ∈ S.turned b r) {j : Nat} (hj : (j : Int) < r.count) :
 S.near1 p 4398046511104 = true /\ S.near1 r.at_ 4194304 = true /\ S.near1 (S.plus p r.at_ 1) 4398046511104 = true /\ ((0 : Int) < j -> S.near1 r.step 4194304 = true) := by
 have h1 : S.near1 p 4194304 = true := fpath_near hp
 have h2 := plus_near h1 ho.home (k := 1) (c := 1) (by omega) (by omega)
 refine ⟨near1_mono h1 (by omega), near1_mono ho.home (by omega), near1_mono h2 (by omega), fun h0 => ?_⟩
 obtain ⟨ax, ay, az⟩ := near1_out ho.home
 obtain ⟨bx, by', bz⟩ := near1_out (ho.start 1 (by omega) (by omega))
 simp only [S.plus] at bx by' bz
 simp only [S.near1, Bool.and_eq_true, decide_eq_true_eq]
 omega
theorem lies_at {l : List BarR} {rs : List Rn} (h : S.laid (bars l) rs = true) {i k j k0 : Nat} {b : BarR} (hk : k < rs.length) (hg : l[k0]? = some b) (ho : RunOk (bars l) rs[k] k0 b.b) (hi : (i : Int) = S.sumTo rs k + j) (hj : (j : Int) < rs[k].count) : Lies l rs i k j k0 b := by
 have hh := h
 simp only [S.laid, Bool.and_eq_true, decide_eq_true_eq] at hh
 obtain ⟨⟨hs, hl⟩, hr⟩ := hh
 have hin : ∀ r, r ∈ rs -> S.right (bars l) r = true := fun r hr' => runs_in hr hr'
 have hm := mains_sum hs hin (k := k) (by omega)
 have hsn := mains_snoc (bars l) rs hk ho.at_
 have hlen : i < (S.mains (bars l) rs).length := by
  have hm2 := mains_sum hs hin (k := k + 1) (by omega)
  rw [sumTo_succ rs hk] at hm2
  have hm3 := mains_sum hs hin (k := rs.length) (Nat.le_refl _)
  rw [List.take_length] at hm3
  have hmono := sumTo_mono (rs := rs) (fun q hq => by have := right_count (hin _ (List.getElem_mem hq)); omega) (show k + 1 <= rs.length by omega) (Nat.le_refl _)
  rw [sumTo_succ rs hk] at hmono
  omega
 obtain ⟨k', j', k0', b', hL⟩ := lies_of h hlen
 refine ⟨⟨hk, ho, hi, hj, ?_⟩, hg, hL.cnt, hL.lim⟩
 -- the same place: read it off the lists
 have hpre : S.mains (bars l) rs = S.mains (bars l) (rs.take (k + 1)) ++ S.mains (bars l) (rs.drop (k + 1)) := by
  unfold S.mains
  rw [<- List.flatMap_append, List.take_append_drop]
 rw [hpre, List.getElem?_append_left (by rw [hsn, List.length_append, mainsOf_len]; omega), hsn, List.getElem?_append_right (by omega)]
 have e : i - (S.mains (bars l) (rs.take k)).length = j := by omega
 rw [e]
 unfold S.mainsOf
 rw [List.getElem?_map, List.getElem?_range (by omega)]
 rfl
end Go.Proofs.YtmfpbafpnoomeaaGreat
