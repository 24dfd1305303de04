/- Contracts: lap.Valid, lap.Chains, lap.Check without laps. -/
import Derived.Test.YtffkmgjmlahfpaaGreatYAC
set_option linter.unusedVariables false
set_option linter.unusedSimpArgs false
namespace Go.Proofs.YtffkmgjmlahfpaaGreat
open Go.RowKit
set_option maxRecDepth 20000 in
set_option maxHeartbeats 2000000 in
theorem lvalid_any (x : Dt) (t : Bool) (B : Nat) (n : Nat) (xs : List Value) (w : World) (hB : B ≤ w.heap.size)
    (hL : ∀ W, Below w.heap.size w W → Calls Tryz.prog 65 #[dtV x] W (GivesLook t n xs W)) :
    Calls Tryz.prog 87 #[dtV x] w fun e w' => e = .returned (.bool t) ∧ Below w.heap.size w w' := by
  have HL := Lib.hid hL
  clear hL
  unfold dtV at HL
  unfold dtV
  have hDB := (Blk.new w 34 #[.string x.m.name, .slice x.mA x.mn x.mc, .slice x.hA x.hn x.hc, .int .i64 x.m.cover, .int .i64 x.m.aggr, .int .i64 x.m.poker, .slice x.bA x.bn x.bc, .slice x.rA x.rn x.rc, .slice x.jA x.jn x.jc, .slice x.dA x.dn x.dc, .int .i64 x.rule.num, .int .i64 x.rule.den, .int .i64 x.rule.pnum, .int .i64 x.rule.pden, .int .i64 x.rule.bnum, .int .i64 x.rule.bden, .int .i64 x.rule.lnum, .int .i64 x.rule.lden, .int .i64 x.rule.least])
  have hRG := hDB.range
  go_enter Tryz.func87, Tryz.ntmps87
  go_wp2_with (first
    | (refine wpList_load_mid rfl 34 (.tmp 1) rfl _ _ rfl _ _ hRG Tryz.underlying34 rfl (by kernel_rfl) ?_)
    | (go_at_call 65; (with_reducible refine (HL.out _ bel).mono ?_); rintro e w1 ⟨A1, c1', rfl, how1, hbw1⟩))
  go_ret
  exact ⟨rfl, bel⟩
def GivesChE (L : List (List Int)) (w : World) (e : Ending) (w' : World) : Prop :=
  ∃ (A : Option Addr) (c : Nat) (rs : List Chn), e = .returned (.tuple #[.slice A rs.length c, .int .i64 0]) ∧ rs.map (·.l) = L ∧ rs.length ≤ c ∧ Cells w' w'.heap.size A (rs.map chV) ∧ (∀ r, r ∈ rs → Cells w' w'.heap.size r.A (i64s r.l) ∧ r.l.length ≤ r.c) ∧ Below w.heap.size w w'
set_option maxRecDepth 20000 in
set_option maxHeartbeats 2000000 in
theorem lchains_yes (x : Dt) (B : Nat) (n : Nat) (xs : List Value) (L : List (List Int)) (w : World) (hB : B ≤ w.heap.size) (hn : n ≤ 2000)
    (hL : ∀ W, Below w.heap.size w W → Calls Tryz.prog 65 #[dtV x] W (GivesLook true n xs W)) (hC : ∀ W, Below w.heap.size w W → Calls Tryz.prog 69 #[dtV x, .int .i64 n] W (GivesChs L W)) :
    Calls Tryz.prog 18 #[dtV x] w (GivesChE L w) := by
  have HL := Lib.hid hL
  have HC := Lib.hid hC
  clear hL hC
  unfold dtV at HL HC
  unfold dtV
  have hDB := (Blk.new w 34 #[.string x.m.name, .slice x.mA x.mn x.mc, .slice x.hA x.hn x.hc, .int .i64 x.m.cover, .int .i64 x.m.aggr, .int .i64 x.m.poker, .slice x.bA x.bn x.bc, .slice x.rA x.rn x.rc, .slice x.jA x.jn x.jc, .slice x.dA x.dn x.dc, .int .i64 x.rule.num, .int .i64 x.rule.den, .int .i64 x.rule.pnum, .int .i64 x.rule.pden, .int .i64 x.rule.bnum, .int .i64 x.rule.bden, .int .i64 x.rule.lnum, .int .i64 x.rule.lden, .int .i64 x.rule.least])
  have hRG := hDB.range
  go_enter Tryz.func18, Tryz.ntmps18
  go_wp2_with (first
    | (refine wpList_load_mid rfl 34 (.tmp 1) rfl _ _ rfl _ _ hRG Tryz.underlying34 rfl (by kernel_rfl) ?_)
    | (refine wpList_load_mid rfl 34 (.tmp 1) rfl _ _ rfl _ _ hRG1 Tryz.underlying34 rfl (by kernel_rfl) ?_)
    | (go_at_call 65; (with_reducible refine (HL.out _ bel).mono ?_); rintro e w1 ⟨A1, c1', rfl, how1, hbw1⟩; have hRG1 := (hDB.via hbw1).range)
    | (go_at_call 69; (with_reducible refine (HC.out _ bel).mono ?_); rintro e w2 ⟨A2, c2, rs, rfl, hrs, hrc, hcc, hce, hbw2⟩))
  go_ret2
  exact ⟨A2, c2, rs, rfl, hrs, hrc, hcc, hce, bel⟩
end Go.Proofs.YtffkmgjmlahfpaaGreat
