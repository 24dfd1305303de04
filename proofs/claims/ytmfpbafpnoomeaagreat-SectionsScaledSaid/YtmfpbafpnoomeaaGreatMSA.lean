/- Lemmas. -/
import Derived.Test.YtmfpbafpnoomeaaGreatMTopS
set_option linter.unusedVariables false
set_option linter.unusedSimpArgs false
namespace Go.Proofs.YtmfpbafpnoomeaaGreat
open Go.RowKit

/-- A span lies in another. -/
def S.covers (s t : Sp) : Bool := decide (t.lo ≤ s.lo) && decide (s.hi ≤ t.hi)
theorem scalc_any (s t : Sp) (g : Nat) (w : World) (c0 : w.cell? ⟨g, 0, none⟩ = some (.int .i64 s.lo)) (c1 : w.cell? ⟨g, 1, none⟩ = some (.int .i64 s.hi)) (hg : g < w.heap.size) :
    Calls Tryz.prog 37 #[.agg #[.int .i64 t.lo, .int .i64 t.hi], .pointer (some ⟨g, 0, none⟩)] w fun e w' => e = .returned (.bool (S.covers s t)) ∧ Below w.heap.size w w' := by
  have H := Lib.hid (show S.covers s t = (decide (t.lo ≤ s.lo) && decide (s.hi ≤ t.hi)) from rfl)
  by_cases h : t.lo ≤ s.lo
  · have b1 : decide (t.lo ≤ s.lo) = true := decide_eq_true h
    go_enter Tryz.func37, Tryz.ntmps37
    go_wp2
    go_ret
    exact ⟨ret_b (by rw [H.out, b1]; rfl), (by repeat (first | exact Below.refl _ _ | assumption | refine ba_alloc ?_ _ | refine ba_drew ?_ | refine ba_drewN ?_ _ | refine ba_via (by assumption) ?_ | (refine ba_set ?_ ?_ _; rotate_left; (first | omega | (simp; omega) | simp))))⟩
  · have b1 : decide (t.lo ≤ s.lo) = false := decide_eq_false h
    have H2 := Lib.hid (show S.covers s t = false by rw [H.out, b1]; rfl)
    clear h
    go_enter Tryz.func37, Tryz.ntmps37
    go_wp2
    go_ret
    exact ⟨ret_b H2.out.symm, (by repeat (first | exact Below.refl _ _ | assumption | refine ba_alloc ?_ _ | refine ba_drew ?_ | refine ba_drewN ?_ _ | refine ba_via (by assumption) ?_ | (refine ba_set ?_ ?_ _; rotate_left; (first | omega | (simp; omega) | simp))))⟩
set_option maxRecDepth 20000 in
set_option maxHeartbeats 4000000 in
theorem scalLaw_yes (x : Dt) (ds : List Dm) (dm : Dm) (L M : List Sp) (okx : Bool) (oks : Nat → Bool) (u v r : Nat) (a b : Int) (w : World) (hu : u ≤ 255) (hv : v ≤ 65535) (hr : r ≤ 65535) (hdn : 0 < x.dn) (hmx : x.dn ≤ 1000)
    (hA : a = ((1 + r % 1000 + v % (1001 - (1 + r % 1000)) : Nat) : Int)) (hB : b = ((1 + r % 1000 : Nat) : Int)) (hk : ds[u % x.dn]? = some dm) (hok : DtOk w x ds) (hL : L.length ≤ 400) (hM : M.length ≤ 400)
    (hLM : (∀ s, s ∈ dm.st → S.scaleV a b s.val ≤ 1099511627776) → ∀ t, t ∈ L → ∃ t', t' ∈ M ∧ t'.lo ≤ t.lo ∧ t.hi ≤ t'.hi)
    (hall : okx = (List.range x.dn).all oks)
    (hRD : ∀ W, Below w.heap.size w W → Calls Tryz.prog 25 #[dtV x, .int .i64 (u % x.dn : Nat)] W fun e w' => e = .returned (.bool true) ∧ Below W.heap.size W w')
    (hCP : ∀ W, Below w.heap.size w W → Calls Tryz.prog 35 #[dtV x] W (GivesCopy x ds W))
    (hSC : ∀ W, Below w.heap.size w W → Calls Tryz.prog 36 #[dmV dm, .int .i64 a, .int .i64 b] W (ScaledTo dm a b W))
    (hSX : ∀ W, Below w.heap.size w W → Calls Tryz.prog 13 #[dtV x, .int .i64 (u % x.dn : Nat)] W (GivesSpn L W))
    (hSM : (∀ s, s ∈ dm.st → S.scaleV a b s.val ≤ 1099511627776) → ∀ (W : World) (x' : Dt) (D : List Dm), DtOk W x' D → SameDt x x' → D.map dmN = ds.map dmN → D.map (·.st) = (ds.map (·.st)).set (u % x.dn) (S.scaleSt a b dm.st) → ∀ V, Below W.heap.size W V → Calls Tryz.prog 13 #[dtV x', .int .i64 (u % x.dn : Nat)] V (GivesSpn M V))
    (hPX : ∀ W, Below w.heap.size w W → Calls Tryz.prog 22 #[dtV x] W fun e w' => e = .returned (.tuple #[.bool okx, .int .i64 0]) ∧ Below W.heap.size W w')
    (hPO : ∀ i (hi : i < ds.length), ∀ (W : World) (x' : Dt) (d : Dm), DtOk W x' [d] → SameDt x x' → dmK d = dmK ds[i] → ∀ V, Below W.heap.size W V → Calls Tryz.prog 22 #[dtV x'] V fun e w' => e = .returned (.tuple #[.bool (oks i), .int .i64 0]) ∧ Below V.heap.size V w') :
    Calls Tryz.prog 9 #[dtV x, .int .u8 u, .int .u16 v, .int .u16 r] w fun e w' => e = .returned (.bool true) ∧ Below w.heap.size w w' := by
  have hdc := sec_dem hok hk
  have bz : ((x.dn : Int) == 0) = false := by simp; omega
  have bn : (x.dn : Int) ≠ 0 := by omega
  have e1 : IntKind.i64.wrap (u : Int) = (u : Int) := IntWalk.i64_in _ (by omega)
  have e2 : (u : Int).tmod (x.dn : Int) = ((u % x.dn : Nat) : Int) := by rw [Int.tmod_eq_emod_of_nonneg (by omega)]; exact (Int.natCast_emod u x.dn).symm
  have hkd : u % x.dn < x.dn := Nat.mod_lt _ (by omega)
  generalize u % x.dn = k at *
  have e3 : IntKind.i64.wrap (k : Int) = (k : Int) := IntWalk.i64_in _ (by omega)
  have hki : (k : Int) < x.dn := by omega
  have e5 : IntKind.i64.wrap (r : Int) = (r : Int) := IntWalk.i64_in _ (by omega)
  have e6 : (r : Int).tmod 1000 = ((r % 1000 : Nat) : Int) := by rw [Int.tmod_eq_emod_of_nonneg (by omega)]; omega
  have hr1 : r % 1000 < 1000 := Nat.mod_lt _ (by omega)
  generalize r % 1000 = r1 at *
  have e7 : IntKind.i64.wrap (r1 : Int) = (r1 : Int) := IntWalk.i64_in _ (by omega)
  have e8 : IntKind.i64.wrap (1 + (r1 : Int)) = b := by rw [show 1 + (r1 : Int) = b by omega]; exact IntWalk.i64_in _ (by omega)
  obtain ⟨c1, hc1⟩ : ∃ c1, c1 = 1001 - (1 + r1) := ⟨_, rfl⟩
  rw [← hc1] at hA
  have e9 : IntKind.i64.wrap (v : Int) = (v : Int) := IntWalk.i64_in _ (by omega)
  have e10 : IntKind.i64.wrap (1001 - b) = (c1 : Int) := by rw [show 1001 - b = (c1 : Int) by omega]; exact IntWalk.i64_in _ (by omega)
  have bc : (c1 : Int) ≠ 0 := by omega
  have e11 : (v : Int).tmod (c1 : Int) = ((v % c1 : Nat) : Int) := by rw [Int.tmod_eq_emod_of_nonneg (by omega)]; exact (Int.natCast_emod v c1).symm
  have hv1 : v % c1 < c1 := Nat.mod_lt _ (by omega)
  generalize v % c1 = v1 at *
  have e12 : IntKind.i64.wrap (v1 : Int) = (v1 : Int) := IntWalk.i64_in _ (by omega)
  have e13 : IntKind.i64.wrap (b + (v1 : Int)) = a := by rw [show b + (v1 : Int) = a by omega]; exact IntWalk.i64_in _ (by omega)
  have HRD := Lib.hid hRD
  have HCP := Lib.hid hCP
  have HSC := Lib.hid hSC
  have HSX := Lib.hid hSX
  have HSM := Lib.hid hSM
  have HPX := Lib.hid hPX
  have HPO := Lib.hid hPO
  have HLM := Lib.hid hLM
  have HDC := Lib.hid hdc
  have HOK := Lib.hid hok
  have HDK := Lib.hid hk
  have HAL := Lib.hid hall
  clear hRD hCP hSC hSX hSM hPX hPO hLM hdc hok hk hall hA hB hc1
  unfold dtV at HRD HCP HSX HPX
  unfold dmV at HSC
  have HA := Lib.hid (fun w => awake27_any w)
  unfold dtV
  have hDB := Blk.new w 34 #[.string x.m.name, .slice x.mA x.mn x.mc, .slice x.hA x.hn x.hc, .int .i64 x.m.cover, .int .i64 x.m.aggr, .int .i64 x.m.poker, .slice x.bA x.bn x.bc, .slice x.rA x.rn x.rc, .slice x.jA x.jn x.jc, .slice x.dA x.dn x.dc, .int .i64 x.rule.num, .int .i64 x.rule.den, .int .i64 x.rule.pnum, .int .i64 x.rule.pden, .int .i64 x.rule.bnum, .int .i64 x.rule.bden, .int .i64 x.rule.lnum, .int .i64 x.rule.lden, .int .i64 x.rule.least]
  have hW1 : Below w.heap.size w (w.alloc (.cells #[.string x.m.name, .slice x.mA x.mn x.mc, .slice x.hA x.hn x.hc, .int .i64 x.m.cover, .int .i64 x.m.aggr, .int .i64 x.m.poker, .slice x.bA x.bn x.bc, .slice x.rA x.rn x.rc, .slice x.jA x.jn x.jc, .slice x.dA x.dn x.dc, .int .i64 x.rule.num, .int .i64 x.rule.den, .int .i64 x.rule.pnum, .int .i64 x.rule.pden, .int .i64 x.rule.bnum, .int .i64 x.rule.bden, .int .i64 x.rule.lnum, .int .i64 x.rule.lden, .int .i64 x.rule.least] 34)) := ba_alloc (Below.refl _ _) _
  go_enter Tryz.func9, Tryz.ntmps9
  go_upto_region 1 with fail
  generalize (w.alloc (.cells #[.string x.m.name, .slice x.mA x.mn x.mc, .slice x.hA x.hn x.hc, .int .i64 x.m.cover, .int .i64 x.m.aggr, .int .i64 x.m.poker, .slice x.bA x.bn x.bc, .slice x.rA x.rn x.rc, .slice x.jA x.jn x.jc, .slice x.dA x.dn x.dc, .int .i64 x.rule.num, .int .i64 x.rule.den, .int .i64 x.rule.pnum, .int .i64 x.rule.pden, .int .i64 x.rule.bnum, .int .i64 x.rule.bden, .int .i64 x.rule.lnum, .int .i64 x.rule.lden, .int .i64 x.rule.least] 34)) = W1 at *
  have HDB := Lib.hid hDB
  clear hDB
  go_upto_region 3 with (go_at_call 10; (with_reducible refine (HA.out _).mono ?_); rintro e wa ⟨rfl, hbwa⟩)
  have hwa : Below w.heap.size w wa := ba_via hbwa hW1
  have HDA := Lib.hid (HDB.out.via hbwa)
  have hDx := HDA.out
  have d9 := hDx.cell 9
  have dl := hDx.lt
  simp only [List.getElem?_toArray, List.getElem?_cons_zero, List.getElem?_cons_succ] at d9
  clear hDx HDB hbwa hW1 HA
  refine wp_region_mix 0 [5, 6] (by kernel_rfl) (by kernel_rfl) (of_decide_eq_true (by kernel_rfl)) ?_
  try simp only [wpSegs, List.take_succ_cons, List.take_zero, List.drop_succ_cons, List.drop_zero, List.take_nil, List.drop_nil]
  repeat (go_big_quiet_step (fail))
  refine wpQuiet_nil ?_
  show wpList _ _ _ _ _ _
  go_wp2_with ((refine wpList_load_gdF (by rfl) 34 (.tmp 4) rfl _ _ rfl _ _ (HDA.out.via (by repeat (with_reducible first | exact Below.refl _ _ | assumption | refine ba_alloc ?_ _ | refine ba_drew ?_ | refine ba_drewN ?_ _ | refine ba_via (by assumption) ?_ | (refine ba_set ?_ ?_ _; rotate_left; (first | omega | (simp; omega) | simp))))).range Tryz.underlying34 rfl (by kernel_rfl) ?_))
  refine seg_next (grow_to (by repeat (with_reducible first | exact Below.refl _ _ | assumption | refine ba_alloc ?_ _ | refine ba_drew ?_ | refine ba_drewN ?_ _ | refine ba_via (by assumption) ?_ | (refine ba_set ?_ ?_ _; rotate_left; (first | omega | (simp; omega) | simp))))) ?_
  try simp only [wpSegs, List.take_succ_cons, List.take_zero, List.drop_succ_cons, List.drop_zero, List.take_nil, List.drop_nil]
  repeat (go_big_quiet_step (fail))
  refine wpQuiet_nil ?_
  show wpList _ _ _ _ _ _
  go_wp2_with ((go_at_call 25; (with_reducible refine (HRD.out _ (ba_via (by repeat (with_reducible first | exact Below.refl _ _ | assumption | refine ba_alloc ?_ _ | refine ba_drew ?_ | refine ba_drewN ?_ _ | refine ba_via (by assumption) ?_ | (refine ba_set ?_ ?_ _; rotate_left; (first | omega | (simp; omega) | simp)))) hwa)).mono ?_); rintro e wr ⟨rfl, hbwr⟩))
  refine seg_next (grow_to (by repeat (with_reducible first | exact Below.refl _ _ | assumption | refine ba_alloc ?_ _ | refine ba_drew ?_ | refine ba_drewN ?_ _ | refine ba_via (by assumption) ?_ | (refine ba_set ?_ ?_ _; rotate_left; (first | omega | (simp; omega) | simp))))) ?_
  try simp only [wpSegs, List.take_succ_cons, List.take_zero, List.drop_succ_cons, List.drop_zero, List.take_nil, List.drop_nil]
  repeat (go_big_quiet_step (fail))
  refine wpQuiet_nil ?_
  show wpList _ _ _ _ _ _
  have har : Below wa.heap.size wa wr := (by repeat (with_reducible first | exact Below.refl _ _ | assumption | refine ba_alloc ?_ _ | refine ba_drew ?_ | refine ba_drewN ?_ _ | refine ba_via (by assumption) ?_ | (refine ba_set ?_ ?_ _; rotate_left; (first | omega | (simp; omega) | simp))))
  have hwr : Below w.heap.size w wr := ba_via har hwa
  have HDR := Lib.hid (HDA.out.via har)
  have hDx := HDR.out
  have d9 := hDx.cell 9
  have dl := hDx.lt
  simp only [List.getElem?_toArray, List.getElem?_cons_zero, List.getElem?_cons_succ] at d9
  clear hDx HDA HRD hwa har hbwr bz
  go_upto_region 8 with fail
  clear d9 dl e1 e2 e5 e6 e7 e8 e9 e10 e11 e12 e13 bn bc
  go_upto_region 9 with (first
    | ((with_reducible refine at_load 34 4 ?_); refine wpList_load_mid rfl 34 (.tmp 4) rfl _ _ rfl _ _ (HDR.out.via (by repeat (with_reducible first | exact Below.refl _ _ | assumption | refine ba_alloc ?_ _ | refine ba_drew ?_ | refine ba_drewN ?_ _ | refine ba_via (by assumption) ?_ | (refine ba_set ?_ ?_ _; rotate_left; (first | omega | (simp; omega) | simp))))).range Tryz.underlying34 rfl (by kernel_rfl) ?_)
    | (go_at_call 35; (with_reducible refine (HCP.out _ hwr).mono ?_); rintro e w3 hcop; obtain ⟨x', ds', go, c, rfl, hCO, hb3⟩ := copy_form hcop hdn; clear hcop)
    | ((with_reducible refine at_store 34 12 63 ?_); refine wpList_store_mid rfl 34 (.tmp 12) (.tmp 63) rfl w3.heap.size 0 #[.string x'.m.name, .slice x'.mA x'.mn x'.mc, .slice x'.hA x'.hn x'.hc, .int .i64 x'.m.cover, .int .i64 x'.m.aggr, .int .i64 x'.m.poker, .slice x'.bA x'.bn x'.bc, .slice x'.rA x'.rn x'.rc, .slice x'.jA x'.jn x'.jc, .slice (some ⟨go, 0, none⟩) x.dn c, .int .i64 x'.rule.num, .int .i64 x'.rule.den, .int .i64 x'.rule.pnum, .int .i64 x'.rule.pden, .int .i64 x'.rule.bnum, .int .i64 x'.rule.bden, .int .i64 x'.rule.lnum, .int .i64 x'.rule.lden, .int .i64 x'.rule.least] rfl rfl (show (w3.alloc (.cells #[.string ⟨#[]⟩, .slice none 0 0, .slice none 0 0, .int .i64 0, .int .i64 0, .int .i64 0, .slice none 0 0, .slice none 0 0, .slice none 0 0, .slice none 0 0, .int .i64 0, .int .i64 0, .int .i64 0, .int .i64 0, .int .i64 0, .int .i64 0, .int .i64 0, .int .i64 0, .int .i64 0] 34)).there w3.heap.size 0 (#[.string x'.m.name, .slice x'.mA x'.mn x'.mc, .slice x'.hA x'.hn x'.hc, .int .i64 x'.m.cover, .int .i64 x'.m.aggr, .int .i64 x'.m.poker, .slice x'.bA x'.bn x'.bc, .slice x'.rA x'.rn x'.rc, .slice x'.jA x'.jn x'.jc, .slice (some ⟨go, 0, none⟩) x.dn c, .int .i64 x'.rule.num, .int .i64 x'.rule.den, .int .i64 x'.rule.pnum, .int .i64 x'.rule.pden, .int .i64 x'.rule.bnum, .int .i64 x'.rule.bden, .int .i64 x'.rule.lnum, .int .i64 x'.rule.lden, .int .i64 x'.rule.least] : Array Value).size from (Blk.new w3 34 #[.string ⟨#[]⟩, .slice none 0 0, .slice none 0 0, .int .i64 0, .int .i64 0, .int .i64 0, .slice none 0 0, .slice none 0 0, .slice none 0 0, .slice none 0 0, .int .i64 0, .int .i64 0, .int .i64 0, .int .i64 0, .int .i64 0, .int .i64 0, .int .i64 0, .int .i64 0, .int .i64 0]).there (by simp)) (by kernel_rfl) (all_oneCell_toArray (by simp [Value.oneCell'])) ?_; have hO8 := Blk.put0 (Blk.new w3 34 #[.string ⟨#[]⟩, .slice none 0 0, .slice none 0 0, .int .i64 0, .int .i64 0, .int .i64 0, .slice none 0 0, .slice none 0 0, .slice none 0 0, .slice none 0 0, .int .i64 0, .int .i64 0, .int .i64 0, .int .i64 0, .int .i64 0, .int .i64 0, .int .i64 0, .int .i64 0, .int .i64 0]) #[.string x'.m.name, .slice x'.mA x'.mn x'.mc, .slice x'.hA x'.hn x'.hc, .int .i64 x'.m.cover, .int .i64 x'.m.aggr, .int .i64 x'.m.poker, .slice x'.bA x'.bn x'.bc, .slice x'.rA x'.rn x'.rc, .slice x'.jA x'.jn x'.jc, .slice (some ⟨go, 0, none⟩) x.dn c, .int .i64 x'.rule.num, .int .i64 x'.rule.den, .int .i64 x'.rule.pnum, .int .i64 x'.rule.pden, .int .i64 x'.rule.bnum, .int .i64 x'.rule.bden, .int .i64 x'.rule.lnum, .int .i64 x'.rule.lden, .int .i64 x'.rule.least] rfl; have hw8 : Below w3.heap.size w3 ((w3.alloc (.cells #[.string ⟨#[]⟩, .slice none 0 0, .slice none 0 0, .int .i64 0, .int .i64 0, .int .i64 0, .slice none 0 0, .slice none 0 0, .slice none 0 0, .slice none 0 0, .int .i64 0, .int .i64 0, .int .i64 0, .int .i64 0, .int .i64 0, .int .i64 0, .int .i64 0, .int .i64 0, .int .i64 0] 34)).setCells w3.heap.size 0 (#[.string x'.m.name, .slice x'.mA x'.mn x'.mc, .slice x'.hA x'.hn x'.hc, .int .i64 x'.m.cover, .int .i64 x'.m.aggr, .int .i64 x'.m.poker, .slice x'.bA x'.bn x'.bc, .slice x'.rA x'.rn x'.rc, .slice x'.jA x'.jn x'.jc, .slice (some ⟨go, 0, none⟩) x.dn c, .int .i64 x'.rule.num, .int .i64 x'.rule.den, .int .i64 x'.rule.pnum, .int .i64 x'.rule.pden, .int .i64 x'.rule.bnum, .int .i64 x'.rule.bden, .int .i64 x'.rule.lnum, .int .i64 x'.rule.lden, .int .i64 x'.rule.least] : Array Value).toList) := bel_exc (ba_alloc (Below.refl _ _) _) (exc_setCells _ _ _ _) (Nat.le_refl _); generalize ((w3.alloc (.cells #[.string ⟨#[]⟩, .slice none 0 0, .slice none 0 0, .int .i64 0, .int .i64 0, .int .i64 0, .slice none 0 0, .slice none 0 0, .slice none 0 0, .slice none 0 0, .int .i64 0, .int .i64 0, .int .i64 0, .int .i64 0, .int .i64 0, .int .i64 0, .int .i64 0, .int .i64 0, .int .i64 0] 34)).setCells w3.heap.size 0 (#[.string x'.m.name, .slice x'.mA x'.mn x'.mc, .slice x'.hA x'.hn x'.hc, .int .i64 x'.m.cover, .int .i64 x'.m.aggr, .int .i64 x'.m.poker, .slice x'.bA x'.bn x'.bc, .slice x'.rA x'.rn x'.rc, .slice x'.jA x'.jn x'.jc, .slice (some ⟨go, 0, none⟩) x.dn c, .int .i64 x'.rule.num, .int .i64 x'.rule.den, .int .i64 x'.rule.pnum, .int .i64 x'.rule.pden, .int .i64 x'.rule.bnum, .int .i64 x'.rule.bden, .int .i64 x'.rule.lnum, .int .i64 x'.rule.lden, .int .i64 x'.rule.least] : Array Value).toList) = W8 at *))
  obtain ⟨g8, hg8⟩ : ∃ g8, g8 = w3.heap.size := ⟨_, rfl⟩
  rw [← hg8] at hO8
  rw [← hg8]
  have HG8 := Lib.hid hg8
  clear hg8
  have HW38 := Lib.hid hw8
  have hb8 : Below wr.heap.size wr W8 := hb3.trans (hw8.mono hb3.size)
  have hgo1 := hCO.lo
  have hgo2 := hCO.lt
  have hwn := HDR.out.lt
  clear hw8
  have hw8 : Below w.heap.size w W8 := ba_via hb8 hwr
  have HD8 := Lib.hid (HDR.out.via hb8)
  have HO8 := Lib.hid hO8
  have HCO := Lib.hid hCO
  obtain ⟨bD, oD, hdA, hbD, hdm⟩ := HDC.out W8 hw8
  have HRG := Lib.hid (show W8.rangeAt bD (oD + k * 8) (dmC dm) from hdm)
  have hDx := HD8.out
  have d9 := hDx.cell 9
  have dl := hDx.lt
  simp only [List.getElem?_toArray, List.getElem?_cons_zero, List.getElem?_cons_succ] at d9
  rw [hdA] at d9
  clear hdA hdm hDx HDR hO8 hCO hwr hb8 hb3 HDC
  go_upto_region 10 with (first
    | ((with_reducible refine at_load 81 68 ?_); refine wpList_load_mid rfl 81 (.tmp 68) rfl _ _ rfl _ _ (HRG.out) Tryz.underlying81 rfl (by kernel_rfl) ?_)
    | (go_at_call 36; (with_reducible refine (HSC.out _ hw8).mono ?_); rintro e w9 hsc; obtain ⟨y, er, rfl, hSF, hb9⟩ := scaled_form hsc; clear hsc)
    | ((with_reducible refine at_store 81 13 73 ?_); refine wpList_store_mid rfl 81 (.tmp 13) (.tmp 73) rfl w9.heap.size 0 #[.string y.name, .int .i64 y.zone.lo.x, .int .i64 y.zone.lo.y, .int .i64 y.zone.lo.z, .int .i64 y.zone.hi.x, .int .i64 y.zone.hi.y, .int .i64 y.zone.hi.z, .slice y.A y.n y.c] rfl rfl (show (w9.alloc (.cells #[.string ⟨#[]⟩, .int .i64 0, .int .i64 0, .int .i64 0, .int .i64 0, .int .i64 0, .int .i64 0, .slice none 0 0] 81)).there w9.heap.size 0 (#[.string y.name, .int .i64 y.zone.lo.x, .int .i64 y.zone.lo.y, .int .i64 y.zone.lo.z, .int .i64 y.zone.hi.x, .int .i64 y.zone.hi.y, .int .i64 y.zone.hi.z, .slice y.A y.n y.c] : Array Value).size from (Blk.new w9 81 #[.string ⟨#[]⟩, .int .i64 0, .int .i64 0, .int .i64 0, .int .i64 0, .int .i64 0, .int .i64 0, .slice none 0 0]).there (by simp)) (by kernel_rfl) (all_oneCell_toArray (by simp [Value.oneCell'])) ?_; have hO9 := Blk.put0 (Blk.new w9 81 #[.string ⟨#[]⟩, .int .i64 0, .int .i64 0, .int .i64 0, .int .i64 0, .int .i64 0, .int .i64 0, .slice none 0 0]) #[.string y.name, .int .i64 y.zone.lo.x, .int .i64 y.zone.lo.y, .int .i64 y.zone.lo.z, .int .i64 y.zone.hi.x, .int .i64 y.zone.hi.y, .int .i64 y.zone.hi.z, .slice y.A y.n y.c] rfl; have hw9 : Below w9.heap.size w9 ((w9.alloc (.cells #[.string ⟨#[]⟩, .int .i64 0, .int .i64 0, .int .i64 0, .int .i64 0, .int .i64 0, .int .i64 0, .slice none 0 0] 81)).setCells w9.heap.size 0 (#[.string y.name, .int .i64 y.zone.lo.x, .int .i64 y.zone.lo.y, .int .i64 y.zone.lo.z, .int .i64 y.zone.hi.x, .int .i64 y.zone.hi.y, .int .i64 y.zone.hi.z, .slice y.A y.n y.c] : Array Value).toList) := bel_exc (ba_alloc (Below.refl _ _) _) (exc_setCells _ _ _ _) (Nat.le_refl _); generalize ((w9.alloc (.cells #[.string ⟨#[]⟩, .int .i64 0, .int .i64 0, .int .i64 0, .int .i64 0, .int .i64 0, .int .i64 0, .slice none 0 0] 81)).setCells w9.heap.size 0 (#[.string y.name, .int .i64 y.zone.lo.x, .int .i64 y.zone.lo.y, .int .i64 y.zone.lo.z, .int .i64 y.zone.hi.x, .int .i64 y.zone.hi.y, .int .i64 y.zone.hi.z, .slice y.A y.n y.c] : Array Value).toList) = W9 at *))
  obtain ⟨g9, hg9⟩ : ∃ g9, g9 = w9.heap.size := ⟨_, rfl⟩
  rw [← hg9] at hO9
  rw [← hg9]
  clear hg9
  have hb89 : Below W8.heap.size W8 W9 := hb9.trans (hw9.mono hb9.size)
  have HW39 := Lib.hid (HW38.out.trans (hb89.mono HW38.out.size))
  have HSF := Lib.hid (show er = 5 ∨ er = 0 ∧ (∀ s, s ∈ dm.st → S.scaleV a b s.val ≤ 1099511627776) ∧ (y.name = dm.name ∧ y.zone = dm.zone ∧ y.n = dm.n ∧ y.st.length = dm.st.length) ∧ y.st = S.scaleSt a b dm.st ∧ Far w3.heap.size W9 y.A (y.st.flatMap stC) from by
    rcases hSF with h | ⟨h1, h2, h3, h4, h5⟩
    · exact .inl h
    · exact .inr ⟨h1, h2, h3, h4, (h5.via hw9).mono HW38.out.size⟩)
  have hsz9 := hb89.size
  clear hw9 hSF
  have hw9 : Below w.heap.size w W9 := ba_via hb89 hw8
  have HD9 := Lib.hid (HD8.out.via hb89)
  have HO9 := Lib.hid (HO8.out.via hb89)
  have HY9 := Lib.hid hO9
  clear HD8 HO8 hO9 hw8 hb9 hb89 HSC HRG HW38 d9 dl
  rcases HSF.out with rfl | ⟨rfl, hsc, hy, hst, hf⟩
  · clear HSF HD9 HO9 HY9 HW39
    go_wp2
    go_ret
    exact ⟨rfl, hw9⟩
  have HSCL := Lib.hid hsc
  have HLM2 := Lib.hid (HLM.out hsc)
  have HMO := Lib.hid (show DtOk (W9.setCells go (k * 8) (#[.string y.name, .int .i64 y.zone.lo.x, .int .i64 y.zone.lo.y, .int .i64 y.zone.lo.z, .int .i64 y.zone.hi.x, .int .i64 y.zone.hi.y, .int .i64 y.zone.hi.z, .slice y.A y.n y.c] : Array Value).toList) { x' with dA := some ⟨go, 0, none⟩, dn := x.dn, dc := c } (ds'.set k y) ∧ (ds'.set k y).map dmN = ds.map dmN ∧ (ds'.set k y).map (·.st) = (ds.map (·.st)).set k y.st from more_ok HCO.out HOK.out HW39.out hkd HDK.out hy hf)
  have hX12 : Exc [go] W9 (W9.setCells go (k * 8) (#[.string y.name, .int .i64 y.zone.lo.x, .int .i64 y.zone.lo.y, .int .i64 y.zone.lo.z, .int .i64 y.zone.hi.x, .int .i64 y.zone.hi.y, .int .i64 y.zone.hi.z, .slice y.A y.n y.c] : Array Value).toList) := exc_setCells _ _ _ _
  have HTh := Lib.hid (show W9.there go (k * 8) (#[.string y.name, .int .i64 y.zone.lo.x, .int .i64 y.zone.lo.y, .int .i64 y.zone.lo.z, .int .i64 y.zone.hi.x, .int .i64 y.zone.hi.y, .int .i64 y.zone.hi.z, .slice y.A y.n y.c] : Array Value).size from copied_there HCO.out HW39.out hkd)
  have hw12 : Below w.heap.size w (W9.setCells go (k * 8) (#[.string y.name, .int .i64 y.zone.lo.x, .int .i64 y.zone.lo.y, .int .i64 y.zone.lo.z, .int .i64 y.zone.hi.x, .int .i64 y.zone.hi.y, .int .i64 y.zone.hi.z, .slice y.A y.n y.c] : Array Value).toList) := bel_exc hw9 hX12 (by omega)
  have HD12 := Lib.hid (HD9.out.exc hX12 (by simp; omega))
  have HO12 := Lib.hid (HO9.out.exc hX12 (by have := HG8.out; simp; omega))
  have HSTY := Lib.hid hst
  have hOx := HO9.out
  have o9 := hOx.cell 9
  have ol := hOx.lt
  simp only [List.getElem?_toArray, List.getElem?_cons_zero, List.getElem?_cons_succ] at o9
  clear HSF hsc hy hst hf HLM hOx hX12 hw9 HD9 HO9 HW39
  go_upto_region 13 with (first
    | ((with_reducible refine at_load 81 13 ?_); refine wpList_load_mid rfl 81 (.tmp 13) rfl _ _ rfl _ _ (HY9.out.via (by repeat (with_reducible first | exact Below.refl _ _ | assumption | refine ba_alloc ?_ _ | refine ba_drew ?_ | refine ba_drewN ?_ _ | refine ba_via (by assumption) ?_ | (refine ba_set ?_ ?_ _; rotate_left; (first | omega | (simp; omega) | simp))))).range Tryz.underlying81 rfl (by kernel_rfl) ?_)
    | ((with_reducible refine at_store 81 83 82 ?_); refine wpList_store_mid rfl 81 (.tmp 83) (.tmp 82) rfl go (k * 8) #[.string y.name, .int .i64 y.zone.lo.x, .int .i64 y.zone.lo.y, .int .i64 y.zone.lo.z, .int .i64 y.zone.hi.x, .int .i64 y.zone.hi.y, .int .i64 y.zone.hi.z, .slice y.A y.n y.c] rfl rfl HTh.out (by kernel_rfl) (all_oneCell_toArray (by simp [Value.oneCell'])) ?_; generalize (W9.setCells go (k * 8) (#[.string y.name, .int .i64 y.zone.lo.x, .int .i64 y.zone.lo.y, .int .i64 y.zone.lo.z, .int .i64 y.zone.hi.x, .int .i64 y.zone.hi.y, .int .i64 y.zone.hi.z, .slice y.A y.n y.c] : Array Value).toList) = W12 at *))
  have HSM2 := Lib.hid (more_call HSM.out HSCL.out HCO.out HSTY.out HMO.out)
  clear HSM HSCL HMO HSTY HY9 HTh HCO o9 ol hsz9
  go_upto_region 14 with (first
    | ((with_reducible refine at_load 34 4 ?_); refine wpList_load_mid rfl 34 (.tmp 4) rfl _ _ rfl _ _ (HD12.out.via (by repeat (with_reducible first | exact Below.refl _ _ | assumption | refine ba_alloc ?_ _ | refine ba_drew ?_ | refine ba_drewN ?_ _ | refine ba_via (by assumption) ?_ | (refine ba_set ?_ ?_ _; rotate_left; (first | omega | (simp; omega) | simp))))).range Tryz.underlying34 rfl (by kernel_rfl) ?_)
    | (go_at_call 13; (with_reducible refine (HSX.out _ hw12).mono ?_); rintro e w13 ⟨A13, c13, rfl, hC13, hb13⟩))
  have HO13 := Lib.hid (HO12.out.via hb13)
  have hw13 : Below w.heap.size w w13 := ba_via hb13 hw12
  have HD13 := Lib.hid (HD12.out.via hb13)
  have HC13 := Lib.hid hC13
  clear hC13 HSX HD12 HO12 hw12
  go_upto_region 15 with (first
    | ((with_reducible refine at_load 34 12 ?_); refine wpList_load_mid rfl 34 (.tmp 12) rfl _ _ rfl _ _ (HO13.out.via (by repeat (with_reducible first | exact Below.refl _ _ | assumption | refine ba_alloc ?_ _ | refine ba_drew ?_ | refine ba_drewN ?_ _ | refine ba_via (by assumption) ?_ | (refine ba_set ?_ ?_ _; rotate_left; (first | omega | (simp; omega) | simp))))).range Tryz.underlying34 rfl (by kernel_rfl) ?_)
    | (go_at_call 13; (with_reducible refine (HSM2.out _ hb13).mono ?_); rintro e w14 ⟨A14, c14, rfl, hC14, hb14⟩))
  have hw14 : Below w.heap.size w w14 := ba_via hb14 hw13
  have HD14 := Lib.hid (HD13.out.via hb14)
  have HC14 := Lib.hid hC14
  have HC15 := Lib.hid ((HC13.out.below hb14).mono hb14.size)
  obtain ⟨nL, hnL⟩ : ∃ nL, nL = L.length := ⟨_, rfl⟩
  obtain ⟨nM, hnM⟩ : ∃ nM, nM = M.length := ⟨_, rfl⟩
  have HNL := Lib.hid hnL
  have HNM := Lib.hid hnM
  rw [← hnL] at hL
  rw [← hnM] at hM
  rw [← hnL, ← hnM]
  clear hC14 HC13 HSM2 HD13 HO13 hw13 hb13 hb14 hnL hnM
  go_wp2
  go_loopw [110] (fun i wq => ∃ q : Nat, q ≤ nL ∧ i = .int .i64 q ∧ Below w14.heap.size w14 wq) (fun i _ => nL - (intOf i).toNat)
  case atStart => exact ⟨0, Nat.zero_le _, rfl, Below.refl _ _⟩
  case round =>
    obtain ⟨q, hq, rfl, hbq⟩ := hrel
    have hsq := hbq.size
    have hwq : Below w.heap.size w wr := ba_via hbq hw14
    by_cases hlt : q < nL
    · have hqx : q < L.length := by rw [← HNL.out]; exact hlt
      have hqi : (q : Int) < nL := by omega
      have hCS := HC15.out.below hbq
      obtain ⟨bs, os, hAs, hbb, hxx⟩ := hCS.at_ (by rw [flat_len snC 2 snC_len]; omega)
      clear hxx
      subst hAs
      have c0 := hCS.row0 snC_len hqx rfl
      have c1 := hCS.rowj snC_len hqx 1 rfl
      have hbl : bs < wr.heap.size := by omega
      have HCV := Lib.hid (show anyb M (S.covers L[q]) = true from by
        obtain ⟨t', h1, h2, h3⟩ := HLM2.out L[q] (List.getElem_mem hqx)
        unfold anyb
        rw [List.any_eq_true]
        exact ⟨t', h1, by unfold S.covers; simp only [Bool.and_eq_true, decide_eq_true_eq]; exact ⟨h2, h3⟩⟩)
      generalize L[q] = sp at *
      clear hCS
      go_upto_region 20 with fail
      have hSB := Blk.new wr 49 #[.int .i64 sp.lo, .int .i64 sp.hi]
      have hbS : Below wr.heap.size wr (wr.alloc (.cells #[.int .i64 sp.lo, .int .i64 sp.hi] 49)) := ba_alloc (Below.refl _ _) _
      generalize (wr.alloc (.cells #[.int .i64 sp.lo, .int .i64 sp.hi] 49)) = W7 at *
      have HSB := Lib.hid hSB
      have HB7 := Lib.hid (hbq.trans (hbS.mono hsq))
      have hs7 : w14.heap.size ≤ W7.heap.size := Nat.le_trans hsq hbS.size
      generalize wr.heap.size = g7 at *
      have HC7 := Lib.hid (HC14.out.below HB7.out)
      have hcf := containsfS_any 37 #[] #[.pointer (some ⟨g7, 0, none⟩)] (S.covers sp) A14 nM c14 M w14.heap.size W7 HNM.out.symm (by omega) hs7 HC7.out (fun args w => rfl) (fun t w' hb => by
        have hB := HSB.out.via hb
        have h0 := hB.cell 0
        have h1 := hB.cell 1
        simp only [List.getElem?_toArray, List.getElem?_cons_zero, List.getElem?_cons_succ] at h0 h1
        exact scalc_any sp t g7 w' h0 h1 hB.lt)
      rw [HCV.out] at hcf
      have HCF := Lib.hid hcf
      clear hcf c0 c1 hSB hbS hbq hwq HCV hbl
      go_upto_region 21 with (go_at_call 30; (with_reducible refine (HCF.out).mono ?_); rintro e wB ⟨rfl, hbwB⟩)
      go_wp2
      go_roundw
      case rel => exact ⟨q + 1, by omega, by go_num, HB7.out.trans (hbwB.mono hs7)⟩
      case measure => simp [intOf]; omega
    · have hqn : q = nL := by omega
      have hqi : ¬ ((q : Int) < nL) := by omega
      have HDW := Lib.hid (HD14.out.via hbq)
      clear HD14 HC14 HC15 HLM2 hbq hsq hw14
      go_upto_region 24 with (first
        | ((with_reducible refine at_load 34 4 ?_); refine wpList_load_mid rfl 34 (.tmp 4) rfl _ _ rfl _ _ (HDW.out.via (by repeat (with_reducible first | exact Below.refl _ _ | assumption | refine ba_alloc ?_ _ | refine ba_drew ?_ | refine ba_drewN ?_ _ | refine ba_via (by assumption) ?_ | (refine ba_set ?_ ?_ _; rotate_left; (first | omega | (simp; omega) | simp))))).range Tryz.underlying34 rfl (by kernel_rfl) ?_)
        | (go_at_call 22; (with_reducible refine (HPX.out _ hwq).mono ?_); rintro e w23 ⟨rfl, hbw23⟩))
      have hw23 : Below w.heap.size w w23 := ba_via hbw23 hwq
      have HD23 := Lib.hid (HDW.out.via hbw23)
      have hDx := HD23.out
      have d9 := hDx.cell 9
      have dl := hDx.lt
      simp only [List.getElem?_toArray, List.getElem?_cons_zero, List.getElem?_cons_succ] at d9
      clear hDx HDW hbw23 hwq HPX
      go_wp2
      go_loopw [23, 131] (fun av i wq => ∃ (q : Nat) (bb : Bool), q ≤ x.dn ∧ i = .int .i64 q ∧ av = .bool bb ∧ Hid (bb = (List.range q).all oks) ∧ Below w23.heap.size w23 wq) (fun _ i _ => x.dn - (intOf i).toNat)
      case atStart => exact ⟨0, true, Nat.zero_le _, rfl, rfl, Lib.hid rfl, Below.refl _ _⟩
      case round =>
        obtain ⟨q, bb, hq, rfl, rfl, HBB, hbq⟩ := hrel
        have hsq := hbq.size
        have hwq : Below w.heap.size w wr := ba_via hbq hw23
        have HDq := Lib.hid (HD23.out.via hbq)
        by_cases hlt : q < x.dn
        · have hqx : q < ds.length := by have := HOK.out.dems.len; omega
          have hqi : (q : Int) < x.dn := by omega
          have e1 : IntKind.i64.wrap ((q : Int) + 1) = ((q + 1 : Nat) : Int) := by rw [show ((q : Int) + 1) = ((q + 1 : Nat) : Int) by omega]; exact IntWalk.i64_in _ (by omega)
          have HPq := Lib.hid (HPO.out q hqx)
          have HNB := Lib.hid (show (bb && oks q) = (List.range (q + 1)).all oks from by rw [HBB.out, List.range_succ, List.all_append]; simp)
          generalize oks q = oq at *
          clear d9 dl HD23 hw23
          go_upto_region 30 with fail
          go_upto_region 31 with (first
            | ((with_reducible refine at_load 34 4 ?_); refine wpList_load_mid rfl 34 (.tmp 4) rfl _ _ rfl _ _ (HDq.out.via (by repeat (with_reducible first | exact Below.refl _ _ | assumption | refine ba_alloc ?_ _ | refine ba_drew ?_ | refine ba_drewN ?_ _ | refine ba_via (by assumption) ?_ | (refine ba_set ?_ ?_ _; rotate_left; (first | omega | (simp; omega) | simp))))).range Tryz.underlying34 rfl (by kernel_rfl) ?_)
            | (go_at_call 35; (with_reducible refine (HCP.out _ hwq).mono ?_); rintro e w3 hcop; obtain ⟨x1, d1, g1, k1, rfl, hCO, hb3⟩ := copy_form hcop hdn; clear hcop)
            | ((with_reducible refine at_store 34 25 135 ?_); refine wpList_store_mid rfl 34 (.tmp 25) (.tmp 135) rfl w3.heap.size 0 #[.string x1.m.name, .slice x1.mA x1.mn x1.mc, .slice x1.hA x1.hn x1.hc, .int .i64 x1.m.cover, .int .i64 x1.m.aggr, .int .i64 x1.m.poker, .slice x1.bA x1.bn x1.bc, .slice x1.rA x1.rn x1.rc, .slice x1.jA x1.jn x1.jc, .slice (some ⟨g1, 0, none⟩) x.dn k1, .int .i64 x1.rule.num, .int .i64 x1.rule.den, .int .i64 x1.rule.pnum, .int .i64 x1.rule.pden, .int .i64 x1.rule.bnum, .int .i64 x1.rule.bden, .int .i64 x1.rule.lnum, .int .i64 x1.rule.lden, .int .i64 x1.rule.least] rfl rfl (show (w3.alloc (.cells #[.string ⟨#[]⟩, .slice none 0 0, .slice none 0 0, .int .i64 0, .int .i64 0, .int .i64 0, .slice none 0 0, .slice none 0 0, .slice none 0 0, .slice none 0 0, .int .i64 0, .int .i64 0, .int .i64 0, .int .i64 0, .int .i64 0, .int .i64 0, .int .i64 0, .int .i64 0, .int .i64 0] 34)).there w3.heap.size 0 (#[.string x1.m.name, .slice x1.mA x1.mn x1.mc, .slice x1.hA x1.hn x1.hc, .int .i64 x1.m.cover, .int .i64 x1.m.aggr, .int .i64 x1.m.poker, .slice x1.bA x1.bn x1.bc, .slice x1.rA x1.rn x1.rc, .slice x1.jA x1.jn x1.jc, .slice (some ⟨g1, 0, none⟩) x.dn k1, .int .i64 x1.rule.num, .int .i64 x1.rule.den, .int .i64 x1.rule.pnum, .int .i64 x1.rule.pden, .int .i64 x1.rule.bnum, .int .i64 x1.rule.bden, .int .i64 x1.rule.lnum, .int .i64 x1.rule.lden, .int .i64 x1.rule.least] : Array Value).size from (Blk.new w3 34 #[.string ⟨#[]⟩, .slice none 0 0, .slice none 0 0, .int .i64 0, .int .i64 0, .int .i64 0, .slice none 0 0, .slice none 0 0, .slice none 0 0, .slice none 0 0, .int .i64 0, .int .i64 0, .int .i64 0, .int .i64 0, .int .i64 0, .int .i64 0, .int .i64 0, .int .i64 0, .int .i64 0]).there (by simp)) (by kernel_rfl) (all_oneCell_toArray (by simp [Value.oneCell'])) ?_; have hO8 := Blk.put0 (Blk.new w3 34 #[.string ⟨#[]⟩, .slice none 0 0, .slice none 0 0, .int .i64 0, .int .i64 0, .int .i64 0, .slice none 0 0, .slice none 0 0, .slice none 0 0, .slice none 0 0, .int .i64 0, .int .i64 0, .int .i64 0, .int .i64 0, .int .i64 0, .int .i64 0, .int .i64 0, .int .i64 0, .int .i64 0]) #[.string x1.m.name, .slice x1.mA x1.mn x1.mc, .slice x1.hA x1.hn x1.hc, .int .i64 x1.m.cover, .int .i64 x1.m.aggr, .int .i64 x1.m.poker, .slice x1.bA x1.bn x1.bc, .slice x1.rA x1.rn x1.rc, .slice x1.jA x1.jn x1.jc, .slice (some ⟨g1, 0, none⟩) x.dn k1, .int .i64 x1.rule.num, .int .i64 x1.rule.den, .int .i64 x1.rule.pnum, .int .i64 x1.rule.pden, .int .i64 x1.rule.bnum, .int .i64 x1.rule.bden, .int .i64 x1.rule.lnum, .int .i64 x1.rule.lden, .int .i64 x1.rule.least] rfl; have hw8 : Below w3.heap.size w3 ((w3.alloc (.cells #[.string ⟨#[]⟩, .slice none 0 0, .slice none 0 0, .int .i64 0, .int .i64 0, .int .i64 0, .slice none 0 0, .slice none 0 0, .slice none 0 0, .slice none 0 0, .int .i64 0, .int .i64 0, .int .i64 0, .int .i64 0, .int .i64 0, .int .i64 0, .int .i64 0, .int .i64 0, .int .i64 0] 34)).setCells w3.heap.size 0 (#[.string x1.m.name, .slice x1.mA x1.mn x1.mc, .slice x1.hA x1.hn x1.hc, .int .i64 x1.m.cover, .int .i64 x1.m.aggr, .int .i64 x1.m.poker, .slice x1.bA x1.bn x1.bc, .slice x1.rA x1.rn x1.rc, .slice x1.jA x1.jn x1.jc, .slice (some ⟨g1, 0, none⟩) x.dn k1, .int .i64 x1.rule.num, .int .i64 x1.rule.den, .int .i64 x1.rule.pnum, .int .i64 x1.rule.pden, .int .i64 x1.rule.bnum, .int .i64 x1.rule.bden, .int .i64 x1.rule.lnum, .int .i64 x1.rule.lden, .int .i64 x1.rule.least] : Array Value).toList) := bel_exc (ba_alloc (Below.refl _ _) _) (exc_setCells _ _ _ _) (Nat.le_refl _); generalize ((w3.alloc (.cells #[.string ⟨#[]⟩, .slice none 0 0, .slice none 0 0, .int .i64 0, .int .i64 0, .int .i64 0, .slice none 0 0, .slice none 0 0, .slice none 0 0, .slice none 0 0, .int .i64 0, .int .i64 0, .int .i64 0, .int .i64 0, .int .i64 0, .int .i64 0, .int .i64 0, .int .i64 0, .int .i64 0] 34)).setCells w3.heap.size 0 (#[.string x1.m.name, .slice x1.mA x1.mn x1.mc, .slice x1.hA x1.hn x1.hc, .int .i64 x1.m.cover, .int .i64 x1.m.aggr, .int .i64 x1.m.poker, .slice x1.bA x1.bn x1.bc, .slice x1.rA x1.rn x1.rc, .slice x1.jA x1.jn x1.jc, .slice (some ⟨g1, 0, none⟩) x.dn k1, .int .i64 x1.rule.num, .int .i64 x1.rule.den, .int .i64 x1.rule.pnum, .int .i64 x1.rule.pden, .int .i64 x1.rule.bnum, .int .i64 x1.rule.bden, .int .i64 x1.rule.lnum, .int .i64 x1.rule.lden, .int .i64 x1.rule.least] : Array Value).toList) = W8 at *))
          obtain ⟨h1, hh1⟩ : ∃ h1, h1 = w3.heap.size := ⟨_, rfl⟩
          rw [← hh1] at hO8
          rw [← hh1]
          have HH1 := Lib.hid hh1
          clear hh1
          have HW38 := Lib.hid hw8
          have hln := copied_len hCO HOK.out
          have hq1 : q < d1.length := by omega
          have hcap := hCO.cap
          have o9 := hO8.cell 9
          have ol := hO8.lt
          have f9 := hO8.frozen 9
          simp only [List.getElem?_toArray, List.getElem?_cons_zero, List.getElem?_cons_succ] at o9
          have HO8 := Lib.hid hO8
          have HCO := Lib.hid hCO
          have HB3 := Lib.hid hb3
          clear hO8 hCO hb3 hw8 HDq
          go_upto_region 32 with fail
          have hX31 : Exc [h1] W8 (W8.setCell ⟨h1, 9, none⟩ (.slice (some ⟨g1, q * 8, none⟩) 1 (k1 - q))) := exc_setCells h1 [.slice (some ⟨g1, q * 8, none⟩) 1 (k1 - q)] 9 W8
          have hO31 : Blk (W8.setCell ⟨h1, 9, none⟩ (.slice (some ⟨g1, q * 8, none⟩) 1 (k1 - q))) h1 34 #[.string x1.m.name, .slice x1.mA x1.mn x1.mc, .slice x1.hA x1.hn x1.hc, .int .i64 x1.m.cover, .int .i64 x1.m.aggr, .int .i64 x1.m.poker, .slice x1.bA x1.bn x1.bc, .slice x1.rA x1.rn x1.rc, .slice x1.jA x1.jn x1.jc, .slice (some ⟨g1, q * 8, none⟩) 1 (k1 - q), .int .i64 x1.rule.num, .int .i64 x1.rule.den, .int .i64 x1.rule.pnum, .int .i64 x1.rule.pden, .int .i64 x1.rule.bnum, .int .i64 x1.rule.bden, .int .i64 x1.rule.lnum, .int .i64 x1.rule.lden, .int .i64 x1.rule.least] := by
            have := HO8.out.set 9 (.slice (some ⟨g1, q * 8, none⟩) 1 (k1 - q))
            simpa only [List.setIfInBounds_toArray, List.set_cons_zero, List.set_cons_succ] using this
          have hw31 : Below w3.heap.size w3 (W8.setCell ⟨h1, 9, none⟩ (.slice (some ⟨g1, q * 8, none⟩) 1 (k1 - q))) := bel_exc HW38.out hX31 (Nat.le_of_eq HH1.out.symm)
          generalize (W8.setCell ⟨h1, 9, none⟩ (.slice (some ⟨g1, q * 8, none⟩) 1 (k1 - q))) = W31 at *
          have HO31 := Lib.hid hO31
          have HB31 := Lib.hid (hbq.trans ((HB3.out.trans (hw31.mono HB3.out.size)).mono hsq))
          have hs31 : w23.heap.size ≤ W31.heap.size := HB31.out.size
          have HON := Lib.hid (one_call hqx HPq.out HCO.out HOK.out hw31 hlt hq1)
          clear o9 ol f9 HO8 hO31 hX31 hw31 HPq HW38 HB3 hbq hwq
          go_upto_region 33 with (first
            | ((with_reducible refine at_load 34 25 ?_); refine wpList_load_mid rfl 34 (.tmp 25) rfl _ _ rfl _ _ (HO31.out.via (by repeat (with_reducible first | exact Below.refl _ _ | assumption | refine ba_alloc ?_ _ | refine ba_drew ?_ | refine ba_drewN ?_ _ | refine ba_via (by assumption) ?_ | (refine ba_set ?_ ?_ _; rotate_left; (first | omega | (simp; omega) | simp))))).range Tryz.underlying34 rfl (by kernel_rfl) ?_)
            | (go_at_call 22; (with_reducible refine (HON.out _ (Below.refl _ _)).mono ?_); rintro e w32 ⟨rfl, hb32⟩))
          have HNF := Lib.hid (HB31.out.trans (hb32.mono hs31))
          clear HON HO31 hb32 HB31
          cases bb
          all_goals (
            go_wp2
            go_roundw
            case rel => exact ⟨q + 1, _, by omega, by go_num, rfl, Lib.hid (by simpa using HNB.out), HNF.out⟩
            case measure => simp [intOf]; omega)
        · have hqn : q = x.dn := by omega
          have hqi : ¬ ((q : Int) < x.dn) := by omega
          have hbb : okx = bb := by rw [HAL.out, HBB.out, hqn]
          have bee : (bb == bb) = true := by simp
          subst hbb
          clear HD23 HDq d9 dl
          go_wp2
          go_ret
          exact ⟨by simp, hwq⟩
set_option maxHeartbeats 2000000 in
theorem scal_walk (x : Dt) (ds : List Dm) (u v r : Nat) (w : World) (h : DtOk w x ds) (hu : u ≤ 255) (hv : v ≤ 65535) (hr : r ≤ 65535) :
    Calls Tryz.prog 9 #[dtV x, .int .u8 u, .int .u16 v, .int .u16 r] w fun e w' => e = .returned (.bool true) ∧ Below w.heap.size w w' := by
  have hmx := h.dems.max
  have hdl := h.dems.len
  by_cases hdn : x.dn = 0
  · exact scalLaw_zero x u v r w hdn
  · have hRD := any_ready h (u % x.dn : Nat)
    cases hrd : (S.small25 x ds && (S.given27 x ds (u % x.dn : Nat) == 0))
    · rw [hrd] at hRD
      exact scalLaw_no x u v r w hu (by omega) hmx hRD
    · rw [hrd] at hRD
      simp only [Bool.and_eq_true, beq_iff_eq] at hrd
      obtain ⟨hsm, hg⟩ := hrd
      obtain ⟨hlk, k, dm, hke, hk⟩ := given27_zero hg
      have hku : k = u % x.dn := by omega
      subst hku
      have g := look_ok hlk
      obtain ⟨rs, hrs⟩ := rods_ex g.laid
      have hC := few_chains hsm g.laid
      obtain ⟨m1, m2, m3, m4, m5, m6, m7, m8⟩ := small_sizes h hsm hlk
      have hsv := sup_valid hlk hC hrs dm.zone
      have hwv := dem_steps hlk hk
      have hb : (1 : Int) ≤ ((1 + r % 1000 : Nat) : Int) ∧ ((1 + r % 1000 : Nat) : Int) ≤ 1000 := by omega
      have h1 : v % (1001 - (1 + r % 1000)) < 1001 - (1 + r % 1000) := Nat.mod_lt _ (by omega)
      have ha : (1 : Int) ≤ ((1 + r % 1000 + v % (1001 - (1 + r % 1000)) : Nat) : Int) ∧ ((1 + r % 1000 + v % (1001 - (1 + r % 1000)) : Nat) : Int) ≤ 1000 := by omega
      have hab : ((1 + r % 1000 : Nat) : Int) ≤ ((1 + r % 1000 + v % (1001 - (1 + r % 1000)) : Nat) : Int) := by omega
      have hkx := (List.getElem?_eq_some_iff.1 hk).1
      have hst := h.dems.each dm (List.mem_of_getElem? hk)
      refine scalLaw_yes x ds dm (S.spansL (S.partsD x rs dm)) (S.spansL (S.partsOf (S.supplyOf x rs (S.cOf x) dm.zone) (S.scaleSt ((1 + r % 1000 + v % (1001 - (1 + r % 1000)) : Nat) : Int) ((1 + r % 1000 : Nat) : Int) dm.st))) (decide ((S.failN ds (S.spansD x rs ds) x.dn).length = 0)) (fun i => (S.spansD x rs ds i).isEmpty) u v r _ _ w hu hv hr (by omega) m7 rfl rfl hk h ?_ ?_ ?_ ?_ hRD (fun W hW => rcopy25_any x ds W (dtok_via h hW).at_ (dtok_via h hW).dems m1 m2 m3 m4 m5 m6 m7 m8) (fun W hW => scaled_any dm _ _ W (steps_lift hst hW hW.size) (h.dems.name dm (List.mem_of_getElem? hk)) (m8 dm (List.mem_of_getElem? hk)) (dems_at g.dems hk) ha hb) (good_Spans h hlk hC hk hrs) (fun hok W x' D hx hs hn hs2 => more_spans hlk hC hrs hk hx hs hn hs2 ha hb hok) (good_Passes h hlk hC hrs) (fun i hi W x' d hx hs hd => one_passes hlk hC hrs hi hx hs hd)
      · exact Nat.le_trans (spansL_len _) (partsD_len h hlk hC hk hrs)
      · refine Nat.le_trans (spansL_len _) ?_
        rw [partsOf_len]
        refine Nat.le_trans (spots_len _ _) ?_
        have h2 := sup_steps h hlk hC dm.zone hrs
        have h3 : (S.scaleSt ((1 + r % 1000 + v % (1001 - (1 + r % 1000)) : Nat) : Int) ((1 + r % 1000 : Nat) : Int) dm.st).length = dm.st.length := by unfold S.scaleSt; simp
        have h4 := hwv.2
        omega
      · intro hok t ht
        exact spans_more hsv hwv.1 (scale_steps ha hb hwv.1 hok) (fun p => scale_value hb.1 hab hwv.1 p) ht
      · rw [Bool.eq_iff_iff, decide_eq_true_eq, failN_zero ds _ x.dn (by omega), List.all_eq_true]
        exact ⟨fun h i hi => by rw [h i (List.mem_range.1 hi)]; rfl, fun h i hi => List.isEmpty_iff.1 (h i (List.mem_range.2 hi))⟩
end Go.Proofs.YtmfpbafpnoomeaaGreat
