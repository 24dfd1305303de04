/- Lemmas. -/
import Derived.Test.YtmfpbafpnoomeaaGreatMAO
set_option linter.unusedVariables false
set_option linter.unusedSimpArgs false
namespace Go.Proofs.YtmfpbafpnoomeaaGreat
open Go.RowKit
def S.ratioOf (a b : Int) : Int × Int × Int := if b = 0 then (0, 0, 16) else (a / gcdI a b, b / gcdI a b, 0)
theorem make_zero (a : Int) (w : World) : Calls Tryz.prog 50 #[.int .i64 a, .int .i64 0] w fun e w' => e = .returned (.tuple #[.agg #[.int .i64 0, .int .i64 0], .int .i64 16]) /\ Below w.heap.size w w' := by
 go_enter Tryz.func50, Tryz.ntmps50
 go_wp2
 exact bodyPost_ret (v := .tuple #[.agg #[.int .i64 0, .int .i64 0], .int .i64 16]) (by simp [results, Tryz.results50, go_sem, *]) rfl ⟨rfl, bel⟩
theorem make_all (a b : Int) (w : World) (ha : 0 <= a /\ a <= 1099511627776) (hb : 0 <= b /\ b <= 1099511627776) : Calls Tryz.prog 50 #[.int .i64 a, .int .i64 b] w fun e w' => e = .returned (.tuple #[.agg #[.int .i64 (S.ratioOf a b).1, .int .i64 (S.ratioOf a b).2.1], .int .i64 (S.ratioOf a b).2.2]) /\ Below w.heap.size w w' := by
 unfold S.ratioOf
 by_cases h : b = 0
 ·rw [if_pos h, h]
  exact make_zero a w
 ·rw [if_neg h]
  exact make_any a b w ha.1 (by omega) (by omega) (by omega)
theorem ratio_err (x : Dt) (d p er : Int) (w : World) (he : (er == 0) = false)
 (hKN : ∀ W, Below w.heap.size w W -> Calls Tryz.prog 47 #[dtV x, .int .i64 d] W fun e w' => e = .returned (.int .i64 er) /\ Below W.heap.size W w') :
 Calls Tryz.prog 18 #[dtV x, .int .i64 d, .int .i64 p] w fun e w' => e = .returned (.tuple #[.agg #[.int .i64 0, .int .i64 0], .int .i64 er]) /\ Below w.heap.size w w' := by
 have HKN := lh hKN
 have he2 : ¬ (er = 0) := by simpa using he
 have he3 : (er != 0) = true := by simp [he2]
 clear hKN
 unfold dtV at HKN
 unfold dtV
 have hDB := (Blk.new w 34 (dtc x)).alloc (.cells #[.int .i64 0, .int .i64 0] 54)
 have hSB := Blk.newN (W := w.alloc (.cells (dtc x) 34)) (n := w.heap.size + 1) (by simp) 54 #[.int .i64 0, .int .i64 0]
 have hW1 : Below w.heap.size w ((w.alloc (.cells (dtc x) 34)).alloc (.cells #[.int .i64 0, .int .i64 0] 54)) := ba_alloc (ba_alloc (Below.refl _ _) _) _
 go_enter Tryz.func18, Tryz.ntmps18
 go_upto_region 1 with fail
 generalize ((w.alloc (.cells (dtc x) 34)).alloc (.cells #[.int .i64 0, .int .i64 0] 54)) = W1 at *
 have HDB := lh hDB
 clear hDB
 go_upto_region 2 with (first
  | ((with_reducible refine at_load 34 3 ?_); refine wpList_load_mid rfl 34 (.tmp 3) rfl _ _ rfl _ _ (HDB.out.via belr).range Tryz.underlying34 rfl (by kernel_rfl) ?_)
  | (go_at_call 47; (with_reducible refine (HKN.out _ belr).mono ?_); rintro e w2 ⟨rfl, hbw2⟩))
 have hS2 := hSB.via hbw2
 have s0 := hS2.cell 0
 have s1 := hS2.cell 1
 have sf0 := hS2.frozen 0
 have sf1 := hS2.frozen 1
 have sl := hS2.lt
 simp only [ga1, ga2, ga3] at s0 s1
 have hw2 : Below w.heap.size w w2 := ba_via hbw2 hW1
 clear HDB HKN hSB hS2
 go_wp2
 exact bodyPost_ret (v := .tuple #[.agg #[.int .i64 0, .int .i64 0], .int .i64 er]) (by simp [results, Tryz.results18, go_sem, *]) rfl ⟨rfl, (hw2.setCell (Nat.le_succ _) _).setCell (Nat.le_succ _) _⟩
set_option maxHeartbeats 1000000 in
theorem ratio_out (x : Dt) (d p : Int) (w : World) (hp : S.place p = false)
 (hKN : ∀ W, Below w.heap.size w W -> Calls Tryz.prog 47 #[dtV x, .int .i64 d] W fun e w' => e = .returned (.int .i64 0) /\ Below W.heap.size W w') :
 Calls Tryz.prog 18 #[dtV x, .int .i64 d, .int .i64 p] w fun e w' => e = .returned (.tuple #[.agg #[.int .i64 0, .int .i64 0], .int .i64 2]) /\ Below w.heap.size w w' := by
 have HKN := lh hKN
 have HPL := lh (fun W => hp ▸ secplace_any p W)
 clear hKN
 unfold dtV at HKN
 unfold dtV
 have hDB := (Blk.new w 34 (dtc x)).alloc (.cells #[.int .i64 0, .int .i64 0] 54)
 have hSB := Blk.newN (W := w.alloc (.cells (dtc x) 34)) (n := w.heap.size + 1) (by simp) 54 #[.int .i64 0, .int .i64 0]
 have hW1 : Below w.heap.size w ((w.alloc (.cells (dtc x) 34)).alloc (.cells #[.int .i64 0, .int .i64 0] 54)) := ba_alloc (ba_alloc (Below.refl _ _) _) _
 go_enter Tryz.func18, Tryz.ntmps18
 go_upto_region 1 with fail
 generalize ((w.alloc (.cells (dtc x) 34)).alloc (.cells #[.int .i64 0, .int .i64 0] 54)) = W1 at *
 have HDB := lh hDB
 clear hDB
 go_upto_region 4 with (first
  | ((with_reducible refine at_load 34 3 ?_); refine wpList_load_mid rfl 34 (.tmp 3) rfl _ _ rfl _ _ (HDB.out.via belr).range Tryz.underlying34 rfl (by kernel_rfl) ?_)
  | (go_at_call 47; (with_reducible refine (HKN.out _ belr).mono ?_); rintro e w2 ⟨rfl, hbw2⟩))
 have hS2 := hSB.via hbw2
 have s0 := hS2.cell 0
 have s1 := hS2.cell 1
 have sf0 := hS2.frozen 0
 have sf1 := hS2.frozen 1
 have sl := hS2.lt
 simp only [ga1, ga2, ga3] at s0 s1
 have hw2 : Below w.heap.size w w2 := ba_via hbw2 hW1
 clear HDB HKN hSB hS2
 go_wp2_with (go_at_call 48; (with_reducible refine (HPL.out _).mono ?_); rintro e w' ⟨rfl, rfl⟩)
 exact bodyPost_ret (v := .tuple #[.agg #[.int .i64 0, .int .i64 0], .int .i64 2]) (by simp [results, Tryz.results18, go_sem, *]) rfl ⟨rfl, (hw2.setCell (Nat.le_succ _) _).setCell (Nat.le_succ _) _⟩
set_option maxRecDepth 20000 in
set_option maxHeartbeats 4000000 in
theorem ratio_yes (x : Dt) (k : Nat) (p a : Int) (dm : Dm) (w : World) (hk : k < x.dn) (hp : S.place p = true) (hwt : S.steps dm.st = true) (hdn : dm.n <= 200) (ha : 0 <= a /\ a <= 1099511627776)
 (hdc : ∀ W, Below w.heap.size w W -> ∃ bD oD, x.dA = some ⟨bD, oD, none⟩ /\ bD < W.heap.size /\ ∀ j v, (dmC dm)[j]? = some v -> W.cell? ⟨bD, oD + k * 8 + j, none⟩ = some v)
 (hds : ∀ W, Below w.heap.size w W -> StepsAt W w.heap.size dm.A dm.n dm.st)
 (hKN : ∀ W, Below w.heap.size w W -> Calls Tryz.prog 47 #[dtV x, .int .i64 k] W fun e w' => e = .returned (.int .i64 0) /\ Below W.heap.size W w')
 (hSA : ∀ W, Below w.heap.size w W -> Calls Tryz.prog 28 #[dtV x, .int .i64 k, .int .i64 p] W fun e w' => e = .returned (.tuple #[.int .i64 a, .int .i64 0]) /\ Below W.heap.size W w') :
 Calls Tryz.prog 18 #[dtV x, .int .i64 k, .int .i64 p] w fun e w' => e = .returned (.tuple #[.agg #[.int .i64 (S.ratioOf a (S.valueOf p dm.st)).1, .int .i64 (S.ratioOf a (S.valueOf p dm.st)).2.1], .int .i64 (S.ratioOf a (S.valueOf p dm.st)).2.2]) /\ Below w.heap.size w w' := by
 have HKN := lh hKN
 have HSA := lh hSA
 have HDC := lh hdc
 have HPL := lh (fun W => hp ▸ secplace_any p W)
 have HSB := lh (fun (W : World) (hw : Below w.heap.size w W) => stAt_any dm.st p dm.A dm.n dm.c w.heap.size W hw.size (hds W hw) (by omega) hwt)
 have HMK := lh (fun W => make_all a (S.valueOf p dm.st) W ha (valueOf_bd hwt p))
 have hki : (k : Int) < x.dn := by omega
 clear hKN hSA hdc hds hwt
 generalize S.ratioOf a (S.valueOf p dm.st) = r at *
 generalize S.valueOf p dm.st = b at *
 unfold dtV at HKN HSA
 unfold dtV
 have hDB := (Blk.new w 34 (dtc x)).alloc (.cells #[.int .i64 0, .int .i64 0] 54)
 have hSB := Blk.newN (W := w.alloc (.cells (dtc x) 34)) (n := w.heap.size + 1) (by simp) 54 #[.int .i64 0, .int .i64 0]
 have hW1 : Below w.heap.size w ((w.alloc (.cells (dtc x) 34)).alloc (.cells #[.int .i64 0, .int .i64 0] 54)) := ba_alloc (ba_alloc (Below.refl _ _) _) _
 go_enter Tryz.func18, Tryz.ntmps18
 go_upto_region 1 with fail
 generalize ((w.alloc (.cells (dtc x) 34)).alloc (.cells #[.int .i64 0, .int .i64 0] 54)) = W1 at *
 have HDB := lh hDB
 clear hDB
 go_upto_region 6 with (first
  | ((with_reducible refine at_load 34 3 ?_); refine wpList_load_mid rfl 34 (.tmp 3) rfl _ _ rfl _ _ (HDB.out.via belr).range Tryz.underlying34 rfl (by kernel_rfl) ?_)
  | (go_at_call 47; (with_reducible refine (HKN.out _ belr).mono ?_); rintro e w2 ⟨rfl, hbw2⟩)
  | (go_at_call 48; (with_reducible refine (HPL.out _).mono ?_); rintro e w' ⟨rfl, rfl⟩))
 have hw2 : Below w.heap.size w w2 := ba_via hbw2 hW1
 obtain ⟨bD, oD, hdA, hbD, hdm⟩ := HDC.out w2 hw2
 have k7 := hdm 7 _ rfl
 have HD2 := lh (HDB.out.via hbw2)
 have hDx := HD2.out
 have d9 := hDx.cell 9
 have dl := hDx.lt
 simp only [ga1, ga2, ga3] at d9
 rw [hdA] at d9
 have HS2 := lh (hSB.via hbw2)
 have HSA2 := lh (fun (W : World) (hw : Below w2.heap.size w2 W) => HSA.out W (ba_via hw hw2))
 clear hdm hDx HDB HKN hSB HSA hdA
 go_upto_region 9 with (go_at_call 49; (with_reducible refine (HSB.out _ hw2).mono ?_); rintro e w3 ⟨rfl, hbw3⟩)
 have HD3 := lh (HD2.out.via hbw3)
 clear HD2 d9 dl k7
 go_upto_region 12 with (first
  | ((with_reducible refine at_load 34 3 ?_); refine wpList_load_mid rfl 34 (.tmp 3) rfl _ _ rfl _ _ (HD3.out.via belr).range Tryz.underlying34 rfl (by kernel_rfl) ?_)
  | (go_at_call 28; (with_reducible refine (HSA2.out _ (ba_via belr hbw3)).mono ?_); rintro e w4 ⟨rfl, hbw4⟩))
 have h24 : Below w2.heap.size w2 w4 := ba_via hbw4 hbw3
 have HS4 := lh (HS2.out.via h24)
 have hw4 : Below w.heap.size w w4 := ba_via h24 hw2
 clear HD3 HSA2 HS2
 go_wp2_with (go_at_call 50; (with_reducible refine (HMK.out _).mono ?_); rintro e w5 ⟨rfl, hbw5⟩; have hS5 := HS4.out.via hbw5; have s0 := hS5.cell 0; have s1 := hS5.cell 1; have sf0 := hS5.frozen 0; have sf1 := hS5.frozen 1; have sl := hS5.lt; simp only [ga1, ga2, ga3] at s0 s1; clear HS4 hS5)
 have hw5 : Below w.heap.size w w5 := ba_via hbw5 hw4
 exact bodyPost_ret (v := .tuple #[.agg #[.int .i64 r.1, .int .i64 r.2.1], .int .i64 r.2.2]) (by simp [results, Tryz.results18, go_sem, *]) rfl ⟨rfl, (hw5.setCell (Nat.le_succ _) _).setCell (Nat.le_succ _) _⟩
section
variable {x : Dt} {ds : List Dm} {w : World}
theorem sup_at {p : Int} (hp : -1048576 <= p) (hlk : S.look x (S.dems ds) = true) {rs : List Rod} (hrs : RodsOf x (S.nOf x) rs) (z : Bx) : S.supplyAt x rs (S.cOf x) z p = S.valueOf p (S.supplyOf x rs (S.cOf x) z) := (supplyOf_value z hp (sch_span hlk hrs)).symm
def S.ratioD (x : Dt) (rs : List Rod) (dm : Dm) (p : Int) : Int × Int × Int := if S.place p then S.ratioOf (S.valueOf p (S.supplyOf x rs (S.cOf x) dm.zone)) (S.valueOf p dm.st) else (0, 0, 2)
theorem good_Ratio (h : DtOk w x ds) (hlk : S.look x (S.dems ds) = true) (hC : (S.cOf x).length <= 100) {k : Nat} {dm : Dm} (hk : ds[k]? = some dm) (p : Int) {rs : List Rod} (hrs : RodsOf x (S.nOf x) rs) :
 ∀ W, Below w.heap.size w W -> Calls Tryz.prog 18 #[dtV x, .int .i64 k, .int .i64 p] W fun e w' => e = .returned (.tuple #[.agg #[.int .i64 (S.ratioD x rs dm p).1, .int .i64 (S.ratioD x rs dm p).2.1], .int .i64 (S.ratioD x rs dm p).2.2]) /\ Below W.heap.size W w' := fun W hw => by
 have hkx : k < ds.length := (List.getElem?_eq_some_iff.1 hk).1
 have hdl := h.dems.len
 have hst := (h.dems.each dm (List.mem_of_getElem? hk))
 have hg : S.given27 x ds k = 0 := by
  unfold S.given27 S.given26
  rw [if_neg (by rw [hlk]; simp), if_neg]
  rintro (h1 | h1 | h1)
  ·omega
  ·omega
  ·exact absurd h1 (by decide)
 have hKN := good_known h (k : Int)
 rw [hg] at hKN
 unfold S.ratioD
 cases hp : S.place p
 ·rw [if_neg (by decide)]
  exact ratio_out x k p W hp (fun V hV => hKN V (hw.trans (hV.mono hw.size)))
 ·rw [if_pos rfl]
  have hpp : -1048576 <= p /\ p <= 1048576 := by unfold S.place at hp; simpa using hp
  have hbd := valueOf_bd (sup_valid hlk hC hrs dm.zone) p
  have hAT := good_At h hlk hk hpp hrs
  rw [sup_at hpp.1 hlk hrs] at hAT
  exact ratio_yes x k p _ dm W (by omega) hp (dem_steps hlk hk).1 (by have := hst.len; have := (dem_steps hlk hk).2; omega) hbd
   (fun V hV => sec_dem h hk V (hw.trans (hV.mono hw.size))) (fun V hV => (fun (a : StepsAt V w.heap.size dm.A dm.n dm.st) => (⟨a.len, a.max, a.cells.mono hw.size⟩ : StepsAt V W.heap.size dm.A dm.n dm.st)) ((h.dems.at_ (Nat.le_refl _) (hw.trans (hV.mono hw.size))).each dm (List.mem_of_getElem? hk)))
   (fun V hV => hKN V (hw.trans (hV.mono hw.size))) (fun V hV => hAT V (hw.trans (hV.mono hw.size)))
end
theorem Blk.cells {w : World} {g : Nat} {t : TypeId} {cs : List Value} (h : Blk w g t cs.toArray) : Cells w w.heap.size (some ⟨g, 0, none⟩) cs := .inr ⟨g, 0, rfl, h.lt, fun j v hv => by
 rw [Nat.zero_add]
 exact (h.cell j).trans (by simpa using hv)⟩
theorem ex7_le2 : 2 <= 9223372036854775807 := by decide
theorem ex7_le1 : 1 <= 9223372036854775807 := by decide
theorem ex7_le0 : 0 <= 9223372036854775807 := by decide
def exBar7 (g : Nat) : BarR := ⟨⟨strA, 10, 1, 0, [1000]⟩, some ⟨g, 0, none⟩, 1, 1⟩
def exDt7 (gx g gb gr gd : Nat) : Dt where
 m := ⟨strM, [⟨⟨0, 0, 0⟩, ⟨1000, 200, 300⟩⟩], [], 0, 16, 40⟩
 mA := some ⟨gx, 0, none⟩
 mn := 1
 mc := 1
 hA := none
 hn := 0
 hc := 0
 bs := [exBar7 g]
 bA := some ⟨gb, 0, none⟩
 bn := 1
 bc := 1
 rs := [⟨strA, 1, 2, ⟨0, 50, 40⟩, ⟨0, 0, 0⟩, 1⟩]
 rA := some ⟨gr, 0, none⟩
 rn := 1
 rc := 1
 js := []
 jA := none
 jn := 0
 jc := 0
 dA := some ⟨gd, 0, none⟩
 dn := 1
 dc := 1
 rule := ⟨40, 1, 1, 1, 1, 1, 1, 1, 0⟩
def exDem7 (gs : Nat) : Dm := ⟨strD, ⟨⟨0, 0, 0⟩, ⟨1000, 200, 100⟩⟩, [⟨300, 5000⟩, ⟨500, 0⟩], some ⟨gs, 0, none⟩, 2, 2⟩
theorem ex7_dtV (gx g gb gr gd : Nat) : dtV (exDt7 gx g gb gr gd) = .agg (exL7 gx gb gr gd).toArray := rfl
theorem ex7_ok {w : World} {gx g gb gr gs gd : Nat} (h : ExBlks7 w gx g gb gr gs gd) : DtOk w (exDt7 gx g gb gr gd) [exDem7 gs] := by
 refine ⟨⟨⟨rfl, ex7_le1, rfl, ex7_le0, h.box.cells, Cells.nil⟩, ex7_le1, ⟨rfl, ex7_le1, h.bar.cells, fun r hr => ?_⟩, ⟨rfl, ex7_le1, h.run.cells⟩, rfl, ex7_le0, Cells.nil⟩, ⟨rfl, ex7_le1, h.dem.cells, fun d hd => ?_, fun d hd => ?_⟩, Nat.le_refl _⟩
 ·rw [show (exDt7 gx g gb gr gd).bs = [exBar7 g] from rfl, List.mem_singleton] at hr
  subst hr
  exact ⟨rfl, ex7_le1, ex7_le1, h.dims.cells⟩
 ·rw [List.mem_singleton] at hd
  subst hd
  exact ⟨rfl, ex7_le2, h.stp.cells⟩
 ·rw [List.mem_singleton] at hd
  subst hd
  exact ex7_le1
section
variable (gx g gb gr gs gd : Nat)
theorem ex7_look : S.look (exDt7 gx g gb gr gd) (S.dems [exDem7 gs]) = true := by kernel_rfl
theorem ex7_n : S.nOf (exDt7 gx g gb gr gd) = 1 := by kernel_rfl
theorem ex7_c : S.cOf (exDt7 gx g gb gr gd) = [[0]] := by kernel_rfl
theorem ex7_c1 : (S.cOf (exDt7 gx g gb gr gd)).length <= 100 := by rw [ex7_c]; decide
def exRod7 : Rod := ⟨exBar7 g, [⟨⟨0, 50, 40⟩, ⟨1000, 50, 40⟩⟩], none, 0, 0⟩
theorem ex7_rods : RodsOf (exDt7 gx g gb gr gd) (S.nOf (exDt7 gx g gb gr gd)) [exRod7 g] := by
 have hla := (look_ok (ex7_look gx g gb gr 0 gd)).laid
 obtain ⟨k, j, k0, r, hL⟩ := lies_of hla (i := 0) (by rw [show (S.mains (bars (exDt7 gx g gb gr gd).bs) (exDt7 gx g gb gr gd).rs).length = 1 from ex7_n gx g gb gr gd]; decide)
 have hk : k = 0 := by have := hL.st.lt; rw [show (exDt7 gx g gb gr gd).rs.length = 1 from rfl] at this; omega
 subst hk
 have hj : j = 0 := by have := hL.st.sum; rw [sumTo_zero] at this; omega
 subst hj
 have hk0 : k0 = 0 := by have := (List.getElem?_eq_some_iff.1 hL.get).1; rw [show (exDt7 gx g gb gr gd).bs.length = 1 from rfl] at this; omega
 subst hk0
 have hr : r = exBar7 g := by have := hL.get; rw [show (exDt7 gx g gb gr gd).bs[0]? = some (exBar7 g) from rfl] at this; injection this with this; exact this.symm
 subst hr
 refine ⟨(ex7_n gx g gb gr gd).symm, fun i hi => ?_⟩
 have hi0 : i = 0 := by simp at hi; exact hi
 subst hi0
 exact ⟨⟨0, 0, 0, hL, by kernel_rfl⟩, by kernel_rfl⟩
def exSch7 : SCh := ⟨none, 0, [0], 400, 600, true, 7854⟩
theorem ex7_sch : S.schOf (exDt7 gx g gb gr gd) [exRod7 g] [0] = exSch7 := by kernel_rfl
theorem ex7_sup : S.sup [exRod7 g] (exDem7 gs).zone exSch7 = true := by kernel_rfl
theorem ex7_sort : S.sortI [400, 600] = [400, 600] := by
 unfold S.sortI
 exact List.mergeSort_of_pairwise (by decide)
theorem ex7_of : S.supplyOf (exDt7 gx g gb gr gd) [exRod7 g] (S.cOf (exDt7 gx g gb gr gd)) (exDem7 gs).zone = [⟨400, 7854⟩, ⟨600, 0⟩] := by
 unfold S.supplyOf
 rw [ex7_c, List.map_cons, List.map_nil, ex7_sch, List.filter_cons, if_pos (ex7_sup g gs), List.filter_nil]
 unfold S.ofL S.places
 rw [show S.ends2 [exSch7] = [400, 600] from rfl, ex7_sort]
 kernel_rfl
theorem ex7_spots : S.spots [⟨400, 7854⟩, ⟨600, 0⟩] [⟨300, 5000⟩, ⟨500, 0⟩] = [300, 400, 500, 600] := by
 rw [<- mg_spots (by kernel_rfl) (by kernel_rfl)]
 simp [S.mg, S.froms]
theorem ex7_parts : S.partsD (exDt7 gx g gb gr gd) [exRod7 g] (exDem7 gs) = [⟨300, 399, 0, 5000⟩, ⟨400, 499, 7854, 5000⟩, ⟨500, 599, 7854, 0⟩, ⟨600, 1048576, 0, 0⟩] := by
 unfold S.partsD
 rw [ex7_of, show (exDem7 gs).st = [⟨300, 5000⟩, ⟨500, 0⟩] from rfl]
 unfold S.partsOf
 rw [ex7_spots]
 kernel_rfl
theorem ex7_spans : S.spansL (S.partsD (exDt7 gx g gb gr gd) [exRod7 g] (exDem7 gs)) = [⟨300, 399⟩] := by
 rw [ex7_parts]
 kernel_rfl
theorem ex7_spare : S.spareOf (S.partsD (exDt7 gx g gb gr gd) [exRod7 g] (exDem7 gs)) = (-5000, 300, 0) := by
 rw [ex7_parts]
 kernel_rfl
theorem ex7_ratio : S.ratioD (exDt7 gx g gb gr gd) [exRod7 g] (exDem7 gs) 400 = (3927, 2500, 0) := by
 unfold S.ratioD
 rw [ex7_of]
 kernel_rfl
theorem ex7_fail : S.failN [exDem7 gs] (S.spansD (exDt7 gx g gb gr gd) [exRod7 g] [exDem7 gs]) 1 = [strD] := by
 have e : S.spansD (exDt7 gx g gb gr gd) [exRod7 g] [exDem7 gs] 0 = [⟨300, 399⟩] := ex7_spans gx g gb gr gs gd
 show [] ++ (match S.spansD (exDt7 gx g gb gr gd) [exRod7 g] [exDem7 gs] 0, [exDem7 gs][0]? with | _ :: _, some d => [d.name] | _, _ => []) = _
 rw [e]
 rfl
end
section
variable {gx g gb gr gs gd : Nat} {w : World}
theorem ex7_Fails (h : ExBlks7 w gx g gb gr gs gd) (W : World) (hw : Below w.heap.size w W) : Calls Tryz.prog 12 #[.agg (exL7 gx gb gr gd).toArray, .int .i64 0] W fun e w' => e = .returned (.tuple #[.int .i64 300, .int .i64 0]) /\ Below W.heap.size W w' := by
 have := good_Fails (ex7_ok h) (ex7_look gx g gb gr gs gd) (ex7_c1 gx g gb gr gd) (k := 0) (dm := exDem7 gs) rfl (ex7_rods gx g gb gr gd) W hw
 rw [ex7_spans, ex7_dtV] at this
 exact this
theorem ex7_Spans (h : ExBlks7 w gx g gb gr gs gd) (W : World) (hw : Below w.heap.size w W) : Calls Tryz.prog 13 #[.agg (exL7 gx gb gr gd).toArray, .int .i64 0] W fun e w' => ∃ (A : Option Addr) (c : Nat), e = .returned (.tuple #[.slice A 1 c, .int .i64 0]) /\ Cells w' w'.heap.size A (([⟨300, 399⟩] : List Sp).flatMap snC) /\ Below W.heap.size W w' := by
 have := good_Spans (ex7_ok h) (ex7_look gx g gb gr gs gd) (ex7_c1 gx g gb gr gd) (k := 0) (dm := exDem7 gs) rfl (ex7_rods gx g gb gr gd) W hw
 rw [ex7_spans, ex7_dtV] at this
 exact this
theorem ex7_Spare (h : ExBlks7 w gx g gb gr gs gd) (W : World) (hw : Below w.heap.size w W) : Calls Tryz.prog 17 #[.agg (exL7 gx gb gr gd).toArray, .int .i64 0] W fun e w' => e = .returned (.tuple #[.int .i64 (-5000), .int .i64 300, .int .i64 0]) /\ Below W.heap.size W w' := by
 have := good_Spare (ex7_ok h) (ex7_look gx g gb gr gs gd) (ex7_c1 gx g gb gr gd) (k := 0) (dm := exDem7 gs) rfl (ex7_rods gx g gb gr gd) W hw
 rw [ex7_spare, ex7_dtV] at this
 exact this
theorem ex7_Ratio (h : ExBlks7 w gx g gb gr gs gd) (W : World) (hw : Below w.heap.size w W) : Calls Tryz.prog 18 #[.agg (exL7 gx gb gr gd).toArray, .int .i64 0, .int .i64 400] W fun e w' => e = .returned (.tuple #[.agg #[.int .i64 3927, .int .i64 2500], .int .i64 0]) /\ Below W.heap.size W w' := by
 have := good_Ratio (ex7_ok h) (ex7_look gx g gb gr gs gd) (ex7_c1 gx g gb gr gd) (k := 0) (dm := exDem7 gs) rfl 400 (ex7_rods gx g gb gr gd) W hw
 rw [ex7_ratio, ex7_dtV] at this
 exact this
theorem ex7_Check (h : ExBlks7 w gx g gb gr gs gd) (W : World) (hw : Below w.heap.size w W) : Calls Tryz.prog 21 #[.agg (exL7 gx gb gr gd).toArray] W fun e w' => ∃ (A : Option Addr) (c : Nat), e = .returned (.tuple #[.slice A 1 c, .int .i64 0]) /\ Cells w' w'.heap.size A (([strD] : List ByteArray).flatMap fnC) /\ Below W.heap.size W w' := by
 have := good_Check (ex7_ok h) (ex7_look gx g gb gr gs gd) (ex7_c1 gx g gb gr gd) (ex7_rods gx g gb gr gd) W hw
 rw [show (exDt7 gx g gb gr gd).dn = 1 from rfl, ex7_fail, ex7_dtV] at this
 exact this
end
set_option maxHeartbeats 2000000 in
theorem eqSp_yes (l : List Sp) (A : Option Addr) (n c : Nat) (A' : Option Addr) (c' : Nat) (B : Nat) (w : World) (hB : B <= w.heap.size) (hn : l.length = n) (hm : n <= 9223372036854775807) (hs : Cells w B A (l.flatMap snC)) (hs' : Cells w B A' (l.flatMap snC)) :
 Calls Tryz.prog 16 #[.slice A n c, .slice A' n c'] w fun e w' => e = .returned (.bool true) /\ Below w.heap.size w w' := by
 have HN := lh hn
 clear hn
 go_enter Tryz.func16, Tryz.ntmps16
 go_wp2
 go_loopw [13] (fun i wr => ∃ k : Nat, k <= n /\ i = .int .i64 k /\ Below w.heap.size w wr) (fun i _ => n - (intOf i).toNat)
 case atStart => exact ⟨0, Nat.zero_le _, rfl, Below.refl _ _⟩
 case round =>
  obtain ⟨k, hk, rfl, hbr⟩ := hrel
  by_cases hlt : k < n
  ·have hkx : k < l.length := by have := HN.out; omega
   have h1 := hs.below (hbr.mono hB)
   have h2 := hs'.below (hbr.mono hB)
   obtain ⟨b, o, rfl, hbB, hx⟩ := h1.at_ (by rw [flat_len snC 2 snC_len]; omega)
   clear hx
   obtain ⟨b', o', rfl, hbB', hx⟩ := h2.at_ (by rw [flat_len snC 2 snC_len]; omega)
   clear hx
   have c0 := h1.row0 snC_len hkx rfl
   have c1 := h1.rowj snC_len hkx 1 rfl
   have d0 := h2.row0 snC_len hkx rfl
   have d1 := h2.rowj snC_len hkx 1 rfl
   clear h1 h2
   have hbl : b < wr.heap.size := by have := hbr.size; omega
   have hbl' : b' < wr.heap.size := by have := hbr.size; omega
   have hki : (k : Int) < n := by omega
   generalize l[k] = r at *
   go_wp2
   go_quiet (fail)
   go_wp2
   go_roundw
   case rel => exact ⟨k + 1, by omega, by go_num, bel⟩
   case measure => simp [intOf]; omega
  ·have hki : ¬ ((k : Int) < n) := by omega
   go_wp2
   go_ret
   exact ⟨rfl, hbr⟩
set_option maxHeartbeats 2000000 in
theorem eqFn_yes (l : List ByteArray) (A : Option Addr) (n c : Nat) (A' : Option Addr) (c' : Nat) (B : Nat) (w : World) (hB : B <= w.heap.size) (hn : l.length = n) (hm : n <= 9223372036854775807) (hs : Cells w B A (l.flatMap fnC)) (hs' : Cells w B A' (l.flatMap fnC)) :
 Calls Tryz.prog 24 #[.slice A n c, .slice A' n c'] w fun e w' => e = .returned (.bool true) /\ Below w.heap.size w w' := by
 have HN := lh hn
 clear hn
 go_enter Tryz.func24, Tryz.ntmps24
 go_wp2
 go_loopw [13] (fun i wr => ∃ k : Nat, k <= n /\ i = .int .i64 k /\ Below w.heap.size w wr) (fun i _ => n - (intOf i).toNat)
 case atStart => exact ⟨0, Nat.zero_le _, rfl, Below.refl _ _⟩
 case round =>
  obtain ⟨k, hk, rfl, hbr⟩ := hrel
  by_cases hlt : k < n
  ·have hkx : k < l.length := by have := HN.out; omega
   have h1 := hs.below (hbr.mono hB)
   have h2 := hs'.below (hbr.mono hB)
   obtain ⟨b, o, rfl, hbB, hx⟩ := h1.at_ (by rw [flat_len fnC 2 fnC_len]; omega)
   clear hx
   obtain ⟨b', o', rfl, hbB', hx⟩ := h2.at_ (by rw [flat_len fnC 2 fnC_len]; omega)
   clear hx
   have c0 := h1.row0 fnC_len hkx rfl
   have c1 := h1.rowj fnC_len hkx 1 rfl
   have d0 := h2.row0 fnC_len hkx rfl
   have d1 := h2.rowj fnC_len hkx 1 rfl
   clear h1 h2
   have hbl : b < wr.heap.size := by have := hbr.size; omega
   have hbl' : b' < wr.heap.size := by have := hbr.size; omega
   have hki : (k : Int) < n := by omega
   generalize l[k] = r at *
   go_wp2
   go_quiet (fail)
   go_wp2
   go_roundw
   case rel => exact ⟨k + 1, by omega, by go_num, bel⟩
   case measure => simp [intOf]; omega
  ·have hki : ¬ ((k : Int) < n) := by omega
   go_wp2
   go_ret
   exact ⟨rfl, hbr⟩
set_option maxRecDepth 20000 in
set_option maxHeartbeats 4000000 in
theorem awake27_any (w : World) : Calls Tryz.prog 10 #[] w fun e w' => e = .returned (.bool true) /\ Below w.heap.size w w' := by
 have HEX := lh (fun w => example27_any w)
 go_enter Tryz.func10, Tryz.ntmps10
 go_upto_region 2 with (first
  | (go_at_call 38; (with_reducible refine (HEX.out _).mono ?_); rintro e w1 ⟨gx1, g1, gb1, gr1, gs1, gd1, rfl, hE1, hb1⟩)
  | (go_at_call 12; (with_reducible refine (ex7_Fails hE1 _ (Below.refl _ _)).mono ?_); rintro e w2 ⟨rfl, hb2⟩))
 have hW2 : Below w.heap.size w w2 := ba_via hb2 hb1
 clear hE1 hb1 hb2
 go_upto_region 3 with (first
  | (go_at_call 38; (with_reducible refine (HEX.out _).mono ?_); rintro e w3 ⟨gx3, g3, gb3, gr3, gs3, gd3, rfl, hE3, hb3⟩)
  | (go_at_call 13; (with_reducible refine (ex7_Spans hE3 _ (Below.refl _ _)).mono ?_); rintro e w4 ⟨A4, c4, rfl, hs4, hb4⟩))
 have hW4 : Below w.heap.size w w4 := ba_via (ba_via hb4 hb3) hW2
 have HS4 := lh hs4
 clear hE3 hb3 hb4 hs4
 go_upto_region 4 with (first
  | (go_at_call 38; (with_reducible refine (HEX.out _).mono ?_); rintro e w5 ⟨gx5, g5, gb5, gr5, gs5, gd5, rfl, hE5, hb5⟩)
  | (go_at_call 17; (with_reducible refine (ex7_Spare hE5 _ (Below.refl _ _)).mono ?_); rintro e w6 ⟨rfl, hb6⟩))
 have h46 : Below w4.heap.size w4 w6 := ba_via hb6 hb5
 have hW6 : Below w.heap.size w w6 := ba_via h46 hW4
 clear hE5 hb5 hb6
 go_upto_region 5 with (first
  | (go_at_call 38; (with_reducible refine (HEX.out _).mono ?_); rintro e w7 ⟨gx7, g7, gb7, gr7, gs7, gd7, rfl, hE7, hb7⟩)
  | (go_at_call 18; (with_reducible refine (ex7_Ratio hE7 _ (Below.refl _ _)).mono ?_); rintro e w8 ⟨rfl, hb8⟩))
 have HF8 := lh (Blk.new w8 54 #[.int .i64 3927, .int .i64 2500])
 have h68 : Below w6.heap.size w6 w8 := ba_via hb8 hb7
 have hl8 : w8.heap.size < (w8.alloc (.cells #[.int .i64 3927, .int .i64 2500] 54)).heap.size := by simp
 have h68a : Below w6.heap.size w6 (w8.alloc (.cells #[.int .i64 3927, .int .i64 2500] 54)) := ba_alloc h68 _
 clear hE7 hb7 hb8 h68
 generalize (w8.alloc (.cells #[.int .i64 3927, .int .i64 2500] 54)) = W8 at *
 generalize w8.heap.size = g8 at *
 go_upto_region 6 with (first
  | (go_at_call 38; (with_reducible refine (HEX.out _).mono ?_); rintro e w9 ⟨gx9, g9, gb9, gr9, gs9, gd9, rfl, hE9, hb9⟩)
  | (go_at_call 21; (with_reducible refine (ex7_Check hE9 _ (Below.refl _ _)).mono ?_); rintro e wA ⟨AA, cA, rfl, hsA, hbA⟩))
 have h8A : Below W8.heap.size W8 wA := ba_via hbA hb9
 have h4A : Below w4.heap.size w4 wA := ba_via (ba_via h8A h68a) h46
 have hWA : Below w.heap.size w wA := ba_via h4A hW4
 have HFA := lh (HF8.out.via h8A)
 have HSA := lh hsA
 have HS4' := lh ((HS4.out.below h4A).mono h4A.size)
 clear hE9 hb9 hbA hsA HF8 HS4 h8A h68a h46 hW2 hW6 hl8 HEX
 have HEQ1 := lh (show Calls Tryz.prog 16 #[.slice A4 1 c4, .slice (some ⟨wA.heap.size, 0, none⟩) 1 1] (wA.alloc (.cells #[.int .i64 300, .int .i64 399] 49)) (fun e w' => e = .returned (.bool true) /\ Below (wA.alloc (.cells #[.int .i64 300, .int .i64 399] 49)).heap.size (wA.alloc (.cells #[.int .i64 300, .int .i64 399] 49)) w') from
  eqSp_yes [⟨300, 399⟩] A4 1 c4 (some ⟨wA.heap.size, 0, none⟩) 1 (wA.alloc (.cells #[.int .i64 300, .int .i64 399] 49)).heap.size _ (Nat.le_refl _) rfl (by decide) ((HS4'.out.alloc (Nat.le_refl _) _).mono (by simp)) (Cells.newRow wA #[.int .i64 300, .int .i64 399] 49 (0, 0)))
 have HEQ2 := lh (fun (W : World) (hc : Cells W W.heap.size AA (([strD] : List ByteArray).flatMap fnC)) => (show Calls Tryz.prog 24 #[.slice AA 1 cA, .slice (some ⟨W.heap.size, 0, none⟩) 1 1] (W.alloc (.cells #[.int .i64 1, .string strD] 71)) (fun e w' => e = .returned (.bool true) /\ Below (W.alloc (.cells #[.int .i64 1, .string strD] 71)).heap.size (W.alloc (.cells #[.int .i64 1, .string strD] 71)) w') from
  eqFn_yes [strD] AA 1 cA (some ⟨W.heap.size, 0, none⟩) 1 (W.alloc (.cells #[.int .i64 1, .string strD] 71)).heap.size _ (Nat.le_refl _) rfl (by decide) ((hc.alloc (Nat.le_refl _) _).mono (by simp)) (Cells.newRow W #[.int .i64 1, .string strD] 71 (0, 0))))
 go_wp2_with (first
  | (go_at_call 16; (with_reducible refine HEQ1.out.mono ?_); rintro e wB ⟨rfl, hbB⟩; have hAB : Below wA.heap.size wA wB := (ba_via hbB (ba_alloc (Below.refl _ _) _)); have hFB := HFA.out.via hAB; have f0 := hFB.cell 0; have f1 := hFB.cell 1; have fl := hFB.lt; simp only [ga1, ga2, ga3] at f0 f1; have HSB := lh ((HSA.out.below hAB).mono hAB.size); clear hFB HSA HFA HEQ1 hbB)
  | (go_at_call 24; (with_reducible refine (HEQ2.out _ HSB.out).mono ?_); rintro e wC ⟨rfl, hbC⟩))
 go_ret
 exact ⟨rfl, ba_via hbC (ba_alloc (ba_via hAB hWA) _)⟩
set_option maxRecDepth 20000 in
set_option maxHeartbeats 2000000 in
theorem scalLaw_zero (x : Dt) (u v r : Int) (w : World) (hdn : x.dn = 0) :
 Calls Tryz.prog 9 #[dtV x, .int .u8 u, .int .u16 v, .int .u16 r] w fun e w' => e = .returned (.bool true) /\ Below w.heap.size w w' := by
 have bz : ((x.dn : Int) == 0) = true := by rw [hdn]; rfl
 clear hdn
 have HA := lh (fun w => awake27_any w)
 unfold dtV
 have hDB := Blk.new w 34 (dtc x)
 have hW1 : Below w.heap.size w (w.alloc (.cells (dtc x) 34)) := ba_alloc (Below.refl _ _) _
 go_enter Tryz.func9, Tryz.ntmps9
 go_upto_region 1 with fail
 generalize (w.alloc (.cells (dtc x) 34)) = W1 at *
 have HDB := lh hDB
 clear hDB
 go_upto_region 3 with (go_at_call 10; (with_reducible refine (HA.out _).mono ?_); rintro e wa ⟨rfl, hbwa⟩)
 have hwa : Below w.heap.size w wa := ba_via hbwa hW1
 have HDA := lh (HDB.out.via hbwa)
 have hDx := HDA.out
 have d9 := hDx.cell 9
 have dl := hDx.lt
 simp only [ga1, ga2, ga3] at d9
 clear hDx HDB hbwa hW1 HA
 refine wp_region_mix 0 [5, 6] (by kernel_rfl) (by kernel_rfl) (of_decide_eq_true (by kernel_rfl)) ?_
 try simp only [wpSegs, gt1, gt2, gt3, gt4, List.take_nil, List.drop_nil]
 repeat (go_big_quiet_step (fail))
 refine wpQuiet_nil ?_
 show wpList _ _ _ _ _ _
 go_wp2_with (fail)
 refine seg_next (grow_to belr) ?_
 try simp only [wpSegs, gt1, gt2, gt3, gt4, List.take_nil, List.drop_nil]
 repeat (go_big_quiet_step (fail))
 refine wpQuiet_nil ?_
 show wpList _ _ _ _ _ _
 go_wp2_with (fail)
 refine seg_next (grow_to belr) ?_
 try simp only [wpSegs, gt1, gt2, gt3, gt4, List.take_nil, List.drop_nil]
 repeat (go_big_quiet_step (fail))
 refine wpQuiet_nil ?_
 show wpList _ _ _ _ _ _
 go_wp2
 go_ret
 exact ⟨rfl, ba_via belr hwa⟩
set_option maxRecDepth 20000 in
set_option maxHeartbeats 4000000 in
theorem scalLaw_no (x : Dt) (u : Nat) ( v r : Int) (w : World) (hu : u <= 255) (hdn : 0 < x.dn) (hmx : x.dn <= 9223372036854775807)
 (hRD : ∀ W, Below w.heap.size w W -> Calls Tryz.prog 25 #[dtV x, .int .i64 (u % x.dn : Nat)] W fun e w' => e = .returned (.bool false) /\ Below W.heap.size W w') :
 Calls Tryz.prog 9 #[dtV x, .int .u8 u, .int .u16 v, .int .u16 r] w fun e w' => e = .returned (.bool true) /\ Below w.heap.size w w' := by
 have bz : ((x.dn : Int) == 0) = false := by simp; omega
 have bn : (x.dn : Int) ≠ 0 := by omega
 have e1 : IntKind.i64.wrap (u : Int) = (u : Int) := IntWalk.i64_in _ (by omega)
 have e2 : (u : Int).tmod (x.dn : Int) = ((u % x.dn : Nat) : Int) := by rw [Int.tmod_eq_emod_of_nonneg (by omega)]; exact (Int.natCast_emod u x.dn).symm
 have hkd : u % x.dn < x.dn := Nat.mod_lt _ (by omega)
 generalize u % x.dn = k at *
 have e3 : IntKind.i64.wrap (k : Int) = (k : Int) := IntWalk.i64_in _ (by omega)
 have HA := lh (fun w => awake27_any w)
 have HRD := lh hRD
 clear hRD
 unfold dtV at HRD
 unfold dtV
 have hDB := Blk.new w 34 (dtc x)
 have hW1 : Below w.heap.size w (w.alloc (.cells (dtc x) 34)) := ba_alloc (Below.refl _ _) _
 go_enter Tryz.func9, Tryz.ntmps9
 go_upto_region 1 with fail
 generalize (w.alloc (.cells (dtc x) 34)) = W1 at *
 have HDB := lh hDB
 clear hDB
 go_upto_region 3 with (go_at_call 10; (with_reducible refine (HA.out _).mono ?_); rintro e wa ⟨rfl, hbwa⟩)
 have hwa : Below w.heap.size w wa := ba_via hbwa hW1
 have HDA := lh (HDB.out.via hbwa)
 have hDx := HDA.out
 have d9 := hDx.cell 9
 have dl := hDx.lt
 simp only [ga1, ga2, ga3] at d9
 clear hDx HDB hbwa hW1 HA
 refine wp_region_mix 0 [5, 6] (by kernel_rfl) (by kernel_rfl) (of_decide_eq_true (by kernel_rfl)) ?_
 try simp only [wpSegs, gt1, gt2, gt3, gt4, List.take_nil, List.drop_nil]
 repeat (go_big_quiet_step (fail))
 refine wpQuiet_nil ?_
 show wpList _ _ _ _ _ _
 go_wp2_with ((refine wpList_load_gdF (by rfl) 34 (.tmp 4) rfl _ _ rfl _ _ (HDA.out.via belr).range Tryz.underlying34 rfl (by kernel_rfl) ?_))
 refine seg_next (grow_to belr) ?_
 try simp only [wpSegs, gt1, gt2, gt3, gt4, List.take_nil, List.drop_nil]
 repeat (go_big_quiet_step (fail))
 refine wpQuiet_nil ?_
 show wpList _ _ _ _ _ _
 go_wp2_with ((go_at_call 25; (with_reducible refine (HRD.out _ (ba_via belr hwa)).mono ?_); rintro e wr ⟨rfl, hbwr⟩))
 refine seg_next (grow_to belr) ?_
 try simp only [wpSegs, gt1, gt2, gt3, gt4, List.take_nil, List.drop_nil]
 repeat (go_big_quiet_step (fail))
 refine wpQuiet_nil ?_
 show wpList _ _ _ _ _ _
 go_wp2
 go_ret
 exact ⟨rfl, ba_via belr hwa⟩
abbrev snV (s : Sp) : Value := .agg #[.int .i64 s.lo, .int .i64 s.hi]
def AsksS (w : World) (F : Nat) (fst cap : Array Value) (p : Sp -> Bool) : Prop :=
 ∀ (x : Sp) (w' : World), Below w.heap.size w w' -> Calls Tryz.prog F (fst.push (snV x) ++ cap) w' fun e w'' => e = .returned (.bool (p x)) /\ Below w'.heap.size w' w''
theorem indexfS_any (F : Nat) (fst cap : Array Value) (p : Sp -> Bool) (A : Option Addr) (n c : Nat) (xs : List Sp) (B : Nat) (w : World) (hn : xs.length = n) (hm : n <= 9223372036854775807) (hB : B <= w.heap.size)
 (hs : Cells w B A (xs.flatMap snC)) (hF : ∀ args w, Sem.run Tryz.prog (callFunc F args) w = .ok (.enter F args) w) (hf : AsksS w F fst cap p) :
 Calls Tryz.prog 59 #[.slice A n c, .func (.func F) fst cap] w fun e w' => e = .returned (.int .i64 (idxf xs p)) /\ Below w.heap.size w w' := by
 have HN := lh hn
 clear hn
 go_enter Tryz.func59, Tryz.ntmps59
 go_wp2
 go_loopw [8] (fun i wr => ∃ k : Nat, k <= n /\ i = .int .i64 k /\ (∀ j (h : j < xs.length), j < k -> p xs[j] = false) /\ Below w.heap.size w wr) (fun i _ => n - (intOf i).toNat)
 case atStart => exact ⟨0, Nat.zero_le _, rfl, fun j _ hj => absurd hj (by omega), Below.refl _ _⟩
 case round =>
  obtain ⟨k, hk, rfl, hno, hbr⟩ := hrel
  have HNO := lh hno
  clear hno
  by_cases hlt : k < n
  ·have hkx : k < xs.length := by have := HN.out; omega
   have hs' := hs.below (hbr.mono hB)
   obtain ⟨b, o, rfl, _, _⟩ := hs'.at_ (by rw [flat_len snC 2 snC_len]; omega)
   have c0 := hs'.row0 snC_len hkx rfl
   have c1 := hs'.rowj snC_len hkx 1 rfl
   by_cases hx : p xs[k] = true
   ·go_wp2_with (refine (hf _ _ hbr).mono ?_; rintro e w1 ⟨rfl, hb1⟩)
    go_ret
    exact ⟨ret_i (idxf_hit hkx hx HNO.out).symm, hbr.trans (hb1.mono hbr.size)⟩
   ·have hx' : p xs[k] = false := by simpa using hx
    clear hx
    go_wp2_with (refine (hf _ _ hbr).mono ?_; rintro e w1 ⟨rfl, hb1⟩)
    go_roundw
    case rel =>
     refine ⟨k + 1, by omega, by go_num, fun j hj hjk => ?_, hbr.trans (hb1.mono hbr.size)⟩
     by_cases hjk' : j = k
     ·subst hjk'; exact hx'
     ·exact HNO.out j hj (by omega)
    case measure => simp [intOf]; omega
  ·go_wp2
   go_ret
   exact ⟨ret_i (idxf_miss (fun j hj => HNO.out j hj (by have := HN.out; omega))).symm, hbr⟩
theorem containsfS_any (F : Nat) (fst cap : Array Value) (p : Sp -> Bool) (A : Option Addr) (n c : Nat) (xs : List Sp) (B : Nat) (w : World) (hn : xs.length = n) (hm : n <= 9223372036854775807) (hB : B <= w.heap.size)
 (hs : Cells w B A (xs.flatMap snC)) (hF : ∀ args w, Sem.run Tryz.prog (callFunc F args) w = .ok (.enter F args) w) (hf : AsksS w F fst cap p) :
 Calls Tryz.prog 30 #[.slice A n c, .func (.func F) fst cap] w fun e w' => e = .returned (.bool (anyb xs p)) /\ Below w.heap.size w w' := by
 have HN := lh hn
 have HF := lh hF
 have he : decide (0 <= idxf xs p) = anyb xs p := idxf_ge xs p
 clear hn hF
 go_enter Tryz.func30, Tryz.ntmps30
 go_wp2_with (go_at_call 59; (with_reducible refine (indexfS_any F fst cap p _ _ _ xs B _ HN.out hm hB hs HF.out hf).mono ?_); rintro e w1 ⟨rfl, hbw1⟩; obtain ⟨hcw1, hfw1⟩ := bcell hbw1)
 go_ret
 exact ⟨rfl, bel⟩
end Go.Proofs.YtmfpbafpnoomeaaGreat
