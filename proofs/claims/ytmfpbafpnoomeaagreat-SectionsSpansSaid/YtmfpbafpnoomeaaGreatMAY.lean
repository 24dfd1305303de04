/- Lemmas. -/
import Derived.Test.YtmfpbafpnoomeaaGreatMAX
set_option linter.unusedVariables false
set_option linter.unusedSimpArgs false
namespace Go.Proofs.YtmfpbafpnoomeaaGreat
open Go.RowKit
theorem spans_err (x : Dt) (d er : Int) (w : World) (he : (er == 0) = false)
 (hPA : ∀ W, Below w.heap.size w W -> Calls Tryz.prog 42 #[dtV x, .int .i64 d] W fun e w' => e = .returned (.tuple #[.slice none 0 0, .int .i64 er]) /\ Below W.heap.size W w') :
 Calls Tryz.prog 13 #[dtV x, .int .i64 d] w fun e w' => e = .returned (.tuple #[.slice none 0 0, .int .i64 er]) /\ Below w.heap.size w w' := by
 have HPA := lh hPA
 have he2 : ¬ (er = 0) := by simpa using he
 clear hPA
 unfold dtV at HPA
 unfold dtV
 have hDB := Blk.new w 34 (dtc x)
 have hW1 : Below w.heap.size w (w.alloc (.cells (dtc x) 34)) := ba_alloc (Below.refl _ _) _
 go_enter Tryz.func13, Tryz.ntmps13
 go_upto_region 1 with fail
 generalize (w.alloc (.cells (dtc x) 34)) = W1 at *
 have HDB := lh hDB
 clear hDB
 go_wp2_with (first
  | ((with_reducible refine at_load 34 2 ?_); refine wpList_load_mid rfl 34 (.tmp 2) rfl _ _ rfl _ _ (HDB.out.via belr).range Tryz.underlying34 rfl (by kernel_rfl) ?_)
  | (go_at_call 42; (with_reducible refine (HPA.out _ belr).mono ?_); rintro e w2 ⟨rfl, hbw2⟩))
 go_ret2
 exact ⟨rfl, bel⟩
theorem fails_err (x : Dt) (d er : Int) (w : World) (he : (er == 0) = false)
 (hSP : ∀ W, Below w.heap.size w W -> Calls Tryz.prog 13 #[dtV x, .int .i64 d] W fun e w' => e = .returned (.tuple #[.slice none 0 0, .int .i64 er]) /\ Below W.heap.size W w') :
 Calls Tryz.prog 12 #[dtV x, .int .i64 d] w fun e w' => e = .returned (.tuple #[.int .i64 0, .int .i64 er]) /\ Below w.heap.size w w' := by
 have HSP := lh hSP
 have he2 : ¬ (er = 0) := by simpa using he
 have he3 : (er != 0) = true := by simp [he2]
 clear hSP
 unfold dtV at HSP
 unfold dtV
 have hDB := Blk.new w 34 (dtc x)
 have hW1 : Below w.heap.size w (w.alloc (.cells (dtc x) 34)) := ba_alloc (Below.refl _ _) _
 go_enter Tryz.func12, Tryz.ntmps12
 go_upto_region 1 with fail
 generalize (w.alloc (.cells (dtc x) 34)) = W1 at *
 have HDB := lh hDB
 clear hDB
 go_wp2_with (first
  | ((with_reducible refine at_load 34 2 ?_); refine wpList_load_mid rfl 34 (.tmp 2) rfl _ _ rfl _ _ (HDB.out.via belr).range Tryz.underlying34 rfl (by kernel_rfl) ?_)
  | (go_at_call 13; (with_reducible refine (HSP.out _ belr).mono ?_); rintro e w2 ⟨rfl, hbw2⟩))
 go_ret2
 exact ⟨rfl, bel⟩
section
variable {x : Dt} {ds : List Dm} {w : World}
theorem bad_Spans (h : DtOk w x ds) (d : Int) (hg : S.given27 x ds d ≠ 0) : ∀ W, Below w.heap.size w W -> Calls Tryz.prog 13 #[dtV x, .int .i64 d] W fun e w' => e = .returned (.tuple #[.slice none 0 0, .int .i64 (S.given27 x ds d)]) /\ Below W.heap.size W w' := fun W hw =>
 spans_err x d _ W (by simpa using hg) (fun V hV => bad_parts h d hg V (hw.trans (hV.mono hw.size)))
theorem bad_Fails (h : DtOk w x ds) (d : Int) (hg : S.given27 x ds d ≠ 0) : ∀ W, Below w.heap.size w W -> Calls Tryz.prog 12 #[dtV x, .int .i64 d] W fun e w' => e = .returned (.tuple #[.int .i64 0, .int .i64 (S.given27 x ds d)]) /\ Below W.heap.size W w' := fun W hw =>
 fails_err x d _ W (by simpa using hg) (fun V hV => bad_Spans h d hg V (hw.trans (hV.mono hw.size)))
end
theorem rfails_err (x : Dt) (d er : Int) (w : World) (he : (er == 0) = false)
 (hSP : ∀ W, Below w.heap.size w W -> Calls Tryz.prog 15 #[dtV x, .int .i64 d] W fun e w' => e = .returned (.tuple #[.slice none 0 0, .int .i64 er]) /\ Below W.heap.size W w') :
 Calls Tryz.prog 14 #[dtV x, .int .i64 d] w fun e w' => e = .returned (.tuple #[.int .i64 0, .int .i64 er]) /\ Below w.heap.size w w' := by
 have HSP := lh hSP
 have he2 : ¬ (er = 0) := by simpa using he
 have he3 : (er != 0) = true := by simp [he2]
 clear hSP
 unfold dtV at HSP
 unfold dtV
 have hDB := Blk.new w 34 (dtc x)
 have hW1 : Below w.heap.size w (w.alloc (.cells (dtc x) 34)) := ba_alloc (Below.refl _ _) _
 go_enter Tryz.func14, Tryz.ntmps14
 go_upto_region 1 with fail
 generalize (w.alloc (.cells (dtc x) 34)) = W1 at *
 have HDB := lh hDB
 clear hDB
 go_wp2_with (first
  | ((with_reducible refine at_load 34 2 ?_); refine wpList_load_mid rfl 34 (.tmp 2) rfl _ _ rfl _ _ (HDB.out.via belr).range Tryz.underlying34 rfl (by kernel_rfl) ?_)
  | (go_at_call 15; (with_reducible refine (HSP.out _ belr).mono ?_); rintro e w2 ⟨rfl, hbw2⟩))
 go_ret2
 exact ⟨rfl, bel⟩
set_option maxHeartbeats 2000000 in
theorem rfails_yes (x : Dt) (d : Int) (L : List Sp) (w : World) (hL : L.length <= 400)
 (hSP : ∀ W, Below w.heap.size w W -> Calls Tryz.prog 15 #[dtV x, .int .i64 d] W (GivesSpn L W)) :
 Calls Tryz.prog 14 #[dtV x, .int .i64 d] w fun e w' => e = .returned (.tuple #[.int .i64 (S.firstOf L).1, .int .i64 (S.firstOf L).2]) /\ Below w.heap.size w w' := by
 have HSP := lh hSP
 clear hSP
 unfold dtV at HSP
 unfold dtV
 have hDB := Blk.new w 34 (dtc x)
 have hW1 : Below w.heap.size w (w.alloc (.cells (dtc x) 34)) := ba_alloc (Below.refl _ _) _
 go_enter Tryz.func14, Tryz.ntmps14
 go_upto_region 1 with fail
 generalize (w.alloc (.cells (dtc x) 34)) = W1 at *
 have HDB := lh hDB
 clear hDB
 go_upto_region 4 with (first
  | ((with_reducible refine at_load 34 2 ?_); refine wpList_load_mid rfl 34 (.tmp 2) rfl _ _ rfl _ _ (HDB.out.via belr).range Tryz.underlying34 rfl (by kernel_rfl) ?_)
  | (go_at_call 15; (with_reducible refine (HSP.out _ belr).mono ?_); rintro e w2 ⟨A2, c2, rfl, hC2, hbw2⟩))
 have hw2 : Below w.heap.size w w2 := ba_via hbw2 hW1
 clear HSP HDB hW1 hbw2
 cases L with
 | nil =>
  clear hC2
  go_wp2
  go_ret2
  exact ⟨rfl, hw2⟩
 | cons t r =>
  obtain ⟨b, o, rfl, hb, hc⟩ := hC2.at_ (by simp)
  have c0 := hc 0 (.int .i64 t.lo) rfl
  obtain ⟨lz, hlz⟩ : ∃ lz, lz = (t :: r).length := ⟨_, rfl⟩
  have hz1 : (0 : Int) < lz := by rw [hlz]; simp
  have hz : ((lz : Int) == 0) = false := by simp; omega
  have hz2 : 0 < lz := by omega
  rw [<- hlz]
  simp only [Nat.add_zero] at c0
  clear hc hC2 hlz
  go_wp2
  go_ret2
  exact ⟨rfl, hw2⟩
section
variable {x : Dt} {ds : List Dm} {w : World}
theorem good_rFails (h : DtOk w x ds) (hlk : S.look x (S.dems ds) = true) (hC : (S.cOf x).length <= 100) {k : Nat} {dm : Dm} (hk : ds[k]? = some dm) {rs : List Rod} (hrs : RodsOf x (S.nOf x) rs) :
 ∀ W, Below w.heap.size w W -> Calls Tryz.prog 14 #[dtV x, .int .i64 k] W fun e w' => e = .returned (.tuple #[.int .i64 (S.firstOf (S.spansL (S.partsD x rs dm))).1, .int .i64 (S.firstOf (S.spansL (S.partsD x rs dm))).2]) /\ Below W.heap.size W w' := fun W hw =>
 rfails_yes x k _ W (Nat.le_trans (spansL_len _) (partsD_len h hlk hC hk hrs)) (fun V hV => good_rSpans h hlk hC hk hrs V (hw.trans (hV.mono hw.size)))
theorem bad_rSpans (h : DtOk w x ds) (d : Int) (hg : S.given27 x ds d ≠ 0) : ∀ W, Below w.heap.size w W -> Calls Tryz.prog 15 #[dtV x, .int .i64 d] W fun e w' => e = .returned (.tuple #[.slice none 0 0, .int .i64 (S.given27 x ds d)]) /\ Below W.heap.size W w' := fun W hw =>
 rspans_err x d _ W (by simpa using hg) (fun V hV => any_rgiven27 h d V (hw.trans (hV.mono hw.size)))
theorem bad_rFails (h : DtOk w x ds) (d : Int) (hg : S.given27 x ds d ≠ 0) : ∀ W, Below w.heap.size w W -> Calls Tryz.prog 14 #[dtV x, .int .i64 d] W fun e w' => e = .returned (.tuple #[.int .i64 0, .int .i64 (S.given27 x ds d)]) /\ Below W.heap.size W w' := fun W hw =>
 rfails_err x d _ W (by simpa using hg) (fun V hV => bad_rSpans h d hg V (hw.trans (hV.mono hw.size)))
end
def GivesSe (L : List Sp) (f : Int) (w : World) (e : Ending) (w' : World) : Prop :=
 ∃ (A : Option Addr) (c : Nat), e = .returned (.tuple #[.slice A L.length c, .int .i64 f]) /\ Cells w' w'.heap.size A (L.flatMap snC) /\ Below w.heap.size w w'
theorem spansLaw_big (x : Dt) (d : Int) (w : World)
 (hSM : ∀ W, Below w.heap.size w W -> Calls Tryz.prog 11 #[dtV x] W fun e w' => e = .returned (.bool false) /\ Below W.heap.size W w') :
 Calls Tryz.prog 3 #[dtV x, .int .i64 d] w fun e w' => e = .returned (.bool true) /\ Below w.heap.size w w' := by
 have HA := lh (fun w => awake27_any w)
 have HSM := lh hSM
 clear hSM
 unfold dtV at HSM
 unfold dtV
 have hDB := Blk.new w 34 (dtc x)
 have hW1 : Below w.heap.size w (w.alloc (.cells (dtc x) 34)) := ba_alloc (Below.refl _ _) _
 go_enter Tryz.func3, Tryz.ntmps3
 go_upto_region 1 with fail
 generalize (w.alloc (.cells (dtc x) 34)) = W1 at *
 have HDB := lh hDB
 clear hDB
 go_wp2_with (first
  | (go_at_call 10; (with_reducible refine (HA.out _).mono ?_); rintro e wa ⟨rfl, hbwa⟩)
  | ((with_reducible refine at_load 34 2 ?_); refine wpList_load_mid rfl 34 (.tmp 2) rfl _ _ rfl _ _ (HDB.out.via belr).range Tryz.underlying34 rfl (by kernel_rfl) ?_)
  | (go_at_call 11; (with_reducible refine (HSM.out _ belr).mono ?_); rintro e wb ⟨rfl, hbwb⟩))
 go_ret
 exact ⟨rfl, bel⟩
set_option maxRecDepth 20000 in
set_option maxHeartbeats 8000000 in
theorem spansLaw_yes (x : Dt) (L : List Sp) (d n g f : Int) (w : World) (hL : L.length <= 400)
 (hSM : ∀ W, Below w.heap.size w W -> Calls Tryz.prog 11 #[dtV x] W fun e w' => e = .returned (.bool true) /\ Below W.heap.size W w')
 (hFA : ∀ W, Below w.heap.size w W -> Calls Tryz.prog 12 #[dtV x, .int .i64 d] W fun e w' => e = .returned (.tuple #[.int .i64 n, .int .i64 g]) /\ Below W.heap.size W w')
 (hSP : ∀ W, Below w.heap.size w W -> Calls Tryz.prog 13 #[dtV x, .int .i64 d] W (GivesSe L f W))
 (hRF : ∀ W, Below w.heap.size w W -> Calls Tryz.prog 14 #[dtV x, .int .i64 d] W fun e w' => e = .returned (.tuple #[.int .i64 n, .int .i64 g]) /\ Below W.heap.size W w')
 (hRS : ∀ W, Below w.heap.size w W -> Calls Tryz.prog 15 #[dtV x, .int .i64 d] W (GivesSe L f W)) :
 Calls Tryz.prog 3 #[dtV x, .int .i64 d] w fun e w' => e = .returned (.bool true) /\ Below w.heap.size w w' := by
 have HA := lh (fun w => awake27_any w)
 have HSM := lh hSM
 have HFA := lh hFA
 have HSP := lh hSP
 have HRF := lh hRF
 have HRS := lh hRS
 clear hSM hFA hSP hRF hRS
 unfold dtV at HSM HFA HSP HRF HRS
 unfold dtV
 have hDB := Blk.new w 34 (dtc x)
 have hW1 : Below w.heap.size w (w.alloc (.cells (dtc x) 34)) := ba_alloc (Below.refl _ _) _
 go_enter Tryz.func3, Tryz.ntmps3
 go_upto_region 1 with fail
 generalize (w.alloc (.cells (dtc x) 34)) = W1 at *
 have HDB := lh hDB
 clear hDB
 go_upto_region 7 with (first
  | (go_at_call 10; (with_reducible refine (HA.out _).mono ?_); rintro e wa ⟨rfl, hbwa⟩)
  | ((with_reducible refine at_load 34 2 ?_); refine wpList_load_mid rfl 34 (.tmp 2) rfl _ _ rfl _ _ (HDB.out.via belr).range Tryz.underlying34 rfl (by kernel_rfl) ?_)
  | (go_at_call 11; (with_reducible refine (HSM.out _ belr).mono ?_); rintro e wb ⟨rfl, hbwb⟩)
  | (go_at_call 12; (with_reducible refine (HFA.out _ belr).mono ?_); rintro e wc ⟨rfl, hbwc⟩)
  | (go_at_call 13; (with_reducible refine (HSP.out _ belr).mono ?_); rintro e wd ⟨A1, c1, rfl, hC1, hbwd⟩))
 have h1d : Below W1.heap.size W1 wd := ba_via hbwd (ba_via hbwc (ba_via hbwb hbwa))
 have hwd : Below w.heap.size w wd := ba_via h1d hW1
 have HDD := lh (HDB.out.via h1d)
 have HC1 := lh hC1
 obtain ⟨n1, hn1⟩ : ∃ n1, n1 = L.length := ⟨_, rfl⟩
 have HN1 := lh hn1
 rw [<- hn1] at hL
 rw [<- hn1]
 clear hbwa hbwb hbwc hbwd hW1 HDB h1d hC1 HA HSM HFA HSP hn1
 go_upto_region 9 with (first
  | ((with_reducible refine at_load 34 2 ?_); refine wpList_load_mid rfl 34 (.tmp 2) rfl _ _ rfl _ _ (HDD.out.via belr).range Tryz.underlying34 rfl (by kernel_rfl) ?_)
  | (go_at_call 14; (with_reducible refine (HRF.out _ (ba_via belr hwd)).mono ?_); rintro e we ⟨rfl, hbwe⟩)
  | (go_at_call 15; (with_reducible refine (HRS.out _ (ba_via belr hwd)).mono ?_); rintro e wf ⟨A2, c2, rfl, hC2, hbwf⟩))
 have hdf : Below wd.heap.size wd wf := ba_via hbwf hbwe
 have hwf : Below w.heap.size w wf := ba_via hdf hwd
 have HEQ := lh (eqSp_yes L A1 n1 c1 A2 c2 wf.heap.size wf (Nat.le_refl _) HN1.out.symm (by omega) ((HC1.out.below hdf).mono hdf.size) hC2)
 rw [<- HN1.out]
 have nn : (n == n) = true := by simp
 have gg : (g == g) = true := by simp
 have ff : (f == f) = true := by simp
 clear hC2 HC1 HRF HRS HDD hbwe hbwf hdf
 go_wp2_with (go_at_call 16; (with_reducible refine (HEQ.out).mono ?_); rintro e wg ⟨rfl, hbwg⟩)
 go_ret
 exact ⟨rfl, ba_via hbwg hwf⟩
theorem se_nil {f : Int} {W : World} {F : Nat} {args : Array Value} (h : Calls Tryz.prog F args W fun e w' => e = .returned (.tuple #[.slice none 0 0, .int .i64 f]) /\ Below W.heap.size W w') : Calls Tryz.prog F args W (GivesSe [] f W) := by
 refine h.mono ?_
 rintro e w' ⟨rfl, h2⟩
 exact ⟨none, 0, rfl, Cells.nil, h2⟩
theorem spans_walk (x : Dt) (ds : List Dm) (d : Int) (w : World) (h : DtOk w x ds) :
 Calls Tryz.prog 3 #[dtV x, .int .i64 d] w fun e w' => e = .returned (.bool true) /\ Below w.heap.size w w' := by
 have HSM : ∀ W, Below w.heap.size w W -> Calls Tryz.prog 11 #[dtV x] W fun e w' => e = .returned (.bool (S.small25 x ds)) /\ Below W.heap.size W w' := fun W hw =>
  small25_any x ds w.heap.size W hw.size (h.at_.at_ (Nat.le_refl _) hw) (h.dems.at_ (Nat.le_refl _) hw)
 cases hsm : S.small25 x ds
 ·rw [hsm] at HSM
  exact spansLaw_big x d w HSM
 ·rw [hsm] at HSM
  by_cases hg : S.given27 x ds d = 0
  ·obtain ⟨hlk, k, dm, rfl, hk⟩ := given27_zero hg
   have g := look_ok hlk
   obtain ⟨rs, hrs⟩ := rods_ex g.laid
   have hC := few_chains hsm g.laid
   exact spansLaw_yes x (S.spansL (S.partsD x rs dm)) k _ _ 0 w (Nat.le_trans (spansL_len _) (partsD_len h hlk hC hk hrs)) HSM (good_Fails h hlk hC hk hrs) (good_Spans h hlk hC hk hrs) (good_rFails h hlk hC hk hrs) (good_rSpans h hlk hC hk hrs)
  ·exact spansLaw_yes x [] d 0 (S.given27 x ds d) (S.given27 x ds d) w (by simp) HSM (bad_Fails h d hg) (fun W hw => se_nil (bad_Spans h d hg W hw)) (bad_rFails h d hg) (fun W hw => se_nil (bad_rSpans h d hg W hw))
end Go.Proofs.YtmfpbafpnoomeaaGreat
