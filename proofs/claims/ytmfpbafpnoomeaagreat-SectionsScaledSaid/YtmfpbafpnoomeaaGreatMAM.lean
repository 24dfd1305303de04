/- Lemmas. -/
import Derived.Test.YtmfpbafpnoomeaaGreatMAK
import Derived.Test.YtmfpbafpnoomeaaGreatMAL
set_option linter.unusedVariables false
set_option linter.unusedSimpArgs false
namespace Go.Proofs.YtmfpbafpnoomeaaGreat
open Go.RowKit
def S.firstOf (L : List Sp) : Int × Int := match L with | [] => (0, 12) | t :: _ => (t.lo, 0)
set_option maxHeartbeats 2000000 in
theorem fails_yes (x : Dt) (d : Int) (L : List Sp) (w : World) (hL : L.length <= 400)
 (hSP : ∀ W, Below w.heap.size w W -> Calls Tryz.prog 13 #[dtV x, .int .i64 d] W (GivesSpn L W)) :
 Calls Tryz.prog 12 #[dtV x, .int .i64 d] w fun e w' => e = .returned (.tuple #[.int .i64 (S.firstOf L).1, .int .i64 (S.firstOf L).2]) /\ Below w.heap.size w w' := by
 have HSP := lh hSP
 clear hSP
 unfold dtV at HSP
 unfold dtV
 have hDB := Blk.new w 34 (dtc x)
 have hW1 : Below w.heap.size w (w.alloc (.cells (dtc x) 34)) := ba_alloc (Below.refl _ _) _
 go_enter Tryz.func12, Tryz.ntmps12
 go_upto_region 1 with fail
 generalize (w.alloc (.cells (dtc x) 34)) = W1 at *
 have HDB := lh hDB
 clear hDB
 go_upto_region 4 with (first
  | ((with_reducible refine at_load 34 2 ?_); refine wpList_load_mid rfl 34 (.tmp 2) rfl _ _ rfl _ _ (HDB.out.via belr).range Tryz.underlying34 rfl (by kernel_rfl) ?_)
  | (go_at_call 13; (with_reducible refine (HSP.out _ belr).mono ?_); rintro e w2 ⟨A2, c2, rfl, hC2, hbw2⟩))
 have hw2 : Below w.heap.size w w2 := ba_via hbw2 hW1
 clear HSP HDB hW1 hbw2
 cases L with
 | nil =>
  clear hC2
  go_wp2
  go_ret2
  exact ⟨rfl, hw2⟩
 | cons t r =>
  obtain ⟨b, o, rfl, hb, hc⟩ := hC2.at_ (by simp)
  have c0 := hc 0 (.int .i64 t.lo) rfl
  obtain ⟨lz, hlz⟩ : ∃ lz, lz = (t :: r).length := ⟨_, rfl⟩
  have hz1 : (0 : Int) < lz := by rw [hlz]; simp
  have hz : ((lz : Int) == 0) = false := by simp; omega
  have hz2 : 0 < lz := by omega
  rw [<- hlz]
  simp only [Nat.add_zero] at c0
  clear hc hC2 hlz
  go_wp2
  go_ret2
  exact ⟨rfl, hw2⟩
section
variable {x : Dt} {ds : List Dm} {w : World}
theorem sec_dem (h : DtOk w x ds) {k : Nat} {dm : Dm} (hk : ds[k]? = some dm) : ∀ W, Below w.heap.size w W -> ∃ bD oD, x.dA = some ⟨bD, oD, none⟩ /\ bD < W.heap.size /\ ∀ j v, (dmC dm)[j]? = some v -> W.cell? ⟨bD, oD + k * 8 + j, none⟩ = some v := fun W hw => by
 obtain ⟨hkx, hkd⟩ := List.getElem?_eq_some_iff.1 hk
 have hc := (h.dems.at_ (Nat.le_refl _) hw).cells
 obtain ⟨b2, o2, hA2, hb2, hx⟩ := hc.at_ (by rw [flat_len dmC 8 dmC_len]; omega)
 clear hx
 rw [hA2] at hc
 exact ⟨b2, o2, hA2, Nat.lt_of_lt_of_le hb2 hw.size, fun j v hv => hc.rowj dmC_len hkx j (by rw [hkd]; exact hv)⟩
theorem dem_steps (hlk : S.look x (S.dems ds) = true) {k : Nat} {dm : Dm} (hk : ds[k]? = some dm) : S.steps dm.st = true /\ dm.st.length <= 200 := by
 have hr := dems_at (look_ok hlk).dems hk
 unfold S.demRight at hr
 simp only [Bool.and_eq_true] at hr
 have hs := hr.2
 refine ⟨hs, ?_⟩
 unfold S.steps at hs
 simp only [Bool.and_eq_true, decide_eq_true_eq] at hs
 exact hs.1
def S.partsD (x : Dt) (rs : List Rod) (dm : Dm) : List Prt := S.partsOf (S.supplyOf x rs (S.cOf x) dm.zone) dm.st
theorem partsD_len (h : DtOk w x ds) (hlk : S.look x (S.dems ds) = true) (hC : (S.cOf x).length <= 100) {k : Nat} {dm : Dm} (hk : ds[k]? = some dm) {rs : List Rod} (hrs : RodsOf x (S.nOf x) rs) : (S.partsD x rs dm).length <= 400 := by
 unfold S.partsD
 rw [partsOf_len]
 have h1 := spots_len (S.supplyOf x rs (S.cOf x) dm.zone) dm.st
 have h2 := sup_steps h hlk hC dm.zone hrs
 have h3 := (dem_steps hlk hk).2
 omega
theorem good_parts (h : DtOk w x ds) (hlk : S.look x (S.dems ds) = true) (hC : (S.cOf x).length <= 100) {k : Nat} {dm : Dm} (hk : ds[k]? = some dm) {rs : List Rod} (hrs : RodsOf x (S.nOf x) rs) :
 ∀ W, Below w.heap.size w W -> Calls Tryz.prog 42 #[dtV x, .int .i64 k] W (GivesPr (S.partsD x rs dm) W) := fun W hw => by
 have hkx : k < ds.length := (List.getElem?_eq_some_iff.1 hk).1
 have hdl := h.dems.len
 have hst := (h.dems.each dm (List.mem_of_getElem? hk))
 have hg : S.given27 x ds k = 0 := by
  unfold S.given27 S.given26
  rw [if_neg (by rw [hlk]; simp), if_neg]
  rintro (h1 | h1 | h1)
  ·omega
  ·omega
  ·exact absurd h1 (by decide)
 have hKN := good_known h (k : Int)
 rw [hg] at hKN
 exact parts_yes x k (S.supplyOf x rs (S.cOf x) dm.zone) dm W (by omega) (sup_steps h hlk hC dm.zone hrs) (sup_valid hlk hC hrs dm.zone) (dem_steps hlk hk).1 (by have := hst.len; have := (dem_steps hlk hk).2; omega)
  (fun V hV => sec_dem h hk V (hw.trans (hV.mono hw.size))) (fun V hV => (fun (a : StepsAt V w.heap.size dm.A dm.n dm.st) => (⟨a.len, a.max, a.cells.mono hw.size⟩ : StepsAt V W.heap.size dm.A dm.n dm.st)) ((h.dems.at_ (Nat.le_refl _) (hw.trans (hV.mono hw.size))).each dm (List.mem_of_getElem? hk)))
  (fun V hV => hKN V (hw.trans (hV.mono hw.size))) (fun V hV => good_Of h hlk hC hk hrs V (hw.trans (hV.mono hw.size)))
theorem good_Spans (h : DtOk w x ds) (hlk : S.look x (S.dems ds) = true) (hC : (S.cOf x).length <= 100) {k : Nat} {dm : Dm} (hk : ds[k]? = some dm) {rs : List Rod} (hrs : RodsOf x (S.nOf x) rs) :
 ∀ W, Below w.heap.size w W -> Calls Tryz.prog 13 #[dtV x, .int .i64 k] W (GivesSpn (S.spansL (S.partsD x rs dm)) W) := fun W hw => by
 have hP : PartsOk (S.partsD x rs dm) := parts_ok (spots_place (sup_valid hlk hC hrs dm.zone) (dem_steps hlk hk).1)
 refine spans_yes x k (S.partsD x rs dm) W (partsD_len h hlk hC hk hrs) hP.first (fun j t ht => ?_) (fun V hV => good_parts h hlk hC hk hrs V (hw.trans (hV.mono hw.size)))
 by_cases hj : j <= (S.partsD x rs dm).length
 ·have := (spans_inv hP j hj).good t ht
  omega
 ·rw [List.take_of_length_le (by omega), <- List.take_length (l := S.partsD x rs dm)] at ht
  have := (spans_inv hP (S.partsD x rs dm).length (Nat.le_refl _)).good t ht
  omega
theorem good_Fails (h : DtOk w x ds) (hlk : S.look x (S.dems ds) = true) (hC : (S.cOf x).length <= 100) {k : Nat} {dm : Dm} (hk : ds[k]? = some dm) {rs : List Rod} (hrs : RodsOf x (S.nOf x) rs) :
 ∀ W, Below w.heap.size w W -> Calls Tryz.prog 12 #[dtV x, .int .i64 k] W fun e w' => e = .returned (.tuple #[.int .i64 (S.firstOf (S.spansL (S.partsD x rs dm))).1, .int .i64 (S.firstOf (S.spansL (S.partsD x rs dm))).2]) /\ Below W.heap.size W w' := fun W hw =>
 fails_yes x k _ W (Nat.le_trans (spansL_len _) (partsD_len h hlk hC hk hrs)) (fun V hV => good_Spans h hlk hC hk hrs V (hw.trans (hV.mono hw.size)))
end
set_option maxHeartbeats 2000000 in
theorem ready_any (x : Dt) (d g : Int) (t : Bool) (w : World)
 (hSM : ∀ W, Below w.heap.size w W -> Calls Tryz.prog 11 #[dtV x] W fun e w' => e = .returned (.bool t) /\ Below W.heap.size W w')
 (hGV : ∀ W, Below w.heap.size w W -> Calls Tryz.prog 43 #[dtV x, .int .i64 d] W fun e w' => e = .returned (.int .i64 g) /\ Below W.heap.size W w') :
 Calls Tryz.prog 25 #[dtV x, .int .i64 d] w fun e w' => e = .returned (.bool (t && (g == 0))) /\ Below w.heap.size w w' := by
 have HSM := lh hSM
 have HGV := lh hGV
 clear hSM hGV
 unfold dtV at HSM HGV
 unfold dtV
 have hDB := Blk.new w 34 (dtc x)
 have hW1 : Below w.heap.size w (w.alloc (.cells (dtc x) 34)) := ba_alloc (Below.refl _ _) _
 go_enter Tryz.func25, Tryz.ntmps25
 go_upto_region 1 with fail
 generalize (w.alloc (.cells (dtc x) 34)) = W1 at *
 have HDB := lh hDB
 clear hDB
 cases t
 ·go_wp2_with (first
   | ((with_reducible refine at_load 34 2 ?_); refine wpList_load_mid rfl 34 (.tmp 2) rfl _ _ rfl _ _ (HDB.out.via belr).range Tryz.underlying34 rfl (by kernel_rfl) ?_)
   | (go_at_call 11; (with_reducible refine (HSM.out _ belr).mono ?_); rintro e w2 ⟨rfl, hbw2⟩))
  go_ret
  exact ⟨rfl, bel⟩
 ·go_wp2_with (first
   | ((with_reducible refine at_load 34 2 ?_); refine wpList_load_mid rfl 34 (.tmp 2) rfl _ _ rfl _ _ (HDB.out.via belr).range Tryz.underlying34 rfl (by kernel_rfl) ?_)
   | ((with_reducible refine at_loadg 34 2 ?_); refine wpList_load_gdF (by rfl) 34 (.tmp 2) rfl _ _ rfl _ _ (HDB.out.via belr).range Tryz.underlying34 rfl (by kernel_rfl) ?_)
   | ((with_reducible refine at_loadw 34 2 ?_); refine wp_load_mid 34 (.tmp 2) rfl _ _ rfl _ _ (HDB.out.via belr).range Tryz.underlying34 rfl (by kernel_rfl) ?_)
   | (go_at_call 11; (with_reducible refine (HSM.out _ belr).mono ?_); rintro e w2 ⟨rfl, hbw2⟩)
   | (go_at_call 43; (with_reducible refine (HGV.out _ belr).mono ?_); rintro e w3 ⟨rfl, hbw3⟩))
  go_ret
  exact ⟨ret_b (by simp), bel⟩
section
variable {x : Dt} {ds : List Dm} {w : World}
theorem any_ready (h : DtOk w x ds) (d : Int) : ∀ W, Below w.heap.size w W -> Calls Tryz.prog 25 #[dtV x, .int .i64 d] W fun e w' => e = .returned (.bool (S.small25 x ds && (S.given27 x ds d == 0))) /\ Below W.heap.size W w' := fun W hw =>
 ready_any x d _ _ W (fun V hV => small25_any x ds w.heap.size V (hw.trans (hV.mono hw.size)).size (h.at_.at_ (Nat.le_refl _) (hw.trans (hV.mono hw.size))) (h.dems.at_ (Nat.le_refl _) (hw.trans (hV.mono hw.size)))) (fun V hV => any_rgiven27 h d V (hw.trans (hV.mono hw.size)))
end
def Far (base : Nat) (w : World) (A : Option Addr) (cs : List Value) : Prop :=
 cs = [] ∨ ∃ g, A = some ⟨g, 0, none⟩ /\ base <= g /\ g < w.heap.size /\ ∀ j v, cs[j]? = some v -> w.cell? ⟨g, j, none⟩ = some v
theorem Far.via {base : Nat} {w w' : World} {A : Option Addr} {cs : List Value} (h : Far base w A cs) (hb : Below w.heap.size w w') : Far base w' A cs := by
 rcases h with h | ⟨g, h1, h2, h3, h4⟩
 ·exact .inl h
 ·exact .inr ⟨g, h1, h2, Nat.lt_of_lt_of_le h3 hb.size, fun j v hv => (hb.cell (p := ⟨g, j, none⟩) h3).trans (h4 j v hv)⟩
theorem Far.exc {base b : Nat} {w w' : World} {A : Option Addr} {cs : List Value} (h : Far base w A cs) (hX : Exc [b] w w') (hb : b < base) : Far base w' A cs := by
 rcases h with h | ⟨g, h1, h2, h3, h4⟩
 ·exact .inl h
 ·exact .inr ⟨g, h1, h2, Nat.lt_of_lt_of_le h3 hX.size, fun j v hv => (hX.cell (p := ⟨g, j, none⟩) h3 (by simp; omega)).trans (h4 j v hv)⟩
theorem Far.cells {base : Nat} {w : World} {A : Option Addr} {cs : List Value} (h : Far base w A cs) : Cells w w.heap.size A cs := by
 rcases h with h | ⟨g, h1, h2, h3, h4⟩
 ·exact .inl h
 ·exact .inr ⟨g, 0, h1, h3, fun j v hv => by rw [Nat.zero_add]; exact h4 j v hv⟩
theorem Far.mono {base lo : Nat} {w : World} {A : Option Addr} {cs : List Value} (h : Far base w A cs) (hb : lo <= base) : Far lo w A cs := by
 rcases h with h | ⟨g, h1, h2, h3, h4⟩
 ·exact .inl h
 ·exact .inr ⟨g, h1, Nat.le_trans hb h2, h3, h4⟩
theorem own_far {w : World} {base E size : Nat} {A : Option Addr} {n c m : Nat} {xs : List Value} (h : w.ownsRow base E size (.slice A n c) m xs) : Far base w A xs := by
 rcases h.2 with ⟨_, h0⟩ | ⟨g, cap, cur, hv, hbg, hg, _⟩
 ·left
  have := h.1
  rw [h0, Nat.zero_mul] at this
  exact List.eq_nil_of_length_eq_zero this
 ·injection hv with hA _ _
  subst hA
  refine .inr ⟨g, rfl, hbg, (Array.getElem?_eq_some_iff.1 hg).1, fun j v hv => ?_⟩
  have := h.cells (g := g) rfl j v hv
  rwa [show (⟨g, 0, none⟩ : Addr).add j = ⟨g, j, none⟩ by unfold Addr.add; split <;> simp_all] at this
theorem own_zero (W : World) (base E size : Nat) (hb : base <= W.heap.size) : (W.alloc (.cells #[] E)).ownsRow base E size (.slice (some ⟨W.heap.size, 0, none⟩) 0 0) 0 [] := World.ownsRow_lit W #[] 0 hb (by unfold maxLen; omega) (by simp)
set_option maxRecDepth 20000 in
set_option maxHeartbeats 2000000 in
theorem rcopy23_any (d : Dm) (w : World) (hA : Cells w w.heap.size d.A (d.st.flatMap stC)) (hn : d.st.length = d.n) (hm : d.n <= 1000) :
 Calls Tryz.prog 65 #[dmV d] w fun e w' => ∃ A c, e = .returned (dmV ⟨d.name, d.zone, d.st, A, d.n, c⟩) /\ Far w.heap.size w' A (d.st.flatMap stC) /\ Below w.heap.size w w' := by
 have HA := lh hA
 have HN := lh hn
 clear hA hn
 unfold dmV
 have hDB := (Blk.new w 81 #[.string d.name, .int .i64 d.zone.lo.x, .int .i64 d.zone.lo.y, .int .i64 d.zone.lo.z, .int .i64 d.zone.hi.x, .int .i64 d.zone.hi.y, .int .i64 d.zone.hi.z, .slice d.A d.n d.c]).alloc (.cells #[.string ⟨#[]⟩, .int .i64 0, .int .i64 0, .int .i64 0, .int .i64 0, .int .i64 0, .int .i64 0, .slice none 0 0] 81)
 have hRB := Blk.newN (W := w.alloc (.cells #[.string d.name, .int .i64 d.zone.lo.x, .int .i64 d.zone.lo.y, .int .i64 d.zone.lo.z, .int .i64 d.zone.hi.x, .int .i64 d.zone.hi.y, .int .i64 d.zone.hi.z, .slice d.A d.n d.c] 81)) (n := w.heap.size + 1) (by simp) 81 #[.string ⟨#[]⟩, .int .i64 0, .int .i64 0, .int .i64 0, .int .i64 0, .int .i64 0, .int .i64 0, .slice none 0 0]
 have hW1 : Below w.heap.size w ((w.alloc (.cells #[.string d.name, .int .i64 d.zone.lo.x, .int .i64 d.zone.lo.y, .int .i64 d.zone.lo.z, .int .i64 d.zone.hi.x, .int .i64 d.zone.hi.y, .int .i64 d.zone.hi.z, .slice d.A d.n d.c] 81)).alloc (.cells #[.string ⟨#[]⟩, .int .i64 0, .int .i64 0, .int .i64 0, .int .i64 0, .int .i64 0, .int .i64 0, .slice none 0 0] 81)) := ba_alloc (ba_alloc (Below.refl _ _) _) _
 go_enter Tryz.func65, Tryz.ntmps65
 go_upto_region 1 with fail
 generalize ((w.alloc (.cells #[.string d.name, .int .i64 d.zone.lo.x, .int .i64 d.zone.lo.y, .int .i64 d.zone.lo.z, .int .i64 d.zone.hi.x, .int .i64 d.zone.hi.y, .int .i64 d.zone.hi.z, .slice d.A d.n d.c] 81)).alloc (.cells #[.string ⟨#[]⟩, .int .i64 0, .int .i64 0, .int .i64 0, .int .i64 0, .int .i64 0, .int .i64 0, .slice none 0 0] 81)) = W1 at *
 have d7 := hDB.cell 7
 have dl := hDB.lt
 simp only [ga1, ga2, ga3] at d7
 have HD := lh hDB
 have HR := lh hRB
 have HC1 := lh (HA.out.below hW1)
 clear hDB hRB
 go_upto_region 2 with (at_builtin; refine wpList_append_cells rfl (.tmp 3) (.tmp 5) _ rfl elemSt W1.heap.size (.slice (some ⟨W1.heap.size, 0, none⟩) 0 0) 0 [] rfl (own_zero W1 W1.heap.size _ _ (Nat.le_refl _)) d.A d.n d.c (d.st.flatMap stC) w.heap.size rfl (by rw [flat_len stC 2 stC_len, HN.out]) (HC1.out.alloc hW1.size _) (stC_one d.st) (by unfold maxLen; omega) (by omega) (by simp) ?_; intro v2 wE hOE hbE; have hb1E : Below W1.heap.size W1 wE := (ba_alloc (Below.refl _ _) _).trans hbE; have hDE := HD.out.via hb1E; have f7 := hDE.frozen 7; have e7 := hDE.cell 7; have dlE := hDE.lt; simp only [ga1, ga2, ga3] at e7; obtain ⟨A5, c5, hv5, _, _, hC5⟩ := own_form hOE (by unfold maxLen; omega); subst hv5)
 have c0 := hDE.cell 0
 have c1 := hDE.cell 1
 have c2 := hDE.cell 2
 have c3 := hDE.cell 3
 have c4 := hDE.cell 4
 have c5' := hDE.cell 5
 have c6 := hDE.cell 6
 simp only [ga1, ga2, ga3] at c0 c1 c2 c3 c4 c5' c6
 have hRE := HR.out.via hb1E
 have r0 := hRE.cell 0
 have r1 := hRE.cell 1
 have r2 := hRE.cell 2
 have r3 := hRE.cell 3
 have r4 := hRE.cell 4
 have r5 := hRE.cell 5
 have r6 := hRE.cell 6
 have r7 := hRE.cell 7
 have q0 := hRE.frozen 0
 have q1 := hRE.frozen 1
 have q2 := hRE.frozen 2
 have q3 := hRE.frozen 3
 have q4 := hRE.frozen 4
 have q5 := hRE.frozen 5
 have q6 := hRE.frozen 6
 have q7 := hRE.frozen 7
 have rl := hRE.lt
 simp only [ga1, ga2, ga3] at r0 r1 r2 r3 r4 r5 r6 r7
 have hwE : Below w.heap.size w wE := ba_via hb1E hW1
 have hOE' : wE.ownsRow W1.heap.size 136 2 (.slice A5 d.n c5) d.n (d.st.flatMap stC) := by simpa using hOE
 have hrl : w.heap.size + 1 < W1.heap.size := HR.out.lt
 clear hDE hRE HD HR HC1 hOE hbE d7 HA
 go_wp2

 exact bodyPost_ret (v := .agg #[.string d.name, .int .i64 d.zone.lo.x, .int .i64 d.zone.lo.y, .int .i64 d.zone.lo.z, .int .i64 d.zone.hi.x, .int .i64 d.zone.hi.y, .int .i64 d.zone.hi.z, .slice A5 d.n c5]) (by simp [results, Tryz.results65, go_sem, *]) rfl ⟨A5, c5, rfl, (own_far (show World.ownsRow _ W1.heap.size 136 2 (.slice A5 d.n c5) d.n (d.st.flatMap stC) from by (repeat (refine ownsRow_setCell_below ?_ (by simp; omega) _)); exact hOE')).mono (by omega), by (repeat (refine Below.setCell ?_ (by simp) _)); exact hwE⟩
set_option maxRecDepth 20000 in
set_option maxHeartbeats 2000000 in
theorem cloneSt_any (l : List Stp) (A : Option Addr) (n c : Nat) (w : World) (hA : Cells w w.heap.size A (l.flatMap stC)) (hn : l.length = n) (hm : n <= 1000) :
 Calls Tryz.prog 67 #[.slice A n c] w fun e w' => ∃ v, e = .returned v /\ w'.ownsRow w.heap.size 136 2 v n (l.flatMap stC) /\ Below w.heap.size w w' := by
 have q22 : ∀ (w : World) (a : Option Addr) (n c n' c' : Nat), (binOp .eql 79 (.slice a n c) (.slice none n' c')).run Tryz.prog w = .ok (.bool a.isNone) w := fun w a n c n' c' => Lib.run_eql_slice_nil w _ _ a n c n' c' Tryz.underlying79
 cases A with
 | none =>
  have hl : l.flatMap stC = [] := by
   rcases hA with h | ⟨b, o, h, _⟩
   ·exact h
   ·cases h
  have hn0 : n = 0 := by
   have := flat_len stC 2 stC_len l
   rw [hl] at this
   simp at this
   omega
  subst hn0
  rw [hl]
  go_enter Tryz.func67, Tryz.ntmps67
  go_wp2
  go_ret
  exact ⟨_, rfl, World.ownsRow_nil _ _ _ _, bel⟩
 | some ad =>
  have HA := lh hA
  have HN := lh hn
  clear hA hn
  go_enter Tryz.func67, Tryz.ntmps67
  go_wp2_with (at_builtin; refine wpList_append_cells rfl (.tmp 5) (.tmp 6) _ rfl elemSt w.heap.size (.slice (some ⟨w.heap.size, 0, none⟩) 0 0) 0 [] rfl (own_zero w w.heap.size _ _ (Nat.le_refl _)) (some ad) n c (l.flatMap stC) w.heap.size rfl (by rw [flat_len stC 2 stC_len, HN.out]) (HA.out.alloc (Nat.le_refl _) _) (stC_one l) (by unfold maxLen; omega) (by omega) (by simp) ?_; intro v2 wE hOE hbE)
  go_ret
  exact ⟨v2, rfl, by simpa using hOE, (ba_alloc (Below.refl _ _) _).trans hbE⟩
end Go.Proofs.YtmfpbafpnoomeaaGreat
