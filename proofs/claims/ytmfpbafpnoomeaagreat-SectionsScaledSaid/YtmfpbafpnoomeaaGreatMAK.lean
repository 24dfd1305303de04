/- Lemmas. -/
import Derived.Test.YtmfpbafpnoomeaaGreatMAJ
set_option linter.unusedVariables false
set_option linter.unusedSimpArgs false
namespace Go.Proofs.YtmfpbafpnoomeaaGreat
open Go.RowKit
abbrev prC (p : Prt) : List Value := [.int .i64 p.lo, .int .i64 p.hi, .int .i64 p.there, .int .i64 p.wants]
theorem prC_len (p : Prt) : (prC p).length = 4 := rfl
theorem elemPr : Elem Tryz.prog 100 104 (.agg #[.int .i64 0, .int .i64 0, .int .i64 0, .int .i64 0]) 4 32 := ⟨Tryz.underlying100, by kernel_rfl, rfl, by decide⟩
def GivesPr (L : List Prt) (w : World) (e : Ending) (w' : World) : Prop :=
 ∃ (A : Option Addr) (c : Nat), e = .returned (.tuple #[.slice A L.length c, .int .i64 0]) /\ Cells w' w'.heap.size A (L.flatMap prC) /\ Below w.heap.size w w'
theorem parts_err (x : Dt) (d er : Int) (w : World) (he : (er == 0) = false)
 (hKN : ∀ W, Below w.heap.size w W -> Calls Tryz.prog 47 #[dtV x, .int .i64 d] W fun e w' => e = .returned (.int .i64 er) /\ Below W.heap.size W w') :
 Calls Tryz.prog 42 #[dtV x, .int .i64 d] w fun e w' => e = .returned (.tuple #[.slice none 0 0, .int .i64 er]) /\ Below w.heap.size w w' := by
 have HKN := lh hKN
 have he2 : ¬ (er = 0) := by simpa using he
 clear hKN
 unfold dtV at HKN
 unfold dtV
 have hDB := Blk.new w 34 (dtc x)
 have hW1 : Below w.heap.size w (w.alloc (.cells (dtc x) 34)) := ba_alloc (Below.refl _ _) _
 go_enter Tryz.func42, Tryz.ntmps42
 go_upto_region 1 with fail
 generalize (w.alloc (.cells (dtc x) 34)) = W1 at *
 have HDB := lh hDB
 clear hDB
 go_wp2_with (first
  | ((with_reducible refine at_load 34 2 ?_); refine wpList_load_mid rfl 34 (.tmp 2) rfl _ _ rfl _ _ (HDB.out.via belr).range Tryz.underlying34 rfl (by kernel_rfl) ?_)
  | (go_at_call 47; (with_reducible refine (HKN.out _ belr).mono ?_); rintro e w2 ⟨rfl, hbw2⟩))
 go_ret2
 exact ⟨rfl, bel⟩
theorem take_snoc {α : Type} {l : List α} {k : Nat} (h : k < l.length) : l.take (k + 1) = l.take k ++ [l[k]] := by rw [List.take_add_one, List.getElem?_eq_getElem h]; rfl
set_option maxRecDepth 20000 in
set_option maxHeartbeats 8000000 in
theorem parts_yes (x : Dt) (k : Nat) (s : List Stp) (dm : Dm) (w : World) (hk : k < x.dn) (hs2 : s.length <= 200) (hst : S.steps s = true) (hwt : S.steps dm.st = true) (hdn : dm.n <= 200)
 (hdc : ∀ W, Below w.heap.size w W -> ∃ bD oD, x.dA = some ⟨bD, oD, none⟩ /\ bD < W.heap.size /\ ∀ j v, (dmC dm)[j]? = some v -> W.cell? ⟨bD, oD + k * 8 + j, none⟩ = some v)
 (hds : ∀ W, Below w.heap.size w W -> StepsAt W w.heap.size dm.A dm.n dm.st)
 (hKN : ∀ W, Below w.heap.size w W -> Calls Tryz.prog 47 #[dtV x, .int .i64 k] W fun e w' => e = .returned (.int .i64 0) /\ Below W.heap.size W w')
 (hOF : ∀ W, Below w.heap.size w W -> Calls Tryz.prog 69 #[dtV x, .int .i64 k] W (GivesSt s W)) :
 Calls Tryz.prog 42 #[dtV x, .int .i64 k] w (GivesPr (S.partsOf s dm.st) w) := by
 have HKN := lh hKN
 have HOF := lh hOF
 have HDC := lh hdc
 have HDS := lh hds
 have HST := lh hst
 have HWT := lh hwt
 have hwn : dm.st.length = dm.n := (hds w (Below.refl _ _)).len
 have hki : (k : Int) < x.dn := by omega
 clear hKN hOF hdc hds hst hwt
 unfold dtV at HKN HOF
 unfold dtV
 have hDB := Blk.new w 34 (dtc x)
 have hW1 : Below w.heap.size w (w.alloc (.cells (dtc x) 34)) := ba_alloc (Below.refl _ _) _
 go_enter Tryz.func42, Tryz.ntmps42
 go_upto_region 1 with fail
 generalize (w.alloc (.cells (dtc x) 34)) = W1 at *
 have HDB := lh hDB
 clear hDB
 go_upto_region 8 with (first
  | ((with_reducible refine at_load 34 2 ?_); refine wpList_load_mid rfl 34 (.tmp 2) rfl _ _ rfl _ _ (HDB.out.via belr).range Tryz.underlying34 rfl (by kernel_rfl) ?_)
  | (go_at_call 47; (with_reducible refine (HKN.out _ belr).mono ?_); rintro e w2 ⟨rfl, hbw2⟩)
  | (go_at_call 69; (with_reducible refine (HOF.out _ belr).mono ?_); rintro e w3 ⟨A3, c3, rfl, hO3, hbw3⟩))
 have hb13 : Below W1.heap.size W1 w3 := ba_via hbw3 hbw2
 have hw3 : Below w.heap.size w w3 := ba_via hb13 hW1
 have HD3 := lh (HDB.out.via hb13)
 have HC3 := lh (own_cells hO3 (by unfold maxLen; omega)).1
 clear hO3 hbw2 hbw3 hb13 hW1 HDB HKN HOF
 obtain ⟨n1, hn1⟩ : ∃ n1, n1 = s.length := ⟨_, rfl⟩
 have HN1 := lh hn1
 rw [<- hn1] at hs2
 rw [<- hn1]
 clear hn1
 obtain ⟨bD, oD, hdA, hbD, hdm⟩ := HDC.out w3 hw3
 have k7 := hdm 7 _ rfl
 have hDx := HD3.out
 have d9 := hDx.cell 9
 have dl := hDx.lt
 simp only [ga1, ga2, ga3] at d9
 rw [hdA] at d9
 clear hdm hDx
 have hb34 : Below w3.heap.size w3 (w3.alloc (.cells #[.slice A3 n1 c3, .slice dm.A dm.n dm.c] 79)) := ba_alloc (Below.refl _ _) _
 obtain ⟨nt, hnt⟩ : ∃ nt, nt = n1 + dm.n := ⟨_, rfl⟩
 have hco := concat_any s dm.st A3 dm.A n1 c3 dm.n dm.c w3.heap.size (w3.alloc (.cells #[.slice A3 n1 c3, .slice dm.A dm.n dm.c] 79)) HN1.out.symm hwn (by omega) (by omega) (by simp) (by simp) (by simp)
  ((HC3.out.below hb34).mono hb34.size) (((HDS.out _ (ba_via hb34 hw3)).cells).mono (ba_via hb34 hw3).size)
 rw [<- hnt] at hco
 have HCO := lh hco
 have HNT := lh hnt
 have hn4 : nt <= 400 := by omega
 clear hco hnt
 go_wp2_with (go_at_call 70; (with_reducible refine HCO.out.mono ?_); rintro e w4 ⟨A4, c4, rfl, hC4, hbw4⟩)
 have h34 : Below w3.heap.size w3 w4 := ba_via hbw4 hb34
 have hw4 : Below w.heap.size w w4 := ba_via h34 hw3
 have HD4 := lh (HD3.out.via h34)
 have HS4 := lh ((HC3.out.below h34).mono h34.size)
 have HC4 := lh hC4
 have hll : (s ++ dm.st).length = nt := by rw [List.length_append, HNT.out, hwn, HN1.out]
 have HLL := lh hll
 have HPL := lh (show ∀ t, t ∈ s ++ dm.st -> S.place t.fro = true from fun t ht => by
  rcases List.mem_append.1 ht with h | h
  ·exact steps_place HST.out h
  ·exact steps_place HWT.out h)
 clear hC4 hbw4 HCO d9 dl k7 hb34 h34 HC3 HD3 hdA hbD hll hw3
 go_loopw [9, 44] (fun v i wr => ∃ q : Nat, q <= nt /\ i = .int .i64 q /\ wr.ownsRow w4.heap.size 3 1 v q (i64s (S.froms ((s ++ dm.st).take q))) /\ Below w4.heap.size w4 wr) (fun _ i _ => nt - (intOf i).toNat)
 case atStart => exact ⟨0, Nat.zero_le _, rfl, World.ownsRow_nil _ _ _ _, Below.refl _ _⟩
 case round =>
  obtain ⟨q, hq, rfl, hO, hbr⟩ := hrel
  have HO := lh hO
  have hsr := hbr.size
  clear hO
  by_cases hlt : q < nt
  ·have hqx : q < (s ++ dm.st).length := by rw [HLL.out]; exact hlt
   have hqi : (q : Int) < nt := by omega
   have hCS := HC4.out.below hbr
   obtain ⟨b, o, hA2, hbb, hxx⟩ := hCS.at_ (by rw [flat_len stC 2 stC_len]; omega)
   clear hxx
   subst hA2
   have c0 := hCS.row0 stC_len hqx rfl
   have c1' := hCS.rowj stC_len hqx 1 rfl
   have hbl : b < wr.heap.size := by omega
   have HTK := lh (take_snoc hqx)
   have HPC := lh (fun W => (HPL.out _ (List.getElem_mem hqx)) ▸ secplace_any (s ++ dm.st)[q].fro W)
   clear hCS
   generalize (s ++ dm.st)[q] = r at *
   go_upto_region 11 with fail
   have hC11 := Blk.new wr 136 #[.int .i64 r.fro, .int .i64 r.val]
   have hb11 : Below wr.heap.size wr (wr.alloc (.cells #[.int .i64 r.fro, .int .i64 r.val] 136)) := ba_alloc (Below.refl _ _) _
   generalize (wr.alloc (.cells #[.int .i64 r.fro, .int .i64 r.val] 136)) = W11 at *
   have h11s := hb11.size
   have HO5 := lh (own_kept HO.out (fun k hk => hb11.block k (HO.out.lt k hk).2))
   have y0 := hC11.cell 0
   have yl := hC11.lt
   simp only [ga1, ga2, ga3] at y0
   have HB := lh (hbr.trans (hb11.mono hsr))
   have hsW : w4.heap.size <= W11.heap.size := by omega
   clear hC11 hb11 c0 c1' HO
   go_wp2_with (first
    | (go_at_call 48; (with_reducible refine (HPC.out _).mono ?_); rintro e w' ⟨rfl, rfl⟩)
    | (at_builtin; refine wpList_append_cells rfl (.tmp 51) (.tmp 54) _ rfl elemInt w4.heap.size u9 q (i64s (S.froms ((s ++ dm.st).take q))) rfl (own_kept HO5.out (fun k hk => (ba_alloc (Below.refl _ _) _).block k (HO5.out.lt k hk).2)) (some ⟨W11.heap.size, 0, none⟩) 1 1 [.int .i64 r.fro] _ rfl rfl (Cells.newRow W11 #[.int .i64 r.fro] 3 (0, 0)) (by simp [Value.oneCell']) (by unfold maxLen; omega) (by omega) (by simp; omega) ?_; intro v2 wE hOE hbE))
   go_roundw
   case rel => exact ⟨q + 1, by omega, by go_num, by rw [HTK.out]; simpa [S.froms] using hOE, HB.out.trans (((ba_alloc (Below.refl _ _) _).mono hsW).trans hbE)⟩
   case measure => simp [intOf]; omega
  ·have hqn : q = nt := by omega
   have hqi : ¬ ((q : Int) < nt) := by omega
   subst hqn
   have hO := HO.out
   rw [List.take_of_length_le (by rw [HLL.out]; exact Nat.le_refl _)] at hO
   have HSO := lh (sort_own (S.froms (s ++ dm.st)) u9 q w4.heap.size wr hO (by omega))
   have HOr := lh hO
   clear hO HO
   go_upto_region 15 with (go_at_call 71; (with_reducible refine HSO.out.mono ?_); rintro e w5 ⟨rfl, hO5, hX5⟩)
   have hb5 : Below w4.heap.size wr w5 := hX5.below (by omega) (fun k hk => (HOr.out.lt k (by simpa using hk)).1)
   have h5s := hX5.size
   obtain ⟨A5, c5, hu9, _, _, _⟩ := own_form hO5 (by unfold maxLen; omega)
   subst hu9
   have HCP := lh (compact_own (S.sortI (S.froms (s ++ dm.st))) A5 c5 q w4.heap.size w5 hO5 (by omega))
   have HLT5 := lh hO5.lt
   have hw5 : Below w4.heap.size w4 w5 := hbr.trans hb5
   rw [show Go.Lib.compact (S.sortI (S.froms (s ++ dm.st))) = S.spots s dm.st from rfl] at HCP
   clear hO5 hX5 HSO HOr hb5 hbr
   have hpl := spots_len s dm.st
   rw [hwn, <- HN1.out] at hpl
   go_upto_region 17 with (go_at_call 72; (with_reducible refine HCP.out.mono ?_); rintro e w6 ⟨rfl, hO6, hX6⟩)
   have hb6 : Below w4.heap.size w5 w6 := hX6.below (by omega) (fun k hk => (HLT5.out k (by simpa using hk)).1)
   have hw6 : Below w4.heap.size w4 w6 := hw5.trans hb6
   have HPC := lh (own_cells hO6 (by unfold maxLen; omega)).1
   have hWB : Below w.heap.size w w6 := ba_via hw6 hw4
   have HD6 := lh (HD4.out.via hw6)
   have HS6 := lh ((HS4.out.below hw6).mono hw6.size)
   have HSP := lh (spots_place HST.out HWT.out)
   obtain ⟨m, hm⟩ : ∃ m, m = (S.spots s dm.st).length := ⟨_, rfl⟩
   have HM := lh hm
   rw [<- hm] at hpl
   rw [<- hm]
   clear hm hO6 hX6 hb6 hw5 HLT5 HCP hw6 hw4 HD4 HS4 HC4 hsr hqi hlt hq HLL HPL h5s
   go_wp2
   go_loopw [12, 63] (fun v i wr => ∃ q : Nat, q <= m /\ i = .int .i64 q /\ wr.ownsRow w6.heap.size 104 4 v q (((S.partsOf s dm.st).take q).flatMap prC) /\ Below w6.heap.size w6 wr) (fun _ i _ => m - (intOf i).toNat)
   case atStart => exact ⟨0, Nat.zero_le _, rfl, World.ownsRow_nil _ _ _ _, Below.refl _ _⟩
   case round =>
    obtain ⟨q, hq, rfl, hO, hbr⟩ := hrel
    have HO := lh hO
    have hsr := hbr.size
    have hbwr : Below w.heap.size w wr := ba_via hbr hWB
    clear hO
    by_cases hlt : q < m
    ·have hqx : q < (S.spots s dm.st).length := by rw [<- HM.out]; exact hlt
     have hqi : (q : Int) < m := by omega
     have hqp : q < (S.partsOf s dm.st).length := by rw [partsOf_len]; exact hqx
     obtain ⟨b, o, hA5, hbb, hcc⟩ := (HPC.out.below hbr).at_ (by simp; omega)
     subst hA5
     have hck := hcc q _ (i64s_get hqx)
     have hbl : b < wr.heap.size := by omega
     obtain ⟨P, hP⟩ : ∃ P, P = (S.spots s dm.st)[q] := ⟨_, rfl⟩
     obtain ⟨E, hE⟩ : ∃ E, E = S.spotEnd (S.spots s dm.st) q := ⟨_, rfl⟩
     have HTK := lh (show (S.partsOf s dm.st).take (q + 1) = (S.partsOf s dm.st).take q ++ [⟨P, E, S.valueOf P s, S.valueOf P dm.st⟩] by
      rw [take_snoc hqp, partsOf_get hqp]
      unfold S.partAt
      rw [show (S.spots s dm.st).getD q 0 = P by rw [hP]; simp [List.getD_eq_getElem?_getD, hqx], <- hE])
     rw [<- hP] at hck
     obtain ⟨q1, hq1⟩ : ∃ q1, q1 = q + 1 := ⟨_, rfl⟩
     have e1 : IntKind.i64.wrap ((q : Int) + 1) = (q1 : Int) := by rw [show ((q : Int) + 1) = (q1 : Int) by omega]; exact IntWalk.i64_in _ (by omega)
     have HQ1 := lh hq1
     have HEND : Hid ((decide ((q1 : Int) < m) = true /\ ∃ X, wr.cell? ⟨b, o + q1, none⟩ = some (.int .i64 X) /\ IntKind.i64.wrap (X - 1) = E /\ (q1 : Int) < m) ∨ (decide ((q1 : Int) < m) = false /\ E = 1048576 /\ decide (q1 < m) = false /\ ¬ ((q1 : Int) < m))) := lh (by
      by_cases h2 : q1 < m
      ·have hx2 : q + 1 < (S.spots s dm.st).length := by rw [<- HM.out]; omega
       have hpp := HSP.out _ (List.getElem_mem hx2)
       unfold S.place at hpp
       simp only [Bool.and_eq_true, decide_eq_true_eq] at hpp
       refine .inl ⟨decide_eq_true (by omega), (S.spots s dm.st)[q + 1], by rw [hq1]; exact hcc (q + 1) _ (i64s_get hx2), ?_, by omega⟩
       rw [hE]
       unfold S.spotEnd
       rw [List.getElem?_eq_getElem hx2]
       exact IntWalk.i64_in _ (by omega)
      ·refine .inr ⟨decide_eq_false (by omega), ?_, decide_eq_false h2, by omega⟩
       rw [hE]
       unfold S.spotEnd
       rw [List.getElem?_eq_none (by rw [<- HM.out]; omega)])
     have HSA := lh (fun (W : World) (hw : Below wr.heap.size wr W) => stAt_any s P A3 n1 c3 W.heap.size W (Nat.le_refl _) ⟨HN1.out.symm, by omega, (HS6.out.below (hbr.trans (hw.mono hsr))).mono (Nat.le_trans hsr hw.size)⟩ (by omega) HST.out)
     have HSB := lh (fun (W : World) (hw : Below wr.heap.size wr W) => stAt_any dm.st P dm.A dm.n dm.c w.heap.size W (ba_via hw hbwr).size (HDS.out W (ba_via hw hbwr)) (by omega) HWT.out)
     have HDR := lh (HD6.out.via hbr)
     have HDM := lh (fun (W : World) (hw : Below wr.heap.size wr W) => HDC.out W (ba_via hw hbwr))
     clear hcc hP hE hq1
     generalize S.valueOf P s = va at *
     generalize S.valueOf P dm.st = vb at *
     rcases HEND.out with ⟨b1, X, hck2, e2, hq1m⟩ | ⟨b1, rfl, b2, hnb⟩
     all_goals (
      clear HEND
      go_upto_region 26 with (go_at_call 49; (with_reducible refine (HSA.out _ belr).mono ?_); rintro e w7 ⟨rfl, hbw7⟩)
      obtain ⟨bD, oD, hdA, hbD, hdm⟩ := HDM.out w7 hbw7
      have k7 := hdm 7 _ rfl
      have hDx := HDR.out.via hbw7
      have d9 := hDx.cell 9
      have dl := hDx.lt
      simp only [ga1, ga2, ga3] at d9
      rw [hdA] at d9
      clear hdm hDx
      have h7s := hbw7.size
      go_upto_region 29 with (go_at_call 49; (with_reducible refine (HSB.out _ (ba_via belr hbw7)).mono ?_); rintro e w8 ⟨rfl, hbw8⟩)
      have hb8 : Below wr.heap.size wr w8 := ba_via hbw8 hbw7
      have h8s := hb8.size
      have HO8 := lh (own_kept HO.out (fun k hk => hb8.block k (HO.out.lt k hk).2))
      have HB8 := lh (hbr.trans (hb8.mono hsr))
      clear d9 dl k7 hbw7 hbw8
      go_wp2_with (at_builtin; refine wpList_append_cells rfl (.tmp 102) (.tmp 109) _ rfl elemPr w6.heap.size u12 q (((S.partsOf s dm.st).take q).flatMap prC) rfl (own_kept HO8.out (fun k hk => (ba_alloc (Below.refl _ _) _).block k (HO8.out.lt k hk).2)) (some ⟨w8.heap.size, 0, none⟩) 1 1 [.int .i64 P, .int .i64 _, .int .i64 va, .int .i64 vb] _ rfl rfl (Cells.newRow w8 #[.int .i64 P, .int .i64 _, .int .i64 va, .int .i64 vb] 104 (0, 0)) (by simp [Value.oneCell']) (by unfold maxLen; omega) (by omega) (by simp; omega) ?_; intro v2 wE hOE hbE)
      go_roundw
      case rel => exact ⟨q1, by have := HQ1.out; omega, rfl, by rw [HQ1.out, HTK.out]; simpa using hOE, HB8.out.trans (((ba_alloc (Below.refl _ _) _).mono (by omega)).trans hbE)⟩
      case measure => have := HQ1.out; simp [intOf]; omega)
    ·have hqm : q = m := by omega
     have hqi : ¬ ((q : Int) < m) := by omega
     subst hqm
     have hO := HO.out
     rw [List.take_of_length_le (by rw [partsOf_len, <- HM.out]; exact Nat.le_refl _)] at hO
     obtain ⟨A9, c9, hu12, _, _, hC9⟩ := own_form hO (by unfold maxLen; omega)
     subst hu12
     have HL9 := lh (show q = (S.partsOf s dm.st).length by rw [partsOf_len, <- HM.out])
     clear hO HO
     go_wp2
     go_ret2
     refine ⟨A9, c9, ?_, hC9, hbwr⟩
     rw [<- HL9.out]
     rfl
abbrev snC (s : Sp) : List Value := [.int .i64 s.lo, .int .i64 s.hi]
theorem snC_len (s : Sp) : (snC s).length = 2 := rfl
theorem elemSpn : Elem Tryz.prog 40 49 (.agg #[.int .i64 0, .int .i64 0]) 2 16 := ⟨Tryz.underlying40, by kernel_rfl, rfl, by decide⟩
def GivesSpn (L : List Sp) (w : World) (e : Ending) (w' : World) : Prop :=
 ∃ (A : Option Addr) (c : Nat), e = .returned (.tuple #[.slice A L.length c, .int .i64 0]) /\ Cells w' w'.heap.size A (L.flatMap snC) /\ Below w.heap.size w w'
theorem flat_last (init : List Sp) (q : Sp) (v : Int) : ((init ++ [q]).flatMap snC).set (init.length * 2 + 1) (.int .i64 v) = (init ++ [(⟨q.lo, v⟩ : Sp)]).flatMap snC := by
 have hl : (init.flatMap snC).length = init.length * 2 := flat_len snC 2 snC_len init
 rw [List.flatMap_append, List.flatMap_append, List.set_append_right _ _ (by omega), hl, show init.length * 2 + 1 - init.length * 2 = 1 by omega]
 rfl
set_option maxRecDepth 20000 in
set_option maxHeartbeats 8000000 in
theorem spans_yes (x : Dt) (d : Int) (L : List Prt) (w : World) (hL : L.length <= 400) (hpl : ∀ i (h : i < L.length), -1048576 <= L[i].lo /\ L[i].hi <= 1048576) (hsb : ∀ k, ∀ t, t ∈ S.spansL (L.take k) -> -1048576 <= t.hi /\ t.hi <= 1048576)
 (hPA : ∀ W, Below w.heap.size w W -> Calls Tryz.prog 42 #[dtV x, .int .i64 d] W (GivesPr L W)) :
 Calls Tryz.prog 13 #[dtV x, .int .i64 d] w (GivesSpn (S.spansL L) w) := by
 have HPA := lh hPA
 have HSB := lh hsb
 have HPL := lh hpl
 clear hPA hsb hpl
 unfold dtV at HPA
 unfold dtV
 have hDB := Blk.new w 34 (dtc x)
 have hW1 : Below w.heap.size w (w.alloc (.cells (dtc x) 34)) := ba_alloc (Below.refl _ _) _
 go_enter Tryz.func13, Tryz.ntmps13
 go_upto_region 1 with fail
 generalize (w.alloc (.cells (dtc x) 34)) = W1 at *
 have HDB := lh hDB
 clear hDB
 go_upto_region 4 with (first
  | ((with_reducible refine at_load 34 2 ?_); refine wpList_load_mid rfl 34 (.tmp 2) rfl _ _ rfl _ _ (HDB.out.via belr).range Tryz.underlying34 rfl (by kernel_rfl) ?_)
  | (go_at_call 42; (with_reducible refine (HPA.out _ belr).mono ?_); rintro e w2 ⟨A2, c2, rfl, hC2, hbw2⟩))
 have hw2 : Below w.heap.size w w2 := ba_via hbw2 hW1
 have HC2 := lh hC2
 clear hC2 hbw2 hW1 HDB HPA
 obtain ⟨n, hn⟩ : ∃ n, n = L.length := ⟨_, rfl⟩
 have HN := lh hn
 rw [<- hn] at hL
 rw [<- hn]
 clear hn
 go_wp2
 go_loopw [8, 23] (fun v i wr => ∃ q : Nat, q <= n /\ i = .int .i64 q /\ ∃ out : List Sp, Hid (out = S.spansL (L.take q)) /\ wr.ownsRow w2.heap.size 49 2 v out.length (out.flatMap snC) /\ Below w2.heap.size w2 wr) (fun _ i _ => n - (intOf i).toNat)
 case atStart => exact ⟨0, Nat.zero_le _, rfl, [], lh rfl, World.ownsRow_nil _ _ _ _, Below.refl _ _⟩
 case round =>
  obtain ⟨q, hq, rfl, out, hout, hO, hbr⟩ := hrel
  have hol : out.length <= 400 := by
   have h1 := spansL_len (L.take q)
   rw [<- hout.out, List.length_take] at h1
   omega
  obtain ⟨lz, hlo⟩ : ∃ lz, lz = out.length := ⟨_, rfl⟩
  have HLO := lh hlo
  rw [<- hlo] at hO hol
  clear hlo
  obtain ⟨A8, c8, hu8, _, _, hxx⟩ := own_form hO (by unfold maxLen; omega)
  clear hxx
  subst hu8
  have HO := lh hO
  clear hO
  have hsr := hbr.size
  have hbwr : Below w.heap.size w wr := ba_via hbr hw2
  by_cases hlt : q < n
  ·have hqx : q < L.length := by rw [<- HN.out]; exact hlt
   have hqi : (q : Int) < n := by omega
   have HNX := lh (spansL_next hqx)
   rw [<- hout.out] at HNX
   obtain ⟨hp1, hp2⟩ := HPL.out q hqx
   have hCS := HC2.out.below hbr
   obtain ⟨b, o, hA2, hbb, hxx⟩ := hCS.at_ (by rw [flat_len prC 4 prC_len]; omega)
   clear hxx
   subst hA2
   have c0 := hCS.row0 prC_len hqx rfl
   have c1' := hCS.rowj prC_len hqx 1 rfl
   have c2' := hCS.rowj prC_len hqx 2 rfl
   have c3' := hCS.rowj prC_len hqx 3 rfl
   have hbl : b < wr.heap.size := by omega
   clear hCS
   generalize L[q] = p at *
   go_upto_region 8 with fail
   have hC10 := Blk.new wr 104 #[.int .i64 p.lo, .int .i64 p.hi, .int .i64 p.there, .int .i64 p.wants]
   have hb10 : Below wr.heap.size wr (wr.alloc (.cells #[.int .i64 p.lo, .int .i64 p.hi, .int .i64 p.there, .int .i64 p.wants] 104)) := ba_alloc (Below.refl _ _) _
   generalize (wr.alloc (.cells #[.int .i64 p.lo, .int .i64 p.hi, .int .i64 p.there, .int .i64 p.wants] 104)) = W10 at *
   have HP := lh hC10
   have HB := lh (hbr.trans (hb10.mono hsr))
   have HO5 := lh (own_kept HO.out (fun k hk => hb10.block k (HO.out.lt k hk).2))
   have h10s := hb10.size
   have hsW : w2.heap.size <= W10.heap.size := by omega
   have p0 := hC10.cell 0
   have p1 := hC10.cell 1
   have p2 := hC10.cell 2
   have p3 := hC10.cell 3
   have pl := hC10.lt
   simp only [ga1, ga2, ga3] at p0 p1 p2 p3
   generalize wr.heap.size = g10 at *
   clear c0 c1' c2' c3' hC10 hb10 HO hbr
   by_cases hw : p.wants <= p.there
   ·have bw : decide (p.wants <= p.there) = true := decide_eq_true hw
    have HNE := lh (show out = S.spansL (L.take (q + 1)) by rw [HNX.out]; unfold S.spanNext; rw [if_pos hw])
    clear hw
    go_wp2
    go_roundw
    case rel => exact ⟨q + 1, by omega, by go_num, out, HNE, by rw [<- HLO.out]; exact HO5.out, HB.out⟩
    case measure => simp [intOf]; omega
   ·have bw : decide (p.wants <= p.there) = false := decide_eq_false hw
    rcases List.eq_nil_or_concat out with hnil | ⟨init, q0, hcon⟩
    ·subst hnil
     obtain rfl : lz = 0 := HLO.out
     have b0 : decide ((0 : Int) < ((0 : Nat) : Int)) = false := rfl
     have HNE := lh (show [⟨p.lo, p.hi⟩] = S.spansL (L.take (q + 1)) by rw [HNX.out]; unfold S.spanNext; rw [if_neg hw]; rfl)
     clear hw
     go_upto_region 11 with fail
     go_cut [40] from 41 to 55 (fun s wx => s = .bool false /\ Below W10.heap.size W10 wx)
     case first =>
      go_quiet (fail)
      go_wp2
      go_meet
      exact ⟨rfl, ba_drewN (Below.refl _ _) _⟩
     case rest =>
      obtain ⟨rfl, hbc⟩ := hcut
      generalize wc = W11 at *
      have HP11 := HP.out.via hbc
      have p0 := HP11.cell 0
      have p1 := HP11.cell 1
      have pl := HP11.lt
      simp only [ga1, ga2, ga3] at p0 p1
      have h11s := hbc.size
      have HO6 := lh (own_kept HO5.out (fun k hk => hbc.block k (HO5.out.lt k hk).2))
      have HB6 := lh (HB.out.trans (hbc.mono hsW))
      clear HP11
      go_wp2_with (at_builtin; refine wpList_append_cells rfl (.tmp 29) (.tmp 32) _ rfl elemSpn w2.heap.size _ 0 [] rfl (own_kept HO6.out (fun k hk => (ba_alloc (Below.refl _ _) _).block k (HO6.out.lt k hk).2)) (some ⟨W11.heap.size, 0, none⟩) 1 1 [.int .i64 p.lo, .int .i64 p.hi] _ rfl rfl (Cells.newRow W11 #[.int .i64 p.lo, .int .i64 p.hi] 49 (0, 0)) (by simp [Value.oneCell']) (by unfold maxLen; omega) (by omega) (by simp; omega) ?_; intro v2 wE hOE hbE)
      go_roundw
      case rel => exact ⟨q + 1, by omega, by go_num, [⟨p.lo, p.hi⟩], HNE, hOE, HB6.out.trans (((ba_alloc (Below.refl _ _) _).mono (by omega)).trans hbE)⟩
      case measure => simp [intOf]; omega
    ·rw [List.concat_eq_append] at hcon
     subst hcon
     obtain ⟨z, hz⟩ : ∃ z, z = init.length := ⟨_, rfl⟩
     have hln : (init ++ [q0]).length = lz := HLO.out.symm
     have hlz : lz = z + 1 := by rw [<- hln, hz]; simp
     have hO5 := HO5.out
     rcases hO5.2 with ⟨_, h0⟩ | ⟨g, cap, cur, hv, hbg, hg, hxx⟩
     ·omega
     clear hxx
     injection hv with hA _ hc
     subst hc
     obtain ⟨o8, ho0⟩ : ∃ o8, o8 = 0 := ⟨_, rfl⟩
     have hA' : A8 = some ⟨g, o8, none⟩ := by rw [ho0]; exact hA
     have hO6 := hO5
     rw [hA] at hO6
     clear hA hO5
     subst hA'
     have hq0 := HSB.out q q0 (by rw [<- hout.out]; simp)
     have kh : W10.cell? ⟨g, o8 + z * 2 + 1, none⟩ = some (.int .i64 q0.hi) := by
      rw [ho0, Nat.zero_add, hO6.cellAt (z * 2 + 1) (by omega)]
      have h1 := flat_get snC 2 snC_len (init ++ [q0]) z (by rw [hln]; omega) 1 (by omega)
      rw [h1]
      simp [hz]
     have gl : g < W10.heap.size := (Array.getElem?_eq_some_iff.1 hg).1
     have b0 : decide ((0 : Int) < (lz : Int)) = true := decide_eq_true (by omega)
     have b0n : decide (0 < lz) = true := decide_eq_true (by omega)
     have e1 : IntKind.i64.wrap ((lz : Int) - 1) = (z : Int) := by rw [show ((lz : Int) - 1) = (z : Int) by omega]; exact IntWalk.i64_in _ (by omega)
     have hzl : (z : Int) < lz := by omega
     have e2 : IntKind.i64.wrap (q0.hi + 1) = q0.hi + 1 := IntWalk.i64_in _ (by omega)
     have HO7 := lh hO6
     have HZ := lh hz
     have HLZ := lh hlz
     have HO0 := lh ho0
     clear hO6 hz hlz ho0 hg hq0 HO5
     by_cases heq : q0.hi + 1 = p.lo
     ·have bq : ((q0.hi + 1) == p.lo) = true := by simp [heq]
      have HNE := lh (show init ++ [⟨q0.lo, p.hi⟩] = S.spansL (L.take (q + 1)) by rw [HNX.out]; unfold S.spanNext; rw [if_neg hw]; simp [heq])
      clear hw heq
      go_upto_region 11 with fail
      go_cut [40] from 41 to 55 (fun s wx => s = .bool true /\ Below W10.heap.size W10 wx)
      case first =>
       go_quiet (fail)
       go_wp2
       go_meet
       exact ⟨rfl, ba_drewN (Below.refl _ _) _⟩
      case rest =>
       obtain ⟨rfl, hbc⟩ := hcut
       generalize wc = W11 at *
       have HP11 := HP.out.via hbc
       have p1 := HP11.cell 1
       have pl := HP11.lt
       simp only [ga1, ga2, ga3] at p1
       have HO8 := lh (own_kept HO7.out (fun k hk => hbc.block k (HO7.out.lt k hk).2))
       have HB6 := lh (HB.out.trans (hbc.mono hsW))
       have kh2 := (hbc.cell (p := ⟨g, o8 + z * 2 + 1, none⟩) gl).trans kh
       have fh : W11.frozen? ⟨g, o8 + z * 2 + 1, none⟩ = false := by rw [HO0.out, Nat.zero_add]; exact HO8.out.frozenAt _
       have gl2 : g < W11.heap.size := Nat.lt_of_lt_of_le gl hbc.size
       clear HP11 kh
       go_wp2
       go_roundw
       case rel =>
        refine ⟨q + 1, by omega, by go_num, init ++ [⟨q0.lo, p.hi⟩], HNE, ?_, HB6.out.setCell hbg _⟩
        have h := (HO8.out.stored (z * 2 + 1) (.int .i64 p.hi)).1
        rw [HZ.out, flat_last] at h
        rw [HO0.out, Nat.zero_add, HZ.out]
        rw [HLZ.out, HZ.out] at h ⊢
        simpa using h
       case measure => simp [intOf]; omega
     ·have bq : ((q0.hi + 1) == p.lo) = false := by simp [heq]
      have HNE := lh (show (init ++ [q0]) ++ [⟨p.lo, p.hi⟩] = S.spansL (L.take (q + 1)) by rw [HNX.out]; unfold S.spanNext; rw [if_neg hw]; simp [heq])
      clear hw heq
      go_upto_region 11 with fail
      go_cut [40] from 41 to 55 (fun s wx => s = .bool false /\ Below W10.heap.size W10 wx)
      case first =>
       go_quiet (fail)
       go_wp2
       go_meet
       exact ⟨rfl, ba_drewN (Below.refl _ _) _⟩
      case rest =>
       obtain ⟨rfl, hbc⟩ := hcut
       generalize wc = W11 at *
       have HP11 := HP.out.via hbc
       have p0 := HP11.cell 0
       have p1 := HP11.cell 1
       have pl := HP11.lt
       simp only [ga1, ga2, ga3] at p0 p1
       have h11s := hbc.size
       have HO8 := lh (own_kept HO7.out (fun k hk => hbc.block k (HO7.out.lt k hk).2))
       have HB6 := lh (HB.out.trans (hbc.mono hsW))
       clear HP11 kh
       go_wp2_with (at_builtin; refine wpList_append_cells rfl (.tmp 29) (.tmp 32) _ rfl elemSpn w2.heap.size _ lz ((init ++ [q0]).flatMap snC) rfl (by rw [HO0.out]; exact own_kept HO8.out (fun k hk => (ba_alloc (Below.refl _ _) _).block k (HO8.out.lt k hk).2)) (some ⟨W11.heap.size, 0, none⟩) 1 1 [.int .i64 p.lo, .int .i64 p.hi] _ rfl rfl (Cells.newRow W11 #[.int .i64 p.lo, .int .i64 p.hi] 49 (0, 0)) (by simp [Value.oneCell']) (by unfold maxLen; omega) (by omega) (by simp; omega) ?_; intro v2 wE hOE hbE)
       go_roundw
       case rel =>
        refine ⟨q + 1, by omega, by go_num, (init ++ [q0]) ++ [⟨p.lo, p.hi⟩], HNE, ?_, HB6.out.trans (((ba_alloc (Below.refl _ _) _).mono (by omega)).trans hbE)⟩
        have e3 : (init ++ [q0] ++ [(⟨p.lo, p.hi⟩ : Sp)]).length = lz + 1 := by rw [List.length_append, hln]; rfl
        rw [e3]
        simpa using hOE
       case measure => simp [intOf]; omega
  ·have hqn : q = n := by omega
   have hqi : ¬ ((q : Int) < n) := by omega
   have HE := lh (show out = S.spansL L by rw [hout.out, List.take_of_length_le (by rw [hqn, HN.out]; exact Nat.le_refl _)])
   have hC5 := (own_cells HO.out (by unfold maxLen; omega)).1
   have HLE := lh (show lz = (S.spansL L).length by rw [HLO.out, HE.out])
   clear HO
   subst hqn
   go_wp2
   go_ret2
   rw [HE.out] at hC5
   refine ⟨A8, c8, ?_, hC5, hbwr⟩
   rw [<- HLE.out]
   rfl
end Go.Proofs.YtmfpbafpnoomeaaGreat
