/- Lemmas. -/
import Derived.Test.YtmfpbafpnoomeaaGreatMAS
set_option linter.unusedVariables false
set_option linter.unusedSimpArgs false
namespace Go.Proofs.YtmfpbafpnoomeaaGreat
open Go.RowKit
def S.spareOf (L : List Prt) : Int × Int × Int := match S.spareL L with | none => (0, 0, 12) | some q => (q.there - q.wants, q.lo, 0)
set_option maxRecDepth 20000 in
set_option maxHeartbeats 8000000 in
theorem spare_yes (x : Dt) (d : Int) (L : List Prt) (w : World) (hL : L.length <= 400) (hbd : ∀ i (h : i < L.length), 0 <= L[i].there /\ L[i].there <= 1099511627776 /\ 0 <= L[i].wants /\ L[i].wants <= 1099511627776)
 (hPA : ∀ W, Below w.heap.size w W -> Calls Tryz.prog 42 #[dtV x, .int .i64 d] W (GivesPr L W)) :
 Calls Tryz.prog 17 #[dtV x, .int .i64 d] w fun e w' => e = .returned (.tuple #[.int .i64 (S.spareOf L).1, .int .i64 (S.spareOf L).2.1, .int .i64 (S.spareOf L).2.2]) /\ Below w.heap.size w w' := by
 have HPA := lh hPA
 have HBD := lh hbd
 clear hPA hbd
 unfold dtV at HPA
 unfold dtV
 have hDB := Blk.new w 34 (dtc x)
 have hW1 : Below w.heap.size w (w.alloc (.cells (dtc x) 34)) := ba_alloc (Below.refl _ _) _
 go_enter Tryz.func17, Tryz.ntmps17
 go_upto_region 1 with fail
 generalize (w.alloc (.cells (dtc x) 34)) = W1 at *
 have HDB := lh hDB
 clear hDB
 go_upto_region 4 with (first
  | ((with_reducible refine at_load 34 2 ?_); refine wpList_load_mid rfl 34 (.tmp 2) rfl _ _ rfl _ _ (HDB.out.via belr).range Tryz.underlying34 rfl (by kernel_rfl) ?_)
  | (go_at_call 42; (with_reducible refine (HPA.out _ belr).mono ?_); rintro e w2 ⟨A2, c2, rfl, hC2, hbw2⟩))
 have hw2 : Below w.heap.size w w2 := ba_via hbw2 hW1
 have HC2 := lh hC2
 clear hC2 hbw2 hW1 HDB HPA
 obtain ⟨n, hn⟩ : ∃ n, n = L.length := ⟨_, rfl⟩
 have HN := lh hn
 rw [<- hn] at hL
 rw [<- hn]
 clear hn
 go_wp2
 go_loopw [9, 23] (fun v i wr => ∃ q : Nat, q <= n /\ i = .int .i64 q /\ ∃ bs : Int, v = .int .i64 bs /\ Hid ((bs = -1 /\ S.spareL (L.take q) = none) ∨ ∃ j, ∃ hj : j < L.length, bs = (j : Int) /\ S.spareL (L.take q) = some L[j]) /\ Below w2.heap.size w2 wr) (fun _ i _ => n - (intOf i).toNat)
 case atStart => exact ⟨0, Nat.zero_le _, rfl, -1, rfl, lh (.inl ⟨rfl, rfl⟩), Below.refl _ _⟩
 case round =>
  obtain ⟨q, hq, rfl, bs, rfl, hbs, hbr⟩ := hrel
  have hsr := hbr.size
  have hbwr : Below w.heap.size w wr := ba_via hbr hw2
  by_cases hlt : q < n
  ·have hqx : q < L.length := by rw [<- HN.out]; exact hlt
   have hqi : (q : Int) < n := by omega
   have HNX := lh (spareL_next hqx)
   obtain ⟨t0, t1, t2, t3⟩ := HBD.out q hqx
   have hCS := HC2.out.below hbr
   obtain ⟨b, o, hA2, hbb, hxx⟩ := hCS.at_ (by rw [flat_len prC 4 prC_len]; omega)
   clear hxx
   subst hA2
   have c0 := hCS.row0 prC_len hqx rfl
   have c1' := hCS.rowj prC_len hqx 1 rfl
   have c2' := hCS.rowj prC_len hqx 2 rfl
   have c3' := hCS.rowj prC_len hqx 3 rfl
   have hbl : b < wr.heap.size := by omega
   have HCS := lh hCS
   have HLQ := lh (show ∃ hj : q < L.length, L[q] = L[q] from ⟨hqx, rfl⟩)
   clear hCS
   obtain ⟨p, hp⟩ : ∃ p, p = L[q] := ⟨_, rfl⟩
   have HP := lh hp
   rw [<- hp] at c0 c1' c2' c3' t0 t1 t2 t3 HNX
   clear hp
   go_upto_region 8 with fail
   have hC11 := Blk.new wr 104 #[.int .i64 p.lo, .int .i64 p.hi, .int .i64 p.there, .int .i64 p.wants]
   have hb11 : Below wr.heap.size wr (wr.alloc (.cells #[.int .i64 p.lo, .int .i64 p.hi, .int .i64 p.there, .int .i64 p.wants] 104)) := ba_alloc (Below.refl _ _) _
   generalize (wr.alloc (.cells #[.int .i64 p.lo, .int .i64 p.hi, .int .i64 p.there, .int .i64 p.wants] 104)) = W11 at *
   have p2 := hC11.cell 2
   have p3 := hC11.cell 3
   have pl := hC11.lt
   simp only [ga1, ga2, ga3] at p2 p3
   have hbl2 : b < W11.heap.size := Nat.lt_of_lt_of_le hbl hb11.size
   have HCW := lh (HCS.out.below (hb11.mono hsr))
   have HB := lh (hbr.trans (hb11.mono hsr))
   have hsW : w2.heap.size <= W11.heap.size := Nat.le_trans hsr hb11.size
   generalize wr.heap.size = g11 at *
   clear c0 c1' c2' c3' hC11 hb11 hbr HCS
   have e1 : IntKind.i64.wrap (p.there - p.wants) = p.there - p.wants := IntWalk.i64_in _ (by omega)
   obtain ⟨cb, hcb⟩ : ∃ cb : Bool, Hid ((cb = true /\ S.spareL (L.take (q + 1)) = some p) ∨ (cb = false /\ S.spareL (L.take (q + 1)) = S.spareL (L.take q))) /\ Hid ((cb = false /\ decide (0 < p.wants) = false) ∨ (decide (0 < p.wants) = true /\ cb = true /\ bs = -1) ∨ (decide (0 < p.wants) = true /\ ∃ j, ∃ hj : j < L.length, bs = (j : Int) /\ cb = decide (p.there - p.wants < L[j].there - L[j].wants))) := by
    by_cases hw : 0 < p.wants
    ·rcases hbs.out with ⟨h1, h2⟩ | ⟨j, hj, h1, h2⟩
     ·exact ⟨true, lh (.inl ⟨rfl, by rw [HNX.out, h2]; unfold S.spareNext; rw [if_pos hw]⟩), lh (.inr (.inl ⟨decide_eq_true hw, rfl, h1⟩))⟩
     ·refine ⟨decide (p.there - p.wants < L[j].there - L[j].wants), lh ?_, lh (.inr (.inr ⟨decide_eq_true hw, j, hj, h1, rfl⟩))⟩
      rw [HNX.out, h2]
      unfold S.spareNext
      rw [if_pos hw]
      show _ ∨ _ /\ (if p.spare < L[j].spare then some p else some L[j]) = some L[j]
      by_cases hs : p.spare < L[j].spare
      ·left
       exact ⟨decide_eq_true hs, if_pos hs⟩
      ·right
       exact ⟨decide_eq_false hs, if_neg hs⟩
    ·exact ⟨false, lh (.inr ⟨rfl, by rw [HNX.out]; unfold S.spareNext; rw [if_neg hw]⟩), lh (.inl ⟨rfl, decide_eq_false hw⟩)⟩
   obtain ⟨HC1, HC2'⟩ := hcb
   go_cut [53] from 28 to 53 (fun s wx => s = .bool cb /\ Below W11.heap.size W11 wx)
   case first =>
    rcases HC2'.out with ⟨rfl, hb1⟩ | ⟨hb1, rfl, rfl⟩ | ⟨hb1, j, hj, rfl, hcbe⟩
    ·go_quiet (fail)
     go_wp2
     go_meet
     exact ⟨rfl, ba_drewN (Below.refl _ _) _⟩
    ·go_quiet (fail)
     go_wp2
     go_meet
     exact ⟨rfl, ba_drewN (Below.refl _ _) _⟩
    ·have k2 := HCW.out.rowj prC_len hj 2 rfl
     have k3 := HCW.out.rowj prC_len hj 3 rfl
     obtain ⟨u0, u1, u2, u3⟩ := HBD.out j hj
     have hji : (j : Int) < n := by rw [HN.out]; omega
     have hjn : ¬ ((j : Int) < 0) := by omega
     have hjb : decide ((j : Int) < 0) = false := decide_eq_false hjn
     have HCE := lh hcbe
     clear hcbe
     generalize L[j] = r at *
     have e2 : IntKind.i64.wrap (r.there - r.wants) = r.there - r.wants := IntWalk.i64_in _ (by omega)
     go_quiet (fail)
     go_wp2
     go_meet
     exact ⟨by rw [HCE.out], ba_drewN (Below.refl _ _) _⟩
   case rest =>
    obtain ⟨rfl, hbc⟩ := hcut
    have hbE : Below w2.heap.size w2 wc := HB.out.trans (hbc.mono hsW)
    clear HC2' p2 p3 pl
    cases cb
    ·have HR := lh (show (bs = -1 /\ S.spareL (L.take (q + 1)) = none) ∨ ∃ j, ∃ hj : j < L.length, bs = (j : Int) /\ S.spareL (L.take (q + 1)) = some L[j] by
      rcases HC1.out with ⟨h1, _⟩ | ⟨_, h2⟩
      ·cases h1
      ·rw [h2]; exact hbs.out)
     go_wp2
     go_roundw
     case rel => exact ⟨q + 1, by omega, by go_num, bs, rfl, HR, hbE⟩
     case measure => simp [intOf]; omega
    ·have HR := lh (show ((q : Int) = -1 /\ S.spareL (L.take (q + 1)) = none) ∨ ∃ j, ∃ hj : j < L.length, (q : Int) = (j : Int) /\ S.spareL (L.take (q + 1)) = some L[j] by
      rcases HC1.out with ⟨_, h2⟩ | ⟨h1, _⟩
      ·exact .inr ⟨q, hqx, rfl, by rw [h2, HP.out]⟩
      ·cases h1)
     go_wp2
     go_roundw
     case rel => exact ⟨q + 1, by omega, by go_num, q, rfl, HR, hbE⟩
     case measure => simp [intOf]; omega
  ·have hqn : q = n := by omega
   have hqi : ¬ ((q : Int) < n) := by omega
   have hT : L.take q = L := List.take_of_length_le (by rw [hqn, HN.out]; exact Nat.le_refl _)
   have hbs2 := hbs.out
   rw [hT] at hbs2
   rcases hbs2 with ⟨rfl, h2⟩ | ⟨j, hj, rfl, h2⟩
   ·have HE := lh (show S.spareOf L = (0, 0, 12) by unfold S.spareOf; rw [h2])
    clear hT h2
    subst hqn
    go_wp2
    go_ret3
    exact ⟨by rw [HE.out]; rfl, hbwr⟩
   ·have HE := lh (show S.spareOf L = (L[j].there - L[j].wants, L[j].lo, 0) by unfold S.spareOf; rw [h2])
    have hCS := HC2.out.below hbr
    obtain ⟨b, o, hA2, hbb, hxx⟩ := hCS.at_ (by rw [flat_len prC 4 prC_len]; omega)
    clear hxx
    subst hA2
    have k0 := hCS.row0 prC_len hj rfl
    have k2 := hCS.rowj prC_len hj 2 rfl
    have k3 := hCS.rowj prC_len hj 3 rfl
    obtain ⟨u0, u1, u2, u3⟩ := HBD.out j hj
    have hji : (j : Int) < n := by rw [HN.out]; omega
    have hjn : ¬ ((j : Int) < 0) := by omega
    have hbl : b < wr.heap.size := by omega
    clear hT h2 hCS
    generalize L[j] = r at *
    have e2 : IntKind.i64.wrap (r.there - r.wants) = r.there - r.wants := IntWalk.i64_in _ (by omega)
    subst hqn
    go_upto_region 13 with fail
    go_quiet (fail)
    go_wp2
    go_ret3
    exact ⟨by rw [HE.out]; rfl, ba_drewN hbwr _⟩
abbrev fnC (s : ByteArray) : List Value := [.int .i64 1, .string s]
theorem fnC_len (s : ByteArray) : (fnC s).length = 2 := rfl
theorem elemFn : Elem Tryz.prog 62 71 (.agg #[.int .i64 0, .string ⟨#[]⟩]) 2 24 := ⟨Tryz.underlying62, by kernel_rfl, rfl, by decide⟩
def S.failN (ds : List Dm) (Ls : Nat -> List Sp) : Nat -> List ByteArray
 | 0 => []
 | q + 1 => S.failN ds Ls q ++ (match Ls q, ds[q]? with | _ :: _, some d => [d.name] | _, _ => [])
theorem failN_len (ds : List Dm) (Ls : Nat -> List Sp) : ∀ q, (S.failN ds Ls q).length <= q := by
 intro q
 induction q with
 | zero => exact Nat.le_refl _
 | succ q ih =>
  show (S.failN ds Ls q ++ _).length <= q + 1
  rw [List.length_append]
  split <;> simp <;> omega
def GivesFn (L : List ByteArray) (w : World) (e : Ending) (w' : World) : Prop :=
 ∃ (A : Option Addr) (c : Nat), e = .returned (.tuple #[.slice A L.length c, .int .i64 0]) /\ Cells w' w'.heap.size A (L.flatMap fnC) /\ Below w.heap.size w w'
set_option maxRecDepth 20000 in
set_option maxHeartbeats 8000000 in
theorem check_yes (x : Dt) (ds : List Dm) (Ls : Nat -> List Sp) (w : World) (hds : ds.length = x.dn) (h20 : x.dn <= 20) (hLs : ∀ k, (Ls k).length <= 400)
 (hdc : ∀ k (dm : Dm), ds[k]? = some dm -> ∀ W, Below w.heap.size w W -> ∃ bD oD, x.dA = some ⟨bD, oD, none⟩ /\ bD < W.heap.size /\ ∀ j v, (dmC dm)[j]? = some v -> W.cell? ⟨bD, oD + k * 8 + j, none⟩ = some v)
 (hLV : ∀ W, Below w.heap.size w W -> Calls Tryz.prog 53 #[dtV x] W fun e w' => e = .returned (.bool true) /\ Below W.heap.size W w')
 (hSP : ∀ k, k < x.dn -> ∀ W, Below w.heap.size w W -> Calls Tryz.prog 13 #[dtV x, .int .i64 k] W (GivesSpn (Ls k) W)) :
 Calls Tryz.prog 21 #[dtV x] w (GivesFn (S.failN ds Ls x.dn) w) := by
 have HLV := lh hLV
 have HSP := lh hSP
 have HDC := lh hdc
 have HLS := lh hLs
 have HDS := lh hds
 clear hLV hSP hdc hLs hds
 unfold dtV at HLV HSP
 unfold dtV
 have hDB := Blk.new w 34 #[.string x.m.name, .slice x.mA x.mn x.mc, .slice x.hA x.hn x.hc, .int .i64 x.m.cover, .int .i64 x.m.aggr, .int .i64 x.m.poker, .slice x.bA x.bn x.bc, .slice x.rA x.rn x.rc, .slice x.jA x.jn x.jc, .slice x.dA x.dn x.dc, .int .i64 x.rule.num, .int .i64 x.rule.den, .int .i64 x.rule.pnum, .int .i64 x.rule.pden, .int .i64 x.rule.bnum, .int .i64 x.rule.bden, .int .i64 x.rule.lnum, .int .i64 x.rule.lden, .int .i64 x.rule.least]
 have hW1 : Below w.heap.size w (w.alloc (.cells #[.string x.m.name, .slice x.mA x.mn x.mc, .slice x.hA x.hn x.hc, .int .i64 x.m.cover, .int .i64 x.m.aggr, .int .i64 x.m.poker, .slice x.bA x.bn x.bc, .slice x.rA x.rn x.rc, .slice x.jA x.jn x.jc, .slice x.dA x.dn x.dc, .int .i64 x.rule.num, .int .i64 x.rule.den, .int .i64 x.rule.pnum, .int .i64 x.rule.pden, .int .i64 x.rule.bnum, .int .i64 x.rule.bden, .int .i64 x.rule.lnum, .int .i64 x.rule.lden, .int .i64 x.rule.least] 34)) := ba_alloc (Below.refl _ _) _
 go_enter Tryz.func21, Tryz.ntmps21
 go_upto_region 1 with fail
 generalize (w.alloc (.cells #[.string x.m.name, .slice x.mA x.mn x.mc, .slice x.hA x.hn x.hc, .int .i64 x.m.cover, .int .i64 x.m.aggr, .int .i64 x.m.poker, .slice x.bA x.bn x.bc, .slice x.rA x.rn x.rc, .slice x.jA x.jn x.jc, .slice x.dA x.dn x.dc, .int .i64 x.rule.num, .int .i64 x.rule.den, .int .i64 x.rule.pnum, .int .i64 x.rule.pden, .int .i64 x.rule.bnum, .int .i64 x.rule.bden, .int .i64 x.rule.lnum, .int .i64 x.rule.lden, .int .i64 x.rule.least] 34)) = W1 at *
 have HDB := lh hDB
 clear hDB
 go_upto_region 4 with (first
  | ((with_reducible refine at_load 34 1 ?_); refine wpList_load_mid rfl 34 (.tmp 1) rfl _ _ rfl _ _ (HDB.out.via belr).range Tryz.underlying34 rfl (by kernel_rfl) ?_)
  | (go_at_call 53; (with_reducible refine (HLV.out _ belr).mono ?_); rintro e w2 ⟨rfl, hbw2⟩))
 have hw2 : Below w.heap.size w w2 := ba_via hbw2 hW1
 have HD2 := lh (HDB.out.via hbw2)
 have hDx := HD2.out
 have d9 := hDx.cell 9
 have dl := hDx.lt
 simp only [ga1, ga2, ga3] at d9
 clear hDx HDB hbw2 hW1 HLV
 go_wp2
 go_loopw [4, 15] (fun v i wr => ∃ q : Nat, q <= x.dn /\ i = .int .i64 q /\ wr.ownsRow w2.heap.size 71 2 v (S.failN ds Ls q).length ((S.failN ds Ls q).flatMap fnC) /\ Below w2.heap.size w2 wr) (fun _ i _ => x.dn - (intOf i).toNat)
 case atStart => exact ⟨0, Nat.zero_le _, rfl, World.ownsRow_nil _ _ _ _, Below.refl _ _⟩
 case round =>
  obtain ⟨q, hq, rfl, hO, hbr⟩ := hrel
  have HO := lh hO
  have hsr := hbr.size
  have hbwr : Below w.heap.size w wr := ba_via hbr hw2
  have hfl := failN_len ds Ls q
  clear hO d9 dl
  by_cases hlt : q < x.dn
  ·have hqx : q < ds.length := by rw [HDS.out]; exact hlt
   have hqi : (q : Int) < x.dn := by omega
   have HFN := lh (show S.failN ds Ls (q + 1) = S.failN ds Ls q ++ (match Ls q, ds[q]? with | _ :: _, some d => [d.name] | _, _ => []) from rfl)
   obtain ⟨bD, oD, hdA, hbD, hdm⟩ := HDC.out q ds[q] (List.getElem?_eq_getElem hqx) wr hbwr
   rw [List.getElem?_eq_getElem hqx] at HFN
   generalize ds[q] = dm at *
   have hlq := HLS.out q
   have m0 := hdm 0 _ rfl
   have m1 := hdm 1 _ rfl
   have m2 := hdm 2 _ rfl
   have m3 := hdm 3 _ rfl
   have m4 := hdm 4 _ rfl
   have m5 := hdm 5 _ rfl
   have m6 := hdm 6 _ rfl
   have m7 := hdm 7 _ rfl
   simp only [Nat.add_zero] at m0
   rw [hdA]
   have HDR := lh (HD2.out.via hbr)
   rw [hdA] at HDR
   have HSQ := lh (fun (W : World) (hw : Below wr.heap.size wr W) => HSP.out q hlt W (ba_via hw hbwr))
   rw [hdA] at HSQ
   clear hdm
   generalize Ls q = lq at *
   obtain ⟨fl, hfe⟩ : ∃ fl, fl = (S.failN ds Ls q).length := ⟨_, rfl⟩
   have HO2 := HO.out
   rw [<- hfe] at hfl HO2
   have HFE := lh hfe
   clear hfe HO
   have HO := lh HO2
   clear HO2
   go_upto_region 7 with fail
   have hb6 : Below wr.heap.size wr (wr.alloc (.cells #[.string dm.name, .int .i64 dm.zone.lo.x, .int .i64 dm.zone.lo.y, .int .i64 dm.zone.lo.z, .int .i64 dm.zone.hi.x, .int .i64 dm.zone.hi.y, .int .i64 dm.zone.hi.z, .slice dm.A dm.n dm.c] 81)) := ba_alloc (Below.refl _ _) _
   have hC6 := Blk.new wr 81 #[.string dm.name, .int .i64 dm.zone.lo.x, .int .i64 dm.zone.lo.y, .int .i64 dm.zone.lo.z, .int .i64 dm.zone.hi.x, .int .i64 dm.zone.hi.y, .int .i64 dm.zone.hi.z, .slice dm.A dm.n dm.c]
   generalize (wr.alloc (.cells #[.string dm.name, .int .i64 dm.zone.lo.x, .int .i64 dm.zone.lo.y, .int .i64 dm.zone.lo.z, .int .i64 dm.zone.hi.x, .int .i64 dm.zone.hi.y, .int .i64 dm.zone.hi.z, .slice dm.A dm.n dm.c] 81)) = W6 at *
   have HC6 := lh hC6
   have HD6 := lh (HDR.out.via hb6)
   clear m0 m1 m2 m3 m4 m5 m6 m7 hC6 HDR
   go_upto_region 10 with (first
    | ((with_reducible refine at_load 34 1 ?_); refine wpList_load_mid rfl 34 (.tmp 1) rfl _ _ rfl _ _ (HD6.out.via belr).range Tryz.underlying34 rfl (by kernel_rfl) ?_)
    | (go_at_call 13; (with_reducible refine (HSQ.out _ (ba_via belr hb6)).mono ?_); rintro e w8 ⟨A8, c8, rfl, hC8, hbw8⟩))
   have h68 : Below wr.heap.size wr w8 := ba_via hbw8 hb6
   have h8s := h68.size
   have HO8 := lh (own_kept HO.out (fun k hk => h68.block k (HO.out.lt k hk).2))
   have HB8 := lh (hbr.trans (h68.mono hsr))
   have hN8 := HC6.out.via hbw8
   have n0 := hN8.cell 0
   have nl := hN8.lt
   simp only [ga1, ga2, ga3] at n0
   clear hN8 HC6 HD6 HSQ hC8 hb6 hbw8 hbr HO
   cases lq with
   | nil =>
    have HN := lh (show S.failN ds Ls (q + 1) = S.failN ds Ls q by rw [HFN.out]; simp)
    clear HFN
    go_wp2
    go_roundw
    case rel => exact ⟨q + 1, by omega, by go_num, by rw [HN.out, <- HFE.out]; exact HO8.out, HB8.out⟩
    case measure => simp [intOf]; omega
   | cons t r =>
    have HN := lh (show S.failN ds Ls (q + 1) = S.failN ds Ls q ++ [dm.name] from HFN.out)
    obtain ⟨lz, hlz⟩ : ∃ lz, lz = (t :: r).length := ⟨_, rfl⟩
    have hz1 : 0 < lz := by rw [hlz]; simp
    have hz2 : decide (0 < lz) = true := decide_eq_true hz1
    have hz3 : decide ((0 : Int) < (lz : Int)) = true := decide_eq_true (by omega)
    rw [<- hlz]
    clear HFN hlz hlq
    go_wp2_with (at_builtin; refine wpList_append_cells rfl (.tmp 32) (.tmp 36) _ rfl elemFn w2.heap.size _ fl ((S.failN ds Ls q).flatMap fnC) rfl (own_kept HO8.out (fun k hk => (ba_alloc (Below.refl _ _) _).block k (HO8.out.lt k hk).2)) (some ⟨w8.heap.size, 0, none⟩) 1 1 [.int .i64 1, .string dm.name] _ rfl rfl (Cells.newRow w8 #[.int .i64 1, .string dm.name] 71 (0, 0)) (by simp [Value.oneCell']) (by unfold maxLen; omega) (by omega) (by simp; omega) ?_; intro v2 wE hOE hbE)
    go_roundw
    case rel => exact ⟨q + 1, by omega, by go_num, by rw [HN.out, List.length_append, <- HFE.out]; simpa using hOE, HB8.out.trans (((ba_alloc (Below.refl _ _) _).mono (by omega)).trans hbE)⟩
    case measure => simp [intOf]; omega
  ·have hqn : q = x.dn := by omega
   have hqi : ¬ ((q : Int) < x.dn) := by omega
   rw [hqn] at HO
   obtain ⟨A9, c9, hu, _, _, hC9⟩ := own_form HO.out (by unfold maxLen; have := failN_len ds Ls x.dn; omega)
   subst hu
   go_wp2
   go_ret2
   exact ⟨A9, c9, rfl, hC9, hbwr⟩
section
variable {x : Dt} {ds : List Dm} {w : World}
theorem good_Spare (h : DtOk w x ds) (hlk : S.look x (S.dems ds) = true) (hC : (S.cOf x).length <= 100) {k : Nat} {dm : Dm} (hk : ds[k]? = some dm) {rs : List Rod} (hrs : RodsOf x (S.nOf x) rs) :
 ∀ W, Below w.heap.size w W -> Calls Tryz.prog 17 #[dtV x, .int .i64 k] W fun e w' => e = .returned (.tuple #[.int .i64 (S.spareOf (S.partsD x rs dm)).1, .int .i64 (S.spareOf (S.partsD x rs dm)).2.1, .int .i64 (S.spareOf (S.partsD x rs dm)).2.2]) /\ Below W.heap.size W w' := fun W hw =>
 spare_yes x k (S.partsD x rs dm) W (partsD_len h hlk hC hk hrs) (fun i hi => by
  unfold S.partsD at hi ⊢
  rw [partsOf_get hi]
  have h1 := valueOf_bd (sup_valid hlk hC hrs dm.zone) ((S.spots (S.supplyOf x rs (S.cOf x) dm.zone) dm.st).getD i 0)
  have h2 := valueOf_bd (dem_steps hlk hk).1 ((S.spots (S.supplyOf x rs (S.cOf x) dm.zone) dm.st).getD i 0)
  exact ⟨h1.1, h1.2, h2.1, h2.2⟩) (fun V hV => good_parts h hlk hC hk hrs V (hw.trans (hV.mono hw.size)))
def S.spansD (x : Dt) (rs : List Rod) (ds : List Dm) (k : Nat) : List Sp := match ds[k]? with | some dm => S.spansL (S.partsD x rs dm) | none => []
theorem good_Check (h : DtOk w x ds) (hlk : S.look x (S.dems ds) = true) (hC : (S.cOf x).length <= 100) {rs : List Rod} (hrs : RodsOf x (S.nOf x) rs) :
 ∀ W, Below w.heap.size w W -> Calls Tryz.prog 21 #[dtV x] W (GivesFn (S.failN ds (S.spansD x rs ds) x.dn) W) := fun W hw => by
 have h20 : ds.length <= 20 := by
  have := (look_ok hlk).dems
  unfold S.dems at this
  simp only [Bool.and_eq_true, decide_eq_true_eq] at this
  exact this.1
 have hLV := sec_lv h
 rw [hlk] at hLV
 refine check_yes x ds (S.spansD x rs ds) W h.dems.len (by rw [<- h.dems.len]; exact h20) (fun k => ?_) (fun k dm hk V hV => sec_dem h hk V (hw.trans (hV.mono hw.size))) (fun V hV => hLV V (hw.trans (hV.mono hw.size))) (fun k hk V hV => ?_)
 ·unfold S.spansD
  cases hk : ds[k]? with
  | none => exact Nat.zero_le _
  | some dm => exact Nat.le_trans (spansL_len _) (partsD_len h hlk hC hk hrs)
 ·have hkx : k < ds.length := by rw [h.dems.len]; exact hk
  unfold S.spansD
  rw [List.getElem?_eq_getElem hkx]
  exact good_Spans h hlk hC (List.getElem?_eq_getElem hkx) hrs V (hw.trans (hV.mono hw.size))
end
theorem Blk.cells {w : World} {g : Nat} {t : TypeId} {cs : List Value} (h : Blk w g t cs.toArray) : Cells w w.heap.size (some ⟨g, 0, none⟩) cs := .inr ⟨g, 0, rfl, h.lt, fun j v hv => by
 rw [Nat.zero_add]
 exact (h.cell j).trans (by simpa using hv)⟩
theorem ex7_le2 : 2 <= 9223372036854775807 := by decide
theorem ex7_le1 : 1 <= 9223372036854775807 := by decide
theorem ex7_le0 : 0 <= 9223372036854775807 := by decide
def exBar7 (g : Nat) : BarR := ⟨⟨strA, 10, 1, 0, [1000]⟩, some ⟨g, 0, none⟩, 1, 1⟩
def exDt7 (gx g gb gr gd : Nat) : Dt where
 m := ⟨strM, [⟨⟨0, 0, 0⟩, ⟨1000, 200, 300⟩⟩], [], 0, 16, 40⟩
 mA := some ⟨gx, 0, none⟩
 mn := 1
 mc := 1
 hA := none
 hn := 0
 hc := 0
 bs := [exBar7 g]
 bA := some ⟨gb, 0, none⟩
 bn := 1
 bc := 1
 rs := [⟨strA, 1, 2, ⟨0, 50, 40⟩, ⟨0, 0, 0⟩, 1⟩]
 rA := some ⟨gr, 0, none⟩
 rn := 1
 rc := 1
 js := []
 jA := none
 jn := 0
 jc := 0
 dA := some ⟨gd, 0, none⟩
 dn := 1
 dc := 1
 rule := ⟨40, 1, 1, 1, 1, 1, 1, 1, 0⟩
def exDem7 (gs : Nat) : Dm := ⟨strD, ⟨⟨0, 0, 0⟩, ⟨1000, 200, 100⟩⟩, [⟨300, 5000⟩, ⟨500, 0⟩], some ⟨gs, 0, none⟩, 2, 2⟩
theorem ex7_dtV (gx g gb gr gd : Nat) : dtV (exDt7 gx g gb gr gd) = .agg (exL7 gx gb gr gd).toArray := rfl
theorem ex7_ok {w : World} {gx g gb gr gs gd : Nat} (h : ExBlks7 w gx g gb gr gs gd) : DtOk w (exDt7 gx g gb gr gd) [exDem7 gs] := by
 refine ⟨⟨⟨rfl, ex7_le1, rfl, ex7_le0, h.box.cells, Cells.nil⟩, ex7_le1, ⟨rfl, ex7_le1, h.bar.cells, fun r hr => ?_⟩, ⟨rfl, ex7_le1, h.run.cells⟩, rfl, ex7_le0, Cells.nil⟩, ⟨rfl, ex7_le1, h.dem.cells, fun d hd => ?_, fun d hd => ?_⟩, Nat.le_refl _⟩
 ·rw [show (exDt7 gx g gb gr gd).bs = [exBar7 g] from rfl, List.mem_singleton] at hr
  subst hr
  exact ⟨rfl, ex7_le1, ex7_le1, h.dims.cells⟩
 ·rw [List.mem_singleton] at hd
  subst hd
  exact ⟨rfl, ex7_le2, h.stp.cells⟩
 ·rw [List.mem_singleton] at hd
  subst hd
  exact ex7_le1
section
variable (gx g gb gr gs gd : Nat)
theorem ex7_look : S.look (exDt7 gx g gb gr gd) (S.dems [exDem7 gs]) = true := by kernel_rfl
theorem ex7_n : S.nOf (exDt7 gx g gb gr gd) = 1 := by kernel_rfl
theorem ex7_c : S.cOf (exDt7 gx g gb gr gd) = [[0]] := by kernel_rfl
theorem ex7_c1 : (S.cOf (exDt7 gx g gb gr gd)).length <= 100 := by rw [ex7_c]; decide
def exRod7 : Rod := ⟨exBar7 g, [⟨⟨0, 50, 40⟩, ⟨1000, 50, 40⟩⟩], none, 0, 0⟩
theorem ex7_rods : RodsOf (exDt7 gx g gb gr gd) (S.nOf (exDt7 gx g gb gr gd)) [exRod7 g] := by
 have hla := (look_ok (ex7_look gx g gb gr 0 gd)).laid
 obtain ⟨k, j, k0, r, hL⟩ := lies_of hla (i := 0) (by rw [show (S.mains (bars (exDt7 gx g gb gr gd).bs) (exDt7 gx g gb gr gd).rs).length = 1 from ex7_n gx g gb gr gd]; decide)
 have hk : k = 0 := by have := hL.st.lt; rw [show (exDt7 gx g gb gr gd).rs.length = 1 from rfl] at this; omega
 subst hk
 have hj : j = 0 := by have := hL.st.sum; rw [sumTo_zero] at this; omega
 subst hj
 have hk0 : k0 = 0 := by have := (List.getElem?_eq_some_iff.1 hL.get).1; rw [show (exDt7 gx g gb gr gd).bs.length = 1 from rfl] at this; omega
 subst hk0
 have hr : r = exBar7 g := by have := hL.get; rw [show (exDt7 gx g gb gr gd).bs[0]? = some (exBar7 g) from rfl] at this; injection this with this; exact this.symm
 subst hr
 refine ⟨(ex7_n gx g gb gr gd).symm, fun i hi => ?_⟩
 have hi0 : i = 0 := by simp at hi; exact hi
 subst hi0
 exact ⟨⟨0, 0, 0, hL, by kernel_rfl⟩, by kernel_rfl⟩
def exSch7 : SCh := ⟨none, 0, [0], 400, 600, true, 7854⟩
theorem ex7_sch : S.schOf (exDt7 gx g gb gr gd) [exRod7 g] [0] = exSch7 := by kernel_rfl
theorem ex7_sup : S.sup [exRod7 g] (exDem7 gs).zone exSch7 = true := by kernel_rfl
theorem ex7_sort : S.sortI [400, 600] = [400, 600] := by
 unfold S.sortI
 exact List.mergeSort_of_pairwise (by decide)
theorem ex7_of : S.supplyOf (exDt7 gx g gb gr gd) [exRod7 g] (S.cOf (exDt7 gx g gb gr gd)) (exDem7 gs).zone = [⟨400, 7854⟩, ⟨600, 0⟩] := by
 unfold S.supplyOf
 rw [ex7_c, List.map_cons, List.map_nil, ex7_sch, List.filter_cons, if_pos (ex7_sup g gs), List.filter_nil]
 unfold S.ofL S.places
 rw [show S.ends2 [exSch7] = [400, 600] from rfl, ex7_sort]
 kernel_rfl
theorem ex7_spots : S.spots [⟨400, 7854⟩, ⟨600, 0⟩] [⟨300, 5000⟩, ⟨500, 0⟩] = [300, 400, 500, 600] := by
 rw [<- mg_spots (by kernel_rfl) (by kernel_rfl)]
 simp [S.mg, S.froms]
theorem ex7_parts : S.partsD (exDt7 gx g gb gr gd) [exRod7 g] (exDem7 gs) = [⟨300, 399, 0, 5000⟩, ⟨400, 499, 7854, 5000⟩, ⟨500, 599, 7854, 0⟩, ⟨600, 1048576, 0, 0⟩] := by
 unfold S.partsD
 rw [ex7_of, show (exDem7 gs).st = [⟨300, 5000⟩, ⟨500, 0⟩] from rfl]
 unfold S.partsOf
 rw [ex7_spots]
 kernel_rfl
theorem ex7_spans : S.spansL (S.partsD (exDt7 gx g gb gr gd) [exRod7 g] (exDem7 gs)) = [⟨300, 399⟩] := by
 rw [ex7_parts]
 kernel_rfl
theorem ex7_spare : S.spareOf (S.partsD (exDt7 gx g gb gr gd) [exRod7 g] (exDem7 gs)) = (-5000, 300, 0) := by
 rw [ex7_parts]
 kernel_rfl
theorem ex7_ratio : S.ratioD (exDt7 gx g gb gr gd) [exRod7 g] (exDem7 gs) 400 = (3927, 2500, 0) := by
 unfold S.ratioD
 rw [ex7_of]
 kernel_rfl
theorem ex7_fail : S.failN [exDem7 gs] (S.spansD (exDt7 gx g gb gr gd) [exRod7 g] [exDem7 gs]) 1 = [strD] := by
 have e : S.spansD (exDt7 gx g gb gr gd) [exRod7 g] [exDem7 gs] 0 = [⟨300, 399⟩] := ex7_spans gx g gb gr gs gd
 show [] ++ (match S.spansD (exDt7 gx g gb gr gd) [exRod7 g] [exDem7 gs] 0, [exDem7 gs][0]? with | _ :: _, some d => [d.name] | _, _ => []) = _
 rw [e]
 rfl
end
section
variable {gx g gb gr gs gd : Nat} {w : World}
theorem ex7_Fails (h : ExBlks7 w gx g gb gr gs gd) (W : World) (hw : Below w.heap.size w W) : Calls Tryz.prog 12 #[.agg (exL7 gx gb gr gd).toArray, .int .i64 0] W fun e w' => e = .returned (.tuple #[.int .i64 300, .int .i64 0]) /\ Below W.heap.size W w' := by
 have := good_Fails (ex7_ok h) (ex7_look gx g gb gr gs gd) (ex7_c1 gx g gb gr gd) (k := 0) (dm := exDem7 gs) rfl (ex7_rods gx g gb gr gd) W hw
 rw [ex7_spans, ex7_dtV] at this
 exact this
theorem ex7_Spans (h : ExBlks7 w gx g gb gr gs gd) (W : World) (hw : Below w.heap.size w W) : Calls Tryz.prog 13 #[.agg (exL7 gx gb gr gd).toArray, .int .i64 0] W fun e w' => ∃ (A : Option Addr) (c : Nat), e = .returned (.tuple #[.slice A 1 c, .int .i64 0]) /\ Cells w' w'.heap.size A (([⟨300, 399⟩] : List Sp).flatMap snC) /\ Below W.heap.size W w' := by
 have := good_Spans (ex7_ok h) (ex7_look gx g gb gr gs gd) (ex7_c1 gx g gb gr gd) (k := 0) (dm := exDem7 gs) rfl (ex7_rods gx g gb gr gd) W hw
 rw [ex7_spans, ex7_dtV] at this
 exact this
theorem ex7_Spare (h : ExBlks7 w gx g gb gr gs gd) (W : World) (hw : Below w.heap.size w W) : Calls Tryz.prog 17 #[.agg (exL7 gx gb gr gd).toArray, .int .i64 0] W fun e w' => e = .returned (.tuple #[.int .i64 (-5000), .int .i64 300, .int .i64 0]) /\ Below W.heap.size W w' := by
 have := good_Spare (ex7_ok h) (ex7_look gx g gb gr gs gd) (ex7_c1 gx g gb gr gd) (k := 0) (dm := exDem7 gs) rfl (ex7_rods gx g gb gr gd) W hw
 rw [ex7_spare, ex7_dtV] at this
 exact this
theorem ex7_Ratio (h : ExBlks7 w gx g gb gr gs gd) (W : World) (hw : Below w.heap.size w W) : Calls Tryz.prog 18 #[.agg (exL7 gx gb gr gd).toArray, .int .i64 0, .int .i64 400] W fun e w' => e = .returned (.tuple #[.agg #[.int .i64 3927, .int .i64 2500], .int .i64 0]) /\ Below W.heap.size W w' := by
 have := good_Ratio (ex7_ok h) (ex7_look gx g gb gr gs gd) (ex7_c1 gx g gb gr gd) (k := 0) (dm := exDem7 gs) rfl 400 (ex7_rods gx g gb gr gd) W hw
 rw [ex7_ratio, ex7_dtV] at this
 exact this
theorem ex7_Check (h : ExBlks7 w gx g gb gr gs gd) (W : World) (hw : Below w.heap.size w W) : Calls Tryz.prog 21 #[.agg (exL7 gx gb gr gd).toArray] W fun e w' => ∃ (A : Option Addr) (c : Nat), e = .returned (.tuple #[.slice A 1 c, .int .i64 0]) /\ Cells w' w'.heap.size A (([strD] : List ByteArray).flatMap fnC) /\ Below W.heap.size W w' := by
 have := good_Check (ex7_ok h) (ex7_look gx g gb gr gs gd) (ex7_c1 gx g gb gr gd) (ex7_rods gx g gb gr gd) W hw
 rw [show (exDt7 gx g gb gr gd).dn = 1 from rfl, ex7_fail, ex7_dtV] at this
 exact this
end
set_option maxHeartbeats 2000000 in
theorem eqSp_yes (l : List Sp) (A : Option Addr) (n c : Nat) (A' : Option Addr) (c' : Nat) (B : Nat) (w : World) (hB : B <= w.heap.size) (hn : l.length = n) (hm : n <= 9223372036854775807) (hs : Cells w B A (l.flatMap snC)) (hs' : Cells w B A' (l.flatMap snC)) :
 Calls Tryz.prog 16 #[.slice A n c, .slice A' n c'] w fun e w' => e = .returned (.bool true) /\ Below w.heap.size w w' := by
 have HN := lh hn
 clear hn
 go_enter Tryz.func16, Tryz.ntmps16
 go_wp2
 go_loopw [13] (fun i wr => ∃ k : Nat, k <= n /\ i = .int .i64 k /\ Below w.heap.size w wr) (fun i _ => n - (intOf i).toNat)
 case atStart => exact ⟨0, Nat.zero_le _, rfl, Below.refl _ _⟩
 case round =>
  obtain ⟨k, hk, rfl, hbr⟩ := hrel
  by_cases hlt : k < n
  ·have hkx : k < l.length := by have := HN.out; omega
   have h1 := hs.below (hbr.mono hB)
   have h2 := hs'.below (hbr.mono hB)
   obtain ⟨b, o, rfl, hbB, hx⟩ := h1.at_ (by rw [flat_len snC 2 snC_len]; omega)
   clear hx
   obtain ⟨b', o', rfl, hbB', hx⟩ := h2.at_ (by rw [flat_len snC 2 snC_len]; omega)
   clear hx
   have c0 := h1.row0 snC_len hkx rfl
   have c1 := h1.rowj snC_len hkx 1 rfl
   have d0 := h2.row0 snC_len hkx rfl
   have d1 := h2.rowj snC_len hkx 1 rfl
   clear h1 h2
   have hbl : b < wr.heap.size := by have := hbr.size; omega
   have hbl' : b' < wr.heap.size := by have := hbr.size; omega
   have hki : (k : Int) < n := by omega
   generalize l[k] = r at *
   go_wp2
   go_quiet (fail)
   go_wp2
   go_roundw
   case rel => exact ⟨k + 1, by omega, by go_num, bel⟩
   case measure => simp [intOf]; omega
  ·have hki : ¬ ((k : Int) < n) := by omega
   go_wp2
   go_ret
   exact ⟨rfl, hbr⟩
set_option maxHeartbeats 2000000 in
theorem eqFn_yes (l : List ByteArray) (A : Option Addr) (n c : Nat) (A' : Option Addr) (c' : Nat) (B : Nat) (w : World) (hB : B <= w.heap.size) (hn : l.length = n) (hm : n <= 9223372036854775807) (hs : Cells w B A (l.flatMap fnC)) (hs' : Cells w B A' (l.flatMap fnC)) :
 Calls Tryz.prog 24 #[.slice A n c, .slice A' n c'] w fun e w' => e = .returned (.bool true) /\ Below w.heap.size w w' := by
 have HN := lh hn
 clear hn
 go_enter Tryz.func24, Tryz.ntmps24
 go_wp2
 go_loopw [13] (fun i wr => ∃ k : Nat, k <= n /\ i = .int .i64 k /\ Below w.heap.size w wr) (fun i _ => n - (intOf i).toNat)
 case atStart => exact ⟨0, Nat.zero_le _, rfl, Below.refl _ _⟩
 case round =>
  obtain ⟨k, hk, rfl, hbr⟩ := hrel
  by_cases hlt : k < n
  ·have hkx : k < l.length := by have := HN.out; omega
   have h1 := hs.below (hbr.mono hB)
   have h2 := hs'.below (hbr.mono hB)
   obtain ⟨b, o, rfl, hbB, hx⟩ := h1.at_ (by rw [flat_len fnC 2 fnC_len]; omega)
   clear hx
   obtain ⟨b', o', rfl, hbB', hx⟩ := h2.at_ (by rw [flat_len fnC 2 fnC_len]; omega)
   clear hx
   have c0 := h1.row0 fnC_len hkx rfl
   have c1 := h1.rowj fnC_len hkx 1 rfl
   have d0 := h2.row0 fnC_len hkx rfl
   have d1 := h2.rowj fnC_len hkx 1 rfl
   clear h1 h2
   have hbl : b < wr.heap.size := by have := hbr.size; omega
   have hbl' : b' < wr.heap.size := by have := hbr.size; omega
   have hki : (k : Int) < n := by omega
   generalize l[k] = r at *
   go_wp2
   go_quiet (fail)
   go_wp2
   go_roundw
   case rel => exact ⟨k + 1, by omega, by go_num, bel⟩
   case measure => simp [intOf]; omega
  ·have hki : ¬ ((k : Int) < n) := by omega
   go_wp2
   go_ret
   exact ⟨rfl, hbr⟩
set_option maxRecDepth 20000 in
set_option maxHeartbeats 4000000 in
theorem awake27_any (w : World) : Calls Tryz.prog 10 #[] w fun e w' => e = .returned (.bool true) /\ Below w.heap.size w w' := by
 have HEX := lh (fun w => example27_any w)
 go_enter Tryz.func10, Tryz.ntmps10
 go_upto_region 2 with (first
  | (go_at_call 38; (with_reducible refine (HEX.out _).mono ?_); rintro e w1 ⟨gx1, g1, gb1, gr1, gs1, gd1, rfl, hE1, hb1⟩)
  | (go_at_call 12; (with_reducible refine (ex7_Fails hE1 _ (Below.refl _ _)).mono ?_); rintro e w2 ⟨rfl, hb2⟩))
 have hW2 : Below w.heap.size w w2 := ba_via hb2 hb1
 clear hE1 hb1 hb2
 go_upto_region 3 with (first
  | (go_at_call 38; (with_reducible refine (HEX.out _).mono ?_); rintro e w3 ⟨gx3, g3, gb3, gr3, gs3, gd3, rfl, hE3, hb3⟩)
  | (go_at_call 13; (with_reducible refine (ex7_Spans hE3 _ (Below.refl _ _)).mono ?_); rintro e w4 ⟨A4, c4, rfl, hs4, hb4⟩))
 have hW4 : Below w.heap.size w w4 := ba_via (ba_via hb4 hb3) hW2
 have HS4 := lh hs4
 clear hE3 hb3 hb4 hs4
 go_upto_region 4 with (first
  | (go_at_call 38; (with_reducible refine (HEX.out _).mono ?_); rintro e w5 ⟨gx5, g5, gb5, gr5, gs5, gd5, rfl, hE5, hb5⟩)
  | (go_at_call 17; (with_reducible refine (ex7_Spare hE5 _ (Below.refl _ _)).mono ?_); rintro e w6 ⟨rfl, hb6⟩))
 have h46 : Below w4.heap.size w4 w6 := ba_via hb6 hb5
 have hW6 : Below w.heap.size w w6 := ba_via h46 hW4
 clear hE5 hb5 hb6
 go_upto_region 5 with (first
  | (go_at_call 38; (with_reducible refine (HEX.out _).mono ?_); rintro e w7 ⟨gx7, g7, gb7, gr7, gs7, gd7, rfl, hE7, hb7⟩)
  | (go_at_call 18; (with_reducible refine (ex7_Ratio hE7 _ (Below.refl _ _)).mono ?_); rintro e w8 ⟨rfl, hb8⟩))
 have HF8 := lh (Blk.new w8 54 #[.int .i64 3927, .int .i64 2500])
 have h68 : Below w6.heap.size w6 w8 := ba_via hb8 hb7
 have hl8 : w8.heap.size < (w8.alloc (.cells #[.int .i64 3927, .int .i64 2500] 54)).heap.size := by simp
 have h68a : Below w6.heap.size w6 (w8.alloc (.cells #[.int .i64 3927, .int .i64 2500] 54)) := ba_alloc h68 _
 clear hE7 hb7 hb8 h68
 generalize (w8.alloc (.cells #[.int .i64 3927, .int .i64 2500] 54)) = W8 at *
 generalize w8.heap.size = g8 at *
 go_upto_region 6 with (first
  | (go_at_call 38; (with_reducible refine (HEX.out _).mono ?_); rintro e w9 ⟨gx9, g9, gb9, gr9, gs9, gd9, rfl, hE9, hb9⟩)
  | (go_at_call 21; (with_reducible refine (ex7_Check hE9 _ (Below.refl _ _)).mono ?_); rintro e wA ⟨AA, cA, rfl, hsA, hbA⟩))
 have h8A : Below W8.heap.size W8 wA := ba_via hbA hb9
 have h4A : Below w4.heap.size w4 wA := ba_via (ba_via h8A h68a) h46
 have hWA : Below w.heap.size w wA := ba_via h4A hW4
 have HFA := lh (HF8.out.via h8A)
 have HSA := lh hsA
 have HS4' := lh ((HS4.out.below h4A).mono h4A.size)
 clear hE9 hb9 hbA hsA HF8 HS4 h8A h68a h46 hW2 hW6 hl8 HEX
 have HEQ1 := lh (show Calls Tryz.prog 16 #[.slice A4 1 c4, .slice (some ⟨wA.heap.size, 0, none⟩) 1 1] (wA.alloc (.cells #[.int .i64 300, .int .i64 399] 49)) (fun e w' => e = .returned (.bool true) /\ Below (wA.alloc (.cells #[.int .i64 300, .int .i64 399] 49)).heap.size (wA.alloc (.cells #[.int .i64 300, .int .i64 399] 49)) w') from
  eqSp_yes [⟨300, 399⟩] A4 1 c4 (some ⟨wA.heap.size, 0, none⟩) 1 (wA.alloc (.cells #[.int .i64 300, .int .i64 399] 49)).heap.size _ (Nat.le_refl _) rfl (by decide) ((HS4'.out.alloc (Nat.le_refl _) _).mono (by simp)) (Cells.newRow wA #[.int .i64 300, .int .i64 399] 49 (0, 0)))
 have HEQ2 := lh (fun (W : World) (hc : Cells W W.heap.size AA (([strD] : List ByteArray).flatMap fnC)) => (show Calls Tryz.prog 24 #[.slice AA 1 cA, .slice (some ⟨W.heap.size, 0, none⟩) 1 1] (W.alloc (.cells #[.int .i64 1, .string strD] 71)) (fun e w' => e = .returned (.bool true) /\ Below (W.alloc (.cells #[.int .i64 1, .string strD] 71)).heap.size (W.alloc (.cells #[.int .i64 1, .string strD] 71)) w') from
  eqFn_yes [strD] AA 1 cA (some ⟨W.heap.size, 0, none⟩) 1 (W.alloc (.cells #[.int .i64 1, .string strD] 71)).heap.size _ (Nat.le_refl _) rfl (by decide) ((hc.alloc (Nat.le_refl _) _).mono (by simp)) (Cells.newRow W #[.int .i64 1, .string strD] 71 (0, 0))))
 go_wp2_with (first
  | (go_at_call 16; (with_reducible refine HEQ1.out.mono ?_); rintro e wB ⟨rfl, hbB⟩; have hAB : Below wA.heap.size wA wB := (ba_via hbB (ba_alloc (Below.refl _ _) _)); have hFB := HFA.out.via hAB; have f0 := hFB.cell 0; have f1 := hFB.cell 1; have fl := hFB.lt; simp only [ga1, ga2, ga3] at f0 f1; have HSB := lh ((HSA.out.below hAB).mono hAB.size); clear hFB HSA HFA HEQ1 hbB)
  | (go_at_call 24; (with_reducible refine (HEQ2.out _ HSB.out).mono ?_); rintro e wC ⟨rfl, hbC⟩))
 go_ret
 exact ⟨rfl, ba_via hbC (ba_alloc (ba_via hAB hWA) _)⟩
end Go.Proofs.YtmfpbafpnoomeaaGreat
