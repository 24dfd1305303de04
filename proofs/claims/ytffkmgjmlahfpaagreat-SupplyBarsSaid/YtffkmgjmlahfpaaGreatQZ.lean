/- Contract: supply.Bars. Plain: the bars that supply a place, and the supply there. Plain: longer anchorage lengths never supply more. Plain: the bars that supply a place ascend, are none exactly where the supply is 0, and have together at least its area. Contract: supply.Leg. -/
import Derived.Test.YtffkmgjmlahfpaaGreatQW
import Derived.Test.YtffkmgjmlahfpaaGreatQY
import Derived.Test.YtffkmgjmlahfpaaGreatQC
set_option linter.unusedVariables false
set_option linter.unusedSimpArgs false
namespace Go.Proofs.YtffkmgjmlahfpaaGreat
open Go.RowKit
/-- The main leg of a laid bar goes over a place. -/
def S.overP (rs : List Rod) (p i : Int) : Bool := match rs[i.toNat]? with | some r => decide ((S.legOf r).lo.x ≤ p) && decide (p ≤ (S.legOf r).hi.x) | none => false
def S.barsL (rs : List Rod) (p : Int) (l : List SCh) : List Int := l.flatMap fun c => c.l.filter (S.overP rs p)
theorem barsL_next (rs : List Rod) (p : Int) {l : List SCh} {k : Nat} (h : k < l.length) : S.barsL rs p (l.take (k + 1)) = S.barsL rs p (l.take k) ++ l[k].l.filter (S.overP rs p) := by
  have e : l.take (k + 1) = l.take k ++ [l[k]] := by rw [List.take_add_one, List.getElem?_eq_getElem h]; rfl
  unfold S.barsL
  rw [e, List.flatMap_append]
  simp
theorem barsL_len (rs : List Rod) (p : Int) (l : List SCh) (h : ∀ c, c ∈ l → c.l.length ≤ 2001) : (S.barsL rs p l).length ≤ l.length * 2001 := by
  unfold S.barsL
  induction l with
  | nil => simp
  | cons a t ih =>
    rw [List.flatMap_cons, List.length_append, List.length_cons]
    have h1 := List.length_filter_le (S.overP rs p) a.l
    have h2 := h a (by simp)
    have h3 := ih (fun c hc => h c (by simp [hc]))
    omega
set_option maxRecDepth 20000 in
set_option maxHeartbeats 8000000 in
theorem Bars_any (x : Dt) (C : List (List Int)) (n : Nat) (z : Bx) (k : Nat) (p : Int) (w : World) (hC : C.length ≤ 100) (hn : n ≤ 2000) (hI : ChIn C n) (hla : S.laid (bars x.bs) x.rs = true)
    (hAT : ∀ W, Below w.heap.size w W → Calls Tryz.prog 81 #[dtV x, .int .i64 k, .int .i64 p] W (GivesSups x C n (S.supAt z p) W)) :
    Calls Tryz.prog 36 #[dtV x, .int .i64 k, .int .i64 p] w fun e w' => ∃ (A : Option Addr) (c : Nat) (rs : List Rod) (cs : List SCh), e = .returned (.tuple #[.slice A (S.sortI (S.barsL rs p (cs.filter (S.supAt z p rs)))).length c, .int .i64 0]) ∧ RodsOf x n rs ∧ cs.length = C.length ∧ (∀ (i : Nat) (hi : i < cs.length) (hj : i < C.length), SchOk x rs C[i] cs[i]) ∧
      w'.ownsRow w.heap.size 3 1 (.slice A (S.sortI (S.barsL rs p (cs.filter (S.supAt z p rs)))).length c) (S.sortI (S.barsL rs p (cs.filter (S.supAt z p rs)))).length (i64s (S.sortI (S.barsL rs p (cs.filter (S.supAt z p rs))))) ∧ Below w.heap.size w w' := by
  have HAT := Lib.hid hAT
  have HI := Lib.hid hI
  clear hAT hI
  unfold dtV at HAT
  unfold dtV
  have hDB := Blk.new w 34 #[.string x.m.name, .slice x.mA x.mn x.mc, .slice x.hA x.hn x.hc, .int .i64 x.m.cover, .int .i64 x.m.aggr, .int .i64 x.m.poker, .slice x.bA x.bn x.bc, .slice x.rA x.rn x.rc, .slice x.jA x.jn x.jc, .slice x.dA x.dn x.dc, .int .i64 x.rule.num, .int .i64 x.rule.den, .int .i64 x.rule.pnum, .int .i64 x.rule.pden, .int .i64 x.rule.bnum, .int .i64 x.rule.bden, .int .i64 x.rule.lnum, .int .i64 x.rule.lden, .int .i64 x.rule.least]
  have hW1 : Below w.heap.size w (w.alloc (.cells #[.string x.m.name, .slice x.mA x.mn x.mc, .slice x.hA x.hn x.hc, .int .i64 x.m.cover, .int .i64 x.m.aggr, .int .i64 x.m.poker, .slice x.bA x.bn x.bc, .slice x.rA x.rn x.rc, .slice x.jA x.jn x.jc, .slice x.dA x.dn x.dc, .int .i64 x.rule.num, .int .i64 x.rule.den, .int .i64 x.rule.pnum, .int .i64 x.rule.pden, .int .i64 x.rule.bnum, .int .i64 x.rule.bden, .int .i64 x.rule.lnum, .int .i64 x.rule.lden, .int .i64 x.rule.least] 34)) := ba_alloc (Below.refl _ _) _
  go_enter Tryz.func36, Tryz.ntmps36
  go_upto_region 1 with fail
  generalize (w.alloc (.cells #[.string x.m.name, .slice x.mA x.mn x.mc, .slice x.hA x.hn x.hc, .int .i64 x.m.cover, .int .i64 x.m.aggr, .int .i64 x.m.poker, .slice x.bA x.bn x.bc, .slice x.rA x.rn x.rc, .slice x.jA x.jn x.jc, .slice x.dA x.dn x.dc, .int .i64 x.rule.num, .int .i64 x.rule.den, .int .i64 x.rule.pnum, .int .i64 x.rule.pden, .int .i64 x.rule.bnum, .int .i64 x.rule.bden, .int .i64 x.rule.lnum, .int .i64 x.rule.lden, .int .i64 x.rule.least] 34)) = W1 at *
  have HDB := Lib.hid hDB
  clear hDB
  go_upto_region 2 with (first
    | ((with_reducible refine at_load 34 3 ?_); refine wpList_load_mid rfl 34 (.tmp 3) rfl _ _ rfl _ _ (HDB.out.via (by repeat (with_reducible first | exact Below.refl _ _ | assumption | refine ba_alloc ?_ _ | refine ba_drew ?_ | refine ba_drewN ?_ _ | refine ba_via (by assumption) ?_ | (refine ba_set ?_ ?_ _; rotate_left; (first | omega | (simp; omega) | simp))))).range Tryz.underlying34 rfl (by kernel_rfl) ?_)
    | (go_at_call 81; (with_reducible refine (HAT.out _ (by repeat (with_reducible first | exact Below.refl _ _ | assumption | refine ba_alloc ?_ _ | refine ba_drew ?_ | refine ba_drewN ?_ _ | refine ba_via (by assumption) ?_ | (refine ba_set ?_ ?_ _; rotate_left; (first | omega | (simp; omega) | simp))))).mono ?_); rintro e w2 ⟨A1, c1, rs, A2, c2, cs, b2, rfl, hrl, hok, hb1, hb2, hRC, hRL, hOW, hcl, hsch, hcc, hbw2⟩; have HRL := Lib.hid hrl; have HOK := Lib.hid hok; have HRC := Lib.hid hRC; have HRG := Lib.hid hRL; have HOW := Lib.hid hOW; have HCL := Lib.hid hcl; have HSC := Lib.hid hsch; have HCC := Lib.hid hcc; clear hrl hok hRC hRL hOW hcl hsch hcc))
  have hw2 : Below w.heap.size w w2 := ba_via hbw2 hW1
  have hs2 := hw2.size
  have hfl := List.length_filter_le (S.supAt z p rs) cs
  have hfl2 : (cs.filter (S.supAt z p rs)).length ≤ 100 := by rw [HCL.out] at hfl; omega
  -- what is known of a kept chain's bars
  have HKB := Lib.hid (fun (c : SCh) (hc : c ∈ cs.filter (S.supAt z p rs)) => show c.l.length ≤ 2001 ∧ Cells w2 b2 c.A (i64s c.l) ∧ ∀ i, i ∈ c.l → ∃ (m : Nat) (r : Rod), i = (m : Int) ∧ rs[m]? = some r ∧ RodFit x r ∧ r ∈ rs ∧ ¬ r.main < 0 from by
    obtain ⟨h0, h5⟩ := List.mem_filter.1 hc
    obtain ⟨q, hq, rfl⟩ := List.getElem_of_mem h0
    have hqC : q < C.length := by rw [← HCL.out]; exact hq
    have hSq := HSC.out q hq hqC
    obtain ⟨_, h2, h3⟩ := HI.out C[q] (List.getElem_mem hqC)
    rw [← hSq.bars] at h2 h3
    refine ⟨h2, HCC.out _ h0, fun i hi => ?_⟩
    obtain ⟨h6, h7⟩ := h3 i hi
    obtain ⟨m, rfl⟩ := Int.eq_ofNat_of_zero_le h6
    have hm : m < rs.length := by have := HRL.out; omega
    refine ⟨m, rs[m], rfl, List.getElem?_eq_getElem hm, rod_fit (HOK.out m hm) hla, List.getElem_mem hm, fun hneg => ?_⟩
    unfold S.supAt S.sup at h5
    simp only [Bool.and_eq_true, Bool.not_eq_true'] at h5
    have h9 : S.outI rs z (m : Int) = true := by
      unfold S.outI
      rw [Int.toNat_natCast, List.getElem?_eq_getElem hm]
      show S.outside rs[m] z = true
      unfold S.outside
      rw [if_pos hneg]
    obtain ⟨u, hu, he⟩ := List.getElem_of_mem hi
    have h8 : anyb cs[q].l (S.outI rs z) = true := anyb_of (p := S.outI rs z) hu (by rw [he]; exact h9)
    rw [h5.2.2] at h8
    cases h8)
  have HCS := Lib.hid (own_cells HOW.out (by unfold maxLen; omega)).1
  have HRO := Lib.hid (show RodsOf x n rs from ⟨HRL.out, HOK.out⟩)
  have HEX := Lib.hid (show cs.length = C.length ∧ ∀ (i : Nat) (hi : i < cs.length) (hj : i < C.length), SchOk x rs C[i] cs[i] from ⟨HCL.out, HSC.out⟩)
  have HFL := Lib.hid (fun (y : Nat) => barsL_len rs p ((cs.filter (S.supAt z p rs)).take y) (fun c hc => (HKB.out c (List.mem_of_mem_take hc)).1))
  clear hfl HCL HSC HCC HOK HAT HDB HOW HI
  generalize hclg : cs.filter (S.supAt z p rs) = cl at *
  have HCLG := Lib.hid hclg
  clear hclg
  have hrl2 : rs.length ≤ 2000 := by have := HRL.out; omega
  have hcli : (cl.length : Int) ≤ 100 := by omega
  have hb22 : b2 ≤ w2.heap.size := hb2
  go_wp2
  go_loopw [11, 30] (fun v i wr => ∃ q : Nat, q ≤ cl.length ∧ i = .int .i64 q ∧ wr.ownsRow w2.heap.size 3 1 v (S.barsL rs p (cl.take q)).length (i64s (S.barsL rs p (cl.take q))) ∧ Below w2.heap.size w2 wr) (fun _ i _ => cl.length - (intOf i).toNat)
  case atStart => exact ⟨0, Nat.zero_le _, rfl, World.ownsRow_nil _ _ _ _, Below.refl _ _⟩
  case round =>
    obtain ⟨q, hq, rfl, hO, hbr⟩ := hrel
    have HO := Lib.hid hO
    clear hO
    by_cases hlt : q < cl.length
    · have hqi : (q : Int) < cl.length := by omega
      have hCS := HCS.out.below hbr
      obtain ⟨b3, o3, hA3, hbb3, hxx⟩ := hCS.at_ (by rw [flat_len schC 5 schC_len]; omega)
      clear hxx
      subst hA3
      have c0 := hCS.row0 schC_len hlt rfl
      have c1' := hCS.rowj schC_len hlt 1 rfl
      have c2' := hCS.rowj schC_len hlt 2 rfl
      have c3' := hCS.rowj schC_len hlt 3 rfl
      have c4' := hCS.rowj schC_len hlt 4 rfl
      have hsr := hbr.size
      have hb3l : b3 < wr.heap.size := by omega
      have HNX := Lib.hid (barsL_next rs p hlt)
      obtain ⟨hll, hcc, hki⟩ := HKB.out cl[q] (List.getElem_mem hlt)
      have HCB := Lib.hid hcc
      have HKI := Lib.hid hki
      have hfq := HFL.out q
      rw [List.length_take] at hfq
      have hfq2 : (S.barsL rs p (cl.take q)).length ≤ 200100 := by omega
      clear hCS hcc hki hfq
      generalize cl[q] = c at *
      go_upto_region 8 with fail
      have hC12 := Blk.new wr 152 #[.slice c.A c.l.length c.c, .int .i64 c.lo, .int .i64 c.hi, .bool c.is, .int .i64 c.area]
      have hb12 : Below wr.heap.size wr (wr.alloc (.cells #[.slice c.A c.l.length c.c, .int .i64 c.lo, .int .i64 c.hi, .bool c.is, .int .i64 c.area] 152)) := ba_alloc (Below.refl _ _) _
      generalize (wr.alloc (.cells #[.slice c.A c.l.length c.c, .int .i64 c.lo, .int .i64 c.hi, .bool c.is, .int .i64 c.area] 152)) = W12 at *
      clear c0 c1' c2' c3' c4'
      have h12s := hb12.size
      have HO12 := Lib.hid (own_kept HO.out (fun k hk => hb12.block k (HO.out.lt k hk).2))
      have HB12 := Lib.hid (hbr.trans (hb12.mono hsr))
      have t0 := hC12.cell 0
      have tl := hC12.lt
      simp only [List.getElem?_toArray, List.getElem?_cons_zero, List.getElem?_cons_succ] at t0
      clear hC12 hb12 HO
      obtain ⟨lc, hlc⟩ : ∃ lc, lc = c.l.length := ⟨_, rfl⟩
      have HLC := Lib.hid hlc
      rw [← hlc] at hll t0
      clear hlc
      go_wp2
      go_loopw [11, 37] (fun v i wr => ∃ m : Nat, m ≤ lc ∧ i = .int .i64 m ∧ wr.ownsRow w2.heap.size 3 1 v (S.barsL rs p (cl.take q) ++ (c.l.take m).filter (S.overP rs p)).length (i64s (S.barsL rs p (cl.take q) ++ (c.l.take m).filter (S.overP rs p))) ∧ Below w2.heap.size w2 wr) (fun _ i _ => lc - (intOf i).toNat)
      case atStart => exact ⟨0, Nat.zero_le _, rfl, by simpa using HO12.out, HB12.out⟩
      case round =>
        obtain ⟨m, hm, rfl, hO, hby⟩ := hrel
        have HO := Lib.hid hO
        clear hO
        by_cases hlm : m < lc
        · have hmx : m < c.l.length := by rw [← HLC.out]; exact hlm
          have hmi : (m : Int) < lc := by omega
          have hsy := hby.size
          obtain ⟨bI, oI, hAI, hbI, hcI⟩ := ((HCB.out.mono hb22).below hby).at_ (by simp; omega)
          rw [hAI]
          have hck := hcI m _ (i64s_get hmx)
          obtain ⟨r, rod, hre, hrg, hrf, hrm, hrn⟩ := HKI.out c.l[m] (List.getElem_mem hmx)
          have HFN := Lib.hid (filter_next (S.overP rs p) hmx)
          have hov : S.overP rs p c.l[m] = (decide ((S.legOf rod).lo.x ≤ p) && decide (p ≤ (S.legOf rod).hi.x)) := by unfold S.overP; rw [hre, Int.toNat_natCast, hrg]
          rw [hov] at HFN
          rw [hre] at hck HFN
          have hfm := List.length_filter_le (S.overP rs p) (c.l.take m)
          rw [List.length_take] at hfm
          have hol : (S.barsL rs p (cl.take q) ++ (c.l.take m).filter (S.overP rs p)).length ≤ 300000 := by rw [List.length_append]; omega
          clear hcI hre hov hfm
          have hbIw : bI < wr.heap.size := by omega
          obtain ⟨hrx, hrd⟩ := List.getElem?_eq_some_iff.1 hrg
          obtain ⟨bR, oR, hAR, hbR, hxx⟩ := ((HRC.out.mono hb22).below hby).at_ (by rw [flat_len rodC 7 rodC_len]; omega)
          clear hxx
          have hRC := ((HRC.out.mono hb22).below hby)
          rw [hAR] at hRC ⊢
          have m0 := hRC.row0 rodC_len hrx rfl
          have m1 := hRC.rowj rodC_len hrx 1 rfl
          have m2 := hRC.rowj rodC_len hrx 2 rfl
          have m3 := hRC.rowj rodC_len hrx 3 rfl
          have m4 := hRC.rowj rodC_len hrx 4 rfl
          have m5 := hRC.rowj rodC_len hrx 5 rfl
          have m6 := hRC.rowj rodC_len hrx 6 rfl
          rw [hrd] at m0 m1 m2 m3 m4 m5 m6
          have hbRw : bR < wr.heap.size := by omega
          have hrli : (r : Int) < rs.length := by omega
          obtain ⟨ja, hja, hjae, hjam⟩ := idxf_some (xs := rod.legs) (p := S.isMainB) (by rw [← hrf.main]; omega)
          have hma : rod.main = (ja : Int) := hrf.main.trans hjae
          have hLa : S.legOf rod = rod.legs[ja] := by unfold S.legOf; rw [hma]; simp [List.getD_eq_getElem?_getD, hja]
          have HG1 := Lib.hid (rleg_any rod ja (S.legOf rod) w2.heap.size wr hsy (by rw [hLa]; exact List.getElem?_eq_getElem hja) hma (((HRG.out rod hrm).mono hb22).below hby))
          unfold boxV rodV at HG1
          have HAI := Lib.hid hAI
          have HAR := Lib.hid hAR
          clear hja hjae hjam hma hLa hRC hrd hrg hrf hrm hrn hAI hAR
          generalize S.legOf rod = L at *
          go_upto_region 12 with (go_at_call 90; (with_reducible refine HG1.out.mono ?_); rintro e w5 ⟨rfl, hb5⟩)
          have hS := Blk.new w5 89 #[.int .i64 L.lo.x, .int .i64 L.lo.y, .int .i64 L.lo.z, .int .i64 L.hi.x, .int .i64 L.hi.y, .int .i64 L.hi.z]
          have hb6 : Below wr.heap.size wr (w5.alloc (.cells #[.int .i64 L.lo.x, .int .i64 L.lo.y, .int .i64 L.lo.z, .int .i64 L.hi.x, .int .i64 L.hi.y, .int .i64 L.hi.z] 89)) := ba_alloc hb5 _
          generalize (w5.alloc (.cells #[.int .i64 L.lo.x, .int .i64 L.lo.y, .int .i64 L.lo.z, .int .i64 L.hi.x, .int .i64 L.hi.y, .int .i64 L.hi.z] 89)) = W6 at *
          have s0 := hS.cell 0
          have s3 := hS.cell 3
          have sl := hS.lt
          simp only [List.getElem?_toArray, List.getElem?_cons_zero, List.getElem?_cons_succ] at s0 s3
          have HO6 := Lib.hid (own_kept HO.out (fun k hk => hb6.block k (HO.out.lt k hk).2))
          have HB6 := Lib.hid (hby.trans (hb6.mono hsy))
          have h6s := hb6.size
          generalize w5.heap.size = g6 at *
          clear hb5 hb6 HG1 m0 m1 m2 m3 m4 m5 m6 hck HO
          have hbE1 : w2.heap.size ≤ W6.heap.size := by omega
          by_cases h1 : L.lo.x ≤ p
          · by_cases h2 : p ≤ L.hi.x
            · have HFE := Lib.hid (show (c.l.take (m + 1)).filter (S.overP rs p) = (c.l.take m).filter (S.overP rs p) ++ [(r : Int)] by rw [HFN.out]; simp [h1, h2])
              go_wp2_with (at_builtin; refine wpList_push rfl (.tmp 58) (.tmp 60) _ rfl elemInt ((show Row W6 W6 u11.ownBlock w2.heap.size 3 1 u11 (S.barsL rs p (cl.take q) ++ (c.l.take m).filter (S.overP rs p)).length (i64s (S.barsL rs p (cl.take q) ++ (c.l.take m).filter (S.overP rs p))) from ⟨HO6.out, fun k hk => .inl hk.symm⟩).alloc _) ((Exc.refl u11.ownBlock.toList W6).alloc _) (by intro k hk; simp [hk]) hbE1 rfl W6.heap.size 1 1 [.int .i64 r] rfl rfl ?_ (by simp [Value.oneCell']) (by unfold maxLen; omega) (by omega) ?_; (· intro j u hu; exact one_new _ _ _ _ j u hu); intro v2 wE hRE hXE hOE)
              have hown := hRE.own
              have hbE : Below w2.heap.size w2 wE := HB6.out.trans (hXE.below (by omega) (fun g hg => (HO6.out.lt g (by simpa using hg)).1))
              go_roundw
              case rel => exact ⟨m + 1, by omega, by go_num, by rw [HFE.out, ← List.append_assoc, i64s_snoc, List.length_append]; exact hown, hbE⟩
              case measure => simp [intOf]; omega
            · have HFE := Lib.hid (show (c.l.take (m + 1)).filter (S.overP rs p) = (c.l.take m).filter (S.overP rs p) by rw [HFN.out]; simp [h1]; omega)
              go_wp2
              go_roundw
              case rel => exact ⟨m + 1, by omega, by go_num, by rw [HFE.out]; exact HO6.out, HB6.out⟩
              case measure => simp [intOf]; omega
          · have HFE := Lib.hid (show (c.l.take (m + 1)).filter (S.overP rs p) = (c.l.take m).filter (S.overP rs p) by rw [HFN.out]; simp [h1])
            go_wp2
            go_roundw
            case rel => exact ⟨m + 1, by omega, by go_num, by rw [HFE.out]; exact HO6.out, HB6.out⟩
            case measure => simp [intOf]; omega
        · have hmn : m = lc := by omega
          have hmi : ¬ ((m : Int) < lc) := by omega
          have hO := HO.out
          rw [hmn, HLC.out, List.take_length, ← HNX.out] at hO
          have HO := Lib.hid hO
          clear hO
          go_wp2
          go_roundw
          case rel => exact ⟨q + 1, by omega, by go_num, HO.out, hby⟩
          case measure => simp [intOf]; omega
    · have hqn : q = cl.length := by omega
      have hO := HO.out
      rw [hqn, List.take_length] at hO
      have hfq := HFL.out cl.length
      rw [List.take_length] at hfq
      have hfq2 : (S.barsL rs p cl).length ≤ 300000 := by omega
      have hqi : ¬ ((q : Int) < cl.length) := by omega
      clear hfq hqn
      have hsr := hbr.size
      have HSO := Lib.hid (sort_own (S.barsL rs p cl) u11 (S.barsL rs p cl).length w2.heap.size wr hO (by omega))
      have HOr := Lib.hid hO
      clear hO HO
      go_upto_region 17 with (go_at_call 84; (with_reducible refine HSO.out.mono ?_); rintro e w3 ⟨rfl, hO3, hX3⟩)
      have hb3 : Below w2.heap.size wr w3 := hX3.below (by omega) (fun k hk => (HOr.out.lt k (by simpa using hk)).1)
      obtain ⟨A3, c3, hu, _, _, _⟩ := own_form hO3 (by unfold maxLen; omega)
      subst hu
      have HO3 := Lib.hid hO3
      have HE3 := Lib.hid (sortI_len (S.barsL rs p cl))
      have HBF := Lib.hid (hw2.trans ((hbr.trans hb3).mono hs2))
      clear hO3 hX3 HSO HOr hb3
      go_wp2
      go_ret2
      refine ⟨A3, c3, rs, cs, by rw [HCLG.out, HE3.out]; rfl, HRO.out, HEX.out.1, HEX.out.2, ?_, HBF.out⟩
      rw [HCLG.out, HE3.out]
      exact own_mono HO3.out hs2
end Go.Proofs.YtffkmgjmlahfpaaGreat
set_option linter.unusedVariables false
set_option linter.unusedSimpArgs false
namespace Go.Proofs.YtffkmgjmlahfpaaGreat
open Go.RowKit
theorem laps_link {x : Dt} {td : Bool} (h : S.look x td = true) (hla : S.laid (bars x.bs) x.rs = true) {rs : List Rod} (hrs : RodsOf x (S.nOf x) rs) {a b : Int} (hn : S.nextF x.js a = some b) : (S.legI rs b).lo.x ≤ (S.legI rs a).hi.x := by
  simp only [S.look, Bool.and_eq_true, decide_eq_true_eq] at h
  obtain ⟨_, h6⟩ := h
  have hj := ((lapsOk_out h6).1 _ (nextF_mem hn)).1
  unfold S.jointOk at hj
  rw [Bool.and_eq_true] at hj
  obtain ⟨hin, hon⟩ := hj
  simp only [S.jointIn, Bool.and_eq_true, decide_eq_true_eq] at hin
  obtain ⟨i1, rfl⟩ : ∃ i : Nat, a = (i : Int) := ⟨a.toNat, by omega⟩
  obtain ⟨i2, rfl⟩ : ∃ i : Nat, b = (i : Int) := ⟨b.toNat, by omega⟩
  try simp only [] at hin
  have g1 := List.getElem?_eq_getElem (l := S.mains (bars x.bs) x.rs) (i := i1) (by omega)
  have g2 := List.getElem?_eq_getElem (l := S.mains (bars x.bs) x.rs) (i := i2) (by omega)
  simp only [Int.toNat_natCast] at hon
  rw [g1, g2] at hon
  simp only [S.jointOn, Bool.and_eq_true, decide_eq_true_eq] at hon
  obtain ⟨r1, e1, _, l1⟩ := mains_rod hla hrs rfl g1 hon.1.1.1.1
  obtain ⟨r2, e2, _, l2⟩ := mains_rod hla hrs rfl g2 hon.1.1.1.2
  unfold S.legI
  rw [Int.toNat_natCast, Int.toNat_natCast, e1, e2]
  show (S.legOf r2).lo.x ≤ (S.legOf r1).hi.x
  rw [l1, l2]
  exact hon.2
theorem chain_linked {x : Dt} {td : Bool} (h : S.look x td = true) (hla : S.laid (bars x.bs) x.rs = true) {rs : List Rod} (hrs : RodsOf x (S.nOf x) rs) {l : List Int} (hl : l ∈ S.cOf x) : ∃ a t, l = a :: t ∧ Linked (fun a b => (S.legI rs b).lo.x ≤ (S.legI rs a).hi.x) (a :: t) := by
  unfold S.cOf S.chains S.chainsTo at hl
  obtain ⟨q, _, rfl⟩ := List.mem_map.1 hl
  exact ⟨q, S.rest (S.nextF x.js) (S.nOf x) (S.nextF x.js q), rfl, linked_imp _ (fun a b hab => laps_link h hla hrs hab) (rest_linked (S.nextF x.js) (S.nOf x) q _ rfl)⟩
/-- A chain that supplies a place has a bar that goes over it. -/
theorem chain_over {x : Dt} {ds : List Dm} (h : S.look x (S.dems ds) = true) {rs : List Rod} (hrs : RodsOf x (S.nOf x) rs) {l : List Int} (hl : l ∈ S.cOf x) {z : Bx} {p : Int} (hs : S.supAt z p rs (S.schOf x rs l) = true) : ∃ i, i ∈ l ∧ S.overP rs p i = true := by
  have g := look_ok h
  obtain ⟨a, t, he, hk⟩ := chain_linked h g.laid hrs hl
  unfold S.supAt S.sup S.atPl at hs
  simp only [Bool.and_eq_true, decide_eq_true_eq] at hs
  obtain ⟨⟨h1, h2⟩, h3, _⟩ := hs
  change (S.spanL x rs l).1 ≤ p at h1
  change p < (S.spanL x rs l).2.1 at h2
  change (S.spanL x rs l).2.2 = true at h3
  have hin := g.cin l hl
  have key : (S.legI rs a).lo.x ≤ p ∧ p ≤ (S.legI rs (l.getLastD 0)).hi.x := by
    have ha0 : l.headD 0 = a := by rw [he]; rfl
    unfold S.spanL at h1 h2 h3
    cases hfa : rs[(l.headD 0).toNat]? with
    | none => rw [hfa] at h3; cases h3
    | some ra =>
      cases hfb : rs[(l.getLastD 0).toNat]? with
      | none => rw [hfa, hfb] at h3; cases h3
      | some rb =>
        rw [hfa, hfb] at h1 h2 h3
        obtain ⟨ka, ea⟩ := List.getElem?_eq_some_iff.1 hfa
        obtain ⟨kb, eb⟩ := List.getElem?_eq_some_iff.1 hfb
        have hra : RodFit x ra := ea ▸ rod_fit (hrs.ok _ ka) g.laid
        have hrb : RodFit x rb := eb ▸ rod_fit (hrs.ok _ kb) g.laid
        have e3 := endLen_bd x ra g.rule hra (S.legOf ra).lo
        have e4 := endLen_bd x rb g.rule hrb (S.legOf rb).hi
        change 0 ≤ S.lowOf x ra ∧ _ at e3
        change 0 ≤ S.upOf x rb ∧ _ at e4
        unfold S.legI
        rw [← ha0, hfa, hfb]
        simp only [] at h1 h2 h3
        unfold S.spanOf at h1 h2 h3
        show (S.legOf ra).lo.x ≤ p ∧ p ≤ (S.legOf rb).hi.x
        split at h3
        · cases h3
        · rename_i n1
          split at h3
          · cases h3
          · rename_i n2
            split at h3
            · rename_i n3
              rw [if_neg n1, if_neg n2, if_pos n3] at h1 h2
              change (S.legOf ra).lo.x + S.lowOf x ra ≤ p at h1
              change p < (S.legOf rb).hi.x - S.upOf x rb at h2
              omega
            · cases h3
  obtain ⟨i, hi, e1, e2⟩ := cover_list (lo := fun i => (S.legI rs i).lo.x) (hi := fun i => (S.legI rs i).hi.x) (p := p) t a hk key.1 (by rw [← he]; exact key.2)
  rw [← he] at hi
  refine ⟨i, hi, ?_⟩
  obtain ⟨h5, h6⟩ := hin.2.2 i hi
  have hix : i.toNat < rs.length := by rw [hrs.len]; omega
  unfold S.overP
  unfold S.legI at e1 e2
  rw [List.getElem?_eq_getElem hix] at e1 e2 ⊢
  simp only [Bool.and_eq_true, decide_eq_true_eq]
  exact ⟨e1, e2⟩
end Go.Proofs.YtffkmgjmlahfpaaGreat
set_option linter.unusedVariables false
set_option linter.unusedSimpArgs false
namespace Go.Proofs.YtffkmgjmlahfpaaGreat
open Go.RowKit
structure Harder (r r' : Rule) : Prop where
  num : r.num ≤ r'.num
  den : r'.den = r.den
  pnum : r'.pnum = r.pnum
  pden : r'.pden = r.pden
  bnum : r'.bnum = r.bnum
  bden : r'.bden = r.bden
  least : r.least ≤ r'.least
end Go.Proofs.YtffkmgjmlahfpaaGreat
set_option linter.unusedVariables false
set_option linter.unusedSimpArgs false
namespace Go.Proofs.YtffkmgjmlahfpaaGreat
open Go.RowKit
theorem minBy_le (K : Int → Int) {xs : List Int} : ∀ i, i ∈ xs → K (minBy K xs) ≤ K i := by
  have key : ∀ (t : List Int) (m : Int), K (t.foldl (fun m a => if K a < K m then a else m) m) ≤ K m ∧ ∀ i, i ∈ t → K (t.foldl (fun m a => if K a < K m then a else m) m) ≤ K i := by
    intro t
    induction t with
    | nil => intro m; exact ⟨Int.le_refl _, fun i hi => by cases hi⟩
    | cons a t ih =>
      intro m
      rw [List.foldl_cons]
      split
      · rename_i h
        obtain ⟨h1, h2⟩ := ih a
        refine ⟨by omega, fun i hi => ?_⟩
        rcases List.mem_cons.1 hi with rfl | hi
        · exact h1
        · exact h2 i hi
      · rename_i h
        obtain ⟨h1, h2⟩ := ih m
        refine ⟨h1, fun i hi => ?_⟩
        rcases List.mem_cons.1 hi with rfl | hi
        · omega
        · exact h2 i hi
  intro i hi
  cases xs with
  | nil => cases hi
  | cons x t =>
    unfold minBy
    simp only [List.tail_cons, List.headD_cons]
    obtain ⟨h1, h2⟩ := key t x
    rcases List.mem_cons.1 hi with rfl | hi
    · exact h1
    · exact h2 i hi
theorem area_mono {d e : Int} (h0 : 0 ≤ d) (h : d ≤ e) : S.steelArea d ≤ S.steelArea e := by
  unfold S.steelArea
  have h1 : d * d ≤ e * e := Int.mul_le_mul h h h0 (by omega)
  have e1 : 7854 * d * d = 7854 * (d * d) := Int.mul_assoc _ _ _
  have e2 : 7854 * e * e = 7854 * (e * e) := Int.mul_assoc _ _ _
  exact Int.ediv_le_ediv (by decide) (by omega)
def S.areaI (rs : List Rod) (i : Int) : Int := S.steelArea (S.sizeI rs i)
def S.areas (rs : List Rod) (l : List Int) : Int := (l.map (S.areaI rs)).sum
theorem areas_app (rs : List Rod) (a b : List Int) : S.areas rs (a ++ b) = S.areas rs a + S.areas rs b := by unfold S.areas; rw [List.map_append, List.sum_append]
theorem areaI_pos {x : Dt} {n : Nat} {rs : List Rod} (hla : S.laid (bars x.bs) x.rs = true) (hrs : RodsOf x n rs) {i : Int} (h : 0 ≤ i ∧ i < n) : 1 ≤ S.areaI rs i ∧ S.areaI rs i ≤ 1000000 ∧ S.size (S.sizeI rs i) = true := by
  have hk : i.toNat < rs.length := by rw [hrs.len]; omega
  have hb := bar_size (rod_fit (hrs.ok _ hk) hla).bar
  unfold S.areaI
  rw [sizeI_at hk]
  refine ⟨?_, ?_, hb⟩
  · generalize rs[i.toNat].bar.b.size = d at hb
    rcases size_cases hb with h | h | h | h | h | h | h | h | h <;> (subst h; decide)
  · generalize rs[i.toNat].bar.b.size = d at hb
    rcases size_cases hb with h | h | h | h | h | h | h | h | h <;> (subst h; decide)
theorem areas_ge {rs : List Rod} {l : List Int} (h0 : ∀ i, i ∈ l → 0 ≤ S.areaI rs i) {i : Int} (hi : i ∈ l) : S.areaI rs i ≤ S.areas rs l := by
  unfold S.areas
  induction l with
  | nil => cases hi
  | cons a t ih =>
    rw [List.map_cons, List.sum_cons]
    have hs : ∀ (t : List Int), (∀ i, i ∈ t → 0 ≤ S.areaI rs i) → 0 ≤ (t.map (S.areaI rs)).sum := by
      intro t
      induction t with
      | nil => intro _; simp
      | cons b t ih => intro h; rw [List.map_cons, List.sum_cons]; have := h b (by simp); have := ih (fun i hi => h i (by simp [hi])); omega
    rcases List.mem_cons.1 hi with rfl | hi
    · have := hs t (fun i hi => h0 i (by simp [hi])); omega
    · have := ih (fun i hi => h0 i (by simp [hi])) hi
      have := h0 a (by simp)
      omega
/-- The chains that supply a place. -/
def S.kept (x : Dt) (rs : List Rod) (C : List (List Int)) (z : Bx) (p : Int) : List SCh := (C.map (S.schOf x rs)).filter (S.supAt z p rs)
theorem kept_mem {x : Dt} {rs : List Rod} {C : List (List Int)} {z : Bx} {p : Int} {c : SCh} (h : c ∈ S.kept x rs C z p) : ∃ l, l ∈ C ∧ c = S.schOf x rs l ∧ S.supAt z p rs c = true := by
  obtain ⟨h1, h2⟩ := List.mem_filter.1 h
  obtain ⟨l, hl, rfl⟩ := List.mem_map.1 h1
  exact ⟨l, hl, rfl, h2⟩
/-- What the law says of the supply and of the bars. -/
theorem bars_law {x : Dt} {ds : List Dm} (h : S.look x (S.dems ds) = true) {rs : List Rod} (hrs : RodsOf x (S.nOf x) rs) (z : Bx) (p : Int) :
    S.supplyAt x rs (S.cOf x) z p ≤ S.areas rs (S.barsL rs p (S.kept x rs (S.cOf x) z p)) ∧ (S.supplyAt x rs (S.cOf x) z p = 0 ↔ S.barsL rs p (S.kept x rs (S.cOf x) z p) = []) := by
  have g := look_ok h
  have main : ∀ (K : List SCh), (∀ c, c ∈ K → ∃ l, l ∈ S.cOf x ∧ c = S.schOf x rs l ∧ S.supAt z p rs c = true) → ∀ u : Int,
      K.foldl (fun n r => if S.atPl p r then n + r.area else n) u ≤ u + S.areas rs (S.barsL rs p K) ∧ u ≤ K.foldl (fun n r => if S.atPl p r then n + r.area else n) u ∧ (K ≠ [] → u < K.foldl (fun n r => if S.atPl p r then n + r.area else n) u ∧ S.barsL rs p K ≠ []) := by
    intro K
    induction K with
    | nil => intro _ u; exact ⟨by simp [S.barsL, S.areas], Int.le_refl _, fun h => absurd rfl h⟩
    | cons c t ih =>
      intro hK u
      obtain ⟨l, hl, hc, hs⟩ := hK c (by simp)
      have hat : S.atPl p c = true := by
        unfold S.supAt at hs
        rw [Bool.and_eq_true] at hs
        exact hs.1
      rw [hc] at hs
      obtain ⟨i, hi, hov⟩ := chain_over h hrs hl hs
      obtain ⟨hl0, hl1, hin⟩ := g.cin l hl
      have hb : S.barsL rs p (c :: t) = c.l.filter (S.overP rs p) ++ S.barsL rs p t := by unfold S.barsL; rw [List.flatMap_cons]
      have hcl : c.l = l := by rw [hc]; rfl
      have him : i ∈ c.l.filter (S.overP rs p) := List.mem_filter.2 ⟨by rw [hcl]; exact hi, hov⟩
      have hmm : minBy (S.sizeI rs) l ∈ l := by have := minBy_mem (S.sizeI rs) (xs := l) (k := l.length) hl0 (Nat.le_refl _); rwa [List.take_length] at this
      have hca : c.area = S.areaI rs (minBy (S.sizeI rs) l) := by rw [hc]; rfl
      have hp1 := areaI_pos g.laid hrs (hin _ hmm)
      have hle : c.area ≤ S.areaI rs i := by
        rw [hca]
        unfold S.areaI
        refine area_mono ?_ (minBy_le (S.sizeI rs) i hi)
        have := hp1.2.2
        rcases size_cases this with h | h | h | h | h | h | h | h | h <;> omega
      have hge : S.areaI rs i ≤ S.areas rs (c.l.filter (S.overP rs p)) := areas_ge (fun j hj => by
        have := (areaI_pos g.laid hrs (hin j (by rw [← hcl]; exact (List.mem_filter.1 hj).1))).1
        omega) him
      obtain ⟨i1, i2, i3⟩ := ih (fun c hc => hK c (by simp [hc])) (u + c.area)
      rw [List.foldl_cons, if_pos hat, hb, areas_app]
      refine ⟨by omega, by have := hp1.1; omega, fun _ => ⟨by have := hp1.1; omega, fun he => ?_⟩⟩
      rw [List.append_eq_nil_iff] at he
      rw [he.1] at him
      cases him
  obtain ⟨h1, h2, h3⟩ := main (S.kept x rs (S.cOf x) z p) (fun c hc => kept_mem hc) 0
  unfold S.supplyAt S.valueAt
  unfold S.kept at h1 h2 h3 ⊢
  refine ⟨by omega, fun he => ?_, fun he => ?_⟩
  · by_cases hk : (S.cOf x |>.map (S.schOf x rs)).filter (S.supAt z p rs) = []
    · rw [hk]; rfl
    · have := (h3 hk).1
      omega
  · by_cases hk : (S.cOf x |>.map (S.schOf x rs)).filter (S.supAt z p rs) = []
    · rw [hk]; rfl
    · exact absurd he (h3 hk).2
end Go.Proofs.YtffkmgjmlahfpaaGreat
set_option linter.unusedVariables false
set_option linter.unusedSimpArgs false
namespace Go.Proofs.YtffkmgjmlahfpaaGreat
open Go.RowKit
abbrev zbxC : Array Value := #[.int .i64 0, .int .i64 0, .int .i64 0, .int .i64 0, .int .i64 0, .int .i64 0]
theorem ba_set6 {w W : World} {g : Nat} (h : Below w.heap.size w W) (hg : w.heap.size ≤ g) (v0 v1 v2 v3 v4 v5 : Value) : Below w.heap.size w ((((((W.setCell ⟨g, 0, none⟩ v0).setCell ⟨g, 1, none⟩ v1).setCell ⟨g, 2, none⟩ v2).setCell ⟨g, 3, none⟩ v3).setCell ⟨g, 4, none⟩ v4).setCell ⟨g, 5, none⟩ v5) :=
  ba_set (ba_set (ba_set (ba_set (ba_set (ba_set h hg _) hg _) hg _) hg _) hg _) hg _
set_option maxHeartbeats 4000000 in
theorem Leg_any (x : Dt) (n i : Nat) (w : World) (hi : i < n) (hn : n ≤ 2000) (hl : S.laid (bars x.bs) x.rs = true)
    (hLV : ∀ W, Below w.heap.size w W → Calls Tryz.prog 87 #[dtV x] W fun e w' => e = .returned (.bool true) ∧ Below W.heap.size W w')
    (hRD : ∀ W, Below w.heap.size w W → Calls Tryz.prog 92 #[dtV x] W (GivesRods x n W)) :
    Calls Tryz.prog 39 #[dtV x, .int .i64 i] w fun e w' => ∃ r, RodOk x i r ∧ e = .returned (.tuple #[boxV (if r.main < 0 then S.zbox else S.legOf r), .int .i64 (if r.main < 0 then 12 else 0)]) ∧ Below w.heap.size w w' := by
  have HLV := Lib.hid hLV
  have HRD := Lib.hid hRD
  clear hLV hRD
  unfold dtV at HLV HRD
  unfold dtV
  have hDB := (Blk.new w 34 #[.string x.m.name, .slice x.mA x.mn x.mc, .slice x.hA x.hn x.hc, .int .i64 x.m.cover, .int .i64 x.m.aggr, .int .i64 x.m.poker, .slice x.bA x.bn x.bc, .slice x.rA x.rn x.rc, .slice x.jA x.jn x.jc, .slice x.dA x.dn x.dc, .int .i64 x.rule.num, .int .i64 x.rule.den, .int .i64 x.rule.pnum, .int .i64 x.rule.pden, .int .i64 x.rule.bnum, .int .i64 x.rule.bden, .int .i64 x.rule.lnum, .int .i64 x.rule.lden, .int .i64 x.rule.least]).alloc (.cells zbxC 89)
  have hSB := Blk.newN (W := w.alloc (.cells #[.string x.m.name, .slice x.mA x.mn x.mc, .slice x.hA x.hn x.hc, .int .i64 x.m.cover, .int .i64 x.m.aggr, .int .i64 x.m.poker, .slice x.bA x.bn x.bc, .slice x.rA x.rn x.rc, .slice x.jA x.jn x.jc, .slice x.dA x.dn x.dc, .int .i64 x.rule.num, .int .i64 x.rule.den, .int .i64 x.rule.pnum, .int .i64 x.rule.pden, .int .i64 x.rule.bnum, .int .i64 x.rule.bden, .int .i64 x.rule.lnum, .int .i64 x.rule.lden, .int .i64 x.rule.least] 34)) (n := w.heap.size + 1) (by simp) 89 zbxC
  have hW1 : Below w.heap.size w ((w.alloc (.cells #[.string x.m.name, .slice x.mA x.mn x.mc, .slice x.hA x.hn x.hc, .int .i64 x.m.cover, .int .i64 x.m.aggr, .int .i64 x.m.poker, .slice x.bA x.bn x.bc, .slice x.rA x.rn x.rc, .slice x.jA x.jn x.jc, .slice x.dA x.dn x.dc, .int .i64 x.rule.num, .int .i64 x.rule.den, .int .i64 x.rule.pnum, .int .i64 x.rule.pden, .int .i64 x.rule.bnum, .int .i64 x.rule.bden, .int .i64 x.rule.lnum, .int .i64 x.rule.lden, .int .i64 x.rule.least] 34)).alloc (.cells zbxC 89)) := ba_alloc (ba_alloc (Below.refl _ _) _) _
  go_enter Tryz.func39, Tryz.ntmps39
  go_upto_region 1 with fail
  generalize ((w.alloc (.cells #[.string x.m.name, .slice x.mA x.mn x.mc, .slice x.hA x.hn x.hc, .int .i64 x.m.cover, .int .i64 x.m.aggr, .int .i64 x.m.poker, .slice x.bA x.bn x.bc, .slice x.rA x.rn x.rc, .slice x.jA x.jn x.jc, .slice x.dA x.dn x.dc, .int .i64 x.rule.num, .int .i64 x.rule.den, .int .i64 x.rule.pnum, .int .i64 x.rule.pden, .int .i64 x.rule.bnum, .int .i64 x.rule.bden, .int .i64 x.rule.lnum, .int .i64 x.rule.lden, .int .i64 x.rule.least] 34)).alloc (.cells zbxC 89)) = W1 at *
  have HDB := Lib.hid hDB
  have HSB := Lib.hid hSB
  clear hDB hSB
  go_upto_region 4 with (first
    | ((with_reducible refine at_load 34 2 ?_); refine wpList_load_mid rfl 34 (.tmp 2) rfl _ _ rfl _ _ (HDB.out.via (by repeat (with_reducible first | exact Below.refl _ _ | assumption | refine ba_alloc ?_ _ | refine ba_drew ?_ | refine ba_drewN ?_ _ | refine ba_via (by assumption) ?_ | (refine ba_set ?_ ?_ _; rotate_left; (first | omega | (simp; omega) | simp))))).range Tryz.underlying34 rfl (by kernel_rfl) ?_)
    | (go_at_call 87; (with_reducible refine (HLV.out _ (by repeat (with_reducible first | exact Below.refl _ _ | assumption | refine ba_alloc ?_ _ | refine ba_drew ?_ | refine ba_drewN ?_ _ | refine ba_via (by assumption) ?_ | (refine ba_set ?_ ?_ _; rotate_left; (first | omega | (simp; omega) | simp))))).mono ?_); rintro e w1 ⟨rfl, hbw1⟩)
    | (go_at_call 92; (with_reducible refine (HRD.out _ (by repeat (with_reducible first | exact Below.refl _ _ | assumption | refine ba_alloc ?_ _ | refine ba_drew ?_ | refine ba_drewN ?_ _ | refine ba_via (by assumption) ?_ | (refine ba_set ?_ ?_ _; rotate_left; (first | omega | (simp; omega) | simp))))).mono ?_); rintro e w2 ⟨A1, c1, rs, rfl, hrl, hok, hRA, hbw2⟩; have HRL := Lib.hid hrl; have HOK := Lib.hid hok; have HRA := Lib.hid hRA; clear hrl hok hRA))
  have hw2 : Below w.heap.size w w2 := ba_via hbw2 (ba_via hbw1 hW1)
  have hb12 : Below W1.heap.size W1 w2 := ba_via hbw2 hbw1
  have hS2 := HSB.out.via hb12
  have s0 := hS2.cell 0
  have s1 := hS2.cell 1
  have s2 := hS2.cell 2
  have s3 := hS2.cell 3
  have s4 := hS2.cell 4
  have s5 := hS2.cell 5
  have f0 := hS2.frozen 0
  have f1 := hS2.frozen 1
  have f2 := hS2.frozen 2
  have f3 := hS2.frozen 3
  have f4 := hS2.frozen 4
  have f5 := hS2.frozen 5
  have sl := hS2.lt
  simp only [List.getElem?_toArray, List.getElem?_cons_zero, List.getElem?_cons_succ] at s0 s1 s2 s3 s4 s5
  have hix : i < rs.length := by have := HRL.out; omega
  have hRO := HOK.out i hix
  have hF := rod_fit hRO hl
  have hRC := (own_cells HRA.out.own (by have := HRL.out; unfold maxLen; omega)).1
  have HLG := Lib.hid (HRA.out.each _ (List.getElem_mem hix)).cells
  obtain ⟨b1, o1, hA1, hb1, hxx⟩ := hRC.at_ (by rw [flat_len rodC 7 rodC_len]; omega)
  clear hxx
  subst hA1
  have m0 := hRC.row0 rodC_len hix rfl
  have m1 := hRC.rowj rodC_len hix 1 rfl
  have m2 := hRC.rowj rodC_len hix 2 rfl
  have m3 := hRC.rowj rodC_len hix 3 rfl
  have m4 := hRC.rowj rodC_len hix 4 rfl
  have m5 := hRC.rowj rodC_len hix 5 rfl
  have m6 := hRC.rowj rodC_len hix 6 rfl
  have hii : (i : Int) < rs.length := by omega
  have hi0 : ¬ ((i : Int) < 0) := by omega
  have hi1 : ¬ ((rs.length : Int) ≤ i) := by omega
  clear hRC HRA HOK HLV HRD HDB HSB hbw1 hbw2
  have HF := Lib.hid hF
  have HRO := Lib.hid hRO
  clear hF hRO
  generalize rs[i] = r at *
  by_cases h1 : r.main < 0
  · have hbF := ba_set6 (g := w.heap.size + 1) hw2 (Nat.le_succ _) (.int .i64 0) (.int .i64 0) (.int .i64 0) (.int .i64 0) (.int .i64 0) (.int .i64 0)
    go_wp2
    exact bodyPost_ret (v := .tuple #[.agg zbxC, .int .i64 12]) (by simp [results, Tryz.results39, go_sem, *]) rfl ⟨r, HRO.out, by rw [if_pos h1, if_pos h1]; rfl, hbF⟩
  · obtain ⟨ja, hja, hjae, hjam⟩ := idxf_some (xs := r.legs) (p := S.isMainB) (by rw [← HF.out.main]; omega)
    have hma : r.main = (ja : Int) := HF.out.main.trans hjae
    have hLa : S.legOf r = r.legs[ja] := by unfold S.legOf; rw [hma]; simp [List.getD_eq_getElem?_getD, hja]
    have HG1 := Lib.hid (rleg_any r ja (S.legOf r) w2.heap.size w2 (Nat.le_refl _) (by rw [hLa]; exact List.getElem?_eq_getElem hja) hma HLG.out)
    unfold boxV rodV at HG1
    clear hja hjae hjam hma hLa
    generalize hLL : S.legOf r = L at *
    have HLL := Lib.hid hLL
    clear hLL
    go_upto_region 10 with fail
    go_wp2_with (go_at_call 90; (with_reducible refine HG1.out.mono ?_); rintro e w3 ⟨rfl, hb3⟩; have hS3 := hS2.via hb3; have s0 := hS3.cell 0; have s1 := hS3.cell 1; have s2 := hS3.cell 2; have s3 := hS3.cell 3; have s4 := hS3.cell 4; have s5 := hS3.cell 5; have f0 := hS3.frozen 0; have f1 := hS3.frozen 1; have f2 := hS3.frozen 2; have f3 := hS3.frozen 3; have f4 := hS3.frozen 4; have f5 := hS3.frozen 5; have sl3 := hS3.lt; have hw3 : Below w.heap.size w w3 := ba_via hb3 hw2; simp only [List.getElem?_toArray, List.getElem?_cons_zero, List.getElem?_cons_succ] at s0 s1 s2 s3 s4 s5)
    have hbF := ba_set6 (g := w.heap.size + 1) hw3 (Nat.le_succ _) (.int .i64 L.lo.x) (.int .i64 L.lo.y) (.int .i64 L.lo.z) (.int .i64 L.hi.x) (.int .i64 L.hi.y) (.int .i64 L.hi.z)
    exact bodyPost_ret (v := .tuple #[.agg #[.int .i64 L.lo.x, .int .i64 L.lo.y, .int .i64 L.lo.z, .int .i64 L.hi.x, .int .i64 L.hi.y, .int .i64 L.hi.z], .int .i64 0]) (by simp [results, Tryz.results39, go_sem, *]) rfl ⟨r, HRO.out, by rw [if_neg (show ¬ r.main < 0 by omega), if_neg (show ¬ r.main < 0 by omega), HLL.out], hbF⟩
end Go.Proofs.YtffkmgjmlahfpaaGreat
