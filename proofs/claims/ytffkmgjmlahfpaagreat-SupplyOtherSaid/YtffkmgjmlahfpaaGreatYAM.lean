/- Contracts: slices.IndexFunc, ContainsFunc over ints, of a function that answers for the members alone; the reference's In. Contract: supply.suppliers. Contract: supply.Of of a valid detail. -/
import Derived.Test.YtffkmgjmlahfpaaGreatYAE
import Derived.Test.YtffkmgjmlahfpaaGreatYAH
import Derived.Test.YtffkmgjmlahfpaaGreatYAI
set_option linter.unusedVariables false
set_option linter.unusedSimpArgs false
namespace Go.Proofs.YtffkmgjmlahfpaaGreat
open Go.RowKit
def AsksM (w : World) (F : Nat) (fst cap : Array Value) (xs : List Int) (p : Int → Bool) : Prop :=
  ∀ (x : Int), x ∈ xs → ∀ (w' : World), Below w.heap.size w w' → Calls Tryz.prog F (fst.push (.int .i64 x) ++ cap) w' fun e w'' => e = .returned (.bool (p x)) ∧ Below w'.heap.size w' w''
theorem indexfM_any (F : Nat) (fst cap : Array Value) (p : Int → Bool) (A : Option Addr) (n c : Nat) (xs : List Int) (B : Nat) (w : World) (hn : xs.length = n) (hm : n ≤ 9223372036854775807) (hB : B ≤ w.heap.size)
    (hs : Cells w B A (i64s xs)) (hF : ∀ args w, Sem.run Tryz.prog (callFunc F args) w = .ok (.enter F args) w) (hf : AsksM w F fst cap xs p) :
    Calls Tryz.prog 199 #[.slice A n c, .func (.func F) fst cap] w fun e w' => e = .returned (.int .i64 (idxf xs p)) ∧ Below w.heap.size w w' := by
  have HN := Lib.hid hn
  clear hn
  go_enter Tryz.func199, Tryz.ntmps199
  go_wp2
  go_loopw [8] (fun i wr => ∃ k : Nat, k ≤ n ∧ i = .int .i64 k ∧ (∀ j (h : j < xs.length), j < k → p xs[j] = false) ∧ Below w.heap.size w wr) (fun i _ => n - (intOf i).toNat)
  case atStart => exact ⟨0, Nat.zero_le _, rfl, fun j _ hj => absurd hj (by omega), Below.refl _ _⟩
  case round =>
    obtain ⟨k, hk, rfl, hno, hbr⟩ := hrel
    have HNO := Lib.hid hno
    clear hno
    by_cases hlt : k < n
    · have hkx : k < xs.length := by have := HN.out; omega
      have hs' := hs.below (hbr.mono hB)
      obtain ⟨b, o, rfl, _, hc⟩ := hs'.at_ (by simp; omega)
      have hck := hc k _ (i64s_get hkx)
      clear hc
      by_cases hx : p xs[k] = true
      · go_wp2_with (refine (hf _ (List.getElem_mem hkx) _ hbr).mono ?_; rintro e w1 ⟨rfl, hb1⟩)
        go_ret
        exact ⟨ret_i (idxf_hit hkx hx HNO.out).symm, hbr.trans (hb1.mono hbr.size)⟩
      · have hx' : p xs[k] = false := by simpa using hx
        clear hx
        go_wp2_with (refine (hf _ (List.getElem_mem hkx) _ hbr).mono ?_; rintro e w1 ⟨rfl, hb1⟩)
        go_roundw
        case rel =>
          refine ⟨k + 1, by omega, by go_num, fun j hj hjk => ?_, hbr.trans (hb1.mono hbr.size)⟩
          by_cases hjk' : j = k
          · subst hjk'; exact hx'
          · exact HNO.out j hj (by omega)
        case measure => simp [intOf]; omega
    · go_wp2
      go_ret
      exact ⟨ret_i (idxf_miss (fun j hj => HNO.out j hj (by have := HN.out; omega))).symm, hbr⟩
theorem containsfM_any (F : Nat) (fst cap : Array Value) (p : Int → Bool) (A : Option Addr) (n c : Nat) (xs : List Int) (B : Nat) (w : World) (hn : xs.length = n) (hm : n ≤ 9223372036854775807) (hB : B ≤ w.heap.size)
    (hs : Cells w B A (i64s xs)) (hF : ∀ args w, Sem.run Tryz.prog (callFunc F args) w = .ok (.enter F args) w) (hf : AsksM w F fst cap xs p) :
    Calls Tryz.prog 139 #[.slice A n c, .func (.func F) fst cap] w fun e w' => e = .returned (.bool (anyb xs p)) ∧ Below w.heap.size w w' := by
  have HN := Lib.hid hn
  have HF := Lib.hid hF
  have he : decide (0 ≤ idxf xs p) = anyb xs p := idxf_ge xs p
  clear hn hF
  go_enter Tryz.func139, Tryz.ntmps139
  go_wp2_with (go_at_call 199; refine (indexfM_any F fst cap p _ _ _ xs B _ HN.out hm hB hs HF.out hf).mono ?_; rintro e w1 ⟨rfl, hb1⟩)
  go_ret
  exact ⟨rfl, bel⟩
def S.outI (rs : List Rod) (z : Bx) (i : Int) : Bool := match rs[i.toNat]? with | some r => S.outside r z | none => false
def S.sup (rs : List Rod) (z : Bx) (c : SCh) : Bool := c.is && !(anyb c.l (S.outI rs z))
def GivesSups (x : Dt) (C : List (List Int)) (n : Nat) (keep : List Rod → SCh → Bool) (w : World) (e : Ending) (w' : World) : Prop :=
  ∃ (A1 : Option Addr) (c1 : Nat) (rs : List Rod) (A2 : Option Addr) (c2 : Nat) (cs : List SCh) (b2 : Nat), e = .returned (.tuple #[.slice A1 rs.length c1, .slice A2 (cs.filter (keep rs)).length c2, .int .i64 0]) ∧ rs.length = n ∧ (∀ (i : Nat) (hi : i < rs.length), RodOk x i rs[i]) ∧ w.heap.size ≤ b2 ∧ b2 ≤ w'.heap.size ∧
    Cells w' b2 A1 (rs.flatMap rodC) ∧ (∀ r, r ∈ rs → Cells w' b2 r.A (r.legs.flatMap boxC)) ∧ w'.ownsRow b2 152 5 (.slice A2 (cs.filter (keep rs)).length c2) (cs.filter (keep rs)).length ((cs.filter (keep rs)).flatMap schC) ∧
    cs.length = C.length ∧ (∀ (i : Nat) (hi : i < cs.length) (hj : i < C.length), SchOk x rs C[i] cs[i]) ∧ (∀ c, c ∈ cs → Cells w' b2 c.A (i64s c.l)) ∧ Below w.heap.size w w'
theorem DemsAt.wide {w : World} {B B' : Nat} {A : Option Addr} {n : Nat} {ds : List Dm} (h : DemsAt w B A n ds) (hB : B ≤ B') : DemsAt w B' A n ds :=
  ⟨h.len, h.max, h.cells.mono hB, fun d hd => ⟨(h.each d hd).len, (h.each d hd).max, (h.each d hd).cells.mono hB⟩, h.name⟩
set_option maxRecDepth 20000 in
set_option maxHeartbeats 8000000 in
theorem sups_any (x : Dt) (C : List (List Int)) (n : Nat) (ds : List Dm) (k : Nat) (d : Dm) (B : Nat) (w : World) (hB : B ≤ w.heap.size) (hA : DtAt w B x) (hD : DemsAt w B x.dA x.dn ds) (hk : ds[k]? = some d) (hrt : S.demRight d = true) (hl : S.laid (bars x.bs) x.rs = true) (hn : n ≤ 2000) (hC : C.length ≤ 2000)
    (hCI : ∀ l, l ∈ C → 0 < l.length ∧ l.length ≤ 2001 ∧ ∀ i, i ∈ l → 0 ≤ i ∧ i < (n : Int))
    (hCH : ∀ W, Below w.heap.size w W → Calls Tryz.prog 93 #[dtV x] W (GivesSup x C n W)) :
    Calls Tryz.prog 83 #[dtV x, .int .i64 k] w (GivesSups x C n (fun rs => S.sup rs d.zone) w) := by
  have HCH := Lib.hid hCH
  have HD := Lib.hid hD
  have HCI := Lib.hid hCI
  have hkx : k < ds.length := (List.getElem?_eq_some_iff.1 hk).1
  have hkd : (k : Int) < x.dn := by have := hD.len; omega
  clear hCH hD hCI
  unfold dtV at HCH
  unfold dtV
  have hDB := (Blk.new w 34 #[.string x.m.name, .slice x.mA x.mn x.mc, .slice x.hA x.hn x.hc, .int .i64 x.m.cover, .int .i64 x.m.aggr, .int .i64 x.m.poker, .slice x.bA x.bn x.bc, .slice x.rA x.rn x.rc, .slice x.jA x.jn x.jc, .slice x.dA x.dn x.dc, .int .i64 x.rule.num, .int .i64 x.rule.den, .int .i64 x.rule.pnum, .int .i64 x.rule.pden, .int .i64 x.rule.bnum, .int .i64 x.rule.bden, .int .i64 x.rule.lnum, .int .i64 x.rule.lden, .int .i64 x.rule.least]).alloc (.cells #[.int .i64 k] 3)
  have hKB := Blk.new (w.alloc (.cells #[.string x.m.name, .slice x.mA x.mn x.mc, .slice x.hA x.hn x.hc, .int .i64 x.m.cover, .int .i64 x.m.aggr, .int .i64 x.m.poker, .slice x.bA x.bn x.bc, .slice x.rA x.rn x.rc, .slice x.jA x.jn x.jc, .slice x.dA x.dn x.dc, .int .i64 x.rule.num, .int .i64 x.rule.den, .int .i64 x.rule.pnum, .int .i64 x.rule.pden, .int .i64 x.rule.bnum, .int .i64 x.rule.bden, .int .i64 x.rule.lnum, .int .i64 x.rule.lden, .int .i64 x.rule.least] 34)) 3 #[.int .i64 k]
  have hW1 : Below w.heap.size w ((w.alloc (.cells #[.string x.m.name, .slice x.mA x.mn x.mc, .slice x.hA x.hn x.hc, .int .i64 x.m.cover, .int .i64 x.m.aggr, .int .i64 x.m.poker, .slice x.bA x.bn x.bc, .slice x.rA x.rn x.rc, .slice x.jA x.jn x.jc, .slice x.dA x.dn x.dc, .int .i64 x.rule.num, .int .i64 x.rule.den, .int .i64 x.rule.pnum, .int .i64 x.rule.pden, .int .i64 x.rule.bnum, .int .i64 x.rule.bden, .int .i64 x.rule.lnum, .int .i64 x.rule.lden, .int .i64 x.rule.least] 34)).alloc (.cells #[.int .i64 k] 3)) := ba_alloc (ba_alloc (Below.refl _ _) _) _
  go_enter Tryz.func83, Tryz.ntmps83
  go_upto_region 1 with fail
  rw [show (w.alloc (.cells #[.string x.m.name, .slice x.mA x.mn x.mc, .slice x.hA x.hn x.hc, .int .i64 x.m.cover, .int .i64 x.m.aggr, .int .i64 x.m.poker, .slice x.bA x.bn x.bc, .slice x.rA x.rn x.rc, .slice x.jA x.jn x.jc, .slice x.dA x.dn x.dc, .int .i64 x.rule.num, .int .i64 x.rule.den, .int .i64 x.rule.pnum, .int .i64 x.rule.pden, .int .i64 x.rule.bnum, .int .i64 x.rule.bden, .int .i64 x.rule.lnum, .int .i64 x.rule.lden, .int .i64 x.rule.least] 34)).heap.size = w.heap.size + 1 by simp] at hKB
  generalize ((w.alloc (.cells #[.string x.m.name, .slice x.mA x.mn x.mc, .slice x.hA x.hn x.hc, .int .i64 x.m.cover, .int .i64 x.m.aggr, .int .i64 x.m.poker, .slice x.bA x.bn x.bc, .slice x.rA x.rn x.rc, .slice x.jA x.jn x.jc, .slice x.dA x.dn x.dc, .int .i64 x.rule.num, .int .i64 x.rule.den, .int .i64 x.rule.pnum, .int .i64 x.rule.pden, .int .i64 x.rule.bnum, .int .i64 x.rule.bden, .int .i64 x.rule.lnum, .int .i64 x.rule.lden, .int .i64 x.rule.least] 34)).alloc (.cells #[.int .i64 k] 3)) = W1 at *
  have HDB := Lib.hid hDB
  have HKB := Lib.hid hKB
  clear hDB hKB
  go_upto_region 2 with (first
    | ((with_reducible refine at_load 34 2 ?_); refine wpList_load_mid rfl 34 (.tmp 2) rfl _ _ rfl _ _ (HDB.out.via belr).range Tryz.underlying34 rfl (by kernel_rfl) ?_)
    | (go_at_call 93; (with_reducible refine (HCH.out _ belr).mono ?_); rintro e w2 ⟨A1, c1, rs, A2, c2, cs, rfl, hrl, hok, hRA, hOW, hcl, hsch, hcc, hbw2⟩; have HRL := Lib.hid hrl; have HOK := Lib.hid hok; have HRA := Lib.hid hRA; have HOW := Lib.hid hOW; have HCL := Lib.hid hcl; have HSC := Lib.hid hsch; have HCC := Lib.hid hcc; clear hrl hok hRA hOW hcl hsch hcc))
  have hL2 := Blk.new w2 145 #[.slice A1 rs.length c1]
  have hb2 : Below w2.heap.size w2 (w2.alloc (.cells #[.slice A1 rs.length c1] 145)) := ba_alloc (Below.refl _ _) _
  have hs12 := hbw2.size
  have hsw1 := hW1.size
  have hwl : w.heap.size < W1.heap.size := HDB.out.lt
  have hwl1 : w.heap.size + 1 < W1.heap.size := HKB.out.lt
  have hw2 : Below w.heap.size w w2 := ba_via hbw2 hW1
  have HD3 := Lib.hid ((HDB.out.via hbw2).via hb2)
  have HK3 := Lib.hid ((HKB.out.via hbw2).via hb2)
  have HR3 := Lib.hid (HRA.out.kept hb2)
  have HO3 := Lib.hid (own_kept HOW.out (fun k hk => hb2.block k (HOW.out.lt k hk).2))
  have HC3 := Lib.hid (fun (c : SCh) (hc : c ∈ cs) => ((HCC.out c hc).below hb2).mono hb2.size)
  have hw3 : Below w.heap.size w (w2.alloc (.cells #[.slice A1 rs.length c1] 145)) := hw2.trans (hb2.mono hw2.size)
  have h23 : w2.heap.size < (w2.alloc (.cells #[.slice A1 rs.length c1] 145)).heap.size := by simp
  generalize (w2.alloc (.cells #[.slice A1 rs.length c1] 145)) = W3 at *
  generalize w2.heap.size = g7 at *
  clear HDB HKB HRA HOW HCC hbw2 hb2 hW1 HCH hw2
  obtain ⟨nc, hnc⟩ : ∃ nc, nc = cs.length := ⟨_, rfl⟩
  have HNC := Lib.hid hnc
  have hnc2 : nc ≤ 2000 := by rw [hnc, HCL.out]; exact hC
  rw [← hnc]
  clear hnc
  have d9 := HD3.out.cell 9
  have k0 := HK3.out.cell 0
  have dl := HD3.out.lt
  have kl := HK3.out.lt
  simp only [List.getElem?_toArray, List.getElem?_cons_zero, List.getElem?_cons_succ] at d9 k0
  have hk0 : ¬ ((k : Int) < 0) := by omega
  have hk1 : ¬ ((x.dn : Int) ≤ k) := by omega
  have HL3 := Lib.hid hL2
  clear hL2
  go_wp2
  go_loopw [10, 36] (fun v i wr => ∃ q : Nat, q ≤ nc ∧ i = .int .i64 q ∧ wr.ownsRow W3.heap.size 152 5 v ((cs.take q).filter (S.sup rs d.zone)).length (((cs.take q).filter (S.sup rs d.zone)).flatMap schC) ∧ Below W3.heap.size W3 wr) (fun _ i _ => nc - (intOf i).toNat)
  case atStart => exact ⟨0, Nat.zero_le _, rfl, World.ownsRow_nil _ _ _ _, Below.refl _ _⟩
  case round =>
    obtain ⟨q, hq, rfl, hO, hbr⟩ := hrel
    have HO := Lib.hid hO
    clear hO d9 k0
    by_cases hlt : q < nc
    · have hqx : q < cs.length := by have := HNC.out; omega
      have hqi : (q : Int) < nc := by omega
      have hCS := (own_cells HO3.out (by have := HNC.out; unfold maxLen; omega)).1.below hbr
      obtain ⟨b2, o2, hA2, hbb2, hxx⟩ := hCS.at_ (by rw [flat_len schC 5 schC_len]; omega)
      clear hxx
      subst hA2
      have c0 := hCS.row0 schC_len hqx rfl
      have c1' := hCS.rowj schC_len hqx 1 rfl
      have c2' := hCS.rowj schC_len hqx 2 rfl
      have c3' := hCS.rowj schC_len hqx 3 rfl
      have c4' := hCS.rowj schC_len hqx 4 rfl
      have hsr := hbr.size
      have hb2l : b2 < wr.heap.size := by omega
      have HCM := Lib.hid (show cs[q] ∈ cs from List.getElem_mem hqx)
      have HFN := Lib.hid (filter_next (S.sup rs d.zone) hqx)
      have hqC : q < C.length := by rw [← HCL.out]; exact hqx
      have hce := HCI.out C[q] (List.getElem_mem hqC)
      rw [← (HSC.out q hqx hqC).bars] at hce
      clear hCS
      generalize cs[q] = c at *
      have HCE := Lib.hid hce.2.2
      have hll := hce.2.1
      have HSP := Lib.hid (show S.sup rs d.zone c = (c.is && !(anyb c.l (S.outI rs d.zone))) from rfl)
      have HCL3 := Lib.hid ((HC3.out c HCM.out).below hbr)
      clear hce
      go_upto_region 10 with fail
      have hC12 := Blk.new wr 152 #[.slice c.A c.l.length c.c, .int .i64 c.lo, .int .i64 c.hi, .bool c.is, .int .i64 c.area]
      have hb12 : Below wr.heap.size wr (wr.alloc (.cells #[.slice c.A c.l.length c.c, .int .i64 c.lo, .int .i64 c.hi, .bool c.is, .int .i64 c.area] 152)) := ba_alloc (Below.refl _ _) _
      generalize (wr.alloc (.cells #[.slice c.A c.l.length c.c, .int .i64 c.lo, .int .i64 c.hi, .bool c.is, .int .i64 c.area] 152)) = W12 at *
      clear c0 c1' c2' c3' c4'
      have h12s := hb12.size
      have h312 : Below W3.heap.size W3 W12 := hbr.trans (hb12.mono hsr)
      have hw12 : Below w.heap.size w W12 := hw3.trans (h312.mono hw3.size)
      have HD12 := Lib.hid (HD3.out.via h312)
      have HK12 := Lib.hid (HK3.out.via h312)
      have HL12 := Lib.hid (HL3.out.via h312)
      have HR12 := Lib.hid (HR3.out.kept h312)
      have HRC := Lib.hid (own_cells HR12.out.own (by have := HRL.out; unfold maxLen; omega)).1
      have HDE := Lib.hid (DemsAt.wide (HD.out.at_ hB hw12) (size_via hB hw12))
      have h312s := h312.size
      have HCF := Lib.hid (fun (W : World) (hw : Below W12.heap.size W12 W) => containsfM_any 140 #[] #[.pointer (some ⟨g7, 0, none⟩), .pointer (some ⟨w.heap.size, 0, none⟩), .pointer (some ⟨w.heap.size + 1, 0, none⟩)] (S.outI rs d.zone) c.A c.l.length c.c c.l W12.heap.size W rfl (by omega) hw.size
        (((HCL3.out.below (hb12.mono hsr)).mono h312s).below hw) Tryz.call140 (fun i hi W' hw' => by
          have hww := hw.trans (hw'.mono hw.size)
          obtain ⟨hi0, hi1⟩ := HCE.out i hi
          obtain ⟨m, rfl⟩ := Int.eq_ofNat_of_zero_le hi0
          have hir : m < rs.length := by have := HRL.out; omega
          have hO := HOK.out m hir
          have hF := rod_fit hO hl
          have he : S.outI rs d.zone (m : Int) = S.outside rs[m] d.zone := by unfold S.outI; rw [Int.toNat_natCast, List.getElem?_eq_getElem hir]
          rw [he]
          exact outside_any rs ds m k rs[m] d g7 w.heap.size (w.heap.size + 1) A1 rs.length c1 x.dA x.dn x.dc W12.heap.size W' hww.size rfl (List.getElem?_eq_getElem hir) hk ((HL12.out.via hww).cell 0) ((HD12.out.via hww).cell 9) ((HK12.out.via hww).cell 0) (HL12.out.via hww).lt (HD12.out.via hww).lt (HK12.out.via hww).lt
            (HRC.out.below hww) (HDE.out.below hww) ((HR12.out.each _ (List.getElem_mem hir)).cells.below hww) hrt hF.main hF.legs))
      have t0 := hC12.cell 0
      have tl := hC12.lt
      simp only [List.getElem?_toArray, List.getElem?_cons_zero, List.getElem?_cons_succ] at t0
      have HC12 := Lib.hid hC12
      clear hC12
      generalize anyb c.l (S.outI rs d.zone) = ab at *
      go_upto_region 11 with (go_at_call 139; (with_reducible refine (HCF.out _ belr).mono ?_); rintro e w5 ⟨rfl, hbw5⟩)
      have hC5 := HC12.out.via hbw5
      have hb5 : Below wr.heap.size wr w5 := ba_via hbw5 hb12
      have HO5 := Lib.hid (own_kept HO.out (fun k hk => hb5.block k (HO.out.lt k hk).2))
      have h5s := hb5.size
      have hb35 : Below W3.heap.size W3 w5 := hbr.trans (hb5.mono hsr)
      have s0 := hC5.cell 0
      have s1 := hC5.cell 1
      have s2 := hC5.cell 2
      have s3 := hC5.cell 3
      have s4 := hC5.cell 4
      have sl := hC5.lt
      simp only [List.getElem?_toArray, List.getElem?_cons_zero, List.getElem?_cons_succ] at s0 s1 s2 s3 s4
      clear HCF hbw5 hb12 t0 tl hC5 HC12 HR12 HRC HDE HD12 HK12 HL12 HCL3 hw12 h312 hb5
      have HB35 := Lib.hid hb35
      cases his : c.is
      · rw [his] at s3 HSP
        have HFE := Lib.hid (show (cs.take (q + 1)).filter (S.sup rs d.zone) = (cs.take q).filter (S.sup rs d.zone) by rw [HFN.out, HSP.out]; simp)
        go_wp2
        go_roundw
        case rel => exact ⟨q + 1, by omega, by go_num, by rw [HFE.out]; exact HO5.out, HB35.out⟩
        case measure => simp [intOf]; omega
      · rw [his] at s3 HSP
        cases ab
        · have HFE := Lib.hid (show (cs.take (q + 1)).filter (S.sup rs d.zone) = (cs.take q).filter (S.sup rs d.zone) ++ [c] by rw [HFN.out, HSP.out]; simp)
          have hfl := List.length_filter_le (S.sup rs d.zone) (cs.take q)
          rw [List.length_take] at hfl
          have hfl2 : ((cs.take q).filter (S.sup rs d.zone)).length ≤ 2000 := by omega
          clear hfl
          have hbE1 : W3.heap.size ≤ w5.heap.size := by omega
          go_wp2_with (at_builtin; refine wpList_push rfl (.tmp 50) (.tmp 52) _ rfl elemSch ((show Row w5 w5 u10.ownBlock W3.heap.size 152 5 u10 ((cs.take q).filter (S.sup rs d.zone)).length (((cs.take q).filter (S.sup rs d.zone)).flatMap schC) from ⟨HO5.out, fun k hk => .inl hk.symm⟩).alloc _) ((Exc.refl u10.ownBlock.toList w5).alloc _) (by intro k hk; simp [hk]) hbE1 rfl w5.heap.size 1 1 [.slice c.A c.l.length c.c, .int .i64 c.lo, .int .i64 c.hi, .bool true, .int .i64 c.area] rfl rfl ?_ (by simp [Value.oneCell']) (by unfold maxLen; omega) (by omega) ?_; (· intro j u hu; have := (Cells.newRow w5 #[.slice c.A c.l.length c.c, .int .i64 c.lo, .int .i64 c.hi, .bool true, .int .i64 c.area] 152 (0, 0)).get (k := j) (v := u) hu; simpa using this); intro v2 wE hRE hXE hOE)
          have hown := hRE.own
          rw [show ([.slice c.A c.l.length c.c, .int .i64 c.lo, .int .i64 c.hi, .bool true, .int .i64 c.area] : List Value) = schC c from by rw [← his]] at hown
          have hbE : Below W3.heap.size W3 wE := HB35.out.trans (hXE.below (by omega) (fun g hg => (HO5.out.lt g (by simpa using hg)).1))
          go_roundw
          case rel => exact ⟨q + 1, by omega, by go_num, by rw [HFE.out]; simpa using hown, hbE⟩
          case measure => simp [intOf]; omega
        · have HFE := Lib.hid (show (cs.take (q + 1)).filter (S.sup rs d.zone) = (cs.take q).filter (S.sup rs d.zone) by rw [HFN.out, HSP.out]; simp)
          go_wp2
          go_roundw
          case rel => exact ⟨q + 1, by omega, by go_num, by rw [HFE.out]; exact HO5.out, HB35.out⟩
          case measure => simp [intOf]; omega
    · have hqn : q = nc := by omega
      have HFE := Lib.hid (show (cs.take q).filter (S.sup rs d.zone) = cs.filter (S.sup rs d.zone) by rw [List.take_of_length_le (by have := HNC.out; omega)])
      have hO := HO.out
      rw [HFE.out] at hO
      have hfl := List.length_filter_le (S.sup rs d.zone) cs
      obtain ⟨A5, c5, rfl, _, _, _⟩ := own_form hO (by have := HNC.out; unfold maxLen; omega)
      have hL := HL3.out.via hbr
      have l0 := hL.cell 0
      have ll := hL.lt
      simp only [List.getElem?_toArray, List.getElem?_cons_zero, List.getElem?_cons_succ] at l0
      have HO9 := Lib.hid hO
      have hqi : ¬ ((q : Int) < nc) := by omega
      clear hO hL hqn hfl
      go_wp2
      go_returns
      have hRc := (own_cells HR3.out.own (by have := HRL.out; unfold maxLen; omega)).1
      exact ⟨A1, c1, rs, A5, c5, cs, W3.heap.size, rfl, HRL.out, HOK.out, hw3.size, hbr.size, hRc.below hbr, fun r hr => (HR3.out.each r hr).cells.below hbr, HO9.out, HCL.out, HSC.out, fun c hc => (HC3.out c hc).below hbr, hw3.trans (hbr.mono hw3.size)⟩
def S.ends2 (l : List SCh) : List Int := l.flatMap fun c => [c.lo, c.hi]
def S.places (l : List SCh) : List Int := Go.Lib.compact (S.sortI (S.ends2 l))
def S.ofF (l : List SCh) (ps : List Int) : Int × List Stp := ps.foldl (fun x p => if S.valueAt p l = x.1 then x else (S.valueAt p l, x.2 ++ [⟨p, S.valueAt p l⟩])) (0, [])
def S.ofL (l : List SCh) : List Stp := (S.ofF l (S.places l)).2
theorem ends2_len (l : List SCh) : (S.ends2 l).length = l.length * 2 := by
  unfold S.ends2
  induction l with
  | nil => rfl
  | cons a t ih => rw [List.flatMap_cons, List.length_append, ih, List.length_cons]; simp only [List.length_cons, List.length_nil]; omega
theorem ends2_next {l : List SCh} {k : Nat} (h : k < l.length) : S.ends2 (l.take (k + 1)) = S.ends2 (l.take k) ++ [l[k].lo, l[k].hi] := by
  have e : l.take (k + 1) = l.take k ++ [l[k]] := by rw [List.take_add_one, List.getElem?_eq_getElem h]; rfl
  unfold S.ends2
  rw [e, List.flatMap_append]
  simp
theorem places_len (l : List SCh) : (S.places l).length ≤ l.length * 2 := by
  unfold S.places
  have := Go.Lib.compact_length_le (S.sortI (S.ends2 l))
  rw [sortI_len, ends2_len] at this
  exact this
theorem ofF_next (l : List SCh) {ps : List Int} {k : Nat} (h : k < ps.length) : S.ofF l (ps.take (k + 1)) = if S.valueAt ps[k] l = (S.ofF l (ps.take k)).1 then S.ofF l (ps.take k) else (S.valueAt ps[k] l, (S.ofF l (ps.take k)).2 ++ [⟨ps[k], S.valueAt ps[k] l⟩]) := by
  have e : ps.take (k + 1) = ps.take k ++ [ps[k]] := by rw [List.take_add_one, List.getElem?_eq_getElem h]; rfl
  unfold S.ofF
  rw [e, List.foldl_append]
  rfl
theorem ofF_len (l : List SCh) (ps : List Int) : (S.ofF l ps).2.length ≤ ps.length := by
  suffices hs : ∀ (ps : List Int) (x : Int × List Stp), (ps.foldl (fun x p => if S.valueAt p l = x.1 then x else (S.valueAt p l, x.2 ++ [⟨p, S.valueAt p l⟩])) x).2.length ≤ x.2.length + ps.length by
    have := hs ps (0, [])
    unfold S.ofF
    simpa using this
  intro ps
  induction ps with
  | nil => intro x; simp
  | cons a t ih =>
    intro x
    rw [List.foldl_cons]
    refine Nat.le_trans (ih _) ?_
    split
    · simp only [List.length_cons]; omega
    · simp only [List.length_cons, List.length_append, List.length_nil]; omega
set_option maxRecDepth 20000 in
set_option maxHeartbeats 8000000 in
theorem Of_any (x : Dt) (C : List (List Int)) (n : Nat) (z : Bx) (k : Nat) (w : World) (hC : C.length ≤ 100)
    (har : ∀ (rs : List Rod) (l : List Int) (c : SCh), (∀ (i : Nat) (hi : i < rs.length), RodOk x i rs[i]) → rs.length = n → l ∈ C → SchOk x rs l c → 0 ≤ c.area ∧ c.area ≤ 1000000)
    (hst : ∀ (rs : List Rod) (cs : List SCh), (∀ (i : Nat) (hi : i < rs.length), RodOk x i rs[i]) → rs.length = n → cs.length = C.length → (∀ (i : Nat) (hi : i < cs.length) (hj : i < C.length), SchOk x rs C[i] cs[i]) → S.steps (S.ofL (cs.filter (S.sup rs z))) = true)
    (hSU : ∀ W, Below w.heap.size w W → Calls Tryz.prog 83 #[dtV x, .int .i64 k] W (GivesSups x C n (fun rs => S.sup rs z) W)) :
    Calls Tryz.prog 31 #[dtV x, .int .i64 k] w fun e w' => ∃ (A : Option Addr) (c : Nat) (rs : List Rod) (cs : List SCh), e = .returned (.tuple #[.slice A (S.shortSt (S.ofL (cs.filter (S.sup rs z)))).length c, .int .i64 0]) ∧ rs.length = n ∧ (∀ (i : Nat) (hi : i < rs.length), RodOk x i rs[i]) ∧ cs.length = C.length ∧ (∀ (i : Nat) (hi : i < cs.length) (hj : i < C.length), SchOk x rs C[i] cs[i]) ∧
      w'.ownsRow w.heap.size 81 2 (.slice A (S.shortSt (S.ofL (cs.filter (S.sup rs z)))).length c) (S.shortSt (S.ofL (cs.filter (S.sup rs z)))).length ((S.shortSt (S.ofL (cs.filter (S.sup rs z)))).flatMap stC) ∧ Below w.heap.size w w' := by
  have HSU := Lib.hid hSU
  have HAR := Lib.hid har
  have HST := Lib.hid hst
  clear hSU har hst
  unfold dtV at HSU
  unfold dtV
  have hDB := Blk.new w 34 #[.string x.m.name, .slice x.mA x.mn x.mc, .slice x.hA x.hn x.hc, .int .i64 x.m.cover, .int .i64 x.m.aggr, .int .i64 x.m.poker, .slice x.bA x.bn x.bc, .slice x.rA x.rn x.rc, .slice x.jA x.jn x.jc, .slice x.dA x.dn x.dc, .int .i64 x.rule.num, .int .i64 x.rule.den, .int .i64 x.rule.pnum, .int .i64 x.rule.pden, .int .i64 x.rule.bnum, .int .i64 x.rule.bden, .int .i64 x.rule.lnum, .int .i64 x.rule.lden, .int .i64 x.rule.least]
  have hW1 : Below w.heap.size w (w.alloc (.cells #[.string x.m.name, .slice x.mA x.mn x.mc, .slice x.hA x.hn x.hc, .int .i64 x.m.cover, .int .i64 x.m.aggr, .int .i64 x.m.poker, .slice x.bA x.bn x.bc, .slice x.rA x.rn x.rc, .slice x.jA x.jn x.jc, .slice x.dA x.dn x.dc, .int .i64 x.rule.num, .int .i64 x.rule.den, .int .i64 x.rule.pnum, .int .i64 x.rule.pden, .int .i64 x.rule.bnum, .int .i64 x.rule.bden, .int .i64 x.rule.lnum, .int .i64 x.rule.lden, .int .i64 x.rule.least] 34)) := ba_alloc (Below.refl _ _) _
  go_enter Tryz.func31, Tryz.ntmps31
  go_upto_region 1 with fail
  generalize (w.alloc (.cells #[.string x.m.name, .slice x.mA x.mn x.mc, .slice x.hA x.hn x.hc, .int .i64 x.m.cover, .int .i64 x.m.aggr, .int .i64 x.m.poker, .slice x.bA x.bn x.bc, .slice x.rA x.rn x.rc, .slice x.jA x.jn x.jc, .slice x.dA x.dn x.dc, .int .i64 x.rule.num, .int .i64 x.rule.den, .int .i64 x.rule.pnum, .int .i64 x.rule.pden, .int .i64 x.rule.bnum, .int .i64 x.rule.bden, .int .i64 x.rule.lnum, .int .i64 x.rule.lden, .int .i64 x.rule.least] 34)) = W1 at *
  have HDB := Lib.hid hDB
  clear hDB
  go_upto_region 2 with (first
    | ((with_reducible refine at_load 34 2 ?_); refine wpList_load_mid rfl 34 (.tmp 2) rfl _ _ rfl _ _ (HDB.out.via belr).range Tryz.underlying34 rfl (by kernel_rfl) ?_)
    | (go_at_call 83; (with_reducible refine (HSU.out _ belr).mono ?_); rintro e w2 ⟨A1, c1, rs, A2, c2, cs, b2, rfl, hrl, hok, hb1, hb2, hRC, hRL, hOW, hcl, hsch, hcc, hbw2⟩; have HRL := Lib.hid hrl; have HOK := Lib.hid hok; have HOW := Lib.hid hOW; have HCL := Lib.hid hcl; have HSC := Lib.hid hsch; clear hrl hok hRC hRL hOW hcl hsch hcc))
  have hw2 : Below w.heap.size w w2 := ba_via hbw2 hW1
  have hfl := List.length_filter_le (S.sup rs z) cs
  have hfl2 : (cs.filter (S.sup rs z)).length ≤ 100 := by rw [HCL.out] at hfl; omega
  have HSE := Lib.hid (HST.out rs cs HOK.out HRL.out HCL.out HSC.out)
  have HA := Lib.hid (show ∀ c, c ∈ cs.filter (S.sup rs z) → 0 ≤ c.area ∧ c.area ≤ 1000000 from fun c hc => by
    obtain ⟨i, hi, rfl⟩ := List.getElem_of_mem (List.mem_filter.1 hc).1
    exact HAR.out rs _ _ HOK.out HRL.out (List.getElem_mem _) (HSC.out i hi (by rw [← HCL.out]; exact hi)))
  have HCS := Lib.hid (own_cells HOW.out (by unfold maxLen; omega)).1
  have HEX := Lib.hid (show ∃ (rs' : List Rod) (cs' : List SCh), rs'.length = n ∧ (∀ (i : Nat) (hi : i < rs'.length), RodOk x i rs'[i]) ∧ cs'.length = C.length ∧ (∀ (i : Nat) (hi : i < cs'.length) (hj : i < C.length), SchOk x rs' C[i] cs'[i]) ∧ cs'.filter (S.sup rs' z) = cs.filter (S.sup rs z) from ⟨rs, cs, HRL.out, HOK.out, HCL.out, HSC.out, rfl⟩)
  have hs2 := hw2.size
  clear hfl HSC HCL HOK HRL HAR HST HOW hb1 hb2 HDB HSU
  generalize cs.filter (S.sup rs z) = cl at *
  have hcli : (cl.length : Int) ≤ 100 := by omega
  go_wp2
  go_loopw [9, 29] (fun v i wr => ∃ q : Nat, q ≤ cl.length ∧ i = .int .i64 q ∧ wr.ownsRow w2.heap.size 3 1 v (S.ends2 (cl.take q)).length (i64s (S.ends2 (cl.take q))) ∧ Below w2.heap.size w2 wr) (fun _ i _ => cl.length - (intOf i).toNat)
  case atStart => exact ⟨0, Nat.zero_le _, rfl, World.ownsRow_nil _ _ _ _, Below.refl _ _⟩
  case round =>
    obtain ⟨q, hq, rfl, hO, hbr⟩ := hrel
    have HO := Lib.hid hO
    clear hO
    by_cases hlt : q < cl.length
    · have hqi : (q : Int) < cl.length := by omega
      have hCS := HCS.out.below hbr
      obtain ⟨b2, o2, hA2, hbb2, hxx⟩ := hCS.at_ (by rw [flat_len schC 5 schC_len]; omega)
      clear hxx
      subst hA2
      have c0 := hCS.row0 schC_len hlt rfl
      have c1' := hCS.rowj schC_len hlt 1 rfl
      have c2' := hCS.rowj schC_len hlt 2 rfl
      have c3' := hCS.rowj schC_len hlt 3 rfl
      have c4' := hCS.rowj schC_len hlt 4 rfl
      have hsr := hbr.size
      have hb2l : b2 < wr.heap.size := by omega
      have HEN := Lib.hid (ends2_next hlt)
      have hel := ends2_len (cl.take q)
      rw [List.length_take] at hel
      have hel2 : (S.ends2 (cl.take q)).length ≤ 200 := by omega
      clear hCS hel
      generalize cl[q] = c at *
      go_upto_region 8 with fail
      have hC12 := Blk.new wr 152 #[.slice c.A c.l.length c.c, .int .i64 c.lo, .int .i64 c.hi, .bool c.is, .int .i64 c.area]
      have hb12 : Below wr.heap.size wr (wr.alloc (.cells #[.slice c.A c.l.length c.c, .int .i64 c.lo, .int .i64 c.hi, .bool c.is, .int .i64 c.area] 152)) := ba_alloc (Below.refl _ _) _
      generalize (wr.alloc (.cells #[.slice c.A c.l.length c.c, .int .i64 c.lo, .int .i64 c.hi, .bool c.is, .int .i64 c.area] 152)) = W12 at *
      clear c0 c1' c2' c3' c4'
      have h12s := hb12.size
      have HO5 := Lib.hid (own_kept HO.out (fun k hk => hb12.block k (HO.out.lt k hk).2))
      have s1 := hC12.cell 1
      have s2 := hC12.cell 2
      have sl := hC12.lt
      simp only [List.getElem?_toArray, List.getElem?_cons_zero, List.getElem?_cons_succ] at s1 s2
      have HB := Lib.hid (hbr.trans (hb12.mono hsr))
      have hbE1 : w2.heap.size ≤ W12.heap.size := by omega
      clear hC12 hb12
      go_wp2_with (at_builtin; refine wpList_push rfl (.tmp 33) (.tmp 40) _ rfl elemInt ((show Row W12 W12 u9.ownBlock w2.heap.size 3 1 u9 (S.ends2 (cl.take q)).length (i64s (S.ends2 (cl.take q))) from ⟨HO5.out, fun k hk => .inl hk.symm⟩).alloc _) ((Exc.refl u9.ownBlock.toList W12).alloc _) (by intro k hk; simp [hk]) hbE1 rfl W12.heap.size 2 2 [.int .i64 c.lo, .int .i64 c.hi] rfl rfl ?_ (by simp [Value.oneCell']) (by unfold maxLen; omega) (by omega) ?_; (· intro j u hu; have := (Cells.newRow W12 #[.int .i64 c.lo, .int .i64 c.hi] 3 (0, 0)).get (k := j) (v := u) hu; simpa using this); intro v2 wE hRE hXE hOE)
      have hown := hRE.own
      have hbE : Below w2.heap.size w2 wE := HB.out.trans (hXE.below (by omega) (fun g hg => (HO5.out.lt g (by simpa using hg)).1))
      go_roundw
      case rel => exact ⟨q + 1, by omega, by go_num, by rw [HEN.out]; simpa using hown, hbE⟩
      case measure => simp [intOf]; omega
    · have hqn : q = cl.length := by omega
      have hO := HO.out
      rw [hqn, List.take_length] at hO
      have hqi : ¬ ((q : Int) < cl.length) := by omega
      have hel := ends2_len cl
      have hel2 : (S.ends2 cl).length ≤ 200 := by omega
      clear hel
      have hsr := hbr.size
      have HSO := Lib.hid (sort_own (S.ends2 cl) u9 (S.ends2 cl).length w2.heap.size wr hO (by omega))
      have HCSr := Lib.hid (HCS.out.below hbr)
      have HOr := Lib.hid hO
      clear hO HO hqn
      go_upto_region 11 with (go_at_call 84; (with_reducible refine HSO.out.mono ?_); rintro e w3 ⟨rfl, hO3, hX3⟩)
      have hb3 : Below w2.heap.size wr w3 := hX3.below (by omega) (fun k hk => (HOr.out.lt k (by simpa using hk)).1)
      have h3s := hX3.size
      obtain ⟨A3, c3, hu9, _, _, _⟩ := own_form hO3 (by unfold maxLen; omega)
      subst hu9
      have HCO := Lib.hid (compact_own (S.sortI (S.ends2 cl)) A3 c3 (S.ends2 cl).length w2.heap.size w3 hO3 (by omega))
      have HCS3 := Lib.hid (HCSr.out.below hb3)
      have hw3 : Below w2.heap.size w2 w3 := hbr.trans hb3
      have HLT3 := Lib.hid hO3.lt
      have HPL := Lib.hid (show Go.Lib.compact (S.sortI (S.ends2 cl)) = S.places cl from rfl)
      rw [HPL.out] at HCO
      clear hO3 hX3 HSO HCSr HOr hb3 HPL
      have hpl := places_len cl
      have hpl2 : (S.places cl).length ≤ 200 := by omega
      go_upto_region 14 with (go_at_call 85; (with_reducible refine HCO.out.mono ?_); rintro e w4 ⟨rfl, hO4, hX4⟩)
      have hb4 : Below w2.heap.size w3 w4 := hX4.below (by omega) (fun k hk => (HLT3.out k (by simpa using hk)).1)
      have h4s := hX4.size
      have HPC := Lib.hid (own_cells hO4 (by unfold maxLen; omega)).1
      have HCS4 := Lib.hid ((HCS3.out.below hb4).mono (show w2.heap.size ≤ w4.heap.size by omega))
      have hw4 : Below w2.heap.size w2 w4 := hw3.trans hb4
      have h24 := hw4.size
      clear hO4 hX4 HCO HLT3 hb4 HCS3 HCS hw3 hbr hqi
      obtain ⟨m, hm⟩ : ∃ m, m = (S.places cl).length := ⟨_, rfl⟩
      have HM := Lib.hid hm
      rw [← hm] at hpl2
      rw [← hm]
      clear hm hpl
      go_loopw [12, 13, 48] (fun v u i wr => ∃ q : Nat, q ≤ m ∧ i = .int .i64 q ∧ ∃ (la : Int) (out : List Stp), u = .int .i64 la ∧ Hid ((la, out) = S.ofF cl ((S.places cl).take q)) ∧ wr.ownsRow w4.heap.size 81 2 v out.length (out.flatMap stC) ∧ Below w4.heap.size w4 wr) (fun _ _ i _ => m - (intOf i).toNat)
      case atStart => exact ⟨0, Nat.zero_le _, rfl, 0, [], rfl, Lib.hid rfl, World.ownsRow_nil _ _ _ _, Below.refl _ _⟩
      case round =>
        obtain ⟨q, hq, rfl, la, out, rfl, hu, hO, hbr⟩ := hrel
        have HO := Lib.hid hO
        clear hO
        have hol : out.length ≤ 200 := by
          have h1 := ofF_len cl ((S.places cl).take q)
          rw [← hu.out, List.length_take] at h1
          simp only [] at h1
          omega
        by_cases hlt : q < m
        · have hqx : q < (S.places cl).length := by rw [← HM.out]; exact hlt
          have hqi : (q : Int) < m := by omega
          obtain ⟨b, o, hA3, hbb, hcc⟩ := (HPC.out.below hbr).at_ (by simp; omega)
          subst hA3
          have hck := hcc q _ (i64s_get hqx)
          have hsr := hbr.size
          have hbl : b < wr.heap.size := by omega
          have HNX := Lib.hid (ofF_next cl hqx)
          rw [← hu.out] at HNX
          have HV := Lib.hid (fun (W : World) (hw : Below wr.heap.size wr W) => value_any cl A2 cl.length c2 (S.places cl)[q] w4.heap.size W (Nat.le_trans hsr hw.size) rfl (by omega) (HCS4.out.below (hbr.trans (hw.mono hsr))) HA.out)
          clear hcc
          generalize (S.places cl)[q] = p at *
          generalize S.valueAt p cl = nv at *
          go_upto_region 17 with (go_at_call 82; (with_reducible refine (HV.out _ belr).mono ?_); rintro e w5 ⟨rfl, hbw5⟩)
          have hb5 : Below wr.heap.size wr w5 := belr
          have HO5 := Lib.hid (own_kept HO.out (fun k hk => hb5.block k (HO.out.lt k hk).2))
          have HB5 := Lib.hid (hbr.trans (hb5.mono hsr))
          have h5s := hb5.size
          clear hb5 hbw5 HV hck
          by_cases h1 : nv = la
          · have hb1 : (nv != la) = false := by simp [h1]
            have HV2 := Lib.hid (HNX.out.trans (by rw [if_pos h1]))
            clear h1
            go_wp2
            go_roundw
            case rel => exact ⟨q + 1, by omega, by go_num, la, out, rfl, Lib.hid HV2.out.symm, HO5.out, HB5.out⟩
            case measure => simp [intOf]; omega
          · have hb1 : (nv != la) = true := by simp [h1]
            have HV2 := Lib.hid (HNX.out.trans (by rw [if_neg h1]))
            clear h1
            have hbE1 : w4.heap.size ≤ w5.heap.size := by omega
            go_wp2_with (at_builtin; refine wpList_push rfl (.tmp 58) (.tmp 62) _ rfl elemSt ((show Row w5 w5 u12.ownBlock w4.heap.size 81 2 u12 out.length (out.flatMap stC) from ⟨HO5.out, fun k hk => .inl hk.symm⟩).alloc _) ((Exc.refl u12.ownBlock.toList w5).alloc _) (by intro k hk; simp [hk]) hbE1 rfl w5.heap.size 1 1 [.int .i64 p, .int .i64 nv] rfl rfl ?_ (by simp [Value.oneCell']) (by unfold maxLen; omega) (by omega) ?_; (· intro j u hu; have := (Cells.newRow w5 #[.int .i64 p, .int .i64 nv] 81 (0, 0)).get (k := j) (v := u) hu; simpa using this); intro v2 wE hRE hXE hOE)
            have hown := hRE.own
            have hbE : Below w4.heap.size w4 wE := HB5.out.trans (hXE.below (by omega) (fun g hg => (HO5.out.lt g (by simpa using hg)).1))
            go_roundw
            case rel => exact ⟨q + 1, by omega, by go_num, nv, out ++ [⟨p, nv⟩], rfl, Lib.hid HV2.out.symm, by simpa using hown, hbE⟩
            case measure => simp [intOf]; omega
        · have hqm : q = m := by omega
          have HE := Lib.hid (show out = S.ofL cl by have h := hu.out; rw [List.take_of_length_le (by rw [← HM.out]; omega)] at h; unfold S.ofL; rw [← h])
          clear hu
          have hO := HO.out
          obtain ⟨A5, c5, hu12, _, _, hC5⟩ := own_form hO (by unfold maxLen; omega)
          subst hu12
          have hqi : ¬ ((q : Int) < m) := by omega
          have hoi : ¬ ((200 : Int) < out.length) := by omega
          have hsr := hbr.size
          have HSH := Lib.hid (fun (W : World) (hw : Below wr.heap.size wr W) => Short_any out A5 out.length c5 wr.heap.size W hw.size ⟨rfl, by omega, hC5.below hw⟩ (by omega) (by rw [HE.out]; exact HSE.out))
          have HBR := Lib.hid (hw4.trans (hbr.mono h24))
          clear hO hC5 HO hbr hqm
          go_wp2_with (go_at_call 86; (with_reducible refine (HSH.out _ belr).mono ?_); rintro e w6 ⟨A6, c6, rfl, hO6, hb6⟩)
          go_ret2
          obtain ⟨rs', cs', e1, e2, e3, e4, e5⟩ := HEX.out
          have h2r := HBR.out.size
          refine ⟨A6, c6, rs', cs', ?_, e1, e2, e3, e4, ?_, hw2.trans ((HBR.out.trans (hb6.mono h2r)).mono hs2)⟩
          · rw [e5, ← HE.out]
            rfl
          · rw [e5, ← HE.out]
            exact own_mono hO6 (by omega)
end Go.Proofs.YtffkmgjmlahfpaaGreat
