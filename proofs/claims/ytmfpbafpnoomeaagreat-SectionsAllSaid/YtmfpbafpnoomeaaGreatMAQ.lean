/- Lemmas. -/
import Derived.Test.YtmfpbafpnoomeaaGreatMAK
import Derived.Test.YtmfpbafpnoomeaaGreatMAL
set_option linter.unusedVariables false
set_option linter.unusedSimpArgs false
namespace Go.Proofs.YtmfpbafpnoomeaaGreat
open Go.RowKit
def S.apartJ (a b : Jn) : Bool := !(a.first == b.first) && !(a.second == b.second)
def S.lapAt (L : List Mn) (js : List Jn) (i : Nat) : Bool := match js[i]? with | some j => S.jointOk L j && (js.take i).all (fun k => S.apartJ k j) | none => true
theorem lapsOk_of {L : List Mn} : ∀ {js : List Jn} {f s : Int -> Bool}, (∀ j, j ∈ js -> S.jointOk L j = true /\ f j.first = false /\ s j.second = false) -> (js.map Jn.first).Nodup -> (js.map Jn.second).Nodup -> S.lapsOk L f s js = true := by
 intro js
 induction js with
 | nil => intro f s _ _ _; rfl
 | cons a js ih =>
  intro f s h h1 h2
  rw [List.map_cons, List.nodup_cons] at h1 h2
  obtain ⟨g1, g2, g3⟩ := h a List.mem_cons_self
  simp only [S.lapsOk, g1, g2, g3, Bool.not_false, Bool.true_and]
  refine ih (fun j hj => ?_) h1.2 h2.2
  obtain ⟨k1, k2, k3⟩ := h j (List.mem_cons_of_mem _ hj)
  have n1 : j.first ≠ a.first := fun e => h1.1 (e ▸ List.mem_map_of_mem hj)
  have n2 : j.second ≠ a.second := fun e => h2.1 (e ▸ List.mem_map_of_mem hj)
  exact ⟨k1, by simp [n1, k2], by simp [n2, k3]⟩
theorem nodup_iff {α : Type} (f : α -> Int) (l : List α) : (l.map f).Nodup ↔ ∀ i k (hi : i < l.length) (hk : k < i), f (l[k]'(by omega)) ≠ f l[i] := by
 unfold List.Nodup
 rw [List.pairwise_iff_getElem]
 constructor
 ·intro h i k hi hk
  have := h k i (by simp; omega) (by simpa using hi) hk
  simpa using this
 ·intro h i j hi hj hij
  have := h j i (by simpa using hj) hij
  simpa using this
theorem lapsOk_eq (L : List Mn) (js : List Jn) : S.lapsOk L (fun _ => false) (fun _ => false) js = (List.range js.length).all (S.lapAt L js) := by
 rw [Bool.eq_iff_iff, List.all_eq_true]
 constructor
 ·intro h i hi
  have hi' := List.mem_range.1 hi
  obtain ⟨h1, h2, h3⟩ := lapsOk_out h
  rw [nodup_iff] at h2 h3
  unfold S.lapAt
  rw [List.getElem?_eq_getElem hi']
  simp only [Bool.and_eq_true]
  refine ⟨(h1 _ (List.getElem_mem hi')).1, ?_⟩
  rw [List.all_eq_true]
  intro x hx
  obtain ⟨k, hk, rfl⟩ := List.mem_iff_getElem.1 hx
  rw [List.length_take] at hk
  rw [List.getElem_take]
  have a1 := h2 i k hi' (by omega)
  have a2 := h3 i k hi' (by omega)
  simp [S.apartJ, a1, a2]
 ·intro h
  have key : ∀ i (hi : i < js.length), S.jointOk L js[i] = true /\ ∀ k (hk : k < i), S.apartJ (js[k]'(by omega)) js[i] = true := fun i hi => by
   have := h i (List.mem_range.2 hi)
   unfold S.lapAt at this
   rw [List.getElem?_eq_getElem hi] at this
   simp only [Bool.and_eq_true] at this
   refine ⟨this.1, fun k hk => ?_⟩
   have h2 := List.all_eq_true.1 this.2
   have hkt : k < (js.take i).length := by rw [List.length_take]; omega
   have := h2 (js.take i)[k] (List.getElem_mem hkt)
   rwa [List.getElem_take] at this
  refine lapsOk_of (fun j hj => ?_) ?_ ?_
  ·obtain ⟨i, hi, rfl⟩ := List.mem_iff_getElem.1 hj
   exact ⟨(key i hi).1, rfl, rfl⟩
  ·rw [nodup_iff]
   intro i k hi hk he
   have := (key i hi).2 k hk
   simp [S.apartJ, he] at this
  ·rw [nodup_iff]
   intro i k hi hk he
   have := (key i hi).2 k hk
   simp [S.apartJ, he] at this
theorem look_eq {x : Dt} {td : Bool} (hj : x.js.length = x.jn) : S.look x td = (S.member x.m && S.laid (bars x.bs) x.rs && td && S.rule x.rule && decide (x.jn <= 1000) && (List.range x.jn).all (S.lapAt (S.mains (bars x.bs) x.rs) x.js)) := by
 unfold S.look
 rw [lapsOk_eq, hj]
set_option maxRecDepth 20000 in
set_option maxHeartbeats 4000000 in
theorem rlook_no (x : Dt) (ds : List Dm) (B : Nat) (w : World) (hB : B <= w.heap.size) (hA : DtAt w B x) (hD : DemsAt w B x.dA x.dn ds) (h : (S.member x.m && S.laid (bars x.bs) x.rs && S.dems ds && S.rule x.rule && decide (x.jn <= 1000)) = false) :
 Calls Tryz.prog 54 #[dtV x] w fun e w' => e = .returned (.bool false) /\ Below w.heap.size w w' := by
 have HA := lh hA
 have HDA := lh hD
 have HM := lh (fun (W : World) (hw : B <= W.heap.size) (hh : DtAt W B x) => rmember_any x.m x.mA x.mn x.mc x.hA x.hn x.hc B W hw hh.sol hA.name)
 have HL := lh (fun (W : World) (hw : B <= W.heap.size) (hh : DtAt W B x) => rlaid_any x.bs x.rs x.bA x.bn x.bc x.rA x.rn x.rc B W hw hh.bars hh.runs)
 have HD := lh (fun (W : World) (hw : B <= W.heap.size) (hh : DemsAt W B x.dA x.dn ds) => rdems_any ds x.dA x.dn x.dc B W hw hh)
 have HR := lh (fun W => rvalid_any x.rule W)
 have hjm := hA.jmax
 clear hA hD
 generalize S.member x.m = t0 at *
 generalize S.laid (bars x.bs) x.rs = t1 at *
 generalize S.dems ds = t2 at *
 generalize S.rule x.rule = t3 at *
 have hcs : t0 = false ∨ (t0 = true /\ t1 = false) ∨ (t0 = true /\ t1 = true /\ t2 = false) ∨ (t0 = true /\ t1 = true /\ t2 = true /\ t3 = false) ∨ (t0 = true /\ t1 = true /\ t2 = true /\ t3 = true /\ 1000 < x.jn) := by
  cases t0 <;> cases t1 <;> cases t2 <;> cases t3 <;> simp at h ⊢
  omega
 clear h
 unfold memV at HM
 unfold ruleV at HR
 unfold dtV
 rcases hcs with rfl | ⟨rfl, rfl⟩ | ⟨rfl, rfl, rfl⟩ | ⟨rfl, rfl, rfl, rfl⟩ | ⟨rfl, rfl, rfl, rfl, h5⟩
 all_goals (
  go_enter Tryz.func54, Tryz.ntmps54
  go_wp2_with (first
   | (go_at_call 85; (with_reducible refine (HM.out _ (size_via hB bel) (HA.out.at_ hB bel)).mono ?_); rintro e w1 ⟨rfl, hbw1⟩; obtain ⟨hcw1, hfw1⟩ := bcell hbw1; have hzw1_0 : w.heap.size < w1.heap.size := lt_via hbw1 sz)
   | (go_at_call 86; (with_reducible refine (HL.out _ (size_via hB bel) (HA.out.at_ hB bel)).mono ?_); rintro e w2 ⟨rfl, hbw2⟩; obtain ⟨hcw2, hfw2⟩ := bcell hbw2; have hzw2_0 : w.heap.size < w2.heap.size := lt_via hbw2 sz)
   | (go_at_call 87; (with_reducible refine (HD.out _ (size_via hB bel) (HDA.out.at_ hB bel)).mono ?_); rintro e w3 ⟨rfl, hbw3⟩; obtain ⟨hcw3, hfw3⟩ := bcell hbw3; have hzw3_0 : w.heap.size < w3.heap.size := lt_via hbw3 sz)
   | (go_at_call 88; (with_reducible refine (HR.out _).mono ?_); rintro e w4 ⟨rfl, hbw4⟩; obtain ⟨hcw4, hfw4⟩ := bcell hbw4; have hzw4_0 : w.heap.size < w4.heap.size := lt_via hbw4 sz))
  go_ret
  exact ⟨rfl, bel⟩)
set_option maxRecDepth 20000 in
set_option maxHeartbeats 8000000 in
theorem rlook_in (x : Dt) (ds : List Dm) (B : Nat) (w : World) (hB : B <= w.heap.size) (hA : DtAt w B x) (hD : DemsAt w B x.dA x.dn ds) (h0 : S.member x.m = true) (h1 : S.laid (bars x.bs) x.rs = true) (h2 : S.dems ds = true) (h3 : S.rule x.rule = true) (h5 : x.jn <= 1000) :
 Calls Tryz.prog 54 #[dtV x] w fun e w' => e = .returned (.bool ((List.range x.jn).all (S.lapAt (S.mains (bars x.bs) x.rs) x.js))) /\ Below w.heap.size w w' := by
 have HA := lh hA
 have HDA := lh hD
 have HM := lh (fun (W : World) (hw : B <= W.heap.size) (hh : DtAt W B x) => h0 ▸ rmember_any x.m x.mA x.mn x.mc x.hA x.hn x.hc B W hw hh.sol hA.name)
 have HL := lh (fun (W : World) (hw : B <= W.heap.size) (hh : DtAt W B x) => h1 ▸ rlaid_any x.bs x.rs x.bA x.bn x.bc x.rA x.rn x.rc B W hw hh.bars hh.runs)
 have HD := lh (fun (W : World) (hw : B <= W.heap.size) (hh : DemsAt W B x.dA x.dn ds) => h2 ▸ rdems_any ds x.dA x.dn x.dc B W hw hh)
 have HR := lh (fun W => h3 ▸ rvalid_any x.rule W)
 have HJ := lh (fun (j : Jn) (W : World) (hw : B <= W.heap.size) (hh : DtAt W B x) => rjoint_any x j B W hw hh h1)
 have hjl := hA.jlen
 have HAT := lh (fun (k : Nat) (hk : k < x.js.length) => show S.lapAt (S.mains (bars x.bs) x.rs) x.js k = (S.jointOk (S.mains (bars x.bs) x.rs) x.js[k] && (x.js.take k).all (fun i => S.apartJ i x.js[k])) from by unfold S.lapAt; rw [List.getElem?_eq_getElem hk])
 clear hA hD h0 h1 h2 h3
 generalize S.lapAt (S.mains (bars x.bs) x.rs) x.js = P at *
 unfold memV at HM
 unfold ruleV at HR
 unfold dtV at HJ
 unfold dtV
 generalize hjA : x.jA = jA at *
 have HjA := lh hjA
 clear hjA
 go_enter Tryz.func54, Tryz.ntmps54
 go_upto_region 3 with (first
  | (go_at_call 85; (with_reducible refine (HM.out _ (size_via hB bel) (HA.out.at_ hB bel)).mono ?_); rintro e w1 ⟨rfl, hbw1⟩; obtain ⟨hcw1, hfw1⟩ := bcell hbw1; have hzw1_0 : w.heap.size < w1.heap.size := lt_via hbw1 sz)
  | (go_at_call 86; (with_reducible refine (HL.out _ (size_via hB bel) (HA.out.at_ hB bel)).mono ?_); rintro e w2 ⟨rfl, hbw2⟩; obtain ⟨hcw2, hfw2⟩ := bcell hbw2; have hzw2_0 : w.heap.size < w2.heap.size := lt_via hbw2 sz)
  | (go_at_call 87; (with_reducible refine (HD.out _ (size_via hB bel) (HDA.out.at_ hB bel)).mono ?_); rintro e w3 ⟨rfl, hbw3⟩; obtain ⟨hcw3, hfw3⟩ := bcell hbw3; have hzw3_0 : w.heap.size < w3.heap.size := lt_via hbw3 sz)
  | (go_at_call 88; (with_reducible refine (HR.out _).mono ?_); rintro e w4 ⟨rfl, hbw4⟩; obtain ⟨hcw4, hfw4⟩ := bcell hbw4; have hzw4_0 : w.heap.size < w4.heap.size := lt_via hbw4 sz))
 have hDB := Blk.via (Blk.via (Blk.via (Blk.via (Blk.new w 34 #[.string x.m.name, .slice x.mA x.mn x.mc, .slice x.hA x.hn x.hc, .int .i64 x.m.cover, .int .i64 x.m.aggr, .int .i64 x.m.poker, .slice x.bA x.bn x.bc, .slice x.rA x.rn x.rc, .slice jA x.jn x.jc, .slice x.dA x.dn x.dc, .int .i64 x.rule.num, .int .i64 x.rule.den, .int .i64 x.rule.pnum, .int .i64 x.rule.pden, .int .i64 x.rule.bnum, .int .i64 x.rule.bden, .int .i64 x.rule.lnum, .int .i64 x.rule.lden, .int .i64 x.rule.least]) hbw1) hbw2) hbw3) hbw4
 have hbw : Below w.heap.size w w4 := bel
 clear hcw1 hfw1 hcw2 hfw2 hcw3 hfw3 hcw4 hfw4 HM HL HD HR
 clear hbw1 hbw2 hbw3 hbw4
 have HDB := lh hDB
 have d8 := hDB.cell 8
 have hDl := hDB.lt
 simp only [ga1, ga2, ga3] at d8
 clear hDB
 go_wp2
 go_loopw [3] (fun i wr => ∃ k : Nat, k <= x.jn /\ i = .int .i64 k /\ Hid (∀ j, j < k -> P j = true) /\ Below w4.heap.size w4 wr) (fun i _ => x.jn - (intOf i).toNat)
 case atStart => exact ⟨0, Nat.zero_le _, rfl, lh (fun j hj => absurd hj (by omega)), Below.refl _ _⟩
 case round =>
  obtain ⟨k, hk, rfl, HNO, hbr⟩ := hrel
  have hbwr : Below w.heap.size w wr := hbw.trans (hbr.mono hbw.size)
  have hDr := HDB.out.via hbr
  have d8r := hDr.cell 8
  have hDrl := hDr.lt
  simp only [ga1, ga2, ga3] at d8r
  have HDR := lh hDr
  clear hDr
  by_cases hlt : k < x.jn
  ·have hkx : k < x.js.length := by omega
   have hki : (k : Int) < (x.jn : Int) := by omega
   have hJc := (HA.out.at_ hB hbwr).joints
   rw [HjA.out] at hJc
   obtain ⟨bJ, oJ, hje, hbJ, _⟩ := hJc.at_ (by rw [flat_len jnC 2 jnC_len]; omega)
   subst hje
   have hbJl : bJ < wr.heap.size := by have := hbwr.size; omega
   have c0 := hJc.row0 jnC_len hkx rfl
   have c1 := hJc.rowj jnC_len hkx 1 rfl
   have HJC := lh hJc
   have HJk := lh (HJ.out x.js[k])
   have HATk := lh (HAT.out k hkx)
   have HBAD := lh (fun (h : P k = false) => show (List.range x.jn).all P = false from by
    rw [List.all_eq_false]; exact ⟨k, List.mem_range.2 hlt, by simp [h]⟩)
   have HGO := lh (fun (h : P k = true) => show ∀ j, j < k + 1 -> P j = true from fun j hj => by
    by_cases hjk : j = k
    ·subst hjk; exact h
    ·exact HNO.out j (by omega))
   clear hJc
   have hRG := (HDR.out).range
   have hRGd : ∀ W', Below wr.heap.size wr W' -> W'.rangeAt w.heap.size 0 [.string x.m.name, .slice x.mA x.mn x.mc, .slice x.hA x.hn x.hc, .int .i64 x.m.cover, .int .i64 x.m.aggr, .int .i64 x.m.poker, .slice x.bA x.bn x.bc, .slice x.rA x.rn x.rc, .slice (some ⟨bJ, oJ, none⟩) x.jn x.jc, .slice x.dA x.dn x.dc, .int .i64 x.rule.num, .int .i64 x.rule.den, .int .i64 x.rule.pnum, .int .i64 x.rule.pden, .int .i64 x.rule.bnum, .int .i64 x.rule.bden, .int .i64 x.rule.lnum, .int .i64 x.rule.lden, .int .i64 x.rule.least] := fun W' hw => (HDR.out.via hw).range
   have HRGD := lh hRGd
   clear hRG hRGd
   cases hjo : S.jointOk (S.mains (bars x.bs) x.rs) x.js[k]
   all_goals (
    have HJO := lh hjo
    rw [hjo] at HJk
    clear hjo
    go_upto_region 6 with fail
    refine wp_region_mix 0 [0, 5] (by kernel_rfl) (by kernel_rfl) (of_decide_eq_true (by kernel_rfl)) ?_
    try simp only [wpSegs, gt1, gt2, gt3, gt4, List.take_nil, List.drop_nil]
    repeat (go_big_quiet_step (fail))
    refine wpQuiet_nil ?_
    show wpList _ _ _ _ _ _
    go_wp2_with ((refine wpList_load_mid rfl 34 (.tmp 1) rfl _ _ rfl _ _ (HRGD.out _ belr) Tryz.underlying34 rfl (by kernel_rfl) ?_))
    refine seg_next (grow_to belr) ?_
    try simp only [wpSegs, gt1, gt2, gt3, gt4, List.take_nil, List.drop_nil]
    repeat (go_big_quiet_step (fail))
    refine wpQuiet_nil ?_
    show wpList _ _ _ _ _ _
    go_wp2_with ((go_at_call 89; (with_reducible refine (HJk.out _ (size_via hB belr) (HA.out.at_ hB belr)).mono ?_); rintro e w6 ⟨rfl, hbw6⟩))
    refine seg_next (grow_to belr) ?_
    try simp only [wpSegs, gt1, gt2, gt3, gt4, List.take_nil, List.drop_nil]
    repeat (go_big_quiet_step (fail))
    refine wpQuiet_nil ?_
    show wpList _ _ _ _ _ _
    have hb6 : Below wr.heap.size wr w6 := belr)
   ·have HF := lh (HBAD.out (by rw [HATk.out, HJO.out]; rfl))
    go_wp2
    go_ret
    exact ⟨ret_b HF.out.symm, hbwr.trans (hb6.mono hbwr.size)⟩
   ·have HAY := lh (show P k = (x.js.take k).all (fun i => S.apartJ i x.js[k]) by rw [HATk.out, HJO.out]; rfl)
    have hb6w : Below w.heap.size w w6 := hbwr.trans (hb6.mono hbwr.size)
    have hs6 := hb6.size
    clear hbw6
    go_wp2
    generalize wr = wo at *
    go_loopw [4] (fun i wr => ∃ q : Nat, q <= k /\ i = .int .i64 q /\ Hid (∀ j (hj : j < k), j < q -> S.apartJ (x.js[j]'(by omega)) x.js[k] = true) /\ Below w6.heap.size w6 wr) (fun i _ => k - (intOf i).toNat)
    case atStart => exact ⟨0, Nat.zero_le _, rfl, lh (fun j _ hj => absurd hj (by omega)), Below.refl _ _⟩
    case round =>
     obtain ⟨q, hq, rfl, HNP, hbq⟩ := hrel
     have hbx : Below wo.heap.size wo wr := hb6.trans (hbq.mono hs6)
     by_cases hlq : q < k
     ·have hqx : q < x.js.length := by omega
      have hqi : (q : Int) < (k : Int) := by omega
      have hqn : (q : Int) < (x.jn : Int) := by omega
      have hJq := HJC.out.below (hbx.mono (by have := hbwr.size; omega))
      have c0 := hJq.row0 jnC_len hkx rfl
      have c1 := hJq.rowj jnC_len hkx 1 rfl
      have g0 := hJq.row0 jnC_len hqx rfl
      have g1 := hJq.rowj jnC_len hqx 1 rfl
      have d8q := (HDR.out.via hbx).cell 8
      simp only [ga1, ga2, ga3] at d8q
      have hDq : w.heap.size < wr.heap.size := (HDR.out.via hbx).lt
      have hbJq : bJ < wr.heap.size := by have := hbx.size; omega
      have HE := lh (show S.apartJ x.js[q] x.js[k] = (!(x.js[q].first == x.js[k].first) && !(x.js[q].second == x.js[k].second)) from rfl)
      have HBD := lh (fun (h : S.apartJ x.js[q] x.js[k] = false) => HBAD.out (by
       rw [HAY.out, List.all_eq_false]
       refine ⟨x.js[q], ?_, by simp [h]⟩
       have hqt : q < (x.js.take k).length := by rw [List.length_take]; omega
       have e : (x.js.take k)[q] = x.js[q] := List.getElem_take
       rw [<- e]
       exact List.getElem_mem _))
      have HGD := lh (fun (h : S.apartJ x.js[q] x.js[k] = true) (j : Nat) (hj : j < k) (hjq : j < q + 1) => show S.apartJ (x.js[j]'(by omega)) x.js[k] = true from by
       by_cases hjq' : j = q
       ·subst hjq'; exact h
       ·exact HNP.out j hj (by omega))
      clear hJq
      generalize x.js[q] = z at *
      generalize x.js[k] = y at *
      cases e1 : (z.first == y.first)
      ·cases e2 : (z.second == y.second)
       ·have HG := lh (HGD.out (by rw [HE.out, e1, e2]; rfl))
        go_wp2
        refine wp_region_grow (by kernel_rfl) (by kernel_rfl) ?_
        repeat (go_big_quiet_step (fail))
        all_goals (refine wpQuiet_nil ?_; intro wg hbwg; obtain ⟨hcwg, hfwg⟩ := bcell hbwg)
        go_wp2
        go_roundw
        case rel => exact ⟨q + 1, by omega, by go_num, lh HG.out, hbq.trans (hbwg.mono hbq.size)⟩
        case measure => simp [intOf]; omega
       ·have HG := lh (HBD.out (by rw [HE.out, e1, e2]; rfl))
        go_wp2
        refine wp_region_grow (by kernel_rfl) (by kernel_rfl) ?_
        repeat (go_big_quiet_step (fail))
        all_goals (refine wpQuiet_nil ?_; intro wg hbwg; obtain ⟨hcwg, hfwg⟩ := bcell hbwg)
        go_wp2
        go_ret
        exact ⟨ret_b HG.out.symm, hbwr.trans ((hbx.trans (hbwg.mono hbx.size)).mono hbwr.size)⟩
      ·have HG := lh (HBD.out (by rw [HE.out, e1]; rfl))
       go_wp2
       refine wp_region_grow (by kernel_rfl) (by kernel_rfl) ?_
       repeat (go_big_quiet_step (fail))
       all_goals (refine wpQuiet_nil ?_; intro wg hbwg; obtain ⟨hcwg, hfwg⟩ := bcell hbwg)
       go_wp2
       go_ret
       exact ⟨ret_b HG.out.symm, hbwr.trans ((hbx.trans (hbwg.mono hbx.size)).mono hbwr.size)⟩
     ·have HG := lh (HGO.out (by
       rw [HAY.out]
       exact all_yes (p := fun i => S.apartJ i x.js[k]) (fun j hj => by
        rw [List.length_take] at hj
        rw [List.getElem_take]
        exact HNP.out j (by omega) (by omega))))
      go_wp2
      go_roundw
      case rel => exact ⟨k + 1, by omega, by go_num, lh HG.out, hbr.trans (hbx.mono hbr.size)⟩
      case measure => simp [intOf]; omega
  ·have HG := lh (show (List.range x.jn).all P = true from by
    rw [List.all_eq_true]
    exact fun j hj => HNO.out j (by have := List.mem_range.1 hj; omega))
   go_wp2
   go_ret
   exact ⟨ret_b HG.out.symm, hbwr⟩
theorem rlook_any (x : Dt) (ds : List Dm) (B : Nat) (w : World) (hB : B <= w.heap.size) (hA : DtAt w B x) (hD : DemsAt w B x.dA x.dn ds) :
 Calls Tryz.prog 54 #[dtV x] w fun e w' => e = .returned (.bool (S.look x (S.dems ds))) /\ Below w.heap.size w w' := by
 rw [look_eq hA.jlen]
 cases hc : (S.member x.m && S.laid (bars x.bs) x.rs && S.dems ds && S.rule x.rule && decide (x.jn <= 1000))
 ·rw [Bool.false_and]
  exact rlook_no x ds B w hB hA hD hc
 ·rw [Bool.true_and]
  simp only [Bool.and_eq_true, decide_eq_true_eq] at hc
  obtain ⟨⟨⟨⟨h0, h1⟩, h2⟩, h3⟩, h5⟩ := hc
  exact rlook_in x ds B w hB hA hD h0 h1 h2 h3 h5
end Go.Proofs.YtmfpbafpnoomeaaGreat
