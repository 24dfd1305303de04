/- Lemmas. -/
import Derived.Test.YtmfpbafpnoomeaaGreatMAC
import Derived.Test.YtmfpbafpnoomeaaGreatMAF
import Derived.Test.YtmfpbafpnoomeaaGreatMAK
set_option linter.unusedVariables false
set_option linter.unusedSimpArgs false
namespace Go.Proofs.YtmfpbafpnoomeaaGreat
open Go.RowKit
theorem rends_rod (x : Dt) (r : Rod) (A : Option Addr) (c : Nat) (B : Nat) (w : World) (hB : B <= w.heap.size) (hA : DtAt w B x) (hleg : Cells w B A (r.legs.flatMap boxC)) (h : RodFit x r) (hr : S.rule x.rule = true) (hm : S.member x.m = true) (h0 : 0 <= r.main) :
 Calls Tryz.prog 149 #[ruleV x.rule, memV x.m x.mA x.mn x.mc x.hA x.hn x.hc, barV r.bar.b r.bar.A r.bar.n r.bar.c, .slice A r.legs.length c] w fun e w' => e = .returned (.tuple #[.int .i64 (S.lowOf x r), .int .i64 (S.upOf x r)]) /\ Below w.heap.size w w' := by
 obtain ⟨q, hq, hqe, _⟩ := idxf_some (xs := r.legs) (p := S.isMainB) (by rw [<- h.main]; exact h0)
 have hl6 := legs_len r.bar.b.code
 have hE : EndsAt w B x.mA x.mn x.hA x.hn x.m r.bar.A r.bar.n r.bar.b A r.legs.length r.legs := ⟨hA.sol, hA.bars.each _ h.mem, hleg, rfl, by have := h.len; omega, hA.name⟩
 have := rends_yes x.rule x.m x.mA x.mn x.mc x.hA x.hn x.hc r.bar.b r.bar.A r.bar.n r.bar.c A r.legs.length c r.legs B w hB hE (rod_given h hr hm h0) q hq hqe
 have e : r.main.toNat = q := by rw [h.main, hqe]; rfl
 unfold S.lowOf S.upOf S.legOf
 rw [e]
 exact this
set_option maxHeartbeats 2000000 in
theorem rshort_any (l : List Stp) (A : Option Addr) (n c : Nat) (B : Nat) (w : World) (hB : B <= w.heap.size) (hA : StepsAt w B A n l) (hm : n <= 10000) :
 Calls Tryz.prog 75 #[.slice A n c] w fun e w' => ∃ (A' : Option Addr) (c' : Nat), e = .returned (.slice A' (S.shortSt l).length c') /\ w'.ownsRow w.heap.size 136 2 (.slice A' (S.shortSt l).length c') (S.shortSt l).length ((S.shortSt l).flatMap stC) /\ Below w.heap.size w w' := by
 have HN := lh hA.len
 have hs := hA.cells
 clear hA
 go_enter Tryz.func75, Tryz.ntmps75
 go_wp2
 go_loopw [3, 4, 5] (fun v u i wr => ∃ k : Nat, k <= n /\ i = .int .i64 k /\ ∃ (la : Int) (out : List Stp), u = .int .i64 la /\ Hid ((la, out) = S.shortStF (l.take k)) /\ Row w wr none w.heap.size 136 2 v out.length (out.flatMap stC) /\ Exc [] w wr) (fun _ _ i _ => n - (intOf i).toNat)
 case atStart => exact ⟨0, Nat.zero_le _, rfl, 0, [], rfl, lh rfl, Row.none_ _ _ _ _, Exc.refl _ _⟩
 case round =>
  obtain ⟨k, hk, rfl, la, out, rfl, hu, hR, hX⟩ := hrel
  have hbr : Below w.heap.size w wr := hX.below (Nat.le_refl _) (by simp)
  by_cases hlt : k < n
  ·have hkx : k < l.length := by have := HN.out; omega
   have hs' := hs.below (hbr.mono hB)
   obtain ⟨b, o, rfl, hbB, hx⟩ := hs'.at_ (by rw [flat_len stC 2 stC_len]; omega)
   have c1w := hs.rowj stC_len hkx 1 rfl
   clear hx
   have c0 := hs'.row0 stC_len hkx rfl
   have c1 := hs'.rowj stC_len hkx 1 rfl
   clear hs'
   have hbl : b < wr.heap.size := by have := hbr.size; omega
   have hki : (k : Int) < n := by omega
   have HV := lh (shortStF_next hkx)
   have hol : out.length <= 10000 := by
    have h1 := shortStF_len (l.take k)
    rw [<- hu.out, List.length_take] at h1
    simp only [] at h1
    omega
   rw [<- hu.out] at HV
   generalize l[k] = r at *
   by_cases h1 : r.val = la
   ·have hb1 : (r.val != la) = false := by simp [h1]
    have HV2 := lh (HV.out.trans (by rw [if_pos h1]))
    clear h1
    go_wp2
    go_roundw
    case rel => exact ⟨k + 1, by omega, by go_num, r.val, out, rfl, lh HV2.out.symm, hR, hX⟩
    case measure => simp [intOf]; omega
   ·have hb1 : (r.val != la) = true := by simp [h1]
    have HV2 := lh (HV.out.trans (by rw [if_neg h1]))
    clear h1
    have HR1 := lh hR
    have HX1 := lh hX
    have hss := hX.size
    have HLT := lh hR.own.lt
    clear hR hX
    go_wp2_with (at_builtin; refine wpList_push rfl (.tmp 19) (.tmp 24) _ rfl elemSt (HR1.out.alloc _) (HX1.out.alloc _) (by simp) (Nat.le_refl _) rfl wr.heap.size 1 1 [.int .i64 r.fro, .int .i64 r.val] rfl rfl ?_ (by simp [Value.oneCell']) (by unfold maxLen; omega) (by omega) ?_; (· intro j u hu; have := (Cells.newRow wr #[.int .i64 r.fro, .int .i64 r.val] 136 (0, 0)).get (k := j) (v := u) hu; simpa using this); intro v2 wE hRE hXE hOE; have c1E := ((hXE.below (Nat.le_refl _) (by simp)).cell (p := ⟨b, o + k * 2 + 1, none⟩) (by show b < _; omega)).trans c1w; have hblE : b < wE.heap.size := (by have := hXE.size; omega))
    go_roundw
    case rel => exact ⟨k + 1, by omega, by go_num, r.val, out ++ [r], rfl, lh HV2.out.symm, by simpa using hRE, hXE⟩
    case measure => simp [intOf]; omega
  ·have hr2 := hR.own
   have HE := lh (show out = S.shortSt l by have := hu.out; rw [List.take_of_length_le (by have := HN.out; omega)] at this; unfold S.shortSt; rw [<- this])
   clear hu
   have hol : out.length <= 10000 := by
    rw [HE.out]
    have h1 := shortStF_len l
    have := HN.out
    unfold S.shortSt
    omega
   obtain ⟨A5, c5, rfl, _, _, _⟩ := own_form hr2 (by unfold maxLen; omega)
   go_wp2
   go_ret
   rw [<- HE.out]
   exact ⟨A5, c5, rfl, hr2, hbr⟩
theorem ba_set6 {w W : World} {g : Nat} (h : Below w.heap.size w W) (hg : w.heap.size <= g) (v0 v1 v2 v3 v4 v5 : Value) : Below w.heap.size w ((((((W.setCell ⟨g, 0, none⟩ v0).setCell ⟨g, 1, none⟩ v1).setCell ⟨g, 2, none⟩ v2).setCell ⟨g, 3, none⟩ v3).setCell ⟨g, 4, none⟩ v4).setCell ⟨g, 5, none⟩ v5) :=
 ba_set (ba_set (ba_set (ba_set (ba_set (ba_set h hg _) hg _) hg _) hg _) hg _) hg _
set_option maxHeartbeats 4000000 in
theorem rin_any (a : Bx) (x1 x2 y z : Int) (w : World) :
 Calls Tryz.prog 108 #[boxV a, .agg #[.int .i64 x1, .int .i64 y, .int .i64 z, .int .i64 x2, .int .i64 y, .int .i64 z]] w fun e w' => e = .returned (.bool (S.inside ⟨⟨x1, y, z⟩, ⟨x2, y, z⟩⟩ a)) /\ Below w.heap.size w w' := by
 have H := lh (show S.inside ⟨⟨x1, y, z⟩, ⟨x2, y, z⟩⟩ a = ((decide (a.lo.y <= y) && decide (y <= a.hi.y)) && (decide (a.lo.z <= z) && decide (z <= a.hi.z))) from rfl)
 unfold boxV
 by_cases h1 : a.lo.y <= y <;> by_cases h2 : y <= a.hi.y <;> by_cases h3 : a.lo.z <= z <;> by_cases h4 : z <= a.hi.z
 all_goals (
  have HE := lh (H.out.trans (by simp only [h1, h2, h3, h4, decide_true, decide_false, Bool.and_true, Bool.and_false, Bool.true_and, Bool.false_and]; rfl))
  go_enter Tryz.func108, Tryz.ntmps108
  go_wp2
  go_ret
  exact ⟨ret_b HE.out.symm, bel⟩)
set_option maxRecDepth 20000 in
set_option maxHeartbeats 4000000 in
theorem rnext_any (x : Dt) (n : Nat) (rank : Int -> Nat) (i : Int) (B : Nat) (w : World) (hB : B <= w.heap.size) (hA : DtAt w B x) (hg : LapsGood x.js n rank) (hj : x.jn <= 1000) :
 Calls Tryz.prog 100 #[dtV x, .int .i64 i] w fun e w' => e = .returned (.int .i64 ((S.nextF x.js i).getD (-1))) /\ Below w.heap.size w w' := by
 have hJ := hA.joints
 have hjl := hA.jlen
 have HNF := lh (fun (k : Nat) (hk : k < x.js.length) => nextF_of hg.firsts (List.getElem_mem hk))
 have HNO := lh (fun (h : ∀ k (hk : k < x.js.length), x.js[k].first ≠ i) => show S.nextF x.js i = none from by
  cases hn : S.nextF x.js i with
  | none => rfl
  | some k =>
   obtain ⟨q, hq, he⟩ := List.mem_iff_getElem.1 (nextF_mem hn)
   exact absurd (by rw [he]) (h q hq))
 clear hA hg
 unfold dtV
 have hDB := Blk.new w 34 #[.string x.m.name, .slice x.mA x.mn x.mc, .slice x.hA x.hn x.hc, .int .i64 x.m.cover, .int .i64 x.m.aggr, .int .i64 x.m.poker, .slice x.bA x.bn x.bc, .slice x.rA x.rn x.rc, .slice x.jA x.jn x.jc, .slice x.dA x.dn x.dc, .int .i64 x.rule.num, .int .i64 x.rule.den, .int .i64 x.rule.pnum, .int .i64 x.rule.pden, .int .i64 x.rule.bnum, .int .i64 x.rule.bden, .int .i64 x.rule.lnum, .int .i64 x.rule.lden, .int .i64 x.rule.least]
 have hW1 : Below w.heap.size w (w.alloc (.cells #[.string x.m.name, .slice x.mA x.mn x.mc, .slice x.hA x.hn x.hc, .int .i64 x.m.cover, .int .i64 x.m.aggr, .int .i64 x.m.poker, .slice x.bA x.bn x.bc, .slice x.rA x.rn x.rc, .slice x.jA x.jn x.jc, .slice x.dA x.dn x.dc, .int .i64 x.rule.num, .int .i64 x.rule.den, .int .i64 x.rule.pnum, .int .i64 x.rule.pden, .int .i64 x.rule.bnum, .int .i64 x.rule.bden, .int .i64 x.rule.lnum, .int .i64 x.rule.lden, .int .i64 x.rule.least] 34)) := ba_alloc (Below.refl _ _) _
 generalize x.jA = jA at *
 go_enter Tryz.func100, Tryz.ntmps100
 go_wp2
 generalize (w.alloc (.cells #[.string x.m.name, .slice x.mA x.mn x.mc, .slice x.hA x.hn x.hc, .int .i64 x.m.cover, .int .i64 x.m.aggr, .int .i64 x.m.poker, .slice x.bA x.bn x.bc, .slice x.rA x.rn x.rc, .slice jA x.jn x.jc, .slice x.dA x.dn x.dc, .int .i64 x.rule.num, .int .i64 x.rule.den, .int .i64 x.rule.pnum, .int .i64 x.rule.pden, .int .i64 x.rule.bnum, .int .i64 x.rule.bden, .int .i64 x.rule.lnum, .int .i64 x.rule.lden, .int .i64 x.rule.least] 34)) = W1 at *
 go_loopw [5] (fun s wr => ∃ k : Nat, k <= x.jn /\ s = .int .i64 k /\ Hid (∀ m (h : m < x.js.length), m < k -> x.js[m].first ≠ i) /\ Below W1.heap.size W1 wr) (fun s _ => x.jn - (intOf s).toNat)
 case atStart => exact ⟨0, Nat.zero_le _, rfl, lh fun m _ hm => absurd hm (by omega), Below.refl _ _⟩
 case round =>
  obtain ⟨k, hk, rfl, HNP, hbr⟩ := hrel
  have hbw : Below w.heap.size w wr := ba_via hbr hW1
  have hDr := hDB.via hbr
  have d8 := hDr.cell 8
  have hDl := hDr.lt
  simp only [ga1, ga2, ga3] at d8
  clear hDr
  by_cases hlt : k < x.jn
  ·have hkx : k < x.js.length := by omega
   have hki : (k : Int) < x.jn := by omega
   have hJr := hJ.below (hbw.mono hB)
   obtain ⟨bJ, oJ, hje, hbJ, hxx⟩ := hJr.at_ (by rw [flat_len jnC 2 jnC_len]; omega)
   clear hxx
   subst hje
   have c0 := hJr.row0 jnC_len hkx rfl
   have c1 := hJr.rowj jnC_len hkx 1 rfl
   have HF := lh (HNF.out k hkx)
   have HGO := lh (fun (h : x.js[k].first ≠ i) (m : Nat) (hm : m < x.js.length) (hmk : m < k + 1) => show x.js[m].first ≠ i from by
    by_cases hmk' : m = k
    ·subst hmk'; exact h
    ·exact HNP.out m hm (by omega))
   have hbl : bJ < wr.heap.size := by have := hbw.size; omega
   clear hJr
   generalize x.js[k] = j at *
   cases h1 : (j.first == i)
   ·have HG := lh (HGO.out (by simpa using h1))
    go_wp2
    go_roundw
    case rel => exact ⟨k + 1, by omega, by go_num, HG, bel⟩
    case measure => simp [intOf]; omega
   ·have he : j.first = i := by simpa using h1
    have HE := lh (show (S.nextF x.js i).getD (-1) = j.second by rw [<- he, HF.out]; rfl)
    clear he
    go_wp2
    go_ret
    exact ⟨ret_i HE.out.symm, hbw⟩
  ·have HE := lh (show (S.nextF x.js i).getD (-1) = -1 by rw [HNO.out (fun q hq => HNP.out q hq (by omega))]; rfl)
   go_wp2
   go_ret
   exact ⟨ret_i HE.out.symm, hbw⟩
set_option maxRecDepth 20000 in
set_option maxHeartbeats 8000000 in
theorem rchains_any (x : Dt) (n : Nat) (rank : Int -> Nat) (B : Nat) (w : World) (hB : B <= w.heap.size) (hA : DtAt w B x) (hg : LapsGood x.js n rank) (hn : n <= 2000) (hj : x.jn <= 1000)
 (hCN : ∀ W, Below w.heap.size w W -> Calls Tryz.prog 99 #[dtV x] W fun e w' => e = .returned (.int .i64 n) /\ Below W.heap.size W w') :
 Calls Tryz.prog 73 #[dtV x] w (GivesChs (S.chains x.js n) w) := by
 have hJ := hA.joints
 have hjl := hA.jlen
 have HCN := lh hCN
 have HNX := lh (fun (i : Int) (W : World) (hw : Below w.heap.size w W) => rnext_any x n rank i B W (size_via hB hw) (hA.at_ hB hw) hg hj)
 have HIN := lh (fun (i k : Int) (h : S.nextF x.js i = some k) => (hg.next h).2.1)
 have HEN := lh (fun i => hg.ends_n i)
 have hTK : x.js.take x.jn = x.js := List.take_of_length_le (by omega)
 have HS1 := lh (fun (k : Nat) (hk : k < x.js.length) => show S.secF (x.js.take (k + 1)) = fun i => i == x.js[k].second || S.secF (x.js.take k) i by rw [List.take_succ_eq_append_getElem hk, secF_snoc])
 clear hA hg hCN
 unfold dtV at HCN HNX
 unfold dtV
 have hDB := Blk.new w 34 #[.string x.m.name, .slice x.mA x.mn x.mc, .slice x.hA x.hn x.hc, .int .i64 x.m.cover, .int .i64 x.m.aggr, .int .i64 x.m.poker, .slice x.bA x.bn x.bc, .slice x.rA x.rn x.rc, .slice x.jA x.jn x.jc, .slice x.dA x.dn x.dc, .int .i64 x.rule.num, .int .i64 x.rule.den, .int .i64 x.rule.pnum, .int .i64 x.rule.pden, .int .i64 x.rule.bnum, .int .i64 x.rule.bden, .int .i64 x.rule.lnum, .int .i64 x.rule.lden, .int .i64 x.rule.least]
 have hW1 : Below w.heap.size w (w.alloc (.cells #[.string x.m.name, .slice x.mA x.mn x.mc, .slice x.hA x.hn x.hc, .int .i64 x.m.cover, .int .i64 x.m.aggr, .int .i64 x.m.poker, .slice x.bA x.bn x.bc, .slice x.rA x.rn x.rc, .slice x.jA x.jn x.jc, .slice x.dA x.dn x.dc, .int .i64 x.rule.num, .int .i64 x.rule.den, .int .i64 x.rule.pnum, .int .i64 x.rule.pden, .int .i64 x.rule.bnum, .int .i64 x.rule.bden, .int .i64 x.rule.lnum, .int .i64 x.rule.lden, .int .i64 x.rule.least] 34)) := ba_alloc (Below.refl _ _) _
 have hs1 : (w.alloc (.cells #[.string x.m.name, .slice x.mA x.mn x.mc, .slice x.hA x.hn x.hc, .int .i64 x.m.cover, .int .i64 x.m.aggr, .int .i64 x.m.poker, .slice x.bA x.bn x.bc, .slice x.rA x.rn x.rc, .slice x.jA x.jn x.jc, .slice x.dA x.dn x.dc, .int .i64 x.rule.num, .int .i64 x.rule.den, .int .i64 x.rule.pnum, .int .i64 x.rule.pden, .int .i64 x.rule.bnum, .int .i64 x.rule.bden, .int .i64 x.rule.lnum, .int .i64 x.rule.lden, .int .i64 x.rule.least] 34)).heap.size = w.heap.size + 1 := by simp
 generalize x.jA = jA at *
 go_enter Tryz.func73, Tryz.ntmps73
 go_wp2
 generalize (w.alloc (.cells #[.string x.m.name, .slice x.mA x.mn x.mc, .slice x.hA x.hn x.hc, .int .i64 x.m.cover, .int .i64 x.m.aggr, .int .i64 x.m.poker, .slice x.bA x.bn x.bc, .slice x.rA x.rn x.rc, .slice jA x.jn x.jc, .slice x.dA x.dn x.dc, .int .i64 x.rule.num, .int .i64 x.rule.den, .int .i64 x.rule.pnum, .int .i64 x.rule.pden, .int .i64 x.rule.bnum, .int .i64 x.rule.bden, .int .i64 x.rule.lnum, .int .i64 x.rule.lden, .int .i64 x.rule.least] 34)) = W1 at *
 have hDl1 := hDB.lt
 go_loopw [4, 3] (fun s v wr => ∃ (q : Nat) (rs : List Chn), q <= n /\ s = .int .i64 q /\ rs.map (·.l) = S.chainsTo x.js n q /\ ChsAt wr W1.heap.size v rs /\ Below W1.heap.size W1 wr) (fun s _ _ => n - (intOf s).toNat)
 case atStart => exact ⟨0, [], Nat.zero_le _, rfl, rfl, ⟨World.ownsRow_nil _ _ _ _, fun r hr => by cases hr⟩, Below.refl _ _⟩
 case round =>
  generalize wr = wq at *
  obtain ⟨q, rs, hq, rfl, hrs, hC, hbq⟩ := hrel
  have hrl : rs.length <= q := by
   have := chains_le x.js n q
   rw [<- hrs] at this
   simpa using this
  have hbwq : Below w.heap.size w wq := ba_via hbq hW1
  have HDB := lh (hDB.via hbq)
  have HCNq := lh (fun (W : World) (hw : Below wq.heap.size wq W) => HCN.out W (ba_via hw hbwq))
  have HRS := lh hrs
  have HC := lh hC
  clear hrs hC
  by_cases hlt2 : q < n
  ·have hqi : (q : Int) < n := by omega
   have HQ := lh (show q + 1 <= n by omega)
   clear hq
   go_wp2_with (first
    | (refine wpList_load_mid rfl 34 (.tmp 1) rfl _ _ rfl _ _ (HDB.out.via belr).range Tryz.underlying34 rfl (by kernel_rfl) ?_)
    | (go_at_call 99; (with_reducible refine (HCNq.out _ belr).mono ?_); rintro e wc ⟨rfl, hbwc⟩))
   have hbc : Below wq.heap.size wq wc := hbwc
   go_loopw [5, 6] (fun t s wx => ∃ k : Nat, k <= x.jn /\ s = .int .i64 k /\ t = .bool (S.secF (x.js.take k) q) /\ Below wc.heap.size wc wx) (fun _ s _ => x.jn - (intOf s).toNat)
   case atStart => exact ⟨0, Nat.zero_le _, rfl, rfl, Below.refl _ _⟩
   case round =>
    generalize wr = wx at *
    obtain ⟨k, hk, rfl, rfl, hbx⟩ := hrel
    have hbqx : Below wq.heap.size wq wx := ba_via hbx hbc
    have hbwx : Below w.heap.size w wx := ba_via hbqx hbwq
    have hDr := HDB.out.via hbqx
    have d8 := hDr.cell 8
    have hDl := hDr.lt
    simp only [ga1, ga2, ga3] at d8
    clear hDr
    by_cases hlt : k < x.jn
    ·have hkx : k < x.js.length := by omega
     have hki : (k : Int) < x.jn := by omega
     have hJr := hJ.below (hbwx.mono hB)
     obtain ⟨bJ, oJ, hje, hbJ, hxx⟩ := hJr.at_ (by rw [flat_len jnC 2 jnC_len]; omega)
     clear hxx
     subst hje
     have c0 := hJr.row0 jnC_len hkx rfl
     have c1 := hJr.rowj jnC_len hkx 1 rfl
     have hbl : bJ < wx.heap.size := by have := hbwx.size; omega
     have HS := lh (congrFun (HS1.out k hkx) (q : Int))
     clear hJr
     generalize x.js[k] = j at *
     cases hsk : S.secF (x.js.take k) (q : Int)
     ·cases h1 : (j.second == (q : Int))
      ·have HT := lh (show S.secF (x.js.take (k + 1)) (q : Int) = false by
        rw [HS.out, hsk, Bool.or_false, beq_eq_false_iff_ne]
        exact fun h => (beq_eq_false_iff_ne.1 h1) h.symm)
       go_wp2
       go_roundw
       case rel => exact ⟨k + 1, by omega, by go_num, by rw [HT.out], bel⟩
       case measure => simp [intOf]; omega
      ·have HT := lh (show S.secF (x.js.take (k + 1)) (q : Int) = true by
        rw [HS.out, hsk, Bool.or_false, beq_iff_eq]
        exact (beq_iff_eq.1 h1).symm)
       go_wp2
       go_roundw
       case rel => exact ⟨k + 1, by omega, by go_num, by rw [HT.out], bel⟩
       case measure => simp [intOf]; omega
     ·have HT := lh (show S.secF (x.js.take (k + 1)) (q : Int) = true by rw [HS.out, hsk, Bool.or_true])
      go_wp2
      go_roundw
      case rel => exact ⟨k + 1, by omega, by go_num, by rw [HT.out], bel⟩
      case measure => simp [intOf]; omega
    ·obtain rfl : k = x.jn := by omega
     rw [hTK]
     have hCx := lh (HC.out.kept hbqx)
     cases hsec : S.secF x.js (q : Int) with
     | true =>
      go_wp2
      go_roundw
      case rel => exact ⟨q + 1, rs, HQ.out, by go_num, by rw [chainsTo_no hsec]; exact HRS.out, hCx.out, ba_via hbqx hbq⟩
      case measure => have := HQ.out; simp [intOf]; omega
     | false =>
      have HE0 := lh (HEN.out q)
      have HDX := lh (HDB.out.via hbqx)
      clear HDB HCNq
      have hxs := hbqx.size
      have hqs := hbq.size
      go_wp2
      clear d8
      go_loopw [7, 8] (fun s7 s8 wy => ∃ (m : Nat) (o : Option Int) (xs : List Int) (A : Option Addr) (c : Nat), s7 = .slice A xs.length c /\ s8 = .int .i64 (o.getD (-1)) /\ xs ++ S.rest (S.nextF x.js) m o = S.chainOf (S.nextF x.js) n q /\ S.ends (S.nextF x.js) m o /\ m + xs.length = n + 1 /\ (∀ i, o = some i -> 0 <= i /\ i < n) /\ Row wx wy none W1.heap.size 3 1 (.slice A xs.length c) xs.length (i64s xs) /\ Exc [] wx wy) (fun s _ _ => n + 1 - lenV s)
      case atStart =>
       refine ⟨n + 1, some (q : Int), [], none, 0, rfl, rfl, rfl, HE0.out, by simp, ?_, Row.none_ _ _ _ _, Exc.refl _ _⟩
       intro i hi
       injection hi with hi
       subst hi
       omega
      case round =>
       generalize wr = wy at *
       obtain ⟨m, o, xs, A, c, rfl, rfl, hrest, hends, hm, ho, hR, hX⟩ := hrel
       have hbxy : Below wx.heap.size wx wy := hX.below (Nat.le_refl _) (by simp)
       have hys := hbxy.size
       cases o with
       | some i =>
        obtain ⟨m', rfl, hends', hrest'⟩ := rest_some hends
        rw [hrest'] at hrest
        have hin := ho i rfl
        have hi0 : (0 : Int) <= i := hin.1
        have HR := lh hR
        have HXX := lh hX
        have HRE := lh hrest
        have HEE := lh hends'
        have HO2 := lh (fun k (h : S.nextF x.js i = some k) => HIN.out i k h)
        have HM := lh hm
        have HNI := lh (fun (W : World) (hw : Below w.heap.size w W) => HNX.out i W hw)
        have HXY := lh hbxy
        clear hR hX hrest hends hends' ho hrest' hm hin
        go_wp2_with (first
         | (at_builtin; refine wpList_push rfl (.tmp 40) (.tmp 42) _ rfl elemInt (HR.out.alloc _) (HXX.out.alloc _) (by simp) (by omega) rfl wy.heap.size 1 1 [.int .i64 i] rfl rfl ?_ (by simp [Value.oneCell']) (by have := HM.out; unfold maxLen; omega) (by have := HM.out; omega) ?_; (· intro j u hu; exact one_new _ _ _ _ j u hu); intro v1 wD hRD hXD hOD; obtain ⟨A5, c5, rfl, _, _, hCD⟩ := own_form hRD.own (by have := HM.out; unfold maxLen; omega); have hbD : Below wx.heap.size wx wD := hXD.below (Nat.le_refl _) (by simp))
         | (refine wpList_load_mid rfl 34 (.tmp 1) rfl _ _ rfl _ _ (HDX.out.via hbD).range Tryz.underlying34 rfl (by kernel_rfl) ?_)
         | (go_at_call 100; (with_reducible refine (HNI.out _ (ba_via hbD hbwx)).mono ?_); rintro e wN ⟨rfl, hbwN⟩))
        go_roundw
        case rel =>
         refine ⟨m', S.nextF x.js i, xs ++ [i], A5, c5, by simp, rfl, ?_, HEE.out, by have := HM.out; simp; omega, HO2.out, ?_, Exc.via hbwN hXD⟩
         ·rw [List.append_assoc]; exact HRE.out
         ·rw [i64s_snoc, List.length_append]; exact hRD.via hbwN
        case measure => have := HM.out; simp [lenV]; omega
       | none =>
        rw [rest_none, List.append_nil] at hrest
        have hxp : 0 < xs.length := by rw [hrest]; exact Nat.succ_pos _
        have hCy := HC.out.kept (ba_via hbxy hbqx)
        have hnew : ∃ g, A = some ⟨g, 0, none⟩ /\ W1.heap.size <= g /\ u3.ownBlock ≠ some g /\ wy.ownsRow W1.heap.size 3 1 (.slice A xs.length c) xs.length (i64s xs) := by
         have ho := hR.own
         rcases ho.2 with ⟨_, h0⟩ | ⟨g, cap, cur, hv, hbg, _⟩
         ·omega
         ·injection hv with hA1 _ hc1
          refine ⟨g, hA1, hbg, fun he => ?_, ho⟩
          have h1 := (HC.out.own.lt g he).2
          rcases hR.place g (by rw [hA1]; rfl) with h2 | h2
          ·cases h2
          ·omega
        have HNW := lh hnew
        have HCX := lh hCy
        have HRE := lh hrest
        have hb1y : Below W1.heap.size W1 wy := ba_via hbxy (ba_via hbqx hbq)
        clear hnew hCy hrest hR hX hends hxp
        have hm1 : ¬ ((0 : Int) <= -1) := by omega
        go_wp2_with (at_builtin; refine wpList_push rfl (.tmp 44) (.tmp 46) _ rfl elemRow ((show Row wy wy u3.ownBlock W1.heap.size 108 1 u3 rs.length (rs.map chV) from ⟨HCX.out.own, fun k hk => .inl hk.symm⟩).alloc _) ((Exc.refl u3.ownBlock.toList wy).alloc _) (by intro k hk; simp [hk]) (by omega) rfl wy.heap.size 1 1 [.slice A xs.length c] rfl rfl ?_ (by simp [Value.oneCell']) (by unfold maxLen; omega) (by omega) ?_; (· intro j u hu; exact one_new _ _ _ _ j u hu); intro v2 wE hRE hXE hOE)
        have hpush := ChsAt.push (r := ⟨A, c, xs⟩) (w2 := wE) (v2 := v2) HCX.out HNW.out hRE.own (fun k hk hne => (hOE k (by simp; omega) hne).trans (Below.heap_alloc _ _ k hk)) (fun k hk => hRE.place k hk)
        have hbE : Below W1.heap.size W1 wE := hb1y.trans (hXE.below (by omega) (fun g hg => (HCX.out.own.lt g (by simpa using hg)).1))
        go_roundw
        case rel => exact ⟨q + 1, rs ++ [⟨A, c, xs⟩], HQ.out, by go_num, by rw [chainsTo_yes hsec, List.map_append, HRS.out, <- HRE.out]; rfl, hpush, hbE⟩
        case measure => have := HQ.out; simp [intOf]; omega
  ·obtain rfl : q = n := by omega
   have hqi : ¬ ((q : Int) < q) := by omega
   go_wp2_with (first
    | (refine wpList_load_mid rfl 34 (.tmp 1) rfl _ _ rfl _ _ (HDB.out.via belr).range Tryz.underlying34 rfl (by kernel_rfl) ?_)
    | (go_at_call 99; (with_reducible refine (HCNq.out _ belr).mono ?_); rintro e wc ⟨rfl, hbwc⟩))
   have hCc := HC.out.kept hbwc
   obtain ⟨A5, c5, rfl, hnc5, hxx5, hC5⟩ := own_form hCc.own (by unfold maxLen; omega)
   go_ret
   refine ⟨A5, c5, rs, rfl, HRS.out, hnc5, hC5, fun r hr => ?_, ba_via hbwc hbwq⟩
   obtain ⟨g, h1, h2, h3, h4⟩ := hCc.each r hr
   have hl : r.l ∈ S.chainsTo x.js q q := by rw [<- HRS.out]; exact List.mem_map_of_mem hr
   have hll : r.l.length <= q + 1 := by
    unfold S.chainsTo at hl
    obtain ⟨i, _, hi⟩ := List.mem_map.1 hl
    rw [<- hi]
    exact chainOf_le _ _ _
   have := own_cells h4 (by unfold maxLen; omega)
   exact ⟨this.1, this.2.1⟩
end Go.Proofs.YtmfpbafpnoomeaaGreat
