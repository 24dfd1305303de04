/- Contracts: supply.at, supply.At. Plain: laid bars and chains of a detail without their addresses. Plain: the steps of a supply are valid. Contracts: supply.chains, supply.suppliers that refuse; supply -/
import Derived.Test.YtffkmgjmlahfpaaGreatYAM
import Derived.Test.YtffkmgjmlahfpaaGreatYAN
set_option linter.unusedVariables false
set_option linter.unusedSimpArgs false
namespace Go.Proofs.YtffkmgjmlahfpaaGreat
open Go.RowKit
def S.supAt (z : Bx) (p : Int) (rs : List Rod) (c : SCh) : Bool := S.atPl p c && S.sup rs z c
set_option maxHeartbeats 2000000 in
theorem at_any (x : Dt) (C : List (List Int)) (n : Nat) (z : Bx) (k : Nat) (p : Int) (w : World) (hC : C.length ≤ 2000) (hp : -1048576 ≤ p) (hp' : p ≤ 1048576)
    (hSU : ∀ W, Below w.heap.size w W → Calls Tryz.prog 83 #[dtV x, .int .i64 k] W (GivesSups x C n (fun rs => S.sup rs z) W)) :
    Calls Tryz.prog 81 #[dtV x, .int .i64 k, .int .i64 p] w (GivesSups x C n (S.supAt z p) w) := by
  have HSU := Lib.hid hSU
  clear hSU
  unfold dtV at HSU
  unfold dtV
  have hDB := (Blk.new w 34 #[.string x.m.name, .slice x.mA x.mn x.mc, .slice x.hA x.hn x.hc, .int .i64 x.m.cover, .int .i64 x.m.aggr, .int .i64 x.m.poker, .slice x.bA x.bn x.bc, .slice x.rA x.rn x.rc, .slice x.jA x.jn x.jc, .slice x.dA x.dn x.dc, .int .i64 x.rule.num, .int .i64 x.rule.den, .int .i64 x.rule.pnum, .int .i64 x.rule.pden, .int .i64 x.rule.bnum, .int .i64 x.rule.bden, .int .i64 x.rule.lnum, .int .i64 x.rule.lden, .int .i64 x.rule.least]).alloc (.cells #[.int .i64 p] 3)
  have hPB := Blk.new (w.alloc (.cells #[.string x.m.name, .slice x.mA x.mn x.mc, .slice x.hA x.hn x.hc, .int .i64 x.m.cover, .int .i64 x.m.aggr, .int .i64 x.m.poker, .slice x.bA x.bn x.bc, .slice x.rA x.rn x.rc, .slice x.jA x.jn x.jc, .slice x.dA x.dn x.dc, .int .i64 x.rule.num, .int .i64 x.rule.den, .int .i64 x.rule.pnum, .int .i64 x.rule.pden, .int .i64 x.rule.bnum, .int .i64 x.rule.bden, .int .i64 x.rule.lnum, .int .i64 x.rule.lden, .int .i64 x.rule.least] 34)) 3 #[.int .i64 p]
  have hW1 : Below w.heap.size w ((w.alloc (.cells #[.string x.m.name, .slice x.mA x.mn x.mc, .slice x.hA x.hn x.hc, .int .i64 x.m.cover, .int .i64 x.m.aggr, .int .i64 x.m.poker, .slice x.bA x.bn x.bc, .slice x.rA x.rn x.rc, .slice x.jA x.jn x.jc, .slice x.dA x.dn x.dc, .int .i64 x.rule.num, .int .i64 x.rule.den, .int .i64 x.rule.pnum, .int .i64 x.rule.pden, .int .i64 x.rule.bnum, .int .i64 x.rule.bden, .int .i64 x.rule.lnum, .int .i64 x.rule.lden, .int .i64 x.rule.least] 34)).alloc (.cells #[.int .i64 p] 3)) := ba_alloc (ba_alloc (Below.refl _ _) _) _
  go_enter Tryz.func81, Tryz.ntmps81
  go_upto_region 1 with fail
  rw [show (w.alloc (.cells #[.string x.m.name, .slice x.mA x.mn x.mc, .slice x.hA x.hn x.hc, .int .i64 x.m.cover, .int .i64 x.m.aggr, .int .i64 x.m.poker, .slice x.bA x.bn x.bc, .slice x.rA x.rn x.rc, .slice x.jA x.jn x.jc, .slice x.dA x.dn x.dc, .int .i64 x.rule.num, .int .i64 x.rule.den, .int .i64 x.rule.pnum, .int .i64 x.rule.pden, .int .i64 x.rule.bnum, .int .i64 x.rule.bden, .int .i64 x.rule.lnum, .int .i64 x.rule.lden, .int .i64 x.rule.least] 34)).heap.size = w.heap.size + 1 by simp] at hPB
  generalize ((w.alloc (.cells #[.string x.m.name, .slice x.mA x.mn x.mc, .slice x.hA x.hn x.hc, .int .i64 x.m.cover, .int .i64 x.m.aggr, .int .i64 x.m.poker, .slice x.bA x.bn x.bc, .slice x.rA x.rn x.rc, .slice x.jA x.jn x.jc, .slice x.dA x.dn x.dc, .int .i64 x.rule.num, .int .i64 x.rule.den, .int .i64 x.rule.pnum, .int .i64 x.rule.pden, .int .i64 x.rule.bnum, .int .i64 x.rule.bden, .int .i64 x.rule.lnum, .int .i64 x.rule.lden, .int .i64 x.rule.least] 34)).alloc (.cells #[.int .i64 p] 3)) = W1 at *
  have HDB := Lib.hid hDB
  have HPB := Lib.hid hPB
  clear hDB hPB
  go_upto_region 2 with (first
    | ((with_reducible refine at_load 34 3 ?_); refine wpList_load_mid rfl 34 (.tmp 3) rfl _ _ rfl _ _ (HDB.out.via belr).range Tryz.underlying34 rfl (by kernel_rfl) ?_)
    | (go_at_call 83; (with_reducible refine (HSU.out _ belr).mono ?_); rintro e w2 ⟨A1, c1, rs, A2, c2, cs, b2, rfl, hrl, hok, hb1, hb2, hRC, hRL, hOW, hcl, hsch, hcc, hbw2⟩; have HRL := Lib.hid hrl; have HOK := Lib.hid hok; have HRC := Lib.hid hRC; have HRG := Lib.hid hRL; have HOW := Lib.hid hOW; have HCL := Lib.hid hcl; have HSC := Lib.hid hsch; have HCC := Lib.hid hcc; clear hrl hok hRC hRL hOW hcl hsch hcc))
  have hs1 := hW1.size
  have hs2 := hbw2.size
  have hPB2 := HPB.out.via hbw2
  have p0 := hPB2.cell 0
  have pl := hPB2.lt
  have pl1 := HPB.out.lt
  simp only [List.getElem?_toArray, List.getElem?_cons_zero, List.getElem?_cons_succ] at p0
  have hfl := List.length_filter_le (S.sup rs z) cs
  have hfl2 : (cs.filter (S.sup rs z)).length ≤ 2000 := by rw [HCL.out] at hfl; omega
  have HDF := Lib.hid (fun (W : World) (hw : Below w2.heap.size w2 W) => delf_own (cs.filter (S.sup rs z)) p (w.heap.size + 1) A2 (cs.filter (S.sup rs z)).length c2 b2 W (own_kept HOW.out (fun k hk => hw.block k (HOW.out.lt k hk).2)) hfl2 ((hw.cell (p := ⟨w.heap.size + 1, 0, none⟩) pl).trans p0) (Nat.lt_of_lt_of_le pl hw.size) (fun h => by have := (HOW.out.lt _ h).1; omega))
  have HFF := Lib.hid (show (cs.filter (S.sup rs z)).filter (S.atPl p) = cs.filter (S.supAt z p rs) by rw [List.filter_filter]; rfl)
  rw [HFF.out] at HDF
  have hp1 : ¬ (p < -1048576) := by omega
  have hp2 : ¬ (1048576 < p) := by omega
  clear hfl hPB2 HSU HDB HPB
  go_wp2_with (go_at_call 137; (with_reducible refine (HDF.out _ belr).mono ?_); rintro e w3 ⟨rfl, hO3, hX3⟩; have HO3 := Lib.hid hO3; have HX3 := Lib.hid hX3; clear hO3 hX3)
  go_returns
  have hb3 : Below b2 w2 w3 := HX3.out.below hb2 (fun k hk => (HOW.out.lt k (by simpa using hk)).1)
  have hs3 := HX3.out.size
  exact ⟨A1, c1, rs, A2, c2, cs, b2, rfl, HRL.out, HOK.out, Nat.le_trans hs1 hb1, Nat.le_trans hb2 hs3, HRC.out.below hb3, fun r hr => (HRG.out r hr).below hb3, HO3.out, HCL.out, HSC.out, fun c hc => (HCC.out c hc).below hb3, (ba_via hbw2 hW1).trans (hb3.mono (Nat.le_trans hs1 hb1))⟩
theorem At_any (x : Dt) (C : List (List Int)) (n : Nat) (z : Bx) (k : Nat) (p : Int) (w : World) (hC : C.length ≤ 2000) (har : ∀ (rs : List Rod) (l : List Int) (c : SCh), (∀ (i : Nat) (hi : i < rs.length), RodOk x i rs[i]) → rs.length = n → l ∈ C → SchOk x rs l c → 0 ≤ c.area ∧ c.area ≤ 1000000)
    (hAT : ∀ W, Below w.heap.size w W → Calls Tryz.prog 81 #[dtV x, .int .i64 k, .int .i64 p] W (GivesSups x C n (S.supAt z p) W)) :
    Calls Tryz.prog 30 #[dtV x, .int .i64 k, .int .i64 p] w fun e w' => ∃ (rs : List Rod) (cs : List SCh), e = .returned (.tuple #[.int .i64 (S.valueAt p (cs.filter (S.supAt z p rs))), .int .i64 0]) ∧ rs.length = n ∧ (∀ (i : Nat) (hi : i < rs.length), RodOk x i rs[i]) ∧ cs.length = C.length ∧ (∀ (i : Nat) (hi : i < cs.length) (hj : i < C.length), SchOk x rs C[i] cs[i]) ∧ Below w.heap.size w w' := by
  have HAT := Lib.hid hAT
  have HAR := Lib.hid har
  clear hAT har
  unfold dtV at HAT
  unfold dtV
  have hDB := Blk.new w 34 #[.string x.m.name, .slice x.mA x.mn x.mc, .slice x.hA x.hn x.hc, .int .i64 x.m.cover, .int .i64 x.m.aggr, .int .i64 x.m.poker, .slice x.bA x.bn x.bc, .slice x.rA x.rn x.rc, .slice x.jA x.jn x.jc, .slice x.dA x.dn x.dc, .int .i64 x.rule.num, .int .i64 x.rule.den, .int .i64 x.rule.pnum, .int .i64 x.rule.pden, .int .i64 x.rule.bnum, .int .i64 x.rule.bden, .int .i64 x.rule.lnum, .int .i64 x.rule.lden, .int .i64 x.rule.least]
  have hW1 : Below w.heap.size w (w.alloc (.cells #[.string x.m.name, .slice x.mA x.mn x.mc, .slice x.hA x.hn x.hc, .int .i64 x.m.cover, .int .i64 x.m.aggr, .int .i64 x.m.poker, .slice x.bA x.bn x.bc, .slice x.rA x.rn x.rc, .slice x.jA x.jn x.jc, .slice x.dA x.dn x.dc, .int .i64 x.rule.num, .int .i64 x.rule.den, .int .i64 x.rule.pnum, .int .i64 x.rule.pden, .int .i64 x.rule.bnum, .int .i64 x.rule.bden, .int .i64 x.rule.lnum, .int .i64 x.rule.lden, .int .i64 x.rule.least] 34)) := ba_alloc (Below.refl _ _) _
  go_enter Tryz.func30, Tryz.ntmps30
  go_upto_region 1 with fail
  generalize (w.alloc (.cells #[.string x.m.name, .slice x.mA x.mn x.mc, .slice x.hA x.hn x.hc, .int .i64 x.m.cover, .int .i64 x.m.aggr, .int .i64 x.m.poker, .slice x.bA x.bn x.bc, .slice x.rA x.rn x.rc, .slice x.jA x.jn x.jc, .slice x.dA x.dn x.dc, .int .i64 x.rule.num, .int .i64 x.rule.den, .int .i64 x.rule.pnum, .int .i64 x.rule.pden, .int .i64 x.rule.bnum, .int .i64 x.rule.bden, .int .i64 x.rule.lnum, .int .i64 x.rule.lden, .int .i64 x.rule.least] 34)) = W1 at *
  have HDB := Lib.hid hDB
  clear hDB
  go_upto_region 2 with (first
    | ((with_reducible refine at_load 34 3 ?_); refine wpList_load_mid rfl 34 (.tmp 3) rfl _ _ rfl _ _ (HDB.out.via belr).range Tryz.underlying34 rfl (by kernel_rfl) ?_)
    | (go_at_call 81; (with_reducible refine (HAT.out _ belr).mono ?_); rintro e w2 ⟨A1, c1, rs, A2, c2, cs, b2, rfl, hrl, hok, hb1, hb2, hRC, hRL, hOW, hcl, hsch, hcc, hbw2⟩; have HRL := Lib.hid hrl; have HOK := Lib.hid hok; have HOW := Lib.hid hOW; have HCL := Lib.hid hcl; have HSC := Lib.hid hsch; clear hrl hok hRC hRL hOW hcl hsch hcc))
  have hfl := List.length_filter_le (S.supAt z p rs) cs
  have hfl2 : (cs.filter (S.supAt z p rs)).length ≤ 2000 := by rw [HCL.out] at hfl; omega
  have HV := Lib.hid (fun (W : World) (hw : Below w2.heap.size w2 W) => value_any (cs.filter (S.supAt z p rs)) A2 (cs.filter (S.supAt z p rs)).length c2 p w2.heap.size W hw.size rfl hfl2 ((own_cells HOW.out (by unfold maxLen; omega)).1.below hw) (fun c hc => by
    obtain ⟨i, hi, rfl⟩ := List.getElem_of_mem (List.mem_filter.1 hc).1
    exact HAR.out rs _ _ HOK.out HRL.out (List.getElem_mem _) (HSC.out i hi (by rw [← HCL.out]; exact hi))))
  clear hfl HDB HAT
  go_wp2_with (go_at_call 82; (with_reducible refine (HV.out _ belr).mono ?_); rintro e w3 ⟨rfl, hbw3⟩)
  go_ret2
  exact ⟨rs, cs, rfl, HRL.out, HOK.out, HCL.out, HSC.out, bel⟩
theorem rod_same {x : Dt} {i : Nat} {r r' : Rod} (h : RodOk x i r) (h' : RodOk x i r') : r.bar = r'.bar ∧ r.legs = r'.legs ∧ r.main = r'.main := by
  obtain ⟨k, j, k0, hL, he⟩ := h.ex
  obtain ⟨k', j', k0', hL', he'⟩ := h'.ex
  obtain ⟨e1, e2, e3, e4⟩ := lies_unique hL hL'
  have hl : r.legs = r'.legs := by
    rw [he, he']
    subst e1 e2
    exact congrArg (fun b => S.legsL (S.laidPath b (x.rs[k]'hL.st.lt) j)) (congrArg BarR.b e4)
  exact ⟨e4, hl, by rw [h.main, h'.main, hl]⟩
structure RodsOf (x : Dt) (n : Nat) (rs : List Rod) : Prop where
  len : rs.length = n
  ok : ∀ (i : Nat) (hi : i < rs.length), RodOk x i rs[i]
theorem rods_ex {x : Dt} (h : S.laid (bars x.bs) x.rs = true) : ∃ rs, RodsOf x (S.mains (bars x.bs) x.rs).length rs := by
  have key : ∀ m, m ≤ (S.mains (bars x.bs) x.rs).length → ∃ rs, RodsOf x m rs := by
    intro m
    induction m with
    | zero => intro _; exact ⟨[], rfl, fun i hi => absurd hi (by simp)⟩
    | succ m ih =>
      intro hm
      obtain ⟨rs, hr⟩ := ih (by omega)
      obtain ⟨k, j, k0, r, hL⟩ := lies_of h (show m < _ by omega)
      refine ⟨rs ++ [⟨r, S.legsL (S.laidPath r.b (x.rs[k]'hL.st.lt) j), none, 0, idxf (S.legsL (S.laidPath r.b (x.rs[k]'hL.st.lt) j)) S.isMainB⟩], by simp [hr.len], fun i hi => ?_⟩
      by_cases hi2 : i < rs.length
      · rw [List.getElem_append_left hi2]
        exact hr.ok i hi2
      · have hi3 : i = rs.length := by simp at hi; omega
        subst hi3
        rw [List.getElem_append_right (Nat.le_refl _)]
        simp only [Nat.sub_self, List.getElem_cons_zero]
        exact ⟨⟨k, j, k0, by rw [hr.len]; exact hL, rfl⟩, rfl⟩
  exact key _ (Nat.le_refl _)
theorem rods_at {x : Dt} {n : Nat} {rs rs' : List Rod} (h : RodsOf x n rs) (h' : RodsOf x n rs') (k : Nat) : (rs[k]? = none ∧ rs'[k]? = none) ∨ ∃ r r', rs[k]? = some r ∧ rs'[k]? = some r' ∧ r.bar = r'.bar ∧ r.legs = r'.legs ∧ r.main = r'.main := by
  by_cases hk : k < n
  · have h1 : k < rs.length := by rw [h.len]; exact hk
    have h2 : k < rs'.length := by rw [h'.len]; exact hk
    exact .inr ⟨rs[k], rs'[k], List.getElem?_eq_getElem h1, List.getElem?_eq_getElem h2, rod_same (h.ok k h1) (h'.ok k h2)⟩
  · exact .inl ⟨List.getElem?_eq_none (by rw [h.len]; omega), List.getElem?_eq_none (by rw [h'.len]; omega)⟩
theorem sizeI_same {x : Dt} {n : Nat} {rs rs' : List Rod} (h : RodsOf x n rs) (h' : RodsOf x n rs') : S.sizeI rs = S.sizeI rs' := by
  funext i
  unfold S.sizeI
  rcases rods_at h h' i.toNat with ⟨e1, e2⟩ | ⟨r, r', e1, e2, e3, _⟩
  · rw [e1, e2]
  · rw [e1, e2]
    show r.bar.b.size = r'.bar.b.size
    rw [e3]
theorem outI_same {x : Dt} {n : Nat} {rs rs' : List Rod} (h : RodsOf x n rs) (h' : RodsOf x n rs') (z : Bx) : S.outI rs z = S.outI rs' z := by
  funext i
  unfold S.outI
  rcases rods_at h h' i.toNat with ⟨e1, e2⟩ | ⟨r, r', e1, e2, e3, e4, e5⟩
  · rw [e1, e2]
  · rw [e1, e2]
    show S.outside r z = S.outside r' z
    unfold S.outside
    rw [e4, e5]
theorem spanOf_same {x : Dt} {a a' b b' : Rod} (h1 : a.bar = a'.bar) (h2 : a.legs = a'.legs) (h3 : a.main = a'.main) (h4 : b.bar = b'.bar) (h5 : b.legs = b'.legs) (h6 : b.main = b'.main) : S.spanOf x a b = S.spanOf x a' b' := by
  unfold S.spanOf S.lowOf S.upOf S.legOf
  rw [h1, h2, h3, h4, h5, h6]
def S.spanL (x : Dt) (rs : List Rod) (l : List Int) : Int × Int × Bool :=
  match rs[(l.headD 0).toNat]?, rs[(l.getLastD 0).toNat]? with
  | some a, some b => S.spanOf x a b
  | _, _ => (0, 0, false)
def S.schOf (x : Dt) (rs : List Rod) (l : List Int) : SCh := ⟨none, 0, l, (S.spanL x rs l).1, (S.spanL x rs l).2.1, (S.spanL x rs l).2.2, S.steelArea (S.sizeI rs (minBy (S.sizeI rs) l))⟩
def SCh.bare (c : SCh) : SCh := ⟨none, 0, c.l, c.lo, c.hi, c.is, c.area⟩
theorem sch_bare {x : Dt} {n : Nat} {rs rs0 : List Rod} {l : List Int} {c : SCh} (h : RodsOf x n rs) (h0 : RodsOf x n rs0) (hc : SchOk x rs l c) : c.bare = S.schOf x rs0 l := by
  obtain ⟨a, b, h1, h2, h3⟩ := hc.span
  have hsp : S.spanL x rs0 l = (c.lo, c.hi, c.is) := by
    unfold S.spanL
    rcases rods_at h h0 (l.headD 0).toNat with ⟨e1, _⟩ | ⟨r, r', e1, e2, e3, e4, e5⟩
    · rw [h1] at e1; cases e1
    · rcases rods_at h h0 (l.getLastD 0).toNat with ⟨f1, _⟩ | ⟨s, s', f1, f2, f3, f4, f5⟩
      · rw [h2] at f1; cases f1
      · rw [h1] at e1
        rw [h2] at f1
        injection e1 with e1
        injection f1 with f1
        subst e1 f1
        rw [e2, f2, h3]
        exact (spanOf_same e3 e4 e5 f3 f4 f5).symm
  unfold SCh.bare S.schOf
  rw [hsp, hc.bars, hc.area, sizeI_same h h0]
theorem chs_bare {x : Dt} {n : Nat} {rs rs0 : List Rod} {C : List (List Int)} {cs : List SCh} (h : RodsOf x n rs) (h0 : RodsOf x n rs0) (hl : cs.length = C.length) (hc : ∀ (i : Nat) (hi : i < cs.length) (hj : i < C.length), SchOk x rs C[i] cs[i]) : cs.map SCh.bare = C.map (S.schOf x rs0) := by
  apply List.ext_getElem
  · simp [hl]
  · intro i h1 h2
    rw [List.getElem_map, List.getElem_map]
    rw [List.length_map] at h1 h2
    exact sch_bare h h0 (hc i h1 h2)
theorem filter_bare (p q : SCh → Bool) (h : ∀ c, p c = q c.bare) (cs : List SCh) : (cs.filter p).map SCh.bare = (cs.map SCh.bare).filter q := by
  induction cs with
  | nil => rfl
  | cons c t ih =>
    rw [List.filter_cons, List.map_cons, List.filter_cons, ← h c]
    split
    · rw [List.map_cons, ih]
    · exact ih
theorem value_bare (p : Int) (cs : List SCh) : S.valueAt p (cs.map SCh.bare) = S.valueAt p cs := by
  unfold S.valueAt
  rw [List.foldl_map]
  rfl
theorem sup_bare {x : Dt} {n : Nat} {rs rs0 : List Rod} (h : RodsOf x n rs) (h0 : RodsOf x n rs0) (z : Bx) (c : SCh) : S.sup rs z c = S.sup rs0 z c.bare := by
  unfold S.sup SCh.bare
  rw [outI_same h h0]
theorem supAt_bare {x : Dt} {n : Nat} {rs rs0 : List Rod} (h : RodsOf x n rs) (h0 : RodsOf x n rs0) (z : Bx) (p : Int) (c : SCh) : S.supAt z p rs c = S.supAt z p rs0 c.bare := by
  unfold S.supAt
  rw [sup_bare h h0]
  rfl
def S.supplyAt (x : Dt) (rs : List Rod) (C : List (List Int)) (z : Bx) (p : Int) : Int := S.valueAt p ((C.map (S.schOf x rs)).filter (S.supAt z p rs))
theorem supplyAt_same {x : Dt} {n : Nat} {rs rs0 : List Rod} {C : List (List Int)} {cs : List SCh} (h : RodsOf x n rs) (h0 : RodsOf x n rs0) (hl : cs.length = C.length) (hc : ∀ (i : Nat) (hi : i < cs.length) (hj : i < C.length), SchOk x rs C[i] cs[i]) (z : Bx) (p : Int) :
    S.valueAt p (cs.filter (S.supAt z p rs)) = S.supplyAt x rs0 C z p := by
  unfold S.supplyAt
  rw [← value_bare, filter_bare _ _ (supAt_bare h h0 z p), chs_bare h h0 hl hc]
theorem ends2_bare (cs : List SCh) : S.ends2 (cs.map SCh.bare) = S.ends2 cs := by
  unfold S.ends2
  rw [List.flatMap_map]
  rfl
theorem ofL_bare (cs : List SCh) : S.ofL (cs.map SCh.bare) = S.ofL cs := by
  unfold S.ofL S.places
  rw [ends2_bare]
  unfold S.ofF
  simp only [value_bare]
def S.supplyOf (x : Dt) (rs : List Rod) (C : List (List Int)) (z : Bx) : List Stp := S.shortSt (S.ofL ((C.map (S.schOf x rs)).filter (S.sup rs z)))
theorem supplyOf_same {x : Dt} {n : Nat} {rs rs0 : List Rod} {C : List (List Int)} {cs : List SCh} (h : RodsOf x n rs) (h0 : RodsOf x n rs0) (hl : cs.length = C.length) (hc : ∀ (i : Nat) (hi : i < cs.length) (hj : i < C.length), SchOk x rs C[i] cs[i]) (z : Bx) :
    S.shortSt (S.ofL (cs.filter (S.sup rs z))) = S.supplyOf x rs0 C z := by
  unfold S.supplyOf
  rw [← ofL_bare, filter_bare _ _ (sup_bare h h0 z), chs_bare h h0 hl hc]
def ChIn (C : List (List Int)) (n : Nat) : Prop := ∀ l, l ∈ C → 0 < l.length ∧ l.length ≤ 2001 ∧ ∀ i, i ∈ l → 0 ≤ i ∧ i < (n : Int)
theorem sizeI_at {rs : List Rod} {i : Int} (hk : i.toNat < rs.length) : S.sizeI rs i = rs[i.toNat].bar.b.size := by
  unfold S.sizeI
  rw [List.getElem?_eq_getElem hk]
theorem area_bd {x : Dt} {n : Nat} {C : List (List Int)} (hI : ChIn C n) (hla : S.laid (bars x.bs) x.rs = true) (rs : List Rod) (l : List Int) (c : SCh) (h : RodsOf x n rs) (hl : l ∈ C) (hc : SchOk x rs l c) : 0 ≤ c.area ∧ c.area ≤ 1000000 := by
  obtain ⟨h0, _, h1⟩ := hI l hl
  have hm := minBy_mem (S.sizeI rs) (xs := l) (k := l.length) h0 (Nat.le_refl _)
  rw [List.take_length] at hm
  obtain ⟨h2, h3⟩ := h1 _ hm
  have hk : (minBy (S.sizeI rs) l).toNat < rs.length := by rw [h.len]; omega
  have hs : S.sizeI rs (minBy (S.sizeI rs) l) = rs[(minBy (S.sizeI rs) l).toNat].bar.b.size := sizeI_at hk
  rw [hc.area, hs]
  have hb := bar_size (rod_fit (h.ok _ hk) hla).bar
  generalize rs[(minBy (S.sizeI rs) l).toNat].bar.b.size = d at hb
  rcases size_cases hb with h | h | h | h | h | h | h | h | h <;> (subst h; decide)
theorem compactUpTo_inv (d : Array Int) (hs : ∀ i j, i < j → j < d.size → d[i]! ≤ d[j]!) : ∀ m, m ≤ d.size → (Go.Lib.compactUpTo d m).Pairwise (· < ·) ∧ (∀ x, x ∈ Go.Lib.compactUpTo d m → ∃ j, j < m ∧ x = d[j]!) ∧ (∀ j, j < m → d[j]! ∈ Go.Lib.compactUpTo d m) := by
  intro m
  induction m with
  | zero => intro _; exact ⟨by simp [Go.Lib.compactUpTo], fun x hx => by simp [Go.Lib.compactUpTo] at hx, fun j hj => by omega⟩
  | succ m ih =>
    intro hm
    obtain ⟨h1, h2, h3⟩ := ih (by omega)
    rw [Go.Lib.compactUpTo_succ]
    cases hk : Go.Lib.keeps d m
    · simp only [Bool.false_eq_true, if_false, List.append_nil]
      have hk2 : m ≠ 0 ∧ d[m]! = d[m - 1]! := by
        unfold Go.Lib.keeps at hk
        rw [decide_eq_false_iff_not] at hk
        refine ⟨fun h => hk (.inl h), Classical.byContradiction fun h => hk (.inr h)⟩
      refine ⟨h1, fun x hx => ?_, fun j hj => ?_⟩
      · obtain ⟨j, hj, rfl⟩ := h2 x hx
        exact ⟨j, by omega, rfl⟩
      · by_cases hjm : j = m
        · subst hjm
          rw [hk2.2]
          exact h3 _ (by omega)
        · exact h3 j (by omega)
    · simp only [if_true]
      have hlt : ∀ j, j < m → d[j]! < d[m]! := fun j hj => by
        unfold Go.Lib.keeps at hk
        rw [decide_eq_true_eq] at hk
        rcases hk with h | h
        · omega
        · have h4 := hs (m - 1) m (by omega) (by omega)
          by_cases hjm : j = m - 1
          · subst hjm
            have : d[m - 1]! ≠ d[m]! := fun he => h he.symm
            omega
          · have h5 := hs j (m - 1) (by omega) (by omega)
            have : d[m - 1]! ≠ d[m]! := fun he => h he.symm
            omega
      refine ⟨List.pairwise_append.2 ⟨h1, by simp, fun x hx y hy => ?_⟩, fun x hx => ?_, fun j hj => ?_⟩
      · rw [List.mem_singleton] at hy
        subst hy
        obtain ⟨j, hj, rfl⟩ := h2 x hx
        exact hlt j hj
      · rcases List.mem_append.1 hx with hx | hx
        · obtain ⟨j, hj, rfl⟩ := h2 x hx
          exact ⟨j, by omega, rfl⟩
        · rw [List.mem_singleton] at hx
          exact ⟨m, by omega, hx⟩
      · by_cases hjm : j = m
        · subst hjm; simp
        · exact List.mem_append_left _ (h3 j (by omega))
theorem sortI_mem {zs : List Int} {x : Int} : x ∈ S.sortI zs ↔ x ∈ zs := by unfold S.sortI; exact List.mem_mergeSort
theorem sortI_sorted (zs : List Int) : (S.sortI zs).Pairwise (· ≤ ·) := by
  have := List.pairwise_mergeSort (le := fun x y : Int => decide (x ≤ y)) (fun a b c h1 h2 => by simp only [decide_eq_true_eq] at *; omega) (fun a b => by simp only [Bool.or_eq_true, decide_eq_true_eq]; omega) zs
  unfold S.sortI
  exact this.imp (fun h => by simpa using h)
theorem places_inv (l : List SCh) : (S.places l).Pairwise (· < ·) ∧ ∀ x, x ∈ S.places l ↔ x ∈ S.ends2 l := by
  have hs : ∀ i j, i < j → j < (S.sortI (S.ends2 l)).toArray.size → (S.sortI (S.ends2 l)).toArray[i]! ≤ (S.sortI (S.ends2 l)).toArray[j]! := fun i j hij hj => by
    rw [getElem!_pos _ i (by omega), getElem!_pos _ j hj]
    simp only [List.getElem_toArray]
    exact List.pairwise_iff_getElem.1 (sortI_sorted (S.ends2 l)) i j _ _ hij
  obtain ⟨h1, h2, h3⟩ := compactUpTo_inv _ hs (S.sortI (S.ends2 l)).length (by simp)
  refine ⟨h1, fun x => ⟨fun hx => ?_, fun hx => ?_⟩⟩
  · obtain ⟨j, hj, rfl⟩ := h2 x hx
    rw [getElem!_pos _ j (by simpa using hj)]
    simp only [List.getElem_toArray]
    exact sortI_mem.1 (List.getElem_mem _)
  · obtain ⟨j, hj, rfl⟩ := List.getElem_of_mem (sortI_mem.2 hx)
    have := h3 j hj
    rw [getElem!_pos _ j (by simpa using hj)] at this
    unfold S.places Go.Lib.compact
    simpa using this
theorem ofF_inv (l : List SCh) (ps : List Int) : ((S.ofF l ps).2.map (·.fro)).Sublist ps ∧ ∀ s, s ∈ (S.ofF l ps).2 → s.val = S.valueAt s.fro l := by
  suffices hs : ∀ (ps : List Int) (x : Int × List Stp), (((ps.foldl (fun x p => if S.valueAt p l = x.1 then x else (S.valueAt p l, x.2 ++ [⟨p, S.valueAt p l⟩])) x).2.map (·.fro)).Sublist (x.2.map (·.fro) ++ ps)) ∧ ((∀ s, s ∈ x.2 → s.val = S.valueAt s.fro l) → ∀ s, s ∈ (ps.foldl (fun x p => if S.valueAt p l = x.1 then x else (S.valueAt p l, x.2 ++ [⟨p, S.valueAt p l⟩])) x).2 → s.val = S.valueAt s.fro l) by
    have := hs ps (0, [])
    exact ⟨by simpa [S.ofF] using this.1, this.2 (fun s hs => by cases hs)⟩
  intro ps
  induction ps with
  | nil => intro x; exact ⟨by simp, fun h => h⟩
  | cons a t ih =>
    intro x
    rw [List.foldl_cons]
    obtain ⟨h1, h2⟩ := ih (if S.valueAt a l = x.1 then x else (S.valueAt a l, x.2 ++ [⟨a, S.valueAt a l⟩]))
    refine ⟨h1.trans ?_, fun h => h2 ?_⟩
    · split
      · exact List.Sublist.append (List.Sublist.refl _) (List.sublist_cons_self _ _)
      · simp
    · split
      · exact h
      · intro s hs
        rcases List.mem_append.1 hs with hs | hs
        · exact h s hs
        · rw [List.mem_singleton] at hs
          subst hs
          rfl
theorem steps_ok (l : List SCh) (hlen : l.length ≤ 100) (har : ∀ c, c ∈ l → 0 ≤ c.area ∧ c.area ≤ 1000000) (hpl : ∀ c, c ∈ l → S.place c.lo = true ∧ S.place c.hi = true) : S.steps (S.ofL l) = true := by
  obtain ⟨h1, h2⟩ := ofF_inv l (S.places l)
  obtain ⟨h3, h4⟩ := places_inv l
  have hl : (S.ofL l).length ≤ 200 := by
    have a := ofF_len l (S.places l)
    have b := places_len l
    unfold S.ofL
    omega
  refine rng_yes (p := S.stepAt (S.ofL l)) (by simpa using hl) (fun j hj => ?_)
  have hpw : ((S.ofL l).map (·.fro)).Pairwise (· < ·) := h3.sublist h1
  have hm := List.getElem_mem hj
  have hv := h2 _ hm
  have hp : (S.ofL l)[j].fro ∈ S.places l := h1.subset (List.mem_map.2 ⟨_, hm, rfl⟩)
  have hpp : S.place (S.ofL l)[j].fro = true := by
    have := (h4 _).1 hp
    unfold S.ends2 at this
    obtain ⟨c, hc, hx⟩ := List.mem_flatMap.1 this
    obtain ⟨e1, e2⟩ := hpl c hc
    simp only [List.mem_cons, List.not_mem_nil, or_false] at hx
    rcases hx with hx | hx
    · rw [hx]; exact e1
    · rw [hx]; exact e2
  have hvb := value_bd (S.ofL l)[j].fro har
  unfold S.stepAt
  rw [List.getElem?_eq_getElem hj]
  simp only [Bool.and_eq_true, decide_eq_true_eq]
  refine ⟨⟨⟨hpp, by rw [hv]; omega⟩, by rw [hv]; omega⟩, ?_⟩
  cases j with
  | zero => rfl
  | succ i =>
    simp only []
    rw [List.getElem?_eq_getElem (show i < (S.ofL l).length by omega)]
    simp only [decide_eq_true_eq]
    have := List.pairwise_iff_getElem.1 hpw i (i + 1) (by simp; omega) (by simp; omega) (by omega)
    simpa using this
theorem span_in {x : Dt} {a b : Rod} {lo hi : Int} (hr : S.rule x.rule = true) (ha : RodFit x a) (hb : RodFit x b) (h : (lo, hi, true) = S.spanOf x a b) : -1048576 ≤ lo ∧ lo < hi ∧ hi ≤ 1048576 := by
  unfold S.spanOf at h
  split at h
  · cases h
  · rename_i h1
    split at h
    · cases h
    · rename_i h2
      split at h
      · rename_i h3
        simp only [Prod.mk.injEq, and_true] at h
        obtain ⟨rfl, rfl⟩ := h
        obtain ⟨ja, hja, hjae, _⟩ := idxf_some (xs := a.legs) (p := S.isMainB) (by rw [← ha.main]; omega)
        obtain ⟨jb, hjb, hjbe, _⟩ := idxf_some (xs := b.legs) (p := S.isMainB) (by rw [← hb.main]; omega)
        have hLa : S.legOf a = a.legs[ja] := by unfold S.legOf; rw [ha.main, hjae]; simp [List.getD_eq_getElem?_getD, hja]
        have hLb : S.legOf b = b.legs[jb] := by unfold S.legOf; rw [hb.main, hjbe]; simp [List.getD_eq_getElem?_getD, hjb]
        have e1 := boxOk_x (ha.legs _ (List.getElem_mem hja))
        have e2 := boxOk_x (hb.legs _ (List.getElem_mem hjb))
        rw [← hLa] at e1
        rw [← hLb] at e2
        have e3 := endLen_bd x a hr ha (S.legOf a).lo
        have e4 := endLen_bd x b hr hb (S.legOf b).hi
        change 0 ≤ S.lowOf x a ∧ _ at e3
        change 0 ≤ S.upOf x b ∧ _ at e4
        omega
      · cases h
theorem sch_in {x : Dt} {n : Nat} {rs : List Rod} {l : List Int} {c : SCh} (hla : S.laid (bars x.bs) x.rs = true) (hr : S.rule x.rule = true) (h : RodsOf x n rs) (hc : SchOk x rs l c) (hi : c.is = true) : -1048576 ≤ c.lo ∧ c.lo < c.hi ∧ c.hi ≤ 1048576 := by
  obtain ⟨a, b, h1, h2, h3⟩ := hc.span
  rw [hi] at h3
  obtain ⟨k1, e1⟩ := List.getElem?_eq_some_iff.1 h1
  obtain ⟨k2, e2⟩ := List.getElem?_eq_some_iff.1 h2
  exact span_in hr (e1 ▸ rod_fit (h.ok _ k1) hla) (e2 ▸ rod_fit (h.ok _ k2) hla) h3
theorem of_steps {x : Dt} {n : Nat} {C : List (List Int)} (hC : C.length ≤ 100) (hI : ChIn C n) (hla : S.laid (bars x.bs) x.rs = true) (hr : S.rule x.rule = true) (z : Bx) (rs : List Rod) (cs : List SCh) (h : RodsOf x n rs) (hl : cs.length = C.length) (hc : ∀ (i : Nat) (hi : i < cs.length) (hj : i < C.length), SchOk x rs C[i] cs[i]) :
    S.steps (S.ofL (cs.filter (S.sup rs z))) = true := by
  have hm : ∀ c, c ∈ cs → ∃ l, l ∈ C ∧ SchOk x rs l c := fun c hc' => by
    obtain ⟨i, hi, rfl⟩ := List.getElem_of_mem hc'
    exact ⟨_, List.getElem_mem _, hc i hi (by rw [← hl]; exact hi)⟩
  refine steps_ok _ ?_ (fun c hc' => ?_) (fun c hc' => ?_)
  · have := List.length_filter_le (S.sup rs z) cs
    omega
  · obtain ⟨l, h1, h2⟩ := hm c (List.mem_filter.1 hc').1
    exact area_bd hI hla rs l c h h1 h2
  · obtain ⟨h0, h5⟩ := List.mem_filter.1 hc'
    obtain ⟨l, h1, h2⟩ := hm c h0
    have his : c.is = true := by
      unfold S.sup at h5
      rw [Bool.and_eq_true] at h5
      exact h5.1
    obtain ⟨a1, a2, a3⟩ := sch_in hla hr h h2 his
    unfold S.place
    simp only [Bool.and_eq_true, decide_eq_true_eq]
    omega
set_option maxRecDepth 20000 in
theorem schains_no (x : Dt) (w : World)
    (hLV : ∀ W, Below w.heap.size w W → Calls Tryz.prog 87 #[dtV x] W fun e w' => e = .returned (.bool false) ∧ Below W.heap.size W w') :
    Calls Tryz.prog 93 #[dtV x] w fun e w' => e = .returned (.tuple #[.slice none 0 0, .slice none 0 0, .int .i64 1]) ∧ Below w.heap.size w w' := by
  have HLV := Lib.hid hLV
  clear hLV
  unfold dtV at HLV
  unfold dtV
  have hDB := Blk.new w 34 #[.string x.m.name, .slice x.mA x.mn x.mc, .slice x.hA x.hn x.hc, .int .i64 x.m.cover, .int .i64 x.m.aggr, .int .i64 x.m.poker, .slice x.bA x.bn x.bc, .slice x.rA x.rn x.rc, .slice x.jA x.jn x.jc, .slice x.dA x.dn x.dc, .int .i64 x.rule.num, .int .i64 x.rule.den, .int .i64 x.rule.pnum, .int .i64 x.rule.pden, .int .i64 x.rule.bnum, .int .i64 x.rule.bden, .int .i64 x.rule.lnum, .int .i64 x.rule.lden, .int .i64 x.rule.least]
  have hW1 : Below w.heap.size w (w.alloc (.cells #[.string x.m.name, .slice x.mA x.mn x.mc, .slice x.hA x.hn x.hc, .int .i64 x.m.cover, .int .i64 x.m.aggr, .int .i64 x.m.poker, .slice x.bA x.bn x.bc, .slice x.rA x.rn x.rc, .slice x.jA x.jn x.jc, .slice x.dA x.dn x.dc, .int .i64 x.rule.num, .int .i64 x.rule.den, .int .i64 x.rule.pnum, .int .i64 x.rule.pden, .int .i64 x.rule.bnum, .int .i64 x.rule.bden, .int .i64 x.rule.lnum, .int .i64 x.rule.lden, .int .i64 x.rule.least] 34)) := ba_alloc (Below.refl _ _) _
  go_enter Tryz.func93, Tryz.ntmps93
  go_upto_region 1 with fail
  generalize (w.alloc (.cells #[.string x.m.name, .slice x.mA x.mn x.mc, .slice x.hA x.hn x.hc, .int .i64 x.m.cover, .int .i64 x.m.aggr, .int .i64 x.m.poker, .slice x.bA x.bn x.bc, .slice x.rA x.rn x.rc, .slice x.jA x.jn x.jc, .slice x.dA x.dn x.dc, .int .i64 x.rule.num, .int .i64 x.rule.den, .int .i64 x.rule.pnum, .int .i64 x.rule.pden, .int .i64 x.rule.bnum, .int .i64 x.rule.bden, .int .i64 x.rule.lnum, .int .i64 x.rule.lden, .int .i64 x.rule.least] 34)) = W1 at *
  have HDB := Lib.hid hDB
  clear hDB
  go_wp2_with (first
    | ((with_reducible refine at_load 34 1 ?_); refine wpList_load_mid rfl 34 (.tmp 1) rfl _ _ rfl _ _ (HDB.out.via belr).range Tryz.underlying34 rfl (by kernel_rfl) ?_)
    | (go_at_call 87; (with_reducible refine (HLV.out _ belr).mono ?_); rintro e w2 ⟨rfl, hbw2⟩))
  go_returns
  exact ⟨rfl, bel⟩
theorem sups_err (x : Dt) (k : Int) (er : Int) (w : World) (he : (er == 0) = false)
    (hCH : ∀ W, Below w.heap.size w W → Calls Tryz.prog 93 #[dtV x] W fun e w' => e = .returned (.tuple #[.slice none 0 0, .slice none 0 0, .int .i64 er]) ∧ Below W.heap.size W w') :
    Calls Tryz.prog 83 #[dtV x, .int .i64 k] w fun e w' => e = .returned (.tuple #[.slice none 0 0, .slice none 0 0, .int .i64 er]) ∧ Below w.heap.size w w' := by
  have HCH := Lib.hid hCH
  have he2 : ¬ (er = 0) := by simpa using he
  clear hCH
  unfold dtV at HCH
  unfold dtV
  have hDB := (Blk.new w 34 #[.string x.m.name, .slice x.mA x.mn x.mc, .slice x.hA x.hn x.hc, .int .i64 x.m.cover, .int .i64 x.m.aggr, .int .i64 x.m.poker, .slice x.bA x.bn x.bc, .slice x.rA x.rn x.rc, .slice x.jA x.jn x.jc, .slice x.dA x.dn x.dc, .int .i64 x.rule.num, .int .i64 x.rule.den, .int .i64 x.rule.pnum, .int .i64 x.rule.pden, .int .i64 x.rule.bnum, .int .i64 x.rule.bden, .int .i64 x.rule.lnum, .int .i64 x.rule.lden, .int .i64 x.rule.least]).alloc (.cells #[.int .i64 k] 3)
  have hW1 : Below w.heap.size w ((w.alloc (.cells #[.string x.m.name, .slice x.mA x.mn x.mc, .slice x.hA x.hn x.hc, .int .i64 x.m.cover, .int .i64 x.m.aggr, .int .i64 x.m.poker, .slice x.bA x.bn x.bc, .slice x.rA x.rn x.rc, .slice x.jA x.jn x.jc, .slice x.dA x.dn x.dc, .int .i64 x.rule.num, .int .i64 x.rule.den, .int .i64 x.rule.pnum, .int .i64 x.rule.pden, .int .i64 x.rule.bnum, .int .i64 x.rule.bden, .int .i64 x.rule.lnum, .int .i64 x.rule.lden, .int .i64 x.rule.least] 34)).alloc (.cells #[.int .i64 k] 3)) := ba_alloc (ba_alloc (Below.refl _ _) _) _
  go_enter Tryz.func83, Tryz.ntmps83
  go_upto_region 1 with fail
  generalize ((w.alloc (.cells #[.string x.m.name, .slice x.mA x.mn x.mc, .slice x.hA x.hn x.hc, .int .i64 x.m.cover, .int .i64 x.m.aggr, .int .i64 x.m.poker, .slice x.bA x.bn x.bc, .slice x.rA x.rn x.rc, .slice x.jA x.jn x.jc, .slice x.dA x.dn x.dc, .int .i64 x.rule.num, .int .i64 x.rule.den, .int .i64 x.rule.pnum, .int .i64 x.rule.pden, .int .i64 x.rule.bnum, .int .i64 x.rule.bden, .int .i64 x.rule.lnum, .int .i64 x.rule.lden, .int .i64 x.rule.least] 34)).alloc (.cells #[.int .i64 k] 3)) = W1 at *
  have HDB := Lib.hid hDB
  clear hDB
  go_wp2_with (first
    | ((with_reducible refine at_load 34 2 ?_); refine wpList_load_mid rfl 34 (.tmp 2) rfl _ _ rfl _ _ (HDB.out.via belr).range Tryz.underlying34 rfl (by kernel_rfl) ?_)
    | (go_at_call 93; (with_reducible refine (HCH.out _ belr).mono ?_); rintro e w2 ⟨rfl, hbw2⟩))
  go_returns
  exact ⟨rfl, bel⟩
theorem sups_range (x : Dt) (C : List (List Int)) (n : Nat) (k : Int) (w : World) (hk : k < 0 ∨ (x.dn : Int) ≤ k)
    (hCH : ∀ W, Below w.heap.size w W → Calls Tryz.prog 93 #[dtV x] W (GivesSup x C n W)) :
    Calls Tryz.prog 83 #[dtV x, .int .i64 k] w fun e w' => e = .returned (.tuple #[.slice none 0 0, .slice none 0 0, .int .i64 2]) ∧ Below w.heap.size w w' := by
  have HCH := Lib.hid hCH
  clear hCH
  unfold dtV at HCH
  unfold dtV
  have hDB := (Blk.new w 34 #[.string x.m.name, .slice x.mA x.mn x.mc, .slice x.hA x.hn x.hc, .int .i64 x.m.cover, .int .i64 x.m.aggr, .int .i64 x.m.poker, .slice x.bA x.bn x.bc, .slice x.rA x.rn x.rc, .slice x.jA x.jn x.jc, .slice x.dA x.dn x.dc, .int .i64 x.rule.num, .int .i64 x.rule.den, .int .i64 x.rule.pnum, .int .i64 x.rule.pden, .int .i64 x.rule.bnum, .int .i64 x.rule.bden, .int .i64 x.rule.lnum, .int .i64 x.rule.lden, .int .i64 x.rule.least]).alloc (.cells #[.int .i64 k] 3)
  have hKB := Blk.new (w.alloc (.cells #[.string x.m.name, .slice x.mA x.mn x.mc, .slice x.hA x.hn x.hc, .int .i64 x.m.cover, .int .i64 x.m.aggr, .int .i64 x.m.poker, .slice x.bA x.bn x.bc, .slice x.rA x.rn x.rc, .slice x.jA x.jn x.jc, .slice x.dA x.dn x.dc, .int .i64 x.rule.num, .int .i64 x.rule.den, .int .i64 x.rule.pnum, .int .i64 x.rule.pden, .int .i64 x.rule.bnum, .int .i64 x.rule.bden, .int .i64 x.rule.lnum, .int .i64 x.rule.lden, .int .i64 x.rule.least] 34)) 3 #[.int .i64 k]
  have hW1 : Below w.heap.size w ((w.alloc (.cells #[.string x.m.name, .slice x.mA x.mn x.mc, .slice x.hA x.hn x.hc, .int .i64 x.m.cover, .int .i64 x.m.aggr, .int .i64 x.m.poker, .slice x.bA x.bn x.bc, .slice x.rA x.rn x.rc, .slice x.jA x.jn x.jc, .slice x.dA x.dn x.dc, .int .i64 x.rule.num, .int .i64 x.rule.den, .int .i64 x.rule.pnum, .int .i64 x.rule.pden, .int .i64 x.rule.bnum, .int .i64 x.rule.bden, .int .i64 x.rule.lnum, .int .i64 x.rule.lden, .int .i64 x.rule.least] 34)).alloc (.cells #[.int .i64 k] 3)) := ba_alloc (ba_alloc (Below.refl _ _) _) _
  go_enter Tryz.func83, Tryz.ntmps83
  go_upto_region 1 with fail
  rw [show (w.alloc (.cells #[.string x.m.name, .slice x.mA x.mn x.mc, .slice x.hA x.hn x.hc, .int .i64 x.m.cover, .int .i64 x.m.aggr, .int .i64 x.m.poker, .slice x.bA x.bn x.bc, .slice x.rA x.rn x.rc, .slice x.jA x.jn x.jc, .slice x.dA x.dn x.dc, .int .i64 x.rule.num, .int .i64 x.rule.den, .int .i64 x.rule.pnum, .int .i64 x.rule.pden, .int .i64 x.rule.bnum, .int .i64 x.rule.bden, .int .i64 x.rule.lnum, .int .i64 x.rule.lden, .int .i64 x.rule.least] 34)).heap.size = w.heap.size + 1 by simp] at hKB
  generalize ((w.alloc (.cells #[.string x.m.name, .slice x.mA x.mn x.mc, .slice x.hA x.hn x.hc, .int .i64 x.m.cover, .int .i64 x.m.aggr, .int .i64 x.m.poker, .slice x.bA x.bn x.bc, .slice x.rA x.rn x.rc, .slice x.jA x.jn x.jc, .slice x.dA x.dn x.dc, .int .i64 x.rule.num, .int .i64 x.rule.den, .int .i64 x.rule.pnum, .int .i64 x.rule.pden, .int .i64 x.rule.bnum, .int .i64 x.rule.bden, .int .i64 x.rule.lnum, .int .i64 x.rule.lden, .int .i64 x.rule.least] 34)).alloc (.cells #[.int .i64 k] 3)) = W1 at *
  have HDB := Lib.hid hDB
  have HKB := Lib.hid hKB
  clear hDB hKB
  go_upto_region 2 with (first
    | ((with_reducible refine at_load 34 2 ?_); refine wpList_load_mid rfl 34 (.tmp 2) rfl _ _ rfl _ _ (HDB.out.via belr).range Tryz.underlying34 rfl (by kernel_rfl) ?_)
    | (go_at_call 93; (with_reducible refine (HCH.out _ belr).mono ?_); rintro e w2 ⟨A1, c1, rs, A2, c2, cs, rfl, hrl, hok, hRA, hOW, hcl, hsch, hcc, hbw2⟩; clear hrl hok hRA hOW hcl hsch hcc))
  have hb2 : Below w2.heap.size w2 (w2.alloc (.cells #[.slice A1 rs.length c1] 145)) := ba_alloc (Below.refl _ _) _
  have HD3 := Lib.hid ((HDB.out.via hbw2).via hb2)
  have HK3 := Lib.hid ((HKB.out.via hbw2).via hb2)
  have hw3 : Below w.heap.size w (w2.alloc (.cells #[.slice A1 rs.length c1] 145)) := ba_alloc (ba_via hbw2 hW1) _
  have hwl : w.heap.size < W1.heap.size := HDB.out.lt
  have hwl1 : w.heap.size + 1 < W1.heap.size := HKB.out.lt
  generalize (w2.alloc (.cells #[.slice A1 rs.length c1] 145)) = W3 at *
  have d9 := HD3.out.cell 9
  have k0 := HK3.out.cell 0
  have dl := HD3.out.lt
  have kl := HK3.out.lt
  simp only [List.getElem?_toArray, List.getElem?_cons_zero, List.getElem?_cons_succ] at d9 k0
  by_cases h1 : k < 0
  · go_wp2
    go_returns
    exact ⟨rfl, bel⟩
  · have h2 : (x.dn : Int) ≤ k := by omega
    go_wp2
    go_returns
    exact ⟨rfl, bel⟩
abbrev zbxC : Array Value := #[.int .i64 0, .int .i64 0, .int .i64 0, .int .i64 0, .int .i64 0, .int .i64 0]
theorem ba_set6 {w W : World} {g : Nat} (h : Below w.heap.size w W) (hg : w.heap.size ≤ g) (v0 v1 v2 v3 v4 v5 : Value) : Below w.heap.size w ((((((W.setCell ⟨g, 0, none⟩ v0).setCell ⟨g, 1, none⟩ v1).setCell ⟨g, 2, none⟩ v2).setCell ⟨g, 3, none⟩ v3).setCell ⟨g, 4, none⟩ v4).setCell ⟨g, 5, none⟩ v5) :=
  ba_set (ba_set (ba_set (ba_set (ba_set (ba_set h hg _) hg _) hg _) hg _) hg _) hg _
set_option maxHeartbeats 4000000 in
theorem Leg_any (x : Dt) (n i : Nat) (w : World) (hi : i < n) (hn : n ≤ 2000) (hl : S.laid (bars x.bs) x.rs = true)
    (hLV : ∀ W, Below w.heap.size w W → Calls Tryz.prog 87 #[dtV x] W fun e w' => e = .returned (.bool true) ∧ Below W.heap.size W w')
    (hRD : ∀ W, Below w.heap.size w W → Calls Tryz.prog 92 #[dtV x] W (GivesRods x n W)) :
    Calls Tryz.prog 39 #[dtV x, .int .i64 i] w fun e w' => ∃ r, RodOk x i r ∧ e = .returned (.tuple #[boxV (if r.main < 0 then S.zbox else S.legOf r), .int .i64 (if r.main < 0 then 12 else 0)]) ∧ Below w.heap.size w w' := by
  have HLV := Lib.hid hLV
  have HRD := Lib.hid hRD
  clear hLV hRD
  unfold dtV at HLV HRD
  unfold dtV
  have hDB := (Blk.new w 34 #[.string x.m.name, .slice x.mA x.mn x.mc, .slice x.hA x.hn x.hc, .int .i64 x.m.cover, .int .i64 x.m.aggr, .int .i64 x.m.poker, .slice x.bA x.bn x.bc, .slice x.rA x.rn x.rc, .slice x.jA x.jn x.jc, .slice x.dA x.dn x.dc, .int .i64 x.rule.num, .int .i64 x.rule.den, .int .i64 x.rule.pnum, .int .i64 x.rule.pden, .int .i64 x.rule.bnum, .int .i64 x.rule.bden, .int .i64 x.rule.lnum, .int .i64 x.rule.lden, .int .i64 x.rule.least]).alloc (.cells zbxC 89)
  have hSB := Blk.newN (W := w.alloc (.cells #[.string x.m.name, .slice x.mA x.mn x.mc, .slice x.hA x.hn x.hc, .int .i64 x.m.cover, .int .i64 x.m.aggr, .int .i64 x.m.poker, .slice x.bA x.bn x.bc, .slice x.rA x.rn x.rc, .slice x.jA x.jn x.jc, .slice x.dA x.dn x.dc, .int .i64 x.rule.num, .int .i64 x.rule.den, .int .i64 x.rule.pnum, .int .i64 x.rule.pden, .int .i64 x.rule.bnum, .int .i64 x.rule.bden, .int .i64 x.rule.lnum, .int .i64 x.rule.lden, .int .i64 x.rule.least] 34)) (n := w.heap.size + 1) (by simp) 89 zbxC
  have hW1 : Below w.heap.size w ((w.alloc (.cells #[.string x.m.name, .slice x.mA x.mn x.mc, .slice x.hA x.hn x.hc, .int .i64 x.m.cover, .int .i64 x.m.aggr, .int .i64 x.m.poker, .slice x.bA x.bn x.bc, .slice x.rA x.rn x.rc, .slice x.jA x.jn x.jc, .slice x.dA x.dn x.dc, .int .i64 x.rule.num, .int .i64 x.rule.den, .int .i64 x.rule.pnum, .int .i64 x.rule.pden, .int .i64 x.rule.bnum, .int .i64 x.rule.bden, .int .i64 x.rule.lnum, .int .i64 x.rule.lden, .int .i64 x.rule.least] 34)).alloc (.cells zbxC 89)) := ba_alloc (ba_alloc (Below.refl _ _) _) _
  go_enter Tryz.func39, Tryz.ntmps39
  go_upto_region 1 with fail
  generalize ((w.alloc (.cells #[.string x.m.name, .slice x.mA x.mn x.mc, .slice x.hA x.hn x.hc, .int .i64 x.m.cover, .int .i64 x.m.aggr, .int .i64 x.m.poker, .slice x.bA x.bn x.bc, .slice x.rA x.rn x.rc, .slice x.jA x.jn x.jc, .slice x.dA x.dn x.dc, .int .i64 x.rule.num, .int .i64 x.rule.den, .int .i64 x.rule.pnum, .int .i64 x.rule.pden, .int .i64 x.rule.bnum, .int .i64 x.rule.bden, .int .i64 x.rule.lnum, .int .i64 x.rule.lden, .int .i64 x.rule.least] 34)).alloc (.cells zbxC 89)) = W1 at *
  have HDB := Lib.hid hDB
  have HSB := Lib.hid hSB
  clear hDB hSB
  go_upto_region 4 with (first
    | ((with_reducible refine at_load 34 2 ?_); refine wpList_load_mid rfl 34 (.tmp 2) rfl _ _ rfl _ _ (HDB.out.via belr).range Tryz.underlying34 rfl (by kernel_rfl) ?_)
    | (go_at_call 87; (with_reducible refine (HLV.out _ belr).mono ?_); rintro e w1 ⟨rfl, hbw1⟩)
    | (go_at_call 92; (with_reducible refine (HRD.out _ belr).mono ?_); rintro e w2 ⟨A1, c1, rs, rfl, hrl, hok, hRA, hbw2⟩; have HRL := Lib.hid hrl; have HOK := Lib.hid hok; have HRA := Lib.hid hRA; clear hrl hok hRA))
  have hw2 : Below w.heap.size w w2 := ba_via hbw2 (ba_via hbw1 hW1)
  have hb12 : Below W1.heap.size W1 w2 := ba_via hbw2 hbw1
  have hS2 := HSB.out.via hb12
  have s0 := hS2.cell 0
  have s1 := hS2.cell 1
  have s2 := hS2.cell 2
  have s3 := hS2.cell 3
  have s4 := hS2.cell 4
  have s5 := hS2.cell 5
  have f0 := hS2.frozen 0
  have f1 := hS2.frozen 1
  have f2 := hS2.frozen 2
  have f3 := hS2.frozen 3
  have f4 := hS2.frozen 4
  have f5 := hS2.frozen 5
  have sl := hS2.lt
  simp only [List.getElem?_toArray, List.getElem?_cons_zero, List.getElem?_cons_succ] at s0 s1 s2 s3 s4 s5
  have hix : i < rs.length := by have := HRL.out; omega
  have hRO := HOK.out i hix
  have hF := rod_fit hRO hl
  have hRC := (own_cells HRA.out.own (by have := HRL.out; unfold maxLen; omega)).1
  have HLG := Lib.hid (HRA.out.each _ (List.getElem_mem hix)).cells
  obtain ⟨b1, o1, hA1, hb1, hxx⟩ := hRC.at_ (by rw [flat_len rodC 7 rodC_len]; omega)
  clear hxx
  subst hA1
  have m0 := hRC.row0 rodC_len hix rfl
  have m1 := hRC.rowj rodC_len hix 1 rfl
  have m2 := hRC.rowj rodC_len hix 2 rfl
  have m3 := hRC.rowj rodC_len hix 3 rfl
  have m4 := hRC.rowj rodC_len hix 4 rfl
  have m5 := hRC.rowj rodC_len hix 5 rfl
  have m6 := hRC.rowj rodC_len hix 6 rfl
  have hii : (i : Int) < rs.length := by omega
  have hi0 : ¬ ((i : Int) < 0) := by omega
  have hi1 : ¬ ((rs.length : Int) ≤ i) := by omega
  clear hRC HRA HOK HLV HRD HDB HSB hbw1 hbw2
  have HF := Lib.hid hF
  have HRO := Lib.hid hRO
  clear hF hRO
  generalize rs[i] = r at *
  by_cases h1 : r.main < 0
  · have hbF := ba_set6 (g := w.heap.size + 1) hw2 (Nat.le_succ _) (.int .i64 0) (.int .i64 0) (.int .i64 0) (.int .i64 0) (.int .i64 0) (.int .i64 0)
    go_wp2
    exact bodyPost_ret (v := .tuple #[.agg zbxC, .int .i64 12]) (by simp [results, Tryz.results39, go_sem, *]) rfl ⟨r, HRO.out, by rw [if_pos h1, if_pos h1]; rfl, hbF⟩
  · obtain ⟨ja, hja, hjae, hjam⟩ := idxf_some (xs := r.legs) (p := S.isMainB) (by rw [← HF.out.main]; omega)
    have hma : r.main = (ja : Int) := HF.out.main.trans hjae
    have hLa : S.legOf r = r.legs[ja] := by unfold S.legOf; rw [hma]; simp [List.getD_eq_getElem?_getD, hja]
    have HG1 := Lib.hid (rleg_any r ja (S.legOf r) w2.heap.size w2 (Nat.le_refl _) (by rw [hLa]; exact List.getElem?_eq_getElem hja) hma HLG.out)
    unfold boxV rodV at HG1
    clear hja hjae hjam hma hLa
    generalize hLL : S.legOf r = L at *
    have HLL := Lib.hid hLL
    clear hLL
    go_upto_region 10 with fail
    go_wp2_with (go_at_call 90; (with_reducible refine HG1.out.mono ?_); rintro e w3 ⟨rfl, hb3⟩; have hS3 := hS2.via hb3; have s0 := hS3.cell 0; have s1 := hS3.cell 1; have s2 := hS3.cell 2; have s3 := hS3.cell 3; have s4 := hS3.cell 4; have s5 := hS3.cell 5; have f0 := hS3.frozen 0; have f1 := hS3.frozen 1; have f2 := hS3.frozen 2; have f3 := hS3.frozen 3; have f4 := hS3.frozen 4; have f5 := hS3.frozen 5; have sl3 := hS3.lt; have hw3 : Below w.heap.size w w3 := ba_via hb3 hw2; simp only [List.getElem?_toArray, List.getElem?_cons_zero, List.getElem?_cons_succ] at s0 s1 s2 s3 s4 s5)
    have hbF := ba_set6 (g := w.heap.size + 1) hw3 (Nat.le_succ _) (.int .i64 L.lo.x) (.int .i64 L.lo.y) (.int .i64 L.lo.z) (.int .i64 L.hi.x) (.int .i64 L.hi.y) (.int .i64 L.hi.z)
    exact bodyPost_ret (v := .tuple #[.agg #[.int .i64 L.lo.x, .int .i64 L.lo.y, .int .i64 L.lo.z, .int .i64 L.hi.x, .int .i64 L.hi.y, .int .i64 L.hi.z], .int .i64 0]) (by simp [results, Tryz.results39, go_sem, *]) rfl ⟨r, HRO.out, by rw [if_neg (show ¬ r.main < 0 by omega), if_neg (show ¬ r.main < 0 by omega), HLL.out], hbF⟩
end Go.Proofs.YtffkmgjmlahfpaaGreat
