/- Lemmas. -/
import Derived.Test.YtmfpbafpnoomeaaGreatMZ
import Derived.Test.YtmfpbafpnoomeaaGreatMY
set_option linter.unusedVariables false
set_option linter.unusedSimpArgs false
namespace Go.Proofs.YtmfpbafpnoomeaaGreat
open Go.RowKit
def S.inside (a b : Bx) : Bool := (decide (b.lo.y <= a.lo.y) && decide (a.hi.y <= b.hi.y)) && (decide (b.lo.z <= a.lo.z) && decide (a.hi.z <= b.hi.z))
theorem dwithin_any (lo hi f t : Int) (w : World) :
 Calls Tryz.prog 66 #[.int .i64 lo, .int .i64 hi, .int .i64 f, .int .i64 t] w fun e w' => e = .returned (.bool (decide (f <= lo) && decide (hi <= t))) /\ w = w' := by
 by_cases h : f <= lo
 ·go_enter Tryz.func66, Tryz.ntmps66
  go_wp2
  go_ret
  exact ⟨ret_b (by simp [h]), rfl⟩
 ·go_enter Tryz.func66, Tryz.ntmps66
  go_wp2
  go_ret
  exact ⟨ret_b (by rw [decide_eq_false (by omega)]; rfl), rfl⟩
theorem dinside_any (a b : Bx) (w : World) :
 Calls Tryz.prog 184 #[boxV a, boxV b] w fun e w' => e = .returned (.bool (S.inside a b)) /\ Below w.heap.size w w' := by
 have H := lh (show S.inside a b = ((decide (b.lo.y <= a.lo.y) && decide (a.hi.y <= b.hi.y)) && (decide (b.lo.z <= a.lo.z) && decide (a.hi.z <= b.hi.z))) from rfl)
 have H1 := lh (fun w => dwithin_any a.lo.y a.hi.y b.lo.y b.hi.y w)
 have H2 := lh (fun w => dwithin_any a.lo.z a.hi.z b.lo.z b.hi.z w)
 unfold boxV
 generalize (decide (b.lo.y <= a.lo.y) && decide (a.hi.y <= b.hi.y)) = t1 at *
 generalize (decide (b.lo.z <= a.lo.z) && decide (a.hi.z <= b.hi.z)) = t2 at *
 cases t1
 all_goals (
  go_enter Tryz.func184, Tryz.ntmps184
  go_wp2_with (first
   | (go_at_call 66; (with_reducible refine (H1.out _).mono ?_); rintro e w' ⟨rfl, rfl⟩)
   | (go_at_call 66; (with_reducible refine (H2.out _).mono ?_); rintro e w' ⟨rfl, rfl⟩))
  go_ret
  exact ⟨ret_b (by rw [H.out]; simp), bel⟩)
theorem demIn_any (d : Dm) (x1 x2 y z : Int) (B : Nat) (w : World) (hB : B <= w.heap.size) (hA : StepsAt w B d.A d.n d.st) (hm : d.name.size <= 9223372036854775807) (hd : S.demRight d = true) (hl : S.boxOk ⟨⟨x1, y, z⟩, ⟨x2, y, z⟩⟩ = true) :
 Calls Tryz.prog 129 #[dmV d, .agg #[.int .i64 x1, .int .i64 y, .int .i64 z, .int .i64 x2, .int .i64 y, .int .i64 z]] w fun e w' => e = .returned (.tuple #[.bool (S.inside ⟨⟨x1, y, z⟩, ⟨x2, y, z⟩⟩ d.zone), .int .i64 0]) /\ Below w.heap.size w w' := by
 have HR := lh (fun (W : World) (hw : B <= W.heap.size) (hh : StepsAt W B d.A d.n d.st) => hd ▸ dright_any d B W hw hh hm)
 have HV := lh (fun w => hl ▸ bvalid_any ⟨⟨x1, y, z⟩, ⟨x2, y, z⟩⟩ w)
 have HI := lh (fun w => dinside_any ⟨⟨x1, y, z⟩, ⟨x2, y, z⟩⟩ d.zone w)
 have HA := lh hA
 clear hA hm hd hl
 generalize S.inside ⟨⟨x1, y, z⟩, ⟨x2, y, z⟩⟩ d.zone = t at *
 unfold dmV at HR ⊢
 unfold boxV at HV HI
 simp only [] at HV HI
 go_enter Tryz.func129, Tryz.ntmps129
 go_wp2_with (first
  | (go_at_call 58; (with_reducible refine (HR.out _ (dsize hB bel) (HA.out.below (Below.mono bel hB))).mono ?_); rintro e w1 ⟨rfl, hbw1⟩; obtain ⟨hcw1, hfw1⟩ := bcell hbw1; have hzw1_0 : w.heap.size < w1.heap.size := lt_via hbw1 sz; have hzw1_1 : w.heap.size + 1 < w1.heap.size := lt_via hbw1 sz)
  | (go_at_call 94; (with_reducible refine (HV.out _).mono ?_); rintro e w2 ⟨rfl, hbw2⟩; obtain ⟨hcw2, hfw2⟩ := bcell hbw2; have hzw2_0 : w.heap.size < w2.heap.size := lt_via hbw2 sz; have hzw2_1 : w.heap.size + 1 < w2.heap.size := lt_via hbw2 sz)
  | (go_at_call 184; (with_reducible refine (HI.out _).mono ?_); rintro e w3 ⟨rfl, hbw3⟩; obtain ⟨hcw3, hfw3⟩ := bcell hbw3; have hzw3_0 : w.heap.size < w3.heap.size := lt_via hbw3 sz; have hzw3_1 : w.heap.size + 1 < w3.heap.size := lt_via hbw3 sz))
 go_ret2
 exact ⟨rfl, bel⟩
structure SCh where
 A : Option Addr
 c : Nat
 l : List Int
 lo : Int
 hi : Int
 is : Bool
 area : Int
abbrev schC (r : SCh) : List Value := [.slice r.A r.l.length r.c, .int .i64 r.lo, .int .i64 r.hi, .bool r.is, .int .i64 r.area]
theorem schC_len (r : SCh) : (schC r).length = 5 := rfl
def S.atPl (p : Int) (r : SCh) : Bool := decide (r.lo <= p) && decide (p < r.hi)
def S.valueAt (p : Int) (l : List SCh) : Int := l.foldl (fun n r => if S.atPl p r then n + r.area else n) 0
theorem value_next (p : Int) {l : List SCh} {k : Nat} (h : k < l.length) : S.valueAt p (l.take (k + 1)) = if S.atPl p l[k] then S.valueAt p (l.take k) + l[k].area else S.valueAt p (l.take k) := by
 have e : l.take (k + 1) = l.take k ++ [l[k]] := by rw [List.take_add_one, List.getElem?_eq_getElem h]; rfl
 unfold S.valueAt
 rw [e, List.foldl_append]
 rfl
theorem value_bd (p : Int) {l : List SCh} (h : ∀ r, r ∈ l -> 0 <= r.area /\ r.area <= 1000000) : 0 <= S.valueAt p l /\ S.valueAt p l <= 1000000 * (l.length : Int) := by
 suffices hs : ∀ (l : List SCh) (n : Int), (∀ r, r ∈ l -> 0 <= r.area /\ r.area <= 1000000) -> 0 <= n -> n <= l.foldl (fun n r => if S.atPl p r then n + r.area else n) n /\ l.foldl (fun n r => if S.atPl p r then n + r.area else n) n <= n + 1000000 * (l.length : Int) by
  have := hs l 0 h (Int.le_refl _)
  unfold S.valueAt
  omega
 intro l
 induction l with
 | nil => intro n _ _; simp
 | cons r t ih =>
  intro n h hn
  have h1 := h r (by simp)
  simp only [List.foldl_cons, List.length_cons]
  split
  ·have := ih (n + r.area) (fun q hq => h q (by simp [hq])) (by omega)
   omega
  ·have := ih n (fun q hq => h q (by simp [hq])) hn
   omega
set_option maxHeartbeats 1000000 in
theorem value_any (l : List SCh) (A : Option Addr) (n c : Nat) (p : Int) (B : Nat) (w : World) (hB : B <= w.heap.size) (hn : l.length = n) (hm : n <= 2000) (hs : Cells w B A (l.flatMap schC)) (ha : ∀ r, r ∈ l -> 0 <= r.area /\ r.area <= 1000000) :
 Calls Tryz.prog 57 #[.slice A n c, .int .i64 p] w fun e w' => e = .returned (.int .i64 (S.valueAt p l)) /\ Below w.heap.size w w' := by
 have HN := lh hn
 have HA := lh ha
 clear hn ha
 go_enter Tryz.func57, Tryz.ntmps57
 go_wp2
 go_loopw [5, 10] (fun v i wr => ∃ k : Nat, k <= n /\ i = .int .i64 k /\ ∃ u : Int, v = .int .i64 u /\ Hid (u = S.valueAt p (l.take k)) /\ Below w.heap.size w wr) (fun _ i _ => n - (intOf i).toNat)
 case atStart => exact ⟨0, Nat.zero_le _, rfl, 0, rfl, lh rfl, Below.refl _ _⟩
 case round =>
  obtain ⟨k, hk, rfl, u, rfl, hu, hbr⟩ := hrel
  by_cases hlt : k < n
  ·have hkx : k < l.length := by have := HN.out; omega
   have hs' := hs.below (hbr.mono hB)
   obtain ⟨b, o, rfl, hbB, hx⟩ := hs'.at_ (by rw [flat_len schC 5 schC_len]; omega)
   clear hx
   have c0 := hs'.row0 schC_len hkx rfl
   have c1 := hs'.rowj schC_len hkx 1 rfl
   have c2 := hs'.rowj schC_len hkx 2 rfl
   have c3 := hs'.rowj schC_len hkx 3 rfl
   have c4 := hs'.rowj schC_len hkx 4 rfl
   clear hs'
   have hbl : b < wr.heap.size := by have := hbr.size; omega
   have hki : (k : Int) < n := by omega
   have hub := value_bd p (l := l.take k) (fun r hr => HA.out r (List.mem_of_mem_take hr))
   rw [<- hu.out, List.length_take] at hub
   have hab := HA.out l[k] (List.getElem_mem hkx)
   have HV := lh (value_next p hkx)
   rw [<- hu.out] at HV
   generalize l[k] = r at *
   have hu1 : 0 <= u := hub.1
   have hu2 : u <= 2000000000 := by omega
   have ha1 := hab.1
   have ha2 := hab.2
   clear hub hab
   have HP := lh (show S.atPl p r = (decide (r.lo <= p) && decide (p < r.hi)) from rfl)
   by_cases h1 : r.lo <= p
   ·by_cases h2 : p < r.hi
    ·have HV2 := lh (HV.out.trans (if_pos (by rw [HP.out]; simp [h1, h2])))
     go_wp2
     go_roundw
     case rel => exact ⟨k + 1, by omega, by go_num, u + r.area, rfl, lh HV2.out.symm, bel⟩
     case measure => simp [intOf]; omega
    ·have HV2 := lh (HV.out.trans (if_neg (by rw [HP.out]; simp; omega)))
     go_wp2
     go_roundw
     case rel => exact ⟨k + 1, by omega, by go_num, u, rfl, lh HV2.out.symm, bel⟩
     case measure => simp [intOf]; omega
   ·have HV2 := lh (HV.out.trans (if_neg (by rw [HP.out]; simp; omega)))
    go_wp2
    go_roundw
    case rel => exact ⟨k + 1, by omega, by go_num, u, rfl, lh HV2.out.symm, bel⟩
    case measure => simp [intOf]; omega
  ·have HE := lh (show u = S.valueAt p l by rw [hu.out, List.take_of_length_le (by have := HN.out; omega)])
   clear hu
   go_wp2
   go_ret
   exact ⟨ret_i HE.out, hbr⟩
def S.outside (r : Rod) (z : Bx) : Bool := if r.main < 0 then true else !S.inside (r.legs.getD r.main.toNat S.zbox) z
set_option maxHeartbeats 2000000 in
theorem outside_any (rs : List Rod) (ds : List Dm) (i k : Nat) (r : Rod) (d : Dm) (g1 g2 g3 : Nat) (A : Option Addr) (n c : Nat) (dA : Option Addr) (dn dc : Nat) (B : Nat) (w : World) (hB : B <= w.heap.size) (hn : rs.length = n) (hi : rs[i]? = some r) (hk : ds[k]? = some d)
 (h1 : w.cell? ⟨g1, 0, none⟩ = some (.slice A n c)) (h2 : w.cell? ⟨g2, 9, none⟩ = some (.slice dA dn dc)) (h3 : w.cell? ⟨g3, 0, none⟩ = some (.int .i64 k)) (hl1 : g1 < w.heap.size) (hl2 : g2 < w.heap.size) (hl3 : g3 < w.heap.size)
 (hs : Cells w B A (rs.flatMap rodC)) (hd : DemsAt w B dA dn ds) (hleg : Cells w B r.A (r.legs.flatMap boxC)) (hr : S.demRight d = true) (hrod : r.main = idxf r.legs S.isMainB) (hok : ∀ b, b ∈ r.legs -> S.boxOk b = true) :
 Calls Tryz.prog 128 #[.int .i64 i, .pointer (some ⟨g1, 0, none⟩), .pointer (some ⟨g2, 0, none⟩), .pointer (some ⟨g3, 0, none⟩)] w fun e w' => e = .returned (.bool (S.outside r d.zone)) /\ Below w.heap.size w w' := by
 have HE := lh (show S.outside r d.zone = if r.main < 0 then true else !S.inside (r.legs.getD r.main.toNat S.zbox) d.zone from rfl)
 obtain ⟨hix, hir⟩ := List.getElem?_eq_some_iff.1 hi
 obtain ⟨hkx, hkd⟩ := List.getElem?_eq_some_iff.1 hk
 have hsd := hd.each d (by rw [<- hkd]; exact List.getElem_mem hkx)
 have hnd := hd.name d (by rw [<- hkd]; exact List.getElem_mem hkx)
 have hdl := hd.len
 have hdc := hd.cells
 obtain ⟨b1, o1, hA, hb1, hx⟩ := hs.at_ (by rw [flat_len rodC 7 rodC_len]; omega)
 clear hx
 obtain ⟨b2, o2, hA2, hb2, hx⟩ := hdc.at_ (by rw [flat_len dmC 8 dmC_len]; omega)
 clear hx
 rw [hA] at hs h1
 rw [hA2] at hdc h2
 have r0 := hs.row0 rodC_len hix rfl
 have r1 := hs.rowj rodC_len hix 1 rfl
 have r2 := hs.rowj rodC_len hix 2 rfl
 have r3 := hs.rowj rodC_len hix 3 rfl
 have r4 := hs.rowj rodC_len hix 4 rfl
 have r5 := hs.rowj rodC_len hix 5 rfl
 have r6 := hs.rowj rodC_len hix 6 rfl
 rw [hir] at r0 r1 r2 r3 r4 r5 r6
 have d0 := hdc.row0 dmC_len hkx rfl
 have d1 := hdc.rowj dmC_len hkx 1 rfl
 have d2 := hdc.rowj dmC_len hkx 2 rfl
 have d3 := hdc.rowj dmC_len hkx 3 rfl
 have d4 := hdc.rowj dmC_len hkx 4 rfl
 have d5 := hdc.rowj dmC_len hkx 5 rfl
 have d6 := hdc.rowj dmC_len hkx 6 rfl
 have d7 := hdc.rowj dmC_len hkx 7 rfl
 rw [hkd] at d0 d1 d2 d3 d4 d5 d6 d7
 have hin : (i : Int) < n := by omega
 have hkn : (k : Int) < dn := by omega
 have hb1l : b1 < w.heap.size := by omega
 have hb2l : b2 < w.heap.size := by omega
 clear hs hdc hd hi hk hir hkd hix hkx hA hA2 hn hdl
 by_cases hm : r.main < 0
 ·have HE2 := lh (HE.out.trans (if_pos hm))
  clear hrod
  generalize r.main = mm at *
  go_enter Tryz.func128, Tryz.ntmps128
  go_wp2
  go_ret
  exact ⟨ret_b HE2.out.symm, bel⟩
 ·obtain ⟨q, hq, hqe, hqm⟩ := idxf_some (xs := r.legs) (p := S.isMainB) (by rw [<- hrod]; omega)
  have hbk := hok _ (List.getElem_mem hq)
  have HE2 := lh (show S.outside r d.zone = !S.inside r.legs[q] d.zone by rw [HE.out, if_neg hm, hrod, hqe]; simp [List.getD_eq_getElem?_getD, hq])
  have hm2 : r.main = (q : Int) := by rw [hrod, hqe]
  have HLG := lh (fun (W : World) (hw : Below w.heap.size w W) => rleg_any r q r.legs[q] B W (dsize hB hw) (List.getElem?_eq_getElem hq) hm2 (hleg.below (hw.mono hB)))
  obtain ⟨e1, e2, e3⟩ := isMainB_iff.1 hqm
  clear hrod hm hqe hqm hok hleg HE
  generalize hlq : r.legs[q] = L at *
  obtain ⟨⟨x1, y, z⟩, ⟨x2, y2, z2⟩⟩ := L
  simp only [] at e1 e2 e3
  subst e2 e3
  have HDI := lh (fun (W : World) (hw : Below w.heap.size w W) => demIn_any d x1 x2 y z B W (dsize hB hw) (hsd.below (hw.mono hB)) hnd hr hbk)
  generalize S.inside ⟨⟨x1, y, z⟩, ⟨x2, y, z⟩⟩ d.zone = t at *
  have hq0 : ¬ ((q : Int) < 0) := by omega
  unfold rodV boxV at HLG
  unfold dmV at HDI
  simp only [hm2] at HLG r6
  clear hlq hm2 hsd hnd hr hbk hq e1
  generalize r.legs.length = ln at *
  go_enter Tryz.func128, Tryz.ntmps128
  go_upto_region 3 with fail
  refine wp_region_mix 4 [9, 0] (by kernel_rfl) (by kernel_rfl) (of_decide_eq_true (by kernel_rfl)) ?_
  try simp only [wpSegs, gt1, gt2, gt3, gt4, List.take_nil, List.drop_nil]
  repeat (go_big_quiet_step (fail))
  refine wpQuiet_nil ?_
  show wpList _ _ _ _ _ _
  go_wp2_with ((go_at_call 130; (with_reducible refine (HLG.out _ belr).mono ?_); rintro e w1 ⟨rfl, hbw1⟩))
  refine seg_next (grow_to belr) ?_
  try simp only [wpSegs, gt1, gt2, gt3, gt4, List.take_nil, List.drop_nil]
  repeat (go_big_quiet_step (fail))
  refine wpQuiet_nil ?_
  show wpList _ _ _ _ _ _
  go_wp2_with ((go_at_call 129; (with_reducible refine (HDI.out _ belr).mono ?_); rintro e w2 ⟨rfl, hbw2⟩))
  refine seg_next (grow_to belr) ?_
  try simp only [wpSegs, gt1, gt2, gt3, gt4, List.take_nil, List.drop_nil]
  repeat (go_big_quiet_step (fail))
  refine wpQuiet_nil ?_
  show wpList _ _ _ _ _ _
  go_wp2
  go_ret
  exact ⟨ret_b (by rw [HE2.out]), bel⟩
theorem notat_any (r : SCh) (p : Int) (g : Nat) (w : World) (hc : w.cell? ⟨g, 0, none⟩ = some (.int .i64 p)) (hg : g < w.heap.size) :
 Calls Tryz.prog 92 #[.agg #[.slice r.A r.l.length r.c, .int .i64 r.lo, .int .i64 r.hi, .bool r.is, .int .i64 r.area], .pointer (some ⟨g, 0, none⟩)] w fun e w' => e = .returned (.bool (!S.atPl p r)) /\ Below w.heap.size w w' := by
 have HE := lh (show S.atPl p r = (decide (r.lo <= p) && decide (p < r.hi)) from rfl)
 by_cases h1 : p < r.lo
 ·go_enter Tryz.func92, Tryz.ntmps92
  go_wp2
  go_ret
  exact ⟨ret_b (by rw [HE.out, decide_eq_false (by omega)]; rfl), bel⟩
 ·by_cases h2 : r.hi <= p
  ·go_enter Tryz.func92, Tryz.ntmps92
   go_wp2
   go_ret
   exact ⟨ret_b (by rw [HE.out, decide_eq_true (by omega), decide_eq_false (by omega)]; rfl), bel⟩
  ·go_enter Tryz.func92, Tryz.ntmps92
   go_wp2
   go_ret
   exact ⟨ret_b (by rw [HE.out, decide_eq_true (by omega), decide_eq_true (by omega)]; rfl), bel⟩
theorem okAx_join {a b c d : Int} (h1 : -1048576 <= a /\ a <= 1048576) (h2 : -1048576 <= b /\ b <= 1048576) : S.okAx (if b < a then b else a) (if a < b then b else a) = true := by
 simp only [S.okAx, Bool.and_eq_true, decide_eq_true_eq]
 split <;> split <;> omega
theorem legB_in {p q : Pt} (hp : S.near1 p 1048576 = true) (hq : S.near1 q 1048576 = true) : S.boxOk (S.legB p q) = true := by
 obtain ⟨px, py, pz⟩ := near1_out hp
 obtain ⟨qx, qy, qz⟩ := near1_out hq
 show (S.okAx (if q.x < p.x then q.x else p.x) (if p.x < q.x then q.x else p.x) && S.okAx (if q.y < p.y then q.y else p.y) (if p.y < q.y then q.y else p.y) && S.okAx (if q.z < p.z then q.z else p.z) (if p.z < q.z then q.z else p.z)) = true
 rw [okAx_join (c := 0) (d := 0) px qx, okAx_join (c := 0) (d := 0) py qy, okAx_join (c := 0) (d := 0) pz qz]
 rfl
structure RodFit (x : Dt) (r : Rod) : Prop where
 legs : ∀ b, b ∈ r.legs -> S.boxOk b = true
 len : r.legs.length = (S.legsOf r.bar.b.code).length
 bar : S.bar r.bar.b = true
 mem : r.bar ∈ x.bs
 main : r.main = idxf r.legs S.isMainB
theorem rod_fit {x : Dt} {i : Nat} {r : Rod} (h : RodOk x i r) (hl : S.laid (bars x.bs) x.rs = true) : RodFit x r := by
 obtain ⟨k, j, k0, hL, he⟩ := h.ex
 have hnear : S.near (S.laidPath r.bar.b (x.rs[k]'hL.st.lt) j) 1048576 = true := by
  have hr := hl
  simp only [S.laid, Bool.and_eq_true] at hr
  exact laid_near hL.st.ok (runs_in hr.2 (List.getElem_mem hL.st.lt)) hL.st.inr
 have hll := laidPath_len r.bar.b (x.rs[k]'hL.st.lt) j
 refine ⟨fun b hb => ?_, ?_, hL.st.ok.bar, List.mem_of_getElem? hL.get, h.main⟩
 ·rw [he] at hb
  unfold S.legsL S.legsTo at hb
  obtain ⟨q, hq, rfl⟩ := List.mem_map.1 hb
  rw [List.mem_range] at hq
  refine legB_in ?_ ?_
  ·have := near_in hnear (show q < _ by omega)
   simpa [S.ptD, List.getElem?_eq_getElem (show q < (S.laidPath r.bar.b (x.rs[k]'hL.st.lt) j).length by omega)] using this
  ·have := near_in hnear (show q + 1 < _ by omega)
   simpa [S.ptD, List.getElem?_eq_getElem (show q + 1 < (S.laidPath r.bar.b (x.rs[k]'hL.st.lt) j).length by omega)] using this
 ·rw [he, S.legsL, legsTo_len, hll]
  rfl
theorem rod_given {x : Dt} {r : Rod} (h : RodFit x r) (hr : S.rule x.rule = true) (hm : S.member x.m = true) (h0 : 0 <= r.main) : S.given x.rule x.m r.bar.b r.legs = 0 := by
 have h1 : S.heads x.rule x.m r.bar.b = true := by unfold S.heads; rw [hr, hm, h.bar]; rfl
 have h2 : anyb r.legs S.boxNot = false := anyb_not (p := S.boxNot) fun q hq => by
  show (!S.boxOk r.legs[q]) = false
  rw [h.legs _ (List.getElem_mem hq)]
  rfl
 unfold S.given
 rw [if_neg (by rw [h1]; simp), if_neg (by rw [h2]; simp), if_pos h.len, if_neg (by rw [<- h.main]; omega)]
def S.legOf (r : Rod) : Bx := r.legs.getD r.main.toNat S.zbox
def S.lowOf (x : Dt) (r : Rod) : Int := S.endLen x.rule x.m r.bar.b r.legs r.main.toNat (S.legOf r).lo
def S.upOf (x : Dt) (r : Rod) : Int := S.endLen x.rule x.m r.bar.b r.legs r.main.toNat (S.legOf r).hi
theorem ends_rod (x : Dt) (r : Rod) (B : Nat) (w : World) (hB : B <= w.heap.size) (hA : DtAt w B x) (hleg : Cells w B r.A (r.legs.flatMap boxC)) (h : RodFit x r) (hr : S.rule x.rule = true) (hm : S.member x.m = true) (h0 : 0 <= r.main) :
 Calls Tryz.prog 182 #[ruleV x.rule, memV x.m x.mA x.mn x.mc x.hA x.hn x.hc, barV r.bar.b r.bar.A r.bar.n r.bar.c, .slice r.A r.legs.length r.c] w fun e w' => e = .returned (.tuple #[.int .i64 (S.lowOf x r), .int .i64 (S.upOf x r), .int .i64 0]) /\ Below w.heap.size w w' := by
 obtain ⟨q, hq, hqe, _⟩ := idxf_some (xs := r.legs) (p := S.isMainB) (by rw [<- h.main]; exact h0)
 have hl6 := legs_len r.bar.b.code
 have hE : EndsAt w B x.mA x.mn x.hA x.hn x.m r.bar.A r.bar.n r.bar.b r.A r.legs.length r.legs := ⟨hA.sol, hA.bars.each _ h.mem, hleg, rfl, by have := h.len; omega, hA.name⟩
 have := aends_yes x.rule x.m x.mA x.mn x.mc x.hA x.hn x.hc r.bar.b r.bar.A r.bar.n r.bar.c r.A r.legs.length r.c r.legs B w hB hE (rod_given h hr hm h0) q hq hqe
 have e : r.main.toNat = q := by rw [h.main, hqe]; rfl
 unfold S.lowOf S.upOf S.legOf
 rw [e]
 exact this
theorem LegsAt.cells {w : World} {base : Nat} {v : Value} {r : Rod} (h : LegsAt w base v r) : Cells w w.heap.size r.A (r.legs.flatMap boxC) := by
 obtain ⟨g, cur, t, fr, h1, _, _, h4, h5⟩ := h
 exact .inr ⟨g, 0, h1, (Array.getElem?_eq_some_iff.1 h4).1, fun j v hv => by rw [Nat.zero_add, cell_of_row w g j cur t fr h4]; exact h5 j v hv⟩
theorem DtAt.wide {w : World} {B B' : Nat} {x : Dt} (h : DtAt w B x) (hB : B <= B') : DtAt w B' x :=
 ⟨⟨h.sol.len, h.sol.max, h.sol.len', h.sol.max', h.sol.cells.mono hB, h.sol.cells'.mono hB⟩, h.name, ⟨h.bars.len, h.bars.max, h.bars.cells.mono hB, fun r hr => (h.bars.each r hr).mono hB⟩, ⟨h.runs.len, h.runs.max, h.runs.cells.mono hB⟩, h.jlen, h.jmax, h.joints.mono hB⟩
theorem Blk.mid {w : World} {g : Nat} {t : TypeId} {cs : List Value} (h : Blk w g t cs.toArray) (o : Nat) (zs : List Value) (hz : (cs.drop o).take zs.length = zs) : w.rangeAt g o zs := fun j v hv => by
 rw [h.cell]
 rw [<- hz, List.getElem?_take] at hv
 split at hv
 ·simpa [List.getElem?_drop] using hv
 ·cases hv
theorem endLen_bd (x : Dt) (r : Rod) (hr : S.rule x.rule = true) (h : RodFit x r) (p : Pt) : 0 <= S.endLen x.rule x.m r.bar.b r.legs r.main.toNat p /\ S.endLen x.rule x.m r.bar.b r.legs r.main.toNat p <= 40000000000 := by
 have hs : 0 <= r.bar.b.size /\ r.bar.b.size <= 40 := by
  rcases size_cases (bar_size h.bar) with h | h | h | h | h | h | h | h | h <;> omega
 exact length_bd (rule_ok hr) hs.1 hs.2 _ _
def S.sizeI (rs : List Rod) (i : Int) : Int := match rs[i.toNat]? with | some r => r.bar.b.size | none => 0
def S.spanOf (x : Dt) (a b : Rod) : Int × Int × Bool :=
 if a.main < 0 then (0, 0, false) else if b.main < 0 then (0, 0, false) else
 if (S.legOf a).lo.x + S.lowOf x a < (S.legOf b).hi.x - S.upOf x b then ((S.legOf a).lo.x + S.lowOf x a, (S.legOf b).hi.x - S.upOf x b, true) else (0, 0, false)
structure SchOk (x : Dt) (rs : List Rod) (l : List Int) (c : SCh) : Prop where
 bars : c.l = l
 area : c.area = S.steelArea (S.sizeI rs (minBy (S.sizeI rs) l))
 span : ∃ a b, rs[(l.headD 0).toNat]? = some a /\ rs[(l.getLastD 0).toNat]? = some b /\ (c.lo, c.hi, c.is) = S.spanOf x a b
def GivesSup (x : Dt) (C : List (List Int)) (n : Nat) (w : World) (e : Ending) (w' : World) : Prop :=
 ∃ (A1 : Option Addr) (c1 : Nat) (rs : List Rod) (A2 : Option Addr) (c2 : Nat) (cs : List SCh), e = .returned (.tuple #[.slice A1 rs.length c1, .slice A2 cs.length c2, .int .i64 0]) /\ rs.length = n /\ (∀ (i : Nat) (hi : i < rs.length), RodOk x i rs[i]) /\ RodsAt w' w.heap.size (.slice A1 rs.length c1) rs /\
  w'.ownsRow w.heap.size 172 5 (.slice A2 cs.length c2) cs.length (cs.flatMap schC) /\ cs.length = C.length /\ (∀ (i : Nat) (hi : i < cs.length) (hj : i < C.length), SchOk x rs C[i] cs[i]) /\ (∀ c, c ∈ cs -> Cells w' w'.heap.size c.A (i64s c.l)) /\ Below w.heap.size w w'
theorem elemSch : Elem Tryz.prog 118 172 (.agg #[.slice none 0 0, .int .i64 0, .int .i64 0, .bool false, .int .i64 0]) 5 56 := ⟨Tryz.underlying118, by kernel_rfl, rfl, by decide⟩
end Go.Proofs.YtmfpbafpnoomeaaGreat
