/- Lemmas. -/
import Derived.Sort.OwnSortedInts
import Derived.Lib.RowBridge
import Derived.Test.YtmfpbafpnoomeaaGreatMAB
import Derived.Test.YtmfpbafpnoomeaaGreatMAE
import Derived.Test.YtmfpbafpnoomeaaGreatMAG
set_option linter.unusedVariables false
set_option linter.unusedSimpArgs false
namespace Go.Proofs.YtmfpbafpnoomeaaGreat
open Go.RowKit
def S.inside (a b : Bx) : Bool := (decide (b.lo.y <= a.lo.y) && decide (a.hi.y <= b.hi.y)) && (decide (b.lo.z <= a.lo.z) && decide (a.hi.z <= b.hi.z))
theorem dwithin_any (lo hi f t : Int) (w : World) :
 Calls Tryz.prog 66 #[.int .i64 lo, .int .i64 hi, .int .i64 f, .int .i64 t] w fun e w' => e = .returned (.bool (decide (f <= lo) && decide (hi <= t))) /\ w = w' := by
 by_cases h : f <= lo
 ·go_enter Tryz.func66, Tryz.ntmps66
  go_wp2
  go_ret
  exact ⟨ret_b (by simp [h]), rfl⟩
 ·go_enter Tryz.func66, Tryz.ntmps66
  go_wp2
  go_ret
  exact ⟨ret_b (by rw [decide_eq_false (by omega)]; rfl), rfl⟩
theorem dinside_any (a b : Bx) (w : World) :
 Calls Tryz.prog 184 #[boxV a, boxV b] w fun e w' => e = .returned (.bool (S.inside a b)) /\ Below w.heap.size w w' := by
 have H := lh (show S.inside a b = ((decide (b.lo.y <= a.lo.y) && decide (a.hi.y <= b.hi.y)) && (decide (b.lo.z <= a.lo.z) && decide (a.hi.z <= b.hi.z))) from rfl)
 have H1 := lh (fun w => dwithin_any a.lo.y a.hi.y b.lo.y b.hi.y w)
 have H2 := lh (fun w => dwithin_any a.lo.z a.hi.z b.lo.z b.hi.z w)
 unfold boxV
 generalize (decide (b.lo.y <= a.lo.y) && decide (a.hi.y <= b.hi.y)) = t1 at *
 generalize (decide (b.lo.z <= a.lo.z) && decide (a.hi.z <= b.hi.z)) = t2 at *
 cases t1
 all_goals (
  go_enter Tryz.func184, Tryz.ntmps184
  go_wp2_with (first
   | (go_at_call 66; (with_reducible refine (H1.out _).mono ?_); rintro e w' ⟨rfl, rfl⟩)
   | (go_at_call 66; (with_reducible refine (H2.out _).mono ?_); rintro e w' ⟨rfl, rfl⟩))
  go_ret
  exact ⟨ret_b (by rw [H.out]; simp), bel⟩)
theorem demIn_any (d : Dm) (x1 x2 y z : Int) (B : Nat) (w : World) (hB : B <= w.heap.size) (hA : StepsAt w B d.A d.n d.st) (hm : d.name.size <= 9223372036854775807) (hd : S.demRight d = true) (hl : S.boxOk ⟨⟨x1, y, z⟩, ⟨x2, y, z⟩⟩ = true) :
 Calls Tryz.prog 129 #[dmV d, .agg #[.int .i64 x1, .int .i64 y, .int .i64 z, .int .i64 x2, .int .i64 y, .int .i64 z]] w fun e w' => e = .returned (.tuple #[.bool (S.inside ⟨⟨x1, y, z⟩, ⟨x2, y, z⟩⟩ d.zone), .int .i64 0]) /\ Below w.heap.size w w' := by
 have HR := lh (fun (W : World) (hw : B <= W.heap.size) (hh : StepsAt W B d.A d.n d.st) => hd ▸ dright_any d B W hw hh hm)
 have HV := lh (fun w => hl ▸ bvalid_any ⟨⟨x1, y, z⟩, ⟨x2, y, z⟩⟩ w)
 have HI := lh (fun w => dinside_any ⟨⟨x1, y, z⟩, ⟨x2, y, z⟩⟩ d.zone w)
 have HA := lh hA
 clear hA hm hd hl
 generalize S.inside ⟨⟨x1, y, z⟩, ⟨x2, y, z⟩⟩ d.zone = t at *
 unfold dmV at HR ⊢
 unfold boxV at HV HI
 simp only [] at HV HI
 go_enter Tryz.func129, Tryz.ntmps129
 go_wp2_with (first
  | (go_at_call 58; (with_reducible refine (HR.out _ (dsize hB bel) (HA.out.below (Below.mono bel hB))).mono ?_); rintro e w1 ⟨rfl, hbw1⟩; obtain ⟨hcw1, hfw1⟩ := bcell hbw1; have hzw1_0 : w.heap.size < w1.heap.size := lt_via hbw1 sz; have hzw1_1 : w.heap.size + 1 < w1.heap.size := lt_via hbw1 sz)
  | (go_at_call 94; (with_reducible refine (HV.out _).mono ?_); rintro e w2 ⟨rfl, hbw2⟩; obtain ⟨hcw2, hfw2⟩ := bcell hbw2; have hzw2_0 : w.heap.size < w2.heap.size := lt_via hbw2 sz; have hzw2_1 : w.heap.size + 1 < w2.heap.size := lt_via hbw2 sz)
  | (go_at_call 184; (with_reducible refine (HI.out _).mono ?_); rintro e w3 ⟨rfl, hbw3⟩; obtain ⟨hcw3, hfw3⟩ := bcell hbw3; have hzw3_0 : w.heap.size < w3.heap.size := lt_via hbw3 sz; have hzw3_1 : w.heap.size + 1 < w3.heap.size := lt_via hbw3 sz))
 go_ret2
 exact ⟨rfl, bel⟩
structure SCh where
 A : Option Addr
 c : Nat
 l : List Int
 lo : Int
 hi : Int
 is : Bool
 area : Int
abbrev schC (r : SCh) : List Value := [.slice r.A r.l.length r.c, .int .i64 r.lo, .int .i64 r.hi, .bool r.is, .int .i64 r.area]
theorem schC_len (r : SCh) : (schC r).length = 5 := rfl
def S.atPl (p : Int) (r : SCh) : Bool := decide (r.lo <= p) && decide (p < r.hi)
def S.valueAt (p : Int) (l : List SCh) : Int := l.foldl (fun n r => if S.atPl p r then n + r.area else n) 0
theorem value_next (p : Int) {l : List SCh} {k : Nat} (h : k < l.length) : S.valueAt p (l.take (k + 1)) = if S.atPl p l[k] then S.valueAt p (l.take k) + l[k].area else S.valueAt p (l.take k) := by
 have e : l.take (k + 1) = l.take k ++ [l[k]] := by rw [List.take_add_one, List.getElem?_eq_getElem h]; rfl
 unfold S.valueAt
 rw [e, List.foldl_append]
 rfl
theorem value_bd (p : Int) {l : List SCh} (h : ∀ r, r ∈ l -> 0 <= r.area /\ r.area <= 1000000) : 0 <= S.valueAt p l /\ S.valueAt p l <= 1000000 * (l.length : Int) := by
 suffices hs : ∀ (l : List SCh) (n : Int), (∀ r, r ∈ l -> 0 <= r.area /\ r.area <= 1000000) -> 0 <= n -> n <= l.foldl (fun n r => if S.atPl p r then n + r.area else n) n /\ l.foldl (fun n r => if S.atPl p r then n + r.area else n) n <= n + 1000000 * (l.length : Int) by
  have := hs l 0 h (Int.le_refl _)
  unfold S.valueAt
  omega
 intro l
 induction l with
 | nil => intro n _ _; simp
 | cons r t ih =>
  intro n h hn
  have h1 := h r (by simp)
  simp only [List.foldl_cons, List.length_cons]
  split
  ·have := ih (n + r.area) (fun q hq => h q (by simp [hq])) (by omega)
   omega
  ·have := ih n (fun q hq => h q (by simp [hq])) hn
   omega
set_option maxHeartbeats 1000000 in
theorem value_any (l : List SCh) (A : Option Addr) (n c : Nat) (p : Int) (B : Nat) (w : World) (hB : B <= w.heap.size) (hn : l.length = n) (hm : n <= 2000) (hs : Cells w B A (l.flatMap schC)) (ha : ∀ r, r ∈ l -> 0 <= r.area /\ r.area <= 1000000) :
 Calls Tryz.prog 57 #[.slice A n c, .int .i64 p] w fun e w' => e = .returned (.int .i64 (S.valueAt p l)) /\ Below w.heap.size w w' := by
 have HN := lh hn
 have HA := lh ha
 clear hn ha
 go_enter Tryz.func57, Tryz.ntmps57
 go_wp2
 go_loopw [5, 10] (fun v i wr => ∃ k : Nat, k <= n /\ i = .int .i64 k /\ ∃ u : Int, v = .int .i64 u /\ Hid (u = S.valueAt p (l.take k)) /\ Below w.heap.size w wr) (fun _ i _ => n - (intOf i).toNat)
 case atStart => exact ⟨0, Nat.zero_le _, rfl, 0, rfl, lh rfl, Below.refl _ _⟩
 case round =>
  obtain ⟨k, hk, rfl, u, rfl, hu, hbr⟩ := hrel
  by_cases hlt : k < n
  ·have hkx : k < l.length := by have := HN.out; omega
   have hs' := hs.below (hbr.mono hB)
   obtain ⟨b, o, rfl, hbB, hx⟩ := hs'.at_ (by rw [flat_len schC 5 schC_len]; omega)
   clear hx
   have c0 := hs'.row0 schC_len hkx rfl
   have c1 := hs'.rowj schC_len hkx 1 rfl
   have c2 := hs'.rowj schC_len hkx 2 rfl
   have c3 := hs'.rowj schC_len hkx 3 rfl
   have c4 := hs'.rowj schC_len hkx 4 rfl
   clear hs'
   have hbl : b < wr.heap.size := by have := hbr.size; omega
   have hki : (k : Int) < n := by omega
   have hub := value_bd p (l := l.take k) (fun r hr => HA.out r (List.mem_of_mem_take hr))
   rw [<- hu.out, List.length_take] at hub
   have hab := HA.out l[k] (List.getElem_mem hkx)
   have HV := lh (value_next p hkx)
   rw [<- hu.out] at HV
   generalize l[k] = r at *
   have hu1 : 0 <= u := hub.1
   have hu2 : u <= 2000000000 := by omega
   have ha1 := hab.1
   have ha2 := hab.2
   clear hub hab
   have HP := lh (show S.atPl p r = (decide (r.lo <= p) && decide (p < r.hi)) from rfl)
   by_cases h1 : r.lo <= p
   ·by_cases h2 : p < r.hi
    ·have HV2 := lh (HV.out.trans (if_pos (by rw [HP.out]; simp [h1, h2])))
     go_wp2
     go_roundw
     case rel => exact ⟨k + 1, by omega, by go_num, u + r.area, rfl, lh HV2.out.symm, bel⟩
     case measure => simp [intOf]; omega
    ·have HV2 := lh (HV.out.trans (if_neg (by rw [HP.out]; simp; omega)))
     go_wp2
     go_roundw
     case rel => exact ⟨k + 1, by omega, by go_num, u, rfl, lh HV2.out.symm, bel⟩
     case measure => simp [intOf]; omega
   ·have HV2 := lh (HV.out.trans (if_neg (by rw [HP.out]; simp; omega)))
    go_wp2
    go_roundw
    case rel => exact ⟨k + 1, by omega, by go_num, u, rfl, lh HV2.out.symm, bel⟩
    case measure => simp [intOf]; omega
  ·have HE := lh (show u = S.valueAt p l by rw [hu.out, List.take_of_length_le (by have := HN.out; omega)])
   clear hu
   go_wp2
   go_ret
   exact ⟨ret_i HE.out, hbr⟩
def S.outside (r : Rod) (z : Bx) : Bool := if r.main < 0 then true else !S.inside (r.legs.getD r.main.toNat S.zbox) z
set_option maxHeartbeats 2000000 in
theorem outside_any (rs : List Rod) (ds : List Dm) (i k : Nat) (r : Rod) (d : Dm) (g1 g2 g3 : Nat) (A : Option Addr) (n c : Nat) (dA : Option Addr) (dn dc : Nat) (B : Nat) (w : World) (hB : B <= w.heap.size) (hn : rs.length = n) (hi : rs[i]? = some r) (hk : ds[k]? = some d)
 (h1 : w.cell? ⟨g1, 0, none⟩ = some (.slice A n c)) (h2 : w.cell? ⟨g2, 9, none⟩ = some (.slice dA dn dc)) (h3 : w.cell? ⟨g3, 0, none⟩ = some (.int .i64 k)) (hl1 : g1 < w.heap.size) (hl2 : g2 < w.heap.size) (hl3 : g3 < w.heap.size)
 (hs : Cells w B A (rs.flatMap rodC)) (hd : DemsAt w B dA dn ds) (hleg : Cells w B r.A (r.legs.flatMap boxC)) (hr : S.demRight d = true) (hrod : r.main = idxf r.legs S.isMainB) (hok : ∀ b, b ∈ r.legs -> S.boxOk b = true) :
 Calls Tryz.prog 128 #[.int .i64 i, .pointer (some ⟨g1, 0, none⟩), .pointer (some ⟨g2, 0, none⟩), .pointer (some ⟨g3, 0, none⟩)] w fun e w' => e = .returned (.bool (S.outside r d.zone)) /\ Below w.heap.size w w' := by
 have HE := lh (show S.outside r d.zone = if r.main < 0 then true else !S.inside (r.legs.getD r.main.toNat S.zbox) d.zone from rfl)
 obtain ⟨hix, hir⟩ := List.getElem?_eq_some_iff.1 hi
 obtain ⟨hkx, hkd⟩ := List.getElem?_eq_some_iff.1 hk
 have hsd := hd.each d (by rw [<- hkd]; exact List.getElem_mem hkx)
 have hnd := hd.name d (by rw [<- hkd]; exact List.getElem_mem hkx)
 have hdl := hd.len
 have hdc := hd.cells
 obtain ⟨b1, o1, hA, hb1, hx⟩ := hs.at_ (by rw [flat_len rodC 7 rodC_len]; omega)
 clear hx
 obtain ⟨b2, o2, hA2, hb2, hx⟩ := hdc.at_ (by rw [flat_len dmC 8 dmC_len]; omega)
 clear hx
 rw [hA] at hs h1
 rw [hA2] at hdc h2
 have r0 := hs.row0 rodC_len hix rfl
 have r1 := hs.rowj rodC_len hix 1 rfl
 have r2 := hs.rowj rodC_len hix 2 rfl
 have r3 := hs.rowj rodC_len hix 3 rfl
 have r4 := hs.rowj rodC_len hix 4 rfl
 have r5 := hs.rowj rodC_len hix 5 rfl
 have r6 := hs.rowj rodC_len hix 6 rfl
 rw [hir] at r0 r1 r2 r3 r4 r5 r6
 have d0 := hdc.row0 dmC_len hkx rfl
 have d1 := hdc.rowj dmC_len hkx 1 rfl
 have d2 := hdc.rowj dmC_len hkx 2 rfl
 have d3 := hdc.rowj dmC_len hkx 3 rfl
 have d4 := hdc.rowj dmC_len hkx 4 rfl
 have d5 := hdc.rowj dmC_len hkx 5 rfl
 have d6 := hdc.rowj dmC_len hkx 6 rfl
 have d7 := hdc.rowj dmC_len hkx 7 rfl
 rw [hkd] at d0 d1 d2 d3 d4 d5 d6 d7
 have hin : (i : Int) < n := by omega
 have hkn : (k : Int) < dn := by omega
 have hb1l : b1 < w.heap.size := by omega
 have hb2l : b2 < w.heap.size := by omega
 clear hs hdc hd hi hk hir hkd hix hkx hA hA2 hn hdl
 by_cases hm : r.main < 0
 ·have HE2 := lh (HE.out.trans (if_pos hm))
  clear hrod
  generalize r.main = mm at *
  go_enter Tryz.func128, Tryz.ntmps128
  go_wp2
  go_ret
  exact ⟨ret_b HE2.out.symm, bel⟩
 ·obtain ⟨q, hq, hqe, hqm⟩ := idxf_some (xs := r.legs) (p := S.isMainB) (by rw [<- hrod]; omega)
  have hbk := hok _ (List.getElem_mem hq)
  have HE2 := lh (show S.outside r d.zone = !S.inside r.legs[q] d.zone by rw [HE.out, if_neg hm, hrod, hqe]; simp [List.getD_eq_getElem?_getD, hq])
  have hm2 : r.main = (q : Int) := by rw [hrod, hqe]
  have HLG := lh (fun (W : World) (hw : Below w.heap.size w W) => rleg_any r q r.legs[q] B W (dsize hB hw) (List.getElem?_eq_getElem hq) hm2 (hleg.below (hw.mono hB)))
  obtain ⟨e1, e2, e3⟩ := isMainB_iff.1 hqm
  clear hrod hm hqe hqm hok hleg HE
  generalize hlq : r.legs[q] = L at *
  obtain ⟨⟨x1, y, z⟩, ⟨x2, y2, z2⟩⟩ := L
  simp only [] at e1 e2 e3
  subst e2 e3
  have HDI := lh (fun (W : World) (hw : Below w.heap.size w W) => demIn_any d x1 x2 y z B W (dsize hB hw) (hsd.below (hw.mono hB)) hnd hr hbk)
  generalize S.inside ⟨⟨x1, y, z⟩, ⟨x2, y, z⟩⟩ d.zone = t at *
  have hq0 : ¬ ((q : Int) < 0) := by omega
  unfold rodV boxV at HLG
  unfold dmV at HDI
  simp only [hm2] at HLG r6
  clear hlq hm2 hsd hnd hr hbk hq e1
  generalize r.legs.length = ln at *
  go_enter Tryz.func128, Tryz.ntmps128
  go_upto_region 3 with fail
  refine wp_region_mix 4 [9, 0] (by kernel_rfl) (by kernel_rfl) (of_decide_eq_true (by kernel_rfl)) ?_
  try simp only [wpSegs, gt1, gt2, gt3, gt4, List.take_nil, List.drop_nil]
  repeat (go_big_quiet_step (fail))
  refine wpQuiet_nil ?_
  show wpList _ _ _ _ _ _
  go_wp2_with ((go_at_call 130; (with_reducible refine (HLG.out _ belr).mono ?_); rintro e w1 ⟨rfl, hbw1⟩))
  refine seg_next (grow_to belr) ?_
  try simp only [wpSegs, gt1, gt2, gt3, gt4, List.take_nil, List.drop_nil]
  repeat (go_big_quiet_step (fail))
  refine wpQuiet_nil ?_
  show wpList _ _ _ _ _ _
  go_wp2_with ((go_at_call 129; (with_reducible refine (HDI.out _ belr).mono ?_); rintro e w2 ⟨rfl, hbw2⟩))
  refine seg_next (grow_to belr) ?_
  try simp only [wpSegs, gt1, gt2, gt3, gt4, List.take_nil, List.drop_nil]
  repeat (go_big_quiet_step (fail))
  refine wpQuiet_nil ?_
  show wpList _ _ _ _ _ _
  go_wp2
  go_ret
  exact ⟨ret_b (by rw [HE2.out]), bel⟩
theorem notat_any (r : SCh) (p : Int) (g : Nat) (w : World) (hc : w.cell? ⟨g, 0, none⟩ = some (.int .i64 p)) (hg : g < w.heap.size) :
 Calls Tryz.prog 92 #[.agg #[.slice r.A r.l.length r.c, .int .i64 r.lo, .int .i64 r.hi, .bool r.is, .int .i64 r.area], .pointer (some ⟨g, 0, none⟩)] w fun e w' => e = .returned (.bool (!S.atPl p r)) /\ Below w.heap.size w w' := by
 have HE := lh (show S.atPl p r = (decide (r.lo <= p) && decide (p < r.hi)) from rfl)
 by_cases h1 : p < r.lo
 ·go_enter Tryz.func92, Tryz.ntmps92
  go_wp2
  go_ret
  exact ⟨ret_b (by rw [HE.out, decide_eq_false (by omega)]; rfl), bel⟩
 ·by_cases h2 : r.hi <= p
  ·go_enter Tryz.func92, Tryz.ntmps92
   go_wp2
   go_ret
   exact ⟨ret_b (by rw [HE.out, decide_eq_true (by omega), decide_eq_false (by omega)]; rfl), bel⟩
  ·go_enter Tryz.func92, Tryz.ntmps92
   go_wp2
   go_ret
   exact ⟨ret_b (by rw [HE.out, decide_eq_true (by omega), decide_eq_true (by omega)]; rfl), bel⟩
end Go.Proofs.YtmfpbafpnoomeaaGreat
namespace Go.Proofs
open Go.Shelf
open Go.Sort Go.RowKit in
theorem Tryz.slices_Sort_int (blk off cap : Nat) (zs : List Int) (w : World) (hH : Holds (Value.int .i64) w blk off zs.toArray) (hblk : blk < w.heap.size) (hsz : zs.length < 4611686018427387904) :
 Calls Tryz.prog 71 #[.slice (some ⟨blk, off, none⟩) zs.length cap] w fun e w' =>
  e = .returned (.tuple #[]) /\ ∃ n os, w' = grow (putRow (Value.int .i64) (Sort.ahead w n) blk off (zs.mergeSort fun x y => decide (x <= y)).toArray) os := Any.slices_Sort_int Tryz.lays189 blk off cap zs w hH hblk hsz
end Go.Proofs
namespace Go.Proofs.YtmfpbafpnoomeaaGreat
open Go.RowKit Go.Sort
def S.sortI (zs : List Int) : List Int := zs.mergeSort fun x y => decide (x <= y)
theorem sortI_len (zs : List Int) : (S.sortI zs).length = zs.length := by simp [S.sortI]
theorem sort_own (zs : List Int) (v : Value) (n base : Nat) (w : World) (ho : w.ownsRow base 3 1 v n (i64s zs)) (hm : n <= 1000000) :
 Calls Tryz.prog 71 #[v] w fun e w' => e = .returned (.tuple #[]) /\ w'.ownsRow base 3 1 v n (i64s (S.sortI zs)) /\ Exc v.ownBlock.toList w w' := by
 have hl : zs.length = n := by have := ho.1; simpa using this
 rcases ho.2 with ⟨rfl, rfl⟩ | ⟨g, cap, cur, rfl, hg, hb, hn, hcap, hsz, htk⟩
 ·have hz : zs = [] := List.eq_nil_of_length_eq_zero hl
  subst hz
  refine (Any.slices_Sort_int_none Tryz.lays189 none 0 w).mono ?_
  rintro e w' ⟨rfl, rfl⟩
  exact ⟨rfl, by simpa [S.sortI] using ho, Exc.refl _ _⟩
 ·have hblk : g < w.heap.size := (Array.getElem?_eq_some_iff.1 hb).1
  have h := Tryz.slices_Sort_int g 0 cap zs w (holds_of_blockI hb (by rw [hl]; simpa using htk)) hblk (by omega)
  rw [hl] at h
  refine h.mono ?_
  rintro e w' ⟨rfl, k, os, rfl⟩
  refine ⟨rfl, ?_, Exc.grown (Exc.refl _ _) (grownBy_sortedI _) (fun k hk => .inl (by cases hk; simp [Value.ownBlock]))⟩
  have := ownsRow_sortedI (n := k) (os := os) (ss := zs) (ts := S.sortI zs) (sortI_len zs) hg hb (by omega) hcap hsz
  rw [hl] at this
  exact this
theorem own_cut {w : World} {base E size : Nat} {A : Option Addr} {n c m : Nat} {xs : List Value} (h : w.ownsRow base E size (.slice A n c) n xs) (hm : m <= n) : w.ownsRow base E size (.slice A m c) m (xs.take (m * size)) := by
 refine ⟨by rw [List.length_take, h.1]; exact Nat.min_eq_left (Nat.mul_le_mul_right _ hm), ?_⟩
 rcases h.2 with ⟨hv, rfl⟩ | ⟨g, cap, cur, hv, hg, hb, hn, hcap, hsz, htk⟩
 ·obtain rfl : m = 0 := by omega
  injection hv with h1 h2 h3
  subst h1 h3
  exact .inl ⟨rfl, rfl⟩
 ·injection hv with h1 h2 h3
  subst h1 h3
  exact .inr ⟨g, c, cur, rfl, hg, hb, by omega, hcap, hsz, by rw [<- htk, List.take_take, Nat.min_eq_left (Nat.mul_le_mul_right _ hm)]⟩
theorem grow_none (w : World) : Go.Sort.grow w #[] = w := by simp [Go.Sort.grow]
theorem compact_own (zs : List Int) (A : Option Addr) (c : Nat) (n base : Nat) (w : World) (ho : w.ownsRow base 3 1 (.slice A n c) n (i64s zs)) (hm : n <= 1000000) :
 Calls Tryz.prog 72 #[.slice A n c] w fun e w' => e = .returned (.slice A (Go.Lib.compact zs).length c) /\ w'.ownsRow base 3 1 (.slice A (Go.Lib.compact zs).length c) (Go.Lib.compact zs).length (i64s (Go.Lib.compact zs)) /\ Exc (Value.slice A n c).ownBlock.toList w w' := by
 have hl : zs.length = n := by have := ho.1; simpa using this
 rcases ho.2 with ⟨hv, rfl⟩ | ⟨g, cap, cur, hv, hg, hb, hn, hcap, hsz, htk⟩
 ·injection hv with h1 h2 h3
  subst h1 h3
  have hz : zs = [] := List.eq_nil_of_length_eq_zero hl
  subst hz
  refine (Any.slices_Compact_int_empty Tryz.lays220 none 0 w).mono ?_
  rintro e w' ⟨rfl, rfl⟩
  exact ⟨rfl, ho, Exc.refl _ _⟩
 ·injection hv with h1 h2 h3
  subst h1 h3
  have h := Any.slices_Compact_int Tryz.lays220 g 0 c zs w (holds_of_blockI hb (by rw [hl]; simpa using htk)) (by omega) (by omega)
  rw [hl] at h
  refine h.mono ?_
  rintro e w' ⟨rfl, q, rfl⟩
  have hle := Go.Lib.compact_length_le zs
  have hgr := grownBy_sortedI (w := w) (g := g) (n := q) (os := #[]) (Go.Lib.compact zs ++ List.replicate (n - (Go.Lib.compact zs).length) 0).toArray
  have hown := ownsRow_sortedI (n := q) (os := #[]) (ss := zs) (ts := Go.Lib.compact zs ++ List.replicate (n - (Go.Lib.compact zs).length) 0) (by simp; omega) hg hb (by omega) hcap hsz
  rw [grow_none] at hgr hown
  refine ⟨rfl, ?_, Exc.grown (Exc.refl _ _) hgr (fun k hk => .inl (by cases hk; simp [Value.ownBlock]))⟩
  rw [hl] at hown
  have h2 := own_cut hown (m := (Go.Lib.compact zs).length) (by omega)
  rw [Nat.mul_one, List.map_append, List.take_left' (by simp)] at h2
  exact h2
end Go.Proofs.YtmfpbafpnoomeaaGreat
namespace Go.Proofs.YtmfpbafpnoomeaaGreat
open Go.RowKit
theorem elemSt : Elem Tryz.prog 79 136 (.agg #[.int .i64 0, .int .i64 0]) 2 16 := ⟨Tryz.underlying79, by kernel_rfl, rfl, by decide⟩
def S.shortStF (l : List Stp) : Int × List Stp := l.foldl (fun x s => (s.val, if s.val = x.1 then x.2 else x.2 ++ [s])) (0, [])
def S.shortSt (l : List Stp) : List Stp := (S.shortStF l).2
theorem shortStF_next {l : List Stp} {k : Nat} (h : k < l.length) : S.shortStF (l.take (k + 1)) = (l[k].val, if l[k].val = (S.shortStF (l.take k)).1 then (S.shortStF (l.take k)).2 else (S.shortStF (l.take k)).2 ++ [l[k]]) := by
 have e : l.take (k + 1) = l.take k ++ [l[k]] := by rw [List.take_add_one, List.getElem?_eq_getElem h]; rfl
 unfold S.shortStF
 rw [e, List.foldl_append]
 rfl
theorem shortStF_len (l : List Stp) : (S.shortStF l).2.length <= l.length := by
 suffices hs : ∀ (l : List Stp) (x : Int × List Stp), (l.foldl (fun x s => (s.val, if s.val = x.1 then x.2 else x.2 ++ [s])) x).2.length <= x.2.length + l.length by
  have := hs l (0, [])
  unfold S.shortStF
  simpa using this
 intro l
 induction l with
 | nil => intro x; simp
 | cons s t ih =>
  intro x
  simp only [List.foldl_cons, List.length_cons]
  have h1 := ih (s.val, if s.val = x.1 then x.2 else x.2 ++ [s])
  have h2 : (if s.val = x.1 then x.2 else x.2 ++ [s]).length <= x.2.length + 1 := by split <;> simp
  simp only [] at h1
  generalize (if s.val = x.1 then x.2 else x.2 ++ [s]) = y at *
  generalize (List.foldl (fun x s => (s.val, if s.val = x.1 then x.2 else x.2 ++ [s])) (s.val, y) t).2.length = z at *
  omega
set_option maxHeartbeats 2000000 in
theorem short_any' (l : List Stp) (A : Option Addr) (n c : Nat) (B : Nat) (w : World) (hB : B <= w.heap.size) (hA : StepsAt w B A n l) (hm : n <= 10000) :
 Calls Tryz.prog 135 #[.slice A n c] w fun e w' => ∃ (A' : Option Addr) (c' : Nat), e = .returned (.slice A' (S.shortSt l).length c') /\ w'.ownsRow w.heap.size 136 2 (.slice A' (S.shortSt l).length c') (S.shortSt l).length ((S.shortSt l).flatMap stC) /\ Below w.heap.size w w' := by
 have HN := lh hA.len
 have hs := hA.cells
 clear hA
 go_enter Tryz.func135, Tryz.ntmps135
 go_wp2
 go_loopw [3, 4, 9] (fun v u i wr => ∃ k : Nat, k <= n /\ i = .int .i64 k /\ ∃ (la : Int) (out : List Stp), u = .int .i64 la /\ Hid ((la, out) = S.shortStF (l.take k)) /\ Row w wr none w.heap.size 136 2 v out.length (out.flatMap stC) /\ Exc [] w wr) (fun _ _ i _ => n - (intOf i).toNat)
 case atStart => exact ⟨0, Nat.zero_le _, rfl, 0, [], rfl, lh rfl, Row.none_ _ _ _ _, Exc.refl _ _⟩
 case round =>
  obtain ⟨k, hk, rfl, la, out, rfl, hu, hR, hX⟩ := hrel
  have hbr : Below w.heap.size w wr := hX.below (Nat.le_refl _) (by simp)
  by_cases hlt : k < n
  ·have hkx : k < l.length := by have := HN.out; omega
   have hs' := hs.below (hbr.mono hB)
   obtain ⟨b, o, rfl, hbB, hx⟩ := hs'.at_ (by rw [flat_len stC 2 stC_len]; omega)
   clear hx
   have c0 := hs'.row0 stC_len hkx rfl
   have c1 := hs'.rowj stC_len hkx 1 rfl
   clear hs'
   have hbl : b < wr.heap.size := by have := hbr.size; omega
   have hki : (k : Int) < n := by omega
   have HV := lh (shortStF_next hkx)
   have hol : out.length <= 10000 := by
    have h1 := shortStF_len (l.take k)
    rw [<- hu.out, List.length_take] at h1
    simp only [] at h1
    omega
   rw [<- hu.out] at HV
   generalize l[k] = r at *
   by_cases h1 : r.val = la
   ·have hb1 : (r.val != la) = false := by simp [h1]
    have HV2 := lh (HV.out.trans (by rw [if_pos h1]))
    clear h1
    go_wp2
    go_roundw
    case rel => exact ⟨k + 1, by omega, by go_num, r.val, out, rfl, lh HV2.out.symm, Row.alloc hR _, hX.alloc _⟩
    case measure => simp [intOf]; omega
   ·have hb1 : (r.val != la) = true := by simp [h1]
    have HV2 := lh (HV.out.trans (by rw [if_neg h1]))
    clear h1
    go_upto_region 6 with fail
    have hS := Blk.new wr 136 #[.int .i64 r.fro, .int .i64 r.val]
    have hR1 := hR.alloc (.cells #[.int .i64 r.fro, .int .i64 r.val] 136)
    have hX1 := hX.alloc (.cells #[.int .i64 r.fro, .int .i64 r.val] 136)
    generalize (wr.alloc (.cells #[.int .i64 r.fro, .int .i64 r.val] 136)) = W1 at *
    have x0 := hS.cell 0
    have x1 := hS.cell 1
    have xl := hS.lt
    simp only [ga1, ga2, ga3] at x0 x1
    have HR1 := lh hR1
    have HS := lh hS
    have HX1 := lh hX1
    have hss := hX.size
    have HLT := lh hR.own.lt
    generalize wr.heap.size = gs at *
    have hbE : w.heap.size <= W1.heap.size := by omega
    clear hR hX hR1 hX1 hbr c0 c1 hbl
    go_wp2_with (at_builtin; refine wpList_push rfl (.tmp 17) (.tmp 19) _ rfl elemSt (HR1.out.alloc _) (HX1.out.alloc _) (by simp) (Nat.le_refl _) rfl W1.heap.size 1 1 [.int .i64 r.fro, .int .i64 r.val] rfl rfl ?_ (by simp [Value.oneCell']) (by unfold maxLen; omega) (by omega) ?_; (· intro j u hu; have := (Cells.newRow W1 #[.int .i64 r.fro, .int .i64 r.val] 136 (0, 0)).get (k := j) (v := u) hu; simpa using this); intro v2 wE hRE hXE hOE; have y1 := (hOE gs (by simp; omega) (fun he => by have := (HLT.out gs he).2; omega)).trans (Below.heap_alloc _ _ gs xl); have hSE : Blk wE gs 136 #[.int .i64 r.fro, .int .i64 r.val] := y1.trans HS.out; have x1E := hSE.cell 1; have xlE := hSE.lt; simp only [ga1, ga2, ga3] at x1E; clear hSE y1)
    go_roundw
    case rel => exact ⟨k + 1, by omega, by go_num, r.val, out ++ [r], rfl, lh HV2.out.symm, by simpa using hRE, hXE⟩
    case measure => simp [intOf]; omega
  ·have hr2 := hR.own
   have HE := lh (show out = S.shortSt l by have := hu.out; rw [List.take_of_length_le (by have := HN.out; omega)] at this; unfold S.shortSt; rw [<- this])
   clear hu
   have hol : out.length <= 10000 := by
    rw [HE.out]
    have h1 := shortStF_len l
    have := HN.out
    unfold S.shortSt
    omega
   obtain ⟨A5, c5, rfl, _, _, _⟩ := own_form hr2 (by unfold maxLen; omega)
   go_wp2
   go_ret
   rw [<- HE.out]
   exact ⟨A5, c5, rfl, hr2, hbr⟩
theorem Short_any (l : List Stp) (A : Option Addr) (n c : Nat) (B : Nat) (w : World) (hB : B <= w.heap.size) (hA : StepsAt w B A n l) (hm : n <= 10000) (h : S.steps l = true) :
 Calls Tryz.prog 95 #[.slice A n c] w fun e w' => ∃ (A' : Option Addr) (c' : Nat), e = .returned (.tuple #[.slice A' (S.shortSt l).length c', .int .i64 0]) /\ w'.ownsRow w.heap.size 136 2 (.slice A' (S.shortSt l).length c') (S.shortSt l).length ((S.shortSt l).flatMap stC) /\ Below w.heap.size w w' := by
 have HV := lh (fun (W : World) (hw : Below w.heap.size w W) => h ▸ steps_any l A n c B W (dsize hB hw) (hA.below (hw.mono hB)))
 have HT := lh (fun (W : World) (hw : Below w.heap.size w W) => short_any' l A n c B W (dsize hB hw) (hA.below (hw.mono hB)) hm)
 clear hA h
 go_enter Tryz.func95, Tryz.ntmps95
 go_wp2_with (first
  | (go_at_call 76; (with_reducible refine (HV.out _ belr).mono ?_); rintro e w1 ⟨rfl, hbw1⟩; obtain ⟨hcw1, hfw1⟩ := bcell hbw1)
  | (go_at_call 135; (with_reducible refine (HT.out _ belr).mono ?_); rintro e w2 ⟨A2, c2, rfl, ho2, hbw2⟩))
 go_ret2
 exact ⟨A2, c2, rfl, own_mono ho2 hbw1.size, bel⟩
def S.btw (n lo hi : Int) : Bool := decide (lo <= n) && decide (n <= hi)
theorem rbetween_any (n lo hi : Int) (w : World) : Calls Tryz.prog 55 #[.int .i64 n, .int .i64 lo, .int .i64 hi] w fun e w' => e = .returned (.bool (S.btw n lo hi)) /\ w = w' := by
 have H := lh (show S.btw n lo hi = (decide (lo <= n) && decide (n <= hi)) from rfl)
 go_enter Tryz.func55, Tryz.ntmps55
 go_wp2
 all_goals (go_ret; exact ⟨ret_b (by rw [H.out, Bool.eq_iff_iff]; all_goals (first | (simp; done) | (simp; omega))), rfl⟩)
theorem rplace10_any (n : Int) (w : World) : Calls Tryz.prog 26 #[.int .i64 n] w fun e w' => e = .returned (.bool (S.place n)) /\ w = w' := by
 have H := lh (show S.place n = S.btw n (-1048576) 1048576 from rfl)
 have HB := lh (rbetween_any n (-1048576) 1048576)
 generalize S.btw n (-1048576) 1048576 = t at *
 go_enter Tryz.func26, Tryz.ntmps26
 go_wp2_with (go_at_call 55; (with_reducible refine (HB.out _).mono ?_); rintro e w' ⟨rfl, rfl⟩)
 go_ret
 exact ⟨ret_b H.out.symm, rfl⟩
set_option maxHeartbeats 1000000 in
theorem rsteps_any (l : List Stp) (A : Option Addr) (n c : Nat) (B : Nat) (w : World) (hB : B <= w.heap.size) (hA : StepsAt w B A n l) :
 Calls Tryz.prog 124 #[.slice A n c] w fun e w' => e = .returned (.bool (S.steps l)) /\ Below w.heap.size w w' := by
 have HA := lh hA
 have HPL := lh (fun n w => rplace10_any n w)
 have hmx := hA.max
 have hL := hA.len
 clear hA
 by_cases h200 : 200 < n
 ·have HS := lh (show S.steps l = false from by unfold S.steps; rw [hL]; simp; omega)
  clear hL
  go_enter Tryz.func124, Tryz.ntmps124
  go_wp2
  go_ret
  exact ⟨ret_b HS.out.symm, bel⟩
 clear hL
 go_enter Tryz.func124, Tryz.ntmps124
 go_wp2
 go_loopw [3] (fun i wr => ∃ k : Nat, k <= n /\ i = .int .i64 k /\ (∀ j, j < k -> S.stepAt l j = true) /\ Below w.heap.size w wr) (fun i _ => n - (intOf i).toNat)
 case atStart => exact ⟨0, Nat.zero_le _, rfl, fun j hj => absurd hj (by omega), Below.refl _ _⟩
 case round =>
  obtain ⟨k, hk, rfl, hno, hbr⟩ := hrel
  have HNO := lh hno
  clear hno
  by_cases hlt : k < n
  ·have hkx : k < l.length := by have := HA.out.len; omega
   have hs' := HA.out.cells.below (hbr.mono hB)
   obtain ⟨b, o, rfl, hbB, _⟩ := hs'.at_ (by rw [flat_len stC 2 stC_len]; omega)
   have hbw : b < wr.heap.size := by have := hbr.size; omega
   have c0 := hs'.row0 stC_len hkx rfl
   have c1 := hs'.rowj stC_len hkx 1 rfl
   have HNS := lh (fun h => show S.steps l = false from rng_no (p := S.stepAt l) (k := k) hkx h)
   have HGO := lh (fun (h : S.stepAt l k = true) => show ∀ j, j < k + 1 -> S.stepAt l j = true from fun j hj => by
    by_cases hjk : j = k
    ·subst hjk; exact h
    ·exact HNO.out j (by omega))
   have hge : l[k]? = some l[k] := List.getElem?_eq_getElem hkx
   cases k with
   | zero =>
    have HAT := lh (show S.stepAt l 0 = (S.place l[0].fro && S.btw l[0].val 0 1099511627776) by unfold S.stepAt S.btw; rw [hge]; simp [Bool.and_assoc])
    have HP0 := lh (HPL.out l[0].fro)
    have HB0 := lh (fun w => rbetween_any l[0].val 0 1099511627776 w)
    rw [Nat.zero_mul, Nat.add_zero] at c0 c1
    generalize S.place l[0].fro = t0 at *
    generalize S.btw l[0].val 0 1099511627776 = t1 at *
    generalize l[0] = s at *
    clear hs' hge
    have hcs : t0 = false ∨ (t0 = true /\ t1 = false) ∨ (t0 = true /\ t1 = true) := by
     cases t0 <;> cases t1 <;> simp
    rcases hcs with rfl | ⟨rfl, rfl⟩ | ⟨rfl, rfl⟩
    rotate_right
    ·have HG := lh (HGO.out (by rw [HAT.out]; rfl))
     go_upto_region 6 with fail
     refine wp_region_grow (by kernel_rfl) (by kernel_rfl) ?_
     repeat (go_big_quiet_step ((first | (go_at_call 26; exact grow_of_eq (HP0.out _)) | (go_at_call 55; exact grow_of_eq (HB0.out _)))))
     all_goals (refine wpQuiet_nil ?_; intro wg hbwg; obtain ⟨hcwg, hfwg⟩ := bcell hbwg)
     go_wp2
     go_roundw
     case rel => exact ⟨0 + 1, by omega, by go_num, HG.out, bel⟩
     case measure => simp [intOf]; omega
    all_goals (
     have HG := lh (HNS.out (by rw [HAT.out]; rfl))
     go_upto_region 6 with fail
     refine wp_region_grow (by kernel_rfl) (by kernel_rfl) ?_
     repeat (go_big_quiet_step ((first | (go_at_call 26; exact grow_of_eq (HP0.out _)) | (go_at_call 55; exact grow_of_eq (HB0.out _)))))
     all_goals (refine wpQuiet_nil ?_; intro wg hbwg; obtain ⟨hcwg, hfwg⟩ := bcell hbwg)
     go_wp2
     go_ret
     exact ⟨ret_b HG.out.symm, bel⟩)
   | succ j =>
    have hjx : j < l.length := by omega
    have d0 := hs'.row0 stC_len hjx rfl
    have HAT := lh (show S.stepAt l (j + 1) = (S.place l[j + 1].fro && S.btw l[j + 1].val 0 1099511627776 && decide (l[j].fro < l[j + 1].fro)) by unfold S.stepAt S.btw; rw [hge]; simp only []; rw [List.getElem?_eq_getElem hjx]; simp [Bool.and_assoc])
    have HP0 := lh (HPL.out l[j + 1].fro)
    have HB0 := lh (fun w => rbetween_any l[j + 1].val 0 1099511627776 w)
    generalize S.place l[j + 1].fro = t0 at *
    generalize S.btw l[j + 1].val 0 1099511627776 = t1 at *
    generalize l[j + 1] = s at *
    generalize l[j] = p at *
    clear hs' hge
    have hk0 : (0 : Int) < ((j + 1 : Nat) : Int) := by omega
    have e1 : IntKind.i64.wrap (((j + 1 : Nat) : Int) - 1) = (j : Nat) := by rw [IntWalk.i64_in _ (by omega)]; omega
    have hjn : (j : Int) < n := by omega
    have hcs : t0 = false ∨ (t0 = true /\ t1 = false) ∨ (t0 = true /\ t1 = true /\ s.fro <= p.fro) ∨ (t0 = true /\ t1 = true /\ ¬ s.fro <= p.fro) := by
     cases t0 <;> cases t1 <;> simp <;> omega
    rcases hcs with rfl | ⟨rfl, rfl⟩ | ⟨rfl, rfl, h3⟩ | ⟨rfl, rfl, h3⟩
    rotate_right
    ·have HG := lh (HGO.out (by rw [HAT.out]; simp; omega))
     go_upto_region 6 with fail
     refine wp_region_grow (by kernel_rfl) (by kernel_rfl) ?_
     repeat (go_big_quiet_step ((first | (go_at_call 26; exact grow_of_eq (HP0.out _)) | (go_at_call 55; exact grow_of_eq (HB0.out _)))))
     all_goals (refine wpQuiet_nil ?_; intro wg hbwg; obtain ⟨hcwg, hfwg⟩ := bcell hbwg)
     go_wp2
     go_roundw
     case rel => exact ⟨j + 1 + 1, by omega, by go_num, HG.out, bel⟩
     case measure => simp [intOf]; omega
    all_goals (
     have HG := lh (HNS.out (by rw [HAT.out]; simp; try omega))
     go_upto_region 6 with fail
     refine wp_region_grow (by kernel_rfl) (by kernel_rfl) ?_
     repeat (go_big_quiet_step ((first | (go_at_call 26; exact grow_of_eq (HP0.out _)) | (go_at_call 55; exact grow_of_eq (HB0.out _)))))
     all_goals (refine wpQuiet_nil ?_; intro wg hbwg; obtain ⟨hcwg, hfwg⟩ := bcell hbwg)
     go_wp2
     go_ret
     exact ⟨ret_b HG.out.symm, bel⟩)
  ·have HG := lh (show S.steps l = true from rng_yes (p := S.stepAt l) (by have := HA.out.len; simp; omega) (fun j hj => HNO.out j (by have := HA.out.len; omega)))
   go_wp2
   go_ret
   exact ⟨ret_b HG.out.symm, bel⟩
end Go.Proofs.YtmfpbafpnoomeaaGreat
