/- The contracts that SupplyBars wants: supply.Bars, supply.Leg of any detail. Plain: the bars at a place as SupplyBars holds them: ascending; sums. The example of the law of layer 26: stirruplaw26.example. Plain: the example of layer 26 as data: its laid bar, its chain, its supply. Contract: supply.Anchored. Contract: slices.Equal over steps. Contract: stirruplaw26.awake: the example of the chapter holds. Contract: few. Guards for arms: the operation at hand is a guarded load. -/
import Derived.Test.YtffkmgjmlahfpaaGreatQZ
import Derived.Test.YtffkmgjmlahfpaaGreatQS
import Derived.Test.YtffkmgjmlahfpaaGreatQY
import Derived.Test.YtffkmgjmlahfpaaGreatQM
import Derived.Test.YtffkmgjmlahfpaaGreatQV
import Derived.Test.YtffkmgjmlahfpaaGreatQN
set_option linter.unusedVariables false
set_option linter.unusedSimpArgs false
namespace Go.Proofs.YtffkmgjmlahfpaaGreat
open Go.RowKit
theorem Bars_err (x : Dt) (k : Int) (p : Int) (er : Int) (w : World) (he : (er == 0) = false)
    (hAT : ∀ W, Below w.heap.size w W → Calls Tryz.prog 81 #[dtV x, .int .i64 k, .int .i64 p] W fun e w' => e = .returned (.tuple #[.slice none 0 0, .slice none 0 0, .int .i64 er]) ∧ Below W.heap.size W w') :
    Calls Tryz.prog 36 #[dtV x, .int .i64 k, .int .i64 p] w fun e w' => e = .returned (.tuple #[.slice none 0 0, .int .i64 er]) ∧ Below w.heap.size w w' := by
  have HAT := Lib.hid hAT
  have he2 : ¬ (er = 0) := by simpa using he
  clear hAT
  unfold dtV at HAT
  unfold dtV
  have hDB := Blk.new w 34 #[.string x.m.name, .slice x.mA x.mn x.mc, .slice x.hA x.hn x.hc, .int .i64 x.m.cover, .int .i64 x.m.aggr, .int .i64 x.m.poker, .slice x.bA x.bn x.bc, .slice x.rA x.rn x.rc, .slice x.jA x.jn x.jc, .slice x.dA x.dn x.dc, .int .i64 x.rule.num, .int .i64 x.rule.den, .int .i64 x.rule.pnum, .int .i64 x.rule.pden, .int .i64 x.rule.bnum, .int .i64 x.rule.bden, .int .i64 x.rule.lnum, .int .i64 x.rule.lden, .int .i64 x.rule.least]
  have hW1 : Below w.heap.size w (w.alloc (.cells #[.string x.m.name, .slice x.mA x.mn x.mc, .slice x.hA x.hn x.hc, .int .i64 x.m.cover, .int .i64 x.m.aggr, .int .i64 x.m.poker, .slice x.bA x.bn x.bc, .slice x.rA x.rn x.rc, .slice x.jA x.jn x.jc, .slice x.dA x.dn x.dc, .int .i64 x.rule.num, .int .i64 x.rule.den, .int .i64 x.rule.pnum, .int .i64 x.rule.pden, .int .i64 x.rule.bnum, .int .i64 x.rule.bden, .int .i64 x.rule.lnum, .int .i64 x.rule.lden, .int .i64 x.rule.least] 34)) := ba_alloc (Below.refl _ _) _
  go_enter Tryz.func36, Tryz.ntmps36
  go_upto_region 1 with fail
  generalize (w.alloc (.cells #[.string x.m.name, .slice x.mA x.mn x.mc, .slice x.hA x.hn x.hc, .int .i64 x.m.cover, .int .i64 x.m.aggr, .int .i64 x.m.poker, .slice x.bA x.bn x.bc, .slice x.rA x.rn x.rc, .slice x.jA x.jn x.jc, .slice x.dA x.dn x.dc, .int .i64 x.rule.num, .int .i64 x.rule.den, .int .i64 x.rule.pnum, .int .i64 x.rule.pden, .int .i64 x.rule.bnum, .int .i64 x.rule.bden, .int .i64 x.rule.lnum, .int .i64 x.rule.lden, .int .i64 x.rule.least] 34)) = W1 at *
  have HDB := Lib.hid hDB
  clear hDB
  go_wp2_with (first
    | ((with_reducible refine at_load 34 3 ?_); refine wpList_load_mid rfl 34 (.tmp 3) rfl _ _ rfl _ _ (HDB.out.via (by repeat (with_reducible first | exact Below.refl _ _ | assumption | refine ba_alloc ?_ _ | refine ba_drew ?_ | refine ba_drewN ?_ _ | refine ba_via (by assumption) ?_ | (refine ba_set ?_ ?_ _; rotate_left; (first | omega | (simp; omega) | simp))))).range Tryz.underlying34 rfl (by kernel_rfl) ?_)
    | (go_at_call 81; (with_reducible refine (HAT.out _ (by repeat (with_reducible first | exact Below.refl _ _ | assumption | refine ba_alloc ?_ _ | refine ba_drew ?_ | refine ba_drewN ?_ _ | refine ba_via (by assumption) ?_ | (refine ba_set ?_ ?_ _; rotate_left; (first | omega | (simp; omega) | simp))))).mono ?_); rintro e w2 ⟨rfl, hbw2⟩))
  go_ret2
  exact ⟨rfl, (by repeat (first | exact Below.refl _ _ | assumption | refine ba_alloc ?_ _ | refine ba_drew ?_ | refine ba_drewN ?_ _ | refine ba_via (by assumption) ?_ | (refine ba_set ?_ ?_ _; rotate_left; (first | omega | (simp; omega) | simp))))⟩
theorem overP_same {x : Dt} {n : Nat} {rs rs' : List Rod} (h : RodsOf x n rs) (h' : RodsOf x n rs') (p : Int) : S.overP rs p = S.overP rs' p := by
  funext i
  unfold S.overP
  rcases rods_at h h' i.toNat with ⟨e1, e2⟩ | ⟨r, r', e1, e2, _, e4, e5⟩
  · rw [e1, e2]
  · rw [e1, e2]
    show (decide ((S.legOf r).lo.x ≤ p) && decide (p ≤ (S.legOf r).hi.x)) = (decide ((S.legOf r').lo.x ≤ p) && decide (p ≤ (S.legOf r').hi.x))
    unfold S.legOf
    rw [e4, e5]
theorem barsL_bare (rs : List Rod) (p : Int) (cs : List SCh) : S.barsL rs p (cs.map SCh.bare) = S.barsL rs p cs := by
  unfold S.barsL
  rw [List.flatMap_map]
  rfl
theorem barsL_same {x : Dt} {n : Nat} {rs rs0 : List Rod} {C : List (List Int)} {cs : List SCh} (h : RodsOf x n rs) (h0 : RodsOf x n rs0) (hl : cs.length = C.length) (hc : ∀ (i : Nat) (hi : i < cs.length) (hj : i < C.length), SchOk x rs C[i] cs[i]) (z : Bx) (p : Int) :
    S.barsL rs p (cs.filter (S.supAt z p rs)) = S.barsL rs0 p (S.kept x rs0 C z p) := by
  unfold S.kept
  rw [← barsL_bare, filter_bare _ _ (supAt_bare h h0 z p), chs_bare h h0 hl hc]
  unfold S.barsL
  rw [overP_same h h0]
section
variable {x : Dt} {ds : List Dm} {w : World}
def S.barsAt (x : Dt) (rs : List Rod) (z : Bx) (p : Int) : List Int := S.sortI (S.barsL rs p (S.kept x rs (S.cOf x) z p))
theorem good_Bars (h : DtOk w x ds) (hlk : S.look x (S.dems ds) = true) (hC : (S.cOf x).length ≤ 100) {k : Nat} {d : Dm} (hk : ds[k]? = some d) {p : Int} (hp : -1048576 ≤ p ∧ p ≤ 1048576) {rs : List Rod} (hrs : RodsOf x (S.nOf x) rs) :
    ∀ W, Below w.heap.size w W → Calls Tryz.prog 36 #[dtV x, .int .i64 k, .int .i64 p] W fun e w' => ∃ (A : Option Addr) (c : Nat), e = .returned (.tuple #[.slice A (S.barsAt x rs d.zone p).length c, .int .i64 0]) ∧ w'.ownsRow W.heap.size 3 1 (.slice A (S.barsAt x rs d.zone p).length c) (S.barsAt x rs d.zone p).length (i64s (S.barsAt x rs d.zone p)) ∧ Below W.heap.size W w' := fun W hw => by
  have g := look_ok hlk
  refine (Bars_any x (S.cOf x) (S.nOf x) d.zone k p W hC g.n2000 g.cin g.laid (fun V hV => at_any x (S.cOf x) (S.nOf x) d.zone k p V g.c2000 hp.1 hp.2 (fun U hU => good_sups h hlk hk U ((hw.trans (hV.mono hw.size)).trans (hU.mono (hw.trans (hV.mono hw.size)).size))))).mono ?_
  rintro e w' ⟨A, c, rs', cs, rfl, h1, h2, h3, h4, h5⟩
  rw [barsL_same h1 hrs h2 h3] at h4 ⊢
  exact ⟨A, c, rfl, h4, h5⟩
theorem bad_Bars (h : DtOk w x ds) (d p : Int) (hg : S.given26 x ds d p ≠ 0) : ∀ W, Below w.heap.size w W → Calls Tryz.prog 36 #[dtV x, .int .i64 d, .int .i64 p] W fun e w' => e = .returned (.tuple #[.slice none 0 0, .int .i64 (S.given26 x ds d p)]) ∧ Below W.heap.size W w' :=
  fun W hw => Bars_err x d p _ W (by simpa using hg) (fun V hV => bad_at h d p hg V (hw.trans (hV.mono hw.size)))
theorem good_Leg (h : DtOk w x ds) (hlk : S.look x (S.dems ds) = true) {rs : List Rod} (hrs : RodsOf x (S.nOf x) rs) {i : Nat} {r : Rod} (hi : rs[i]? = some r) :
    ∀ W, Below w.heap.size w W → Calls Tryz.prog 39 #[dtV x, .int .i64 i] W fun e w' => e = .returned (.tuple #[boxV (if r.main < 0 then S.zbox else S.legOf r), .int .i64 (if r.main < 0 then 12 else 0)]) ∧ Below W.heap.size W w' := fun W hw => by
  have g := look_ok hlk
  obtain ⟨hix, hir⟩ := List.getElem?_eq_some_iff.1 hi
  refine (Leg_any x (S.nOf x) i W (by rw [← hrs.len]; exact hix) g.n2000 g.laid
    (fun V hV => lvalid_any x true w.heap.size _ _ V (hw.trans (hV.mono hw.size)).size (fun U hU => good_look h hlk U ((hw.trans (hV.mono hw.size)).trans (hU.mono (hw.trans (hV.mono hw.size)).size))))
    (fun V hV => rods_any x w.heap.size V (hw.trans (hV.mono hw.size)).size (h.at_.at_ (Nat.le_refl _) (hw.trans (hV.mono hw.size))) g.laid g.n2000)).mono ?_
  rintro e w' ⟨r', h1, rfl, h2⟩
  have h3 := hrs.ok i hix
  rw [hir] at h3
  obtain ⟨e1, e2, e3⟩ := rod_same h1 h3
  refine ⟨?_, h2⟩
  have e4 : S.legOf r' = S.legOf r := by unfold S.legOf; rw [e2, e3]
  rw [e3, e4]
end
/-- The bars at a place: in range, over the place, ascending, and their areas together. -/
theorem barsAt_mem {x : Dt} {ds : List Dm} (h : S.look x (S.dems ds) = true) {rs : List Rod} (hrs : RodsOf x (S.nOf x) rs) {z : Bx} {p i : Int} (hi : i ∈ S.barsAt x rs z p) : 0 ≤ i ∧ i < (S.nOf x : Int) ∧ S.overP rs p i = true ∧ ∃ r, rs[i.toNat]? = some r ∧ ¬ r.main < 0 := by
  have g := look_ok h
  have hi2 := sortI_mem.1 hi
  unfold S.barsL at hi2
  obtain ⟨c, hc, hf⟩ := List.mem_flatMap.1 hi2
  obtain ⟨l, hl, rfl, hs⟩ := kept_mem hc
  obtain ⟨h1, h2⟩ := List.mem_filter.1 hf
  change i ∈ l at h1
  obtain ⟨h3, h4⟩ := (g.cin l hl).2.2 i h1
  have hix : i.toNat < rs.length := by rw [hrs.len]; omega
  refine ⟨h3, h4, h2, rs[i.toNat], List.getElem?_eq_getElem hix, fun hneg => ?_⟩
  unfold S.supAt S.sup at hs
  simp only [Bool.and_eq_true, Bool.not_eq_true'] at hs
  have h9 : S.outI rs z i = true := by
    unfold S.outI
    rw [List.getElem?_eq_getElem hix]
    show S.outside rs[i.toNat] z = true
    unfold S.outside
    rw [if_pos hneg]
  obtain ⟨u, hu, he⟩ := List.getElem_of_mem h1
  have h8 : anyb l (S.outI rs z) = true := anyb_of (p := S.outI rs z) hu (by rw [he]; exact h9)
  have h10 : anyb l (S.outI rs z) = false := hs.2.2
  rw [h8] at h10
  cases h10
end Go.Proofs.YtffkmgjmlahfpaaGreat
set_option linter.unusedVariables false
set_option linter.unusedSimpArgs false
namespace Go.Proofs.YtffkmgjmlahfpaaGreat
open Go.RowKit
theorem barsL_sub (x : Dt) (rs : List Rod) (p : Int) (q : SCh → Bool) (C : List (List Int)) : (S.barsL rs p ((C.map (S.schOf x rs)).filter q)).Sublist C.flatten := by
  induction C with
  | nil => exact List.Sublist.refl _
  | cons l t ih =>
    rw [List.map_cons, List.filter_cons, List.flatten_cons]
    split
    · unfold S.barsL at ih ⊢
      rw [List.flatMap_cons]
      exact List.Sublist.append List.filter_sublist ih
    · exact ih.trans (List.sublist_append_right _ _)
theorem barsAt_asc {x : Dt} {ds : List Dm} (h : S.look x (S.dems ds) = true) (rs : List Rod) (z : Bx) (p : Int) : (S.barsAt x rs z p).Pairwise (· < ·) := by
  have g := look_ok h
  have hnd : (S.barsL rs p (S.kept x rs (S.cOf x) z p)).Nodup := (no_two g).sublist (barsL_sub x rs p _ _)
  have hnd2 : (S.barsAt x rs z p).Nodup := (List.mergeSort_perm _ _).nodup_iff.2 hnd
  have hs := sortI_sorted (S.barsL rs p (S.kept x rs (S.cOf x) z p))
  exact (hs.and hnd2).imp (fun h => by have h1 := h.1; have h2 := h.2; omega)
theorem areas_perm (rs : List Rod) {a b : List Int} (h : a.Perm b) : S.areas rs a = S.areas rs b := by
  unfold S.areas
  induction h with
  | nil => rfl
  | cons x _ ih => rw [List.map_cons, List.map_cons, List.sum_cons, List.sum_cons, ih]
  | swap x y l => simp only [List.map_cons, List.sum_cons]; omega
  | trans _ _ h1 h2 => exact h1.trans h2
theorem areas_take (rs : List Rod) {l : List Int} {k : Nat} (h : k < l.length) : S.areas rs (l.take (k + 1)) = S.areas rs (l.take k) + S.areaI rs l[k] := by
  have e : l.take (k + 1) = l.take k ++ [l[k]] := by rw [List.take_add_one, List.getElem?_eq_getElem h]; rfl
  rw [e, areas_app]
  simp [S.areas]
theorem areas_bd {rs : List Rod} {l : List Int} (h : ∀ i, i ∈ l → 0 ≤ S.areaI rs i ∧ S.areaI rs i ≤ 1000000) : 0 ≤ S.areas rs l ∧ S.areas rs l ≤ 1000000 * (l.length : Int) := by
  unfold S.areas
  induction l with
  | nil => simp
  | cons a t ih =>
    have h1 := h a (by simp)
    have h2 := ih (fun i hi => h i (by simp [hi]))
    rw [List.map_cons, List.sum_cons, List.length_cons]
    push_cast
    omega
/-- What the law holds of the supply and of the bars. -/
theorem barsAt_law {x : Dt} {ds : List Dm} (h : S.look x (S.dems ds) = true) {rs : List Rod} (hrs : RodsOf x (S.nOf x) rs) (z : Bx) (p : Int) :
    S.supplyAt x rs (S.cOf x) z p ≤ S.areas rs (S.barsAt x rs z p) ∧ (S.supplyAt x rs (S.cOf x) z p = 0 ↔ (S.barsAt x rs z p).length = 0) := by
  obtain ⟨h1, h2⟩ := bars_law h hrs z p
  refine ⟨by rw [show S.areas rs (S.barsAt x rs z p) = S.areas rs (S.barsL rs p (S.kept x rs (S.cOf x) z p)) from areas_perm rs (List.mergeSort_perm _ _)]; exact h1, ?_⟩
  rw [h2]
  unfold S.barsAt
  rw [sortI_len, List.length_eq_zero_iff]
theorem barsAt_len {x : Dt} {ds : List Dm} (h : S.look x (S.dems ds) = true) (hC : (S.cOf x).length ≤ 100) (rs : List Rod) (z : Bx) (p : Int) : (S.barsAt x rs z p).length ≤ 200100 := by
  have g := look_ok h
  unfold S.barsAt
  rw [sortI_len]
  have h1 := barsL_len rs p (S.kept x rs (S.cOf x) z p) (fun c hc => by
    obtain ⟨l, hl, rfl, _⟩ := kept_mem hc
    exact (g.cin l hl).2.1)
  have h2 : (S.kept x rs (S.cOf x) z p).length ≤ (S.cOf x).length := by
    unfold S.kept
    refine Nat.le_trans (List.length_filter_le _ _) ?_
    rw [List.length_map]
    exact Nat.le_refl _
  have h3 : (S.kept x rs (S.cOf x) z p).length * 2001 ≤ 100 * 2001 := Nat.mul_le_mul_right _ (by omega)
  omega
end Go.Proofs.YtffkmgjmlahfpaaGreat
set_option linter.unusedVariables false
set_option linter.unusedSimpArgs false
namespace Go.Proofs.YtffkmgjmlahfpaaGreat
open Go.RowKit
set_option maxRecDepth 20000 in
theorem exat_any (x y z : Int) (w : World) : Calls Tryz.prog 136 #[.int .i64 x, .int .i64 y, .int .i64 z] w fun e w' => e = .returned (.agg #[.int .i64 x, .int .i64 y, .int .i64 z]) ∧ Below w.heap.size w w' := by
  go_enter Tryz.func136, Tryz.ntmps136
  go_wp2
  exact bodyPost_ret (v := .agg #[.int .i64 x, .int .i64 y, .int .i64 z]) (by simp [results, Tryz.results136, go_sem, *]) rfl ⟨rfl, (by repeat (first | exact Below.refl _ _ | assumption | refine ba_alloc ?_ _ | refine ba_drew ?_ | refine ba_drewN ?_ _ | refine ba_via (by assumption) ?_ | (refine ba_set ?_ ?_ _; rotate_left; (first | omega | (simp; omega) | simp))))⟩
abbrev strA : ByteArray := ⟨#[97]⟩
abbrev strM : ByteArray := ⟨#[109]⟩
abbrev strD : ByteArray := ⟨#[100]⟩
abbrev box2 : Array Value := #[.int .i64 0, .int .i64 0, .int .i64 0, .int .i64 1000, .int .i64 200, .int .i64 300]
abbrev barArr2 (g : Nat) : Array Value := #[.string strA, .int .i64 10, .int .i64 1, .int .i64 0, .slice (some ⟨g, 0, none⟩) 1 1]
abbrev runArr2 : Array Value := #[.string strA, .int .i64 1, .int .i64 2, .int .i64 0, .int .i64 50, .int .i64 50, .int .i64 0, .int .i64 0, .int .i64 0, .int .i64 1]
abbrev demArr2 : Array Value := #[.string strD, .int .i64 0, .int .i64 0, .int .i64 0, .int .i64 0, .int .i64 200, .int .i64 100, .slice none 0 0]
abbrev exL2 (gx gb gr gd : Nat) : List Value := [.string strM, .slice (some ⟨gx, 0, none⟩) 1 1, .slice none 0 0, .int .i64 0, .int .i64 16, .int .i64 50, .slice (some ⟨gb, 0, none⟩) 1 1, .slice (some ⟨gr, 0, none⟩) 1 1, .slice none 0 0, .slice (some ⟨gd, 0, none⟩) 1 1,
  .int .i64 40, .int .i64 1, .int .i64 1, .int .i64 1, .int .i64 1, .int .i64 1, .int .i64 1, .int .i64 1, .int .i64 0]
/-- The lists of the example lie in memory, apart from block b. -/
structure ExBlks2 (w : World) (b gx g gb gr gd : Nat) : Prop where
  nx : gx ≠ b
  n0 : g ≠ b
  n1 : gb ≠ b
  n2 : gr ≠ b
  n3 : gd ≠ b
  box : Blk w gx 89 box2
  dims : Blk w g 3 #[.int .i64 1000]
  bar : Blk w gb 158 (barArr2 g)
  run : Blk w gr 183 runArr2
  dem : Blk w gd 103 demArr2
theorem ba_exc {w W W' : World} (h : Below w.heap.size w W) (hX : Exc [w.heap.size] W W') : Below w.heap.size w W' :=
  ⟨hX.os.trans h.os, hX.tape.trans h.tape, hX.output.trans h.output, Nat.le_trans h.size hX.size, fun k hk => (hX.block k (Nat.lt_of_lt_of_le hk h.size) (by simp; omega)).trans (h.block k hk)⟩
set_option maxRecDepth 20000 in
set_option maxHeartbeats 800000 in
theorem example26_any (w : World) : Calls Tryz.prog 80 #[] w fun e w' => ∃ gx g gb gr gd, e = .returned (.agg (exL2 gx gb gr gd).toArray) ∧ ExBlks2 w' w.heap.size gx g gb gr gd ∧ Below w.heap.size w w' := by
  go_enter Tryz.func80, Tryz.ntmps80
  go_upto_region 1 with fail
  have hD0 : Blk (w.alloc (.cells #[.string ⟨#[]⟩, .slice none 0 0, .slice none 0 0, .int .i64 0, .int .i64 0, .int .i64 0, .slice none 0 0, .slice none 0 0, .slice none 0 0, .slice none 0 0, .int .i64 0, .int .i64 0, .int .i64 0, .int .i64 0, .int .i64 0, .int .i64 0, .int .i64 0, .int .i64 0, .int .i64 0] 34)) w.heap.size 34 #[.string ⟨#[]⟩, .slice none 0 0, .slice none 0 0, .int .i64 0, .int .i64 0, .int .i64 0, .slice none 0 0, .slice none 0 0, .slice none 0 0, .slice none 0 0, .int .i64 0, .int .i64 0, .int .i64 0, .int .i64 0, .int .i64 0, .int .i64 0, .int .i64 0, .int .i64 0, .int .i64 0] := Blk.new _ _ _
  have hb3 : Below w.heap.size w (w.alloc (.cells #[.string ⟨#[]⟩, .slice none 0 0, .slice none 0 0, .int .i64 0, .int .i64 0, .int .i64 0, .slice none 0 0, .slice none 0 0, .slice none 0 0, .slice none 0 0, .int .i64 0, .int .i64 0, .int .i64 0, .int .i64 0, .int .i64 0, .int .i64 0, .int .i64 0, .int .i64 0, .int .i64 0] 34)) := ba_alloc (Below.refl _ _) _
  generalize (w.alloc (.cells #[.string ⟨#[]⟩, .slice none 0 0, .slice none 0 0, .int .i64 0, .int .i64 0, .int .i64 0, .slice none 0 0, .slice none 0 0, .slice none 0 0, .slice none 0 0, .int .i64 0, .int .i64 0, .int .i64 0, .int .i64 0, .int .i64 0, .int .i64 0, .int .i64 0, .int .i64 0, .int .i64 0] 34)) = W0 at *
  go_wp2_with (first
    | (go_at_call 136; (with_reducible refine (exat_any 1000 200 300 _).mono ?_); rintro e w1 ⟨rfl, hbw1⟩)
    | (go_at_call 136; (with_reducible refine (exat_any 0 50 50 _).mono ?_); rintro e w2 ⟨rfl, hbw2⟩)
    | (go_at_call 136; (with_reducible refine (exat_any 0 200 100 _).mono ?_); rintro e w3 ⟨rfl, hbw3⟩)
    | (with_reducible refine at_store 34 0 18 ?_
       go_loud (
       have hDz : Blk (w3.alloc (.cells demArr2 103)) w.heap.size 34 #[.string ⟨#[]⟩, .slice none 0 0, .slice none 0 0, .int .i64 0, .int .i64 0, .int .i64 0, .slice none 0 0, .slice none 0 0, .slice none 0 0, .slice none 0 0, .int .i64 0, .int .i64 0, .int .i64 0, .int .i64 0, .int .i64 0, .int .i64 0, .int .i64 0, .int .i64 0, .int .i64 0] := ((((((((hD0.via hbw1).alloc _).alloc _).alloc _).via hbw2).alloc _).via hbw3).alloc _)
       have e1 := hbw1.size
       have hk2 : w1.heap.size + 1 + 1 + 1 ≤ w2.heap.size := by have := hbw2.size; simp at this; omega
       have hk3 : w2.heap.size + 1 ≤ w3.heap.size := by have := hbw3.size; simp at this; omega
       have hgb : w.heap.size < w1.heap.size := (hD0.via hbw1).lt
       have hBox : Blk (w3.alloc (.cells demArr2 103)) w1.heap.size 89 box2 := (((((((Blk.new w1 _ _).alloc _).alloc _).via hbw2).alloc _).via hbw3).alloc _)
       have hDim : Blk (w3.alloc (.cells demArr2 103)) (w1.heap.size + 1) 3 #[.int .i64 1000] := ((((((Blk.newN (n := w1.heap.size + 1) (by simp) _ _).alloc _).via hbw2).alloc _).via hbw3).alloc _)
       have hBar : Blk (w3.alloc (.cells demArr2 103)) (w1.heap.size + 1 + 1) 158 (barArr2 (w1.heap.size + 1)) := (((((Blk.newN (n := w1.heap.size + 1 + 1) (by simp) _ _).via hbw2).alloc _).via hbw3).alloc _)
       have hRun : Blk (w3.alloc (.cells demArr2 103)) w2.heap.size 183 runArr2 := (((Blk.new w2 _ _).via hbw3).alloc _)
       have hDem : Blk (w3.alloc (.cells demArr2 103)) w3.heap.size 103 demArr2 := Blk.new w3 _ _
       have hbel : Below w.heap.size w (w3.alloc (.cells demArr2 103)) := (by repeat (with_reducible first | exact Below.refl _ _ | assumption | refine ba_alloc ?_ _ | refine ba_drew ?_ | refine ba_drewN ?_ _ | refine ba_via (by assumption) ?_ | (refine ba_set ?_ ?_ _; rotate_left; (first | omega | (simp; omega) | simp))))
       clear hbw1 hbw2 hbw3 hD0 hb3
       generalize (w3.alloc (.cells demArr2 103)) = WD at *
       have hPut : Blk (WD.setCells w.heap.size 0 (exL2 w1.heap.size (w1.heap.size + 1 + 1) w2.heap.size w3.heap.size).toArray.toList) w.heap.size 34 (exL2 w1.heap.size (w1.heap.size + 1 + 1) w2.heap.size w3.heap.size).toArray := Blk.put0 hDz (exL2 w1.heap.size (w1.heap.size + 1 + 1) w2.heap.size w3.heap.size).toArray rfl
       have hXs : Exc [w.heap.size] WD (WD.setCells w.heap.size 0 (exL2 w1.heap.size (w1.heap.size + 1 + 1) w2.heap.size w3.heap.size).toArray.toList) := exc_setCells _ _ _ _
       have hTh : WD.there w.heap.size 0 (exL2 w1.heap.size (w1.heap.size + 1 + 1) w2.heap.size w3.heap.size).toArray.size := hDz.there (by simp)
       refine wpList_store_mid rfl 34 (.tmp 0) (.tmp 18) rfl w.heap.size 0 (exL2 w1.heap.size (w1.heap.size + 1 + 1) w2.heap.size w3.heap.size).toArray rfl rfl hTh (by kernel_rfl) (all_oneCell_toArray (by simp [Value.oneCell'])) ?_
       generalize (WD.setCells w.heap.size 0 (exL2 w1.heap.size (w1.heap.size + 1 + 1) w2.heap.size w3.heap.size).toArray.toList) = WF at *)))
  have hbF : Below w.heap.size w WF := ba_exc hbel hXs
  refine bodyPost_ret (v := .agg (exL2 w1.heap.size (w1.heap.size + 1 + 1) w2.heap.size w3.heap.size).toArray) ?_ rfl ⟨_, w1.heap.size + 1, _, _, _, rfl, ⟨by omega, by omega, by omega, by omega, by omega, hBox.exc hXs (by simp; omega), hDim.exc hXs (by simp; omega), hBar.exc hXs (by simp; omega), hRun.exc hXs (by simp; omega), hDem.exc hXs (by simp; omega)⟩, hbF⟩
  have hres : (loadVar 34 ⟨w.heap.size, 0, none⟩).run Tryz.prog WF = .ok (.agg (exL2 w1.heap.size (w1.heap.size + 1 + 1) w2.heap.size w3.heap.size).toArray) WF := run_loadVar_mid WF w.heap.size 0 _ _ _ hPut.range Tryz.underlying34 rfl (by kernel_rfl)
  have ha : (asAddr (.pointer (some ⟨w.heap.size, 0, none⟩))).run Tryz.prog WF = .ok ⟨w.heap.size, 0, none⟩ WF := by kernel_rfl
  simp [results, Tryz.results80, Act.put, ha, hres, Result.andThen]
end Go.Proofs.YtffkmgjmlahfpaaGreat
set_option linter.unusedVariables false
set_option linter.unusedSimpArgs false
namespace Go.Proofs.YtffkmgjmlahfpaaGreat
open Go.RowKit
theorem Blk.cells {w : World} {g : Nat} {t : TypeId} {cs : List Value} (h : Blk w g t cs.toArray) : Cells w w.heap.size (some ⟨g, 0, none⟩) cs := .inr ⟨g, 0, rfl, h.lt, fun j v hv => by
  rw [Nat.zero_add]
  exact (h.cell j).trans (by simpa using hv)⟩
theorem ex_le1 : 1 ≤ 9223372036854775807 := by decide
theorem ex_le0 : 0 ≤ 9223372036854775807 := by decide
def exBar2 (g : Nat) : BarR := ⟨⟨strA, 10, 1, 0, [1000]⟩, some ⟨g, 0, none⟩, 1, 1⟩
def exDt2 (gx g gb gr gd : Nat) : Dt where
  m := ⟨strM, [⟨⟨0, 0, 0⟩, ⟨1000, 200, 300⟩⟩], [], 0, 16, 50⟩
  mA := some ⟨gx, 0, none⟩
  mn := 1
  mc := 1
  hA := none
  hn := 0
  hc := 0
  bs := [exBar2 g]
  bA := some ⟨gb, 0, none⟩
  bn := 1
  bc := 1
  rs := [⟨strA, 1, 2, ⟨0, 50, 50⟩, ⟨0, 0, 0⟩, 1⟩]
  rA := some ⟨gr, 0, none⟩
  rn := 1
  rc := 1
  js := []
  jA := none
  jn := 0
  jc := 0
  dA := some ⟨gd, 0, none⟩
  dn := 1
  dc := 1
  rule := ⟨40, 1, 1, 1, 1, 1, 1, 1, 0⟩
def exDem : Dm := ⟨strD, ⟨⟨0, 0, 0⟩, ⟨0, 200, 100⟩⟩, [], none, 0, 0⟩
theorem ex2_dtV (gx g gb gr gd : Nat) : dtV (exDt2 gx g gb gr gd) = .agg (exL2 gx gb gr gd).toArray := rfl
theorem ex2_ok {w : World} {b gx g gb gr gd : Nat} (h : ExBlks2 w b gx g gb gr gd) : DtOk w (exDt2 gx g gb gr gd) [exDem] := by
  refine ⟨⟨⟨rfl, ex_le1, rfl, ex_le0, h.box.cells, Cells.nil⟩, ex_le1, ⟨rfl, ex_le1, h.bar.cells, fun r hr => ?_⟩, ⟨rfl, ex_le1, h.run.cells⟩, rfl, ex_le0, Cells.nil⟩, ⟨rfl, ex_le1, h.dem.cells, fun d hd => ?_, fun d hd => ?_⟩, Nat.le_refl _⟩
  · rw [show (exDt2 gx g gb gr gd).bs = [exBar2 g] from rfl, List.mem_singleton] at hr
    subst hr
    exact ⟨rfl, ex_le1, ex_le1, h.dims.cells⟩
  · rw [List.mem_singleton] at hd
    subst hd
    exact ⟨rfl, ex_le0, Cells.nil⟩
  · rw [List.mem_singleton] at hd
    subst hd
    exact ex_le1
theorem ex2_look (gx g gb gr gd : Nat) : S.look (exDt2 gx g gb gr gd) (S.dems [exDem]) = true := by kernel_rfl
theorem ex2_n (gx g gb gr gd : Nat) : S.nOf (exDt2 gx g gb gr gd) = 1 := by kernel_rfl
theorem ex2_c (gx g gb gr gd : Nat) : S.cOf (exDt2 gx g gb gr gd) = [[0]] := by kernel_rfl
def exRod (g : Nat) : Rod := ⟨exBar2 g, [⟨⟨0, 50, 50⟩, ⟨1000, 50, 50⟩⟩], none, 0, 0⟩
theorem ex2_rods (gx g gb gr gd : Nat) : RodsOf (exDt2 gx g gb gr gd) (S.nOf (exDt2 gx g gb gr gd)) [exRod g] := by
  have hla := (look_ok (ex2_look gx g gb gr gd)).laid
  obtain ⟨k, j, k0, r, hL⟩ := lies_of hla (i := 0) (by rw [show (S.mains (bars (exDt2 gx g gb gr gd).bs) (exDt2 gx g gb gr gd).rs).length = 1 from ex2_n gx g gb gr gd]; decide)
  have hk : k = 0 := by have := hL.st.lt; rw [show (exDt2 gx g gb gr gd).rs.length = 1 from rfl] at this; omega
  subst hk
  have hj : j = 0 := by have := hL.st.sum; rw [sumTo_zero] at this; omega
  subst hj
  have hk0 : k0 = 0 := by have := (List.getElem?_eq_some_iff.1 hL.get).1; rw [show (exDt2 gx g gb gr gd).bs.length = 1 from rfl] at this; omega
  subst hk0
  have hr : r = exBar2 g := by have := hL.get; rw [show (exDt2 gx g gb gr gd).bs[0]? = some (exBar2 g) from rfl] at this; injection this with this; exact this.symm
  subst hr
  refine ⟨(ex2_n gx g gb gr gd).symm, fun i hi => ?_⟩
  have hi0 : i = 0 := by simp at hi; exact hi
  subst hi0
  exact ⟨⟨0, 0, 0, hL, by kernel_rfl⟩, by kernel_rfl⟩
def exSch : SCh := ⟨none, 0, [0], 400, 600, true, 7854⟩
theorem ex2_sch (gx g gb gr gd : Nat) : S.schOf (exDt2 gx g gb gr gd) [exRod g] [0] = exSch := by kernel_rfl
theorem ex2_sup (g : Nat) : S.sup [exRod g] exDem.zone exSch = true := by kernel_rfl
theorem ex2_at (gx g gb gr gd : Nat) : S.supplyAt (exDt2 gx g gb gr gd) [exRod g] (S.cOf (exDt2 gx g gb gr gd)) exDem.zone 599 = 7854 := by
  unfold S.supplyAt
  rw [ex2_c, List.map_cons, List.map_nil, ex2_sch]
  kernel_rfl
theorem ex2_sort : S.sortI [400, 600] = [400, 600] := by
  unfold S.sortI
  exact List.mergeSort_of_pairwise (by decide)
theorem ex2_of (gx g gb gr gd : Nat) : S.supplyOf (exDt2 gx g gb gr gd) [exRod g] (S.cOf (exDt2 gx g gb gr gd)) exDem.zone = [⟨400, 7854⟩, ⟨600, 0⟩] := by
  unfold S.supplyOf
  rw [ex2_c, List.map_cons, List.map_nil, ex2_sch, List.filter_cons, if_pos (ex2_sup g), List.filter_nil]
  unfold S.ofL S.places
  rw [show S.ends2 [exSch] = [400, 600] from rfl, ex2_sort]
  kernel_rfl
end Go.Proofs.YtffkmgjmlahfpaaGreat
set_option linter.unusedVariables false
set_option linter.unusedSimpArgs false
namespace Go.Proofs.YtffkmgjmlahfpaaGreat
open Go.RowKit
set_option maxHeartbeats 2000000 in
/-- supply.Anchored of an index in range. -/
theorem Anch_any (x : Dt) (C : List (List Int)) (n : Nat) (k : Nat) (w : World) (hC : C.length ≤ 2000) (hk : k < C.length)
    (hCH : ∀ W, Below w.heap.size w W → Calls Tryz.prog 93 #[dtV x] W (GivesSup x C n W)) :
    Calls Tryz.prog 40 #[dtV x, .int .i64 k] w fun e w' => ∃ (rs : List Rod) (c : SCh), e = .returned (.tuple #[.agg #[.int .i64 (if c.is then c.lo else 0), .int .i64 (if c.is then c.hi else 0)], .int .i64 (if c.is then 0 else 12)]) ∧ rs.length = n ∧ (∀ (i : Nat) (hi : i < rs.length), RodOk x i rs[i]) ∧ SchOk x rs C[k] c ∧ Below w.heap.size w w' := by
  have HCH := Lib.hid hCH
  clear hCH
  unfold dtV at HCH
  unfold dtV
  have hDB := (Blk.new w 34 #[.string x.m.name, .slice x.mA x.mn x.mc, .slice x.hA x.hn x.hc, .int .i64 x.m.cover, .int .i64 x.m.aggr, .int .i64 x.m.poker, .slice x.bA x.bn x.bc, .slice x.rA x.rn x.rc, .slice x.jA x.jn x.jc, .slice x.dA x.dn x.dc, .int .i64 x.rule.num, .int .i64 x.rule.den, .int .i64 x.rule.pnum, .int .i64 x.rule.pden, .int .i64 x.rule.bnum, .int .i64 x.rule.bden, .int .i64 x.rule.lnum, .int .i64 x.rule.lden, .int .i64 x.rule.least]).alloc (.cells #[.int .i64 0, .int .i64 0] 45)
  have hSB := Blk.newN (W := w.alloc (.cells #[.string x.m.name, .slice x.mA x.mn x.mc, .slice x.hA x.hn x.hc, .int .i64 x.m.cover, .int .i64 x.m.aggr, .int .i64 x.m.poker, .slice x.bA x.bn x.bc, .slice x.rA x.rn x.rc, .slice x.jA x.jn x.jc, .slice x.dA x.dn x.dc, .int .i64 x.rule.num, .int .i64 x.rule.den, .int .i64 x.rule.pnum, .int .i64 x.rule.pden, .int .i64 x.rule.bnum, .int .i64 x.rule.bden, .int .i64 x.rule.lnum, .int .i64 x.rule.lden, .int .i64 x.rule.least] 34)) (n := w.heap.size + 1) (by simp) 45 #[.int .i64 0, .int .i64 0]
  have hW1 : Below w.heap.size w ((w.alloc (.cells #[.string x.m.name, .slice x.mA x.mn x.mc, .slice x.hA x.hn x.hc, .int .i64 x.m.cover, .int .i64 x.m.aggr, .int .i64 x.m.poker, .slice x.bA x.bn x.bc, .slice x.rA x.rn x.rc, .slice x.jA x.jn x.jc, .slice x.dA x.dn x.dc, .int .i64 x.rule.num, .int .i64 x.rule.den, .int .i64 x.rule.pnum, .int .i64 x.rule.pden, .int .i64 x.rule.bnum, .int .i64 x.rule.bden, .int .i64 x.rule.lnum, .int .i64 x.rule.lden, .int .i64 x.rule.least] 34)).alloc (.cells #[.int .i64 0, .int .i64 0] 45)) := ba_alloc (ba_alloc (Below.refl _ _) _) _
  go_enter Tryz.func40, Tryz.ntmps40
  go_upto_region 1 with fail
  generalize ((w.alloc (.cells #[.string x.m.name, .slice x.mA x.mn x.mc, .slice x.hA x.hn x.hc, .int .i64 x.m.cover, .int .i64 x.m.aggr, .int .i64 x.m.poker, .slice x.bA x.bn x.bc, .slice x.rA x.rn x.rc, .slice x.jA x.jn x.jc, .slice x.dA x.dn x.dc, .int .i64 x.rule.num, .int .i64 x.rule.den, .int .i64 x.rule.pnum, .int .i64 x.rule.pden, .int .i64 x.rule.bnum, .int .i64 x.rule.bden, .int .i64 x.rule.lnum, .int .i64 x.rule.lden, .int .i64 x.rule.least] 34)).alloc (.cells #[.int .i64 0, .int .i64 0] 45)) = W1 at *
  have HDB := Lib.hid hDB
  clear hDB
  go_upto_region 2 with (first
    | ((with_reducible refine at_load 34 2 ?_); refine wpList_load_mid rfl 34 (.tmp 2) rfl _ _ rfl _ _ (HDB.out.via (by repeat (with_reducible first | exact Below.refl _ _ | assumption | refine ba_alloc ?_ _ | refine ba_drew ?_ | refine ba_drewN ?_ _ | refine ba_via (by assumption) ?_ | (refine ba_set ?_ ?_ _; rotate_left; (first | omega | (simp; omega) | simp))))).range Tryz.underlying34 rfl (by kernel_rfl) ?_)
    | (go_at_call 93; (with_reducible refine (HCH.out _ (by repeat (with_reducible first | exact Below.refl _ _ | assumption | refine ba_alloc ?_ _ | refine ba_drew ?_ | refine ba_drewN ?_ _ | refine ba_via (by assumption) ?_ | (refine ba_set ?_ ?_ _; rotate_left; (first | omega | (simp; omega) | simp))))).mono ?_); rintro e w2 ⟨A1, c1, rs, A2, c2, cs, rfl, hrl, hok, hRA, hOW, hcl, hsch, hcc, hbw2⟩; have HRL := Lib.hid hrl; have HOK := Lib.hid hok; have HOW := Lib.hid hOW; have HCL := Lib.hid hcl; have HSC := Lib.hid hsch; clear hrl hok hRA hOW hcl hsch hcc))
  have hkx : k < cs.length := by rw [HCL.out]; exact hk
  have hCS := (own_cells HOW.out (by have := HCL.out; unfold maxLen; omega)).1
  obtain ⟨b2, o2, hA2, hbb2, hxx⟩ := hCS.at_ (by rw [flat_len schC 5 schC_len]; omega)
  clear hxx
  subst hA2
  have c1' := hCS.rowj schC_len hkx 1 rfl
  have c2' := hCS.rowj schC_len hkx 2 rfl
  have c3' := hCS.rowj schC_len hkx 3 rfl
  have HK := Lib.hid (HSC.out k hkx hk)
  have hki : (k : Int) < cs.length := by omega
  have hk0 : ¬ ((k : Int) < 0) := by omega
  have hk1 : ¬ ((cs.length : Int) ≤ k) := by omega
  have hS2 := hSB.via hbw2
  have s0 := hS2.cell 0
  have s1 := hS2.cell 1
  have sf0 := hS2.frozen 0
  have sf1 := hS2.frozen 1
  have sl := hS2.lt
  simp only [List.getElem?_toArray, List.getElem?_cons_zero, List.getElem?_cons_succ] at s0 s1
  have hw2 : Below w.heap.size w w2 := ba_via hbw2 hW1
  have hs2 := hbw2.size
  have hs1 := hW1.size
  clear hCS HOW HSC HCH HDB hSB
  generalize cs[k] = c at *
  cases his : c.is
  · rw [his] at c3'
    go_wp2
    exact bodyPost_ret (v := .tuple #[.agg #[.int .i64 0, .int .i64 0], .int .i64 12]) (by simp [results, Tryz.results40, go_sem, *]) rfl ⟨rs, c, by rw [his]; rfl, HRL.out, HOK.out, HK.out, (hw2.setCell (Nat.le_succ _) _).setCell (Nat.le_succ _) _⟩
  · rw [his] at c3'
    go_wp2
    exact bodyPost_ret (v := .tuple #[.agg #[.int .i64 c.lo, .int .i64 c.hi], .int .i64 0]) (by simp [results, Tryz.results40, go_sem, *]) rfl ⟨rs, c, by rw [his]; rfl, HRL.out, HOK.out, HK.out, (hw2.setCell (Nat.le_succ _) _).setCell (Nat.le_succ _) _⟩
end Go.Proofs.YtffkmgjmlahfpaaGreat
set_option linter.unusedVariables false
set_option linter.unusedSimpArgs false
namespace Go.Proofs.YtffkmgjmlahfpaaGreat
open Go.RowKit
set_option maxHeartbeats 2000000 in
/-- Equal of equal steps is true. -/
theorem eqSt_yes (l : List Stp) (A : Option Addr) (n c : Nat) (A' : Option Addr) (c' : Nat) (B : Nat) (w : World) (hB : B ≤ w.heap.size) (hA : StepsAt w B A n l) (hA' : StepsAt w B A' n l) :
    Calls Tryz.prog 35 #[.slice A n c, .slice A' n c'] w fun e w' => e = .returned (.bool true) ∧ Below w.heap.size w w' := by
  have HN := Lib.hid hA.len
  have hmx := hA.max
  have hs := hA.cells
  have hs' := hA'.cells
  clear hA hA'
  go_enter Tryz.func35, Tryz.ntmps35
  go_wp2
  go_loopw [13] (fun i wr => ∃ k : Nat, k ≤ n ∧ i = .int .i64 k ∧ Below w.heap.size w wr) (fun i _ => n - (intOf i).toNat)
  case atStart => exact ⟨0, Nat.zero_le _, rfl, Below.refl _ _⟩
  case round =>
    obtain ⟨k, hk, rfl, hbr⟩ := hrel
    by_cases hlt : k < n
    · have hkx : k < l.length := by have := HN.out; omega
      have h1 := hs.below (hbr.mono hB)
      have h2 := hs'.below (hbr.mono hB)
      obtain ⟨b, o, rfl, hbB, hx⟩ := h1.at_ (by rw [flat_len stC 2 stC_len]; omega)
      clear hx
      obtain ⟨b', o', rfl, hbB', hx⟩ := h2.at_ (by rw [flat_len stC 2 stC_len]; omega)
      clear hx
      have c0 := h1.row0 stC_len hkx rfl
      have c1 := h1.rowj stC_len hkx 1 rfl
      have d0 := h2.row0 stC_len hkx rfl
      have d1 := h2.rowj stC_len hkx 1 rfl
      clear h1 h2
      have hbl : b < wr.heap.size := by have := hbr.size; omega
      have hbl' : b' < wr.heap.size := by have := hbr.size; omega
      have hki : (k : Int) < n := by omega
      generalize l[k] = r at *
      go_wp2
      go_quiet (fail)
      go_wp2
      go_roundw
      case rel => exact ⟨k + 1, by omega, by go_num, (by repeat (first | exact Below.refl _ _ | assumption | refine ba_alloc ?_ _ | refine ba_drew ?_ | refine ba_drewN ?_ _ | refine ba_via (by assumption) ?_ | (refine ba_set ?_ ?_ _; rotate_left; (first | omega | (simp; omega) | simp))))⟩
      case measure => simp [intOf]; omega
    · have hki : ¬ ((k : Int) < n) := by omega
      go_wp2
      go_ret
      exact ⟨rfl, hbr⟩
end Go.Proofs.YtffkmgjmlahfpaaGreat
set_option linter.unusedVariables false
set_option linter.unusedSimpArgs false
namespace Go.Proofs.YtffkmgjmlahfpaaGreat
open Go.RowKit
section
variable {gx g gb gr gd b : Nat} {w : World}
theorem ex2_anch (h : ExBlks2 w b gx g gb gr gd) (W : World) (hw : Below w.heap.size w W) : Calls Tryz.prog 40 #[.agg (exL2 gx gb gr gd).toArray, .int .i64 0] W fun e w' => e = .returned (.tuple #[.agg #[.int .i64 400, .int .i64 600], .int .i64 0]) ∧ Below W.heap.size W w' := by
  rw [← ex2_dtV gx g gb gr gd]
  have hc := ex2_c gx g gb gr gd
  have h0 : 0 < (S.cOf (exDt2 gx g gb gr gd)).length := by rw [hc]; decide
  refine (Anch_any (exDt2 gx g gb gr gd) (S.cOf (exDt2 gx g gb gr gd)) (S.nOf (exDt2 gx g gb gr gd)) 0 W (by rw [hc]; decide) h0 (fun V hV => good_chains (ex2_ok h) (ex2_look gx g gb gr gd) V (hw.trans (hV.mono hw.size)))).mono ?_
  rintro e w' ⟨rs, c, rfl, h1, h2, h3, h4⟩
  have hb := sch_bare ⟨h1, h2⟩ (ex2_rods gx g gb gr gd) h3
  rw [show (S.cOf (exDt2 gx g gb gr gd))[0] = [0] by simp [hc], ex2_sch] at hb
  have e1 : c.is = true := congrArg SCh.is hb
  have e2 : c.lo = 400 := congrArg SCh.lo hb
  have e3 : c.hi = 600 := congrArg SCh.hi hb
  rw [e1, e2, e3]
  exact ⟨rfl, h4⟩
theorem ex2_Of (h : ExBlks2 w b gx g gb gr gd) (W : World) (hw : Below w.heap.size w W) : Calls Tryz.prog 31 #[.agg (exL2 gx gb gr gd).toArray, .int .i64 0] W fun e w' => ∃ (A : Option Addr) (c : Nat), e = .returned (.tuple #[.slice A 2 c, .int .i64 0]) ∧
    StepsAt w' w'.heap.size A 2 [⟨400, 7854⟩, ⟨600, 0⟩] ∧ Below W.heap.size W w' := by
  rw [← ex2_dtV gx g gb gr gd]
  refine (good_Of (ex2_ok h) (ex2_look gx g gb gr gd) (by rw [ex2_c]; decide) (k := 0) (d := exDem) rfl (ex2_rods gx g gb gr gd) W hw).mono ?_
  rintro e w' ⟨A, c, rfl, h1, h2⟩
  rw [ex2_of] at h1 ⊢
  exact ⟨A, c, rfl, ⟨rfl, by decide, (own_cells h1 (by unfold maxLen; decide)).1⟩, h2⟩
theorem ex2_At (h : ExBlks2 w b gx g gb gr gd) (W : World) (hw : Below w.heap.size w W) : Calls Tryz.prog 30 #[.agg (exL2 gx gb gr gd).toArray, .int .i64 0, .int .i64 599] W fun e w' => e = .returned (.tuple #[.int .i64 7854, .int .i64 0]) ∧ Below W.heap.size W w' := by
  rw [← ex2_dtV gx g gb gr gd]
  have := good_At (ex2_ok h) (ex2_look gx g gb gr gd) (k := 0) (d := exDem) rfl (p := 599) (by decide) (ex2_rods gx g gb gr gd) W hw
  rw [ex2_at] at this
  exact this
end
set_option maxHeartbeats 2000000 in
theorem awake26_any (w : World) : Calls Tryz.prog 28 #[] w fun e w' => e = .returned (.bool true) ∧ Below w.heap.size w w' := by
  have HEX := Lib.hid (fun w => example26_any w)
  go_enter Tryz.func28, Tryz.ntmps28
  go_upto_region 2 with (first
    | (go_at_call 80; (with_reducible refine (HEX.out _).mono ?_); rintro e w1 ⟨gx1, g1, gb1, gr1, gd1, rfl, hE1, hb1⟩)
    | (go_at_call 40; (with_reducible refine (ex2_anch hE1 _ (Below.refl _ _)).mono ?_); rintro e w2 ⟨rfl, hb2⟩))
  have hS2 := Blk.new w2 45 #[.int .i64 400, .int .i64 600]
  have hW2 : Below w.heap.size w (w2.alloc (.cells #[.int .i64 400, .int .i64 600] 45)) := ba_alloc (ba_via hb2 hb1) _
  have hl2 : w2.heap.size < (w2.alloc (.cells #[.int .i64 400, .int .i64 600] 45)).heap.size := hS2.lt
  generalize (w2.alloc (.cells #[.int .i64 400, .int .i64 600] 45)) = W2 at *
  generalize w2.heap.size = gs at *
  clear hE1 hb1 hb2
  go_upto_region 3 with (first
    | (go_at_call 80; (with_reducible refine (HEX.out _).mono ?_); rintro e w3 ⟨gx3, g3, gb3, gr3, gd3, rfl, hE3, hb3⟩)
    | (go_at_call 31; (with_reducible refine (ex2_Of hE3 _ (Below.refl _ _)).mono ?_); rintro e w4 ⟨A4, c4, rfl, hs4, hb4⟩))
  have hW4 : Below W2.heap.size W2 w4 := ba_via hb4 hb3
  have hS4 := hS2.via hW4
  clear hE3
  go_upto_region 4 with (first
    | (go_at_call 80; (with_reducible refine (HEX.out _).mono ?_); rintro e w5 ⟨gx5, g5, gb5, gr5, gd5, rfl, hE5, hb5⟩)
    | (go_at_call 30; (with_reducible refine (ex2_At hE5 _ (Below.refl _ _)).mono ?_); rintro e w6 ⟨rfl, hb6⟩))
  have hW6 : Below w4.heap.size w4 w6 := ba_via hb6 hb5
  have hS6 := hS4.via hW6
  have hs6 := hs4.below hW6
  have s0 := hS6.cell 0
  have s1 := hS6.cell 1
  have sl := hS6.lt
  simp only [List.getElem?_toArray, List.getElem?_cons_zero, List.getElem?_cons_succ] at s0 s1
  have hL := Blk.new w6 81 #[.int .i64 400, .int .i64 7854, .int .i64 600, .int .i64 0]
  have HEQ := Lib.hid (show Calls Tryz.prog 35 #[.slice A4 2 c4, .slice (some ⟨w6.heap.size, 0, none⟩) 2 2] (w6.alloc (.cells #[.int .i64 400, .int .i64 7854, .int .i64 600, .int .i64 0] 81)) (fun e w' => e = .returned (.bool true) ∧ Below (w6.alloc (.cells #[.int .i64 400, .int .i64 7854, .int .i64 600, .int .i64 0] 81)).heap.size (w6.alloc (.cells #[.int .i64 400, .int .i64 7854, .int .i64 600, .int .i64 0] 81)) w') from
    eqSt_yes [⟨400, 7854⟩, ⟨600, 0⟩] A4 2 c4 (some ⟨w6.heap.size, 0, none⟩) 2 (w6.alloc (.cells #[.int .i64 400, .int .i64 7854, .int .i64 600, .int .i64 0] 81)).heap.size _ (Nat.le_refl _) ⟨rfl, by decide, ((hs6.cells.mono (Nat.le_trans (Nat.le_refl _) (hW6.size))).alloc (Nat.le_refl _) _).mono (by simp)⟩ ⟨rfl, by decide, hL.cells⟩)
  have hbw6 : Below w.heap.size w w6 := ba_via hW6 (ba_via hW4 hW2)
  clear hE5 hS2 hS4 hL hs4 hs6 hb3 hb4 hb5 hb6 hS6
  go_wp2_with (go_at_call 35; (with_reducible refine HEQ.out.mono ?_); rintro e w7 ⟨rfl, hb7⟩)
  go_ret
  exact ⟨rfl, ba_via hb7 (ba_alloc hbw6 _)⟩
end Go.Proofs.YtffkmgjmlahfpaaGreat
set_option linter.unusedVariables false
set_option linter.unusedSimpArgs false
namespace Go.Proofs.YtffkmgjmlahfpaaGreat
open Go.RowKit
theorem few_any (x : Dt) (t : Bool) (w : World)
    (hSM : ∀ W, Below w.heap.size w W → Calls Tryz.prog 13 #[dtV x] W fun e w' => e = .returned (.bool t) ∧ Below W.heap.size W w') :
    Calls Tryz.prog 29 #[dtV x] w fun e w' => e = .returned (.bool t) ∧ Below w.heap.size w w' := by
  have HSM := Lib.hid hSM
  clear hSM
  unfold dtV at HSM
  unfold dtV
  have hDB := Blk.new w 34 #[.string x.m.name, .slice x.mA x.mn x.mc, .slice x.hA x.hn x.hc, .int .i64 x.m.cover, .int .i64 x.m.aggr, .int .i64 x.m.poker, .slice x.bA x.bn x.bc, .slice x.rA x.rn x.rc, .slice x.jA x.jn x.jc, .slice x.dA x.dn x.dc, .int .i64 x.rule.num, .int .i64 x.rule.den, .int .i64 x.rule.pnum, .int .i64 x.rule.pden, .int .i64 x.rule.bnum, .int .i64 x.rule.bden, .int .i64 x.rule.lnum, .int .i64 x.rule.lden, .int .i64 x.rule.least]
  have hW1 : Below w.heap.size w (w.alloc (.cells #[.string x.m.name, .slice x.mA x.mn x.mc, .slice x.hA x.hn x.hc, .int .i64 x.m.cover, .int .i64 x.m.aggr, .int .i64 x.m.poker, .slice x.bA x.bn x.bc, .slice x.rA x.rn x.rc, .slice x.jA x.jn x.jc, .slice x.dA x.dn x.dc, .int .i64 x.rule.num, .int .i64 x.rule.den, .int .i64 x.rule.pnum, .int .i64 x.rule.pden, .int .i64 x.rule.bnum, .int .i64 x.rule.bden, .int .i64 x.rule.lnum, .int .i64 x.rule.lden, .int .i64 x.rule.least] 34)) := ba_alloc (Below.refl _ _) _
  go_enter Tryz.func29, Tryz.ntmps29
  go_upto_region 1 with fail
  generalize (w.alloc (.cells #[.string x.m.name, .slice x.mA x.mn x.mc, .slice x.hA x.hn x.hc, .int .i64 x.m.cover, .int .i64 x.m.aggr, .int .i64 x.m.poker, .slice x.bA x.bn x.bc, .slice x.rA x.rn x.rc, .slice x.jA x.jn x.jc, .slice x.dA x.dn x.dc, .int .i64 x.rule.num, .int .i64 x.rule.den, .int .i64 x.rule.pnum, .int .i64 x.rule.pden, .int .i64 x.rule.bnum, .int .i64 x.rule.bden, .int .i64 x.rule.lnum, .int .i64 x.rule.lden, .int .i64 x.rule.least] 34)) = W1 at *
  have HDB := Lib.hid hDB
  clear hDB
  go_wp2_with (first
    | ((with_reducible refine at_load 34 1 ?_); refine wpList_load_mid rfl 34 (.tmp 1) rfl _ _ rfl _ _ (HDB.out.via (by repeat (with_reducible first | exact Below.refl _ _ | assumption | refine ba_alloc ?_ _ | refine ba_drew ?_ | refine ba_drewN ?_ _ | refine ba_via (by assumption) ?_ | (refine ba_set ?_ ?_ _; rotate_left; (first | omega | (simp; omega) | simp))))).range Tryz.underlying34 rfl (by kernel_rfl) ?_)
    | (go_at_call 13; (with_reducible refine (HSM.out _ (by repeat (with_reducible first | exact Below.refl _ _ | assumption | refine ba_alloc ?_ _ | refine ba_drew ?_ | refine ba_drewN ?_ _ | refine ba_via (by assumption) ?_ | (refine ba_set ?_ ?_ _; rotate_left; (first | omega | (simp; omega) | simp))))).mono ?_); rintro e w2 ⟨rfl, hbw2⟩))
  go_ret
  exact ⟨rfl, (by repeat (first | exact Below.refl _ _ | assumption | refine ba_alloc ?_ _ | refine ba_drew ?_ | refine ba_drewN ?_ _ | refine ba_via (by assumption) ?_ | (refine ba_set ?_ ?_ _; rotate_left; (first | omega | (simp; omega) | simp))))⟩
end Go.Proofs.YtffkmgjmlahfpaaGreat
set_option linter.unusedVariables false
set_option linter.unusedSimpArgs false
namespace Go.Proofs.YtffkmgjmlahfpaaGreat
open Go.RowKit
theorem at_loadg {P : Program} {ops : Array Oper} {Q : Exit → Act → World → Prop} {rest : List Oper} {a : Act} {w : World} (ty : TypeId) (s : Nat) {dst : Option Nat} {t : TypeId} {pos : String} {after : Array Edge} {gd : Nat × Bool}
    (h : wpList P ops Q ({ dst := dst, op := .load ty (.tmp s), type := t, pos := pos, after := after, guard := some gd } :: rest) a w) : wpList P ops Q ({ dst := dst, op := .load ty (.tmp s), type := t, pos := pos, after := after, guard := some gd } :: rest) a w := h
theorem at_loadw {P : Program} {K : Act → World → Prop} {Q : Exit → Act → World → Prop} {a : Act} {w : World} (ty : TypeId) (s : Nat) {dst : Option Nat} {t : TypeId} {pos : String} {after : Array Edge} {gd : Option (Nat × Bool)}
    (h : Oper.wp P { dst := dst, op := .load ty (.tmp s), type := t, pos := pos, after := after, guard := gd } a w K Q) : Oper.wp P { dst := dst, op := .load ty (.tmp s), type := t, pos := pos, after := after, guard := gd } a w K Q := h
end Go.Proofs.YtffkmgjmlahfpaaGreat
