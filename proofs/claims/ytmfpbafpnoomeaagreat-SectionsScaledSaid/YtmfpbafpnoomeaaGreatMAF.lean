/- Lemmas. -/
import Derived.Test.YtmfpbafpnoomeaaGreatMAD
import Derived.Test.YtmfpbafpnoomeaaGreatMAE
set_option linter.unusedVariables false
set_option linter.unusedSimpArgs false
namespace Go.Proofs.YtmfpbafpnoomeaaGreat
open Go.RowKit
def S.nOf (x : Dt) : Nat := (S.mains (bars x.bs) x.rs).length
def S.cOf (x : Dt) : List (List Int) := S.chains x.js (S.nOf x)
structure LookOk (x : Dt) (ds : List Dm) : Prop where
 mem : S.member x.m = true
 laid : S.laid (bars x.bs) x.rs = true
 dems : S.dems ds = true
 rule : S.rule x.rule = true
 j1000 : x.jn <= 1000
 n2000 : S.nOf x <= 2000
 c2000 : (S.cOf x).length <= 2000
 cin : ChIn (S.cOf x) (S.nOf x)
 good : LapsGood x.js (S.nOf x) (S.rankOf (S.mains (bars x.bs) x.rs))
theorem look_ok {x : Dt} {ds : List Dm} (hlk : S.look x (S.dems ds) = true) : LookOk x ds := by
 have hlk2 := hlk
 simp only [S.look, Bool.and_eq_true, decide_eq_true_eq] at hlk2
 obtain ⟨⟨⟨⟨⟨hmem, hlaid⟩, hdm⟩, hrule⟩, hj1000⟩, hlok⟩ := hlk2
 have hn2000 : S.nOf x <= 2000 := by
  have h2 := hlaid
  simp only [S.laid, Bool.and_eq_true] at h2
  have := mains_len h2.2 (by omega)
  unfold S.nOf
  omega
 have hgood : LapsGood x.js (S.nOf x) (S.rankOf (S.mains (bars x.bs) x.rs)) := laps_good hlok
 refine ⟨hmem, hlaid, hdm, hrule, hj1000, hn2000, Nat.le_trans (chains_le x.js _ _) hn2000, fun l hl => ?_, hgood⟩
 unfold S.cOf S.chains S.chainsTo at hl
 obtain ⟨q, hq, rfl⟩ := List.mem_map.1 hl
 have hq2 := List.mem_range.1 (List.mem_filter.1 hq).1
 have := chainOf_le (S.nextF x.js) (S.nOf x) q
 exact ⟨Nat.succ_pos _, by omega, fun i hi => hgood.mem_range (i := q) (by omega) hi⟩
theorem dems_at {ds : List Dm} (h : S.dems ds = true) {k : Nat} {d : Dm} (hk : ds[k]? = some d) : S.demRight d = true := by
 unfold S.dems at h
 simp only [Bool.and_eq_true] at h
 have h2 := List.all_eq_true.1 h.2 k (List.mem_range.2 (List.getElem?_eq_some_iff.1 hk).1)
 unfold S.demAt at h2
 rw [hk] at h2
 simp only [Bool.and_eq_true] at h2
 exact h2.1
section
variable {x : Dt} {ds : List Dm} {w : World}
theorem good_dv (h : DtOk w x ds) : ∀ W, Below w.heap.size w W -> Calls Tryz.prog 113 #[.slice x.dA x.dn x.dc] W fun e w' => e = .returned (.bool (S.dems ds)) /\ Below W.heap.size W w' :=
 fun W hw => dvalid_any ds x.dA x.dn x.dc w.heap.size W hw.size h.cap (h.dems.at_ (Nat.le_refl _) hw)
theorem good_look (h : DtOk w x ds) (hlk : S.look x (S.dems ds) = true) : ∀ W, Below w.heap.size w W -> Calls Tryz.prog 84 #[dtV x] W (GivesLook true (S.mains (bars x.bs) x.rs).length ((S.mains (bars x.bs) x.rs).flatMap mnC) W) :=
 fun W hw => look_yes x (S.dems ds) w.heap.size W hw.size (h.at_.at_ (Nat.le_refl _) hw) (fun V hV => good_dv h V (hw.trans (hV.mono hw.size))) hlk
theorem bad_look (h : DtOk w x ds) (hlk : S.look x (S.dems ds) = false) : ∀ W, Below w.heap.size w W -> Calls Tryz.prog 84 #[dtV x] W (GivesLook false 0 [] W) :=
 fun W hw => look_no x (S.dems ds) w.heap.size W hw.size (h.at_.at_ (Nat.le_refl _) hw) (fun V hV => good_dv h V (hw.trans (hV.mono hw.size))) hlk
theorem good_chains (h : DtOk w x ds) (hlk : S.look x (S.dems ds) = true) : ∀ W, Below w.heap.size w W -> Calls Tryz.prog 126 #[dtV x] W (GivesSup x (S.cOf x) (S.nOf x) W) := fun W hw => by
 have g := look_ok hlk
 have hat := h.at_.at_ (Nat.le_refl _) hw
 exact schains_any x (S.cOf x) (S.nOf x) w.heap.size W hw.size hat g.laid g.rule g.mem g.n2000 g.c2000 g.cin
  (fun V hV => lvalid_any x true w.heap.size _ _ V (hw.trans (hV.mono hw.size)).size (fun U hU => good_look h hlk U ((hw.trans (hV.mono hw.size)).trans (hU.mono (hw.trans (hV.mono hw.size)).size))))
  (fun V hV => rods_any x w.heap.size V (hw.trans (hV.mono hw.size)).size (h.at_.at_ (Nat.le_refl _) (hw.trans (hV.mono hw.size))) g.laid g.n2000)
  (fun V hV => lchains_yes x w.heap.size _ _ _ V (hw.trans (hV.mono hw.size)).size g.n2000 (fun U hU => good_look h hlk U ((hw.trans (hV.mono hw.size)).trans (hU.mono (hw.trans (hV.mono hw.size)).size)))
    (fun U hU => chains_any x _ _ w.heap.size U ((hw.trans (hV.mono hw.size)).trans (hU.mono (hw.trans (hV.mono hw.size)).size)).size (h.at_.at_ (Nat.le_refl _) ((hw.trans (hV.mono hw.size)).trans (hU.mono (hw.trans (hV.mono hw.size)).size))) g.good g.n2000 g.j1000))
theorem good_sups (h : DtOk w x ds) (hlk : S.look x (S.dems ds) = true) {k : Nat} {d : Dm} (hk : ds[k]? = some d) : ∀ W, Below w.heap.size w W -> Calls Tryz.prog 90 #[dtV x, .int .i64 k] W (GivesSups x (S.cOf x) (S.nOf x) (fun rs => S.sup rs d.zone) W) := fun W hw => by
 have g := look_ok hlk
 exact sups_any x (S.cOf x) (S.nOf x) ds k d w.heap.size W hw.size (h.at_.at_ (Nat.le_refl _) hw) (h.dems.at_ (Nat.le_refl _) hw) hk (dems_at g.dems hk) g.laid g.n2000 g.c2000 g.cin (fun V hV => good_chains h hlk V (hw.trans (hV.mono hw.size)))
theorem good_At (h : DtOk w x ds) (hlk : S.look x (S.dems ds) = true) {k : Nat} {d : Dm} (hk : ds[k]? = some d) {p : Int} (hp : -1048576 <= p /\ p <= 1048576) {rs : List Rod} (hrs : RodsOf x (S.nOf x) rs) :
 ∀ W, Below w.heap.size w W -> Calls Tryz.prog 28 #[dtV x, .int .i64 k, .int .i64 p] W fun e w' => e = .returned (.tuple #[.int .i64 (S.supplyAt x rs (S.cOf x) d.zone p), .int .i64 0]) /\ Below W.heap.size W w' := fun W hw => by
 have g := look_ok hlk
 refine (At_any x (S.cOf x) (S.nOf x) d.zone k p W g.c2000 (fun rs l c h1 h2 h3 h4 => area_bd g.cin g.laid rs l c ⟨h2, h1⟩ h3 h4) (fun V hV => at_any x (S.cOf x) (S.nOf x) d.zone k p V g.c2000 hp.1 hp.2 (fun U hU => good_sups h hlk hk U ((hw.trans (hV.mono hw.size)).trans (hU.mono (hw.trans (hV.mono hw.size)).size))))).mono ?_
 rintro e w' ⟨rs', cs, rfl, h1, h2, h3, h4, h5⟩
 exact ⟨by rw [supplyAt_same ⟨h1, h2⟩ hrs h3 h4], h5⟩
theorem good_Of (h : DtOk w x ds) (hlk : S.look x (S.dems ds) = true) (hC : (S.cOf x).length <= 100) {k : Nat} {d : Dm} (hk : ds[k]? = some d) {rs : List Rod} (hrs : RodsOf x (S.nOf x) rs) :
 ∀ W, Below w.heap.size w W -> Calls Tryz.prog 69 #[dtV x, .int .i64 k] W fun e w' => ∃ (A : Option Addr) (c : Nat), e = .returned (.tuple #[.slice A (S.supplyOf x rs (S.cOf x) d.zone).length c, .int .i64 0]) /\
  w'.ownsRow W.heap.size 136 2 (.slice A (S.supplyOf x rs (S.cOf x) d.zone).length c) (S.supplyOf x rs (S.cOf x) d.zone).length ((S.supplyOf x rs (S.cOf x) d.zone).flatMap stC) /\ Below W.heap.size W w' := fun W hw => by
 have g := look_ok hlk
 refine (Of_any x (S.cOf x) (S.nOf x) d.zone k W hC (fun rs l c h1 h2 h3 h4 => area_bd g.cin g.laid rs l c ⟨h2, h1⟩ h3 h4) (fun rs cs h1 h2 h3 h4 => of_steps hC g.cin g.laid g.rule d.zone rs cs ⟨h2, h1⟩ h3 h4) (fun V hV => good_sups h hlk hk V (hw.trans (hV.mono hw.size)))).mono ?_
 rintro e w' ⟨A, c, rs', cs, rfl, h1, h2, h3, h4, h5, h6⟩
 rw [supplyOf_same ⟨h1, h2⟩ hrs h3 h4] at h5 ⊢
 exact ⟨A, c, rfl, h5, h6⟩
def S.given26 (x : Dt) (ds : List Dm) (d p : Int) : Int := if S.look x (S.dems ds) = false then 1 else if d < 0 ∨ (ds.length : Int) <= d ∨ S.place p = false then 2 else 0
end
theorem given26_zero {x : Dt} {ds : List Dm} {d p : Int} (h : S.given26 x ds d p = 0) : S.look x (S.dems ds) = true /\ (∃ (m : Nat) (dm : Dm), d = m /\ ds[m]? = some dm) /\ -1048576 <= p /\ p <= 1048576 := by
 unfold S.given26 at h
 split at h
 ·cases h
 ·rename_i h1
  split at h
  ·cases h
  ·rename_i h2
   have hpl : S.place p = true := by
    cases hp : S.place p
    ·exact absurd (.inr (.inr hp)) h2
    ·rfl
   unfold S.place at hpl
   simp only [Bool.and_eq_true, decide_eq_true_eq] at hpl
   obtain ⟨m, rfl⟩ := Int.eq_ofNat_of_zero_le (show 0 <= d by omega)
   have hml : m < ds.length := by omega
   exact ⟨by simpa using h1, ⟨m, ds[m], rfl, List.getElem?_eq_getElem hml⟩, hpl⟩
theorem few_bars {x : Dt} {ds : List Dm} (hs : S.small25 x ds = true) (hl : S.laid (bars x.bs) x.rs = true) : S.nOf x <= 96 := by
 have h16 : S.small16 (bars x.bs) x.rs = true := by
  unfold S.small25 at hs
  simp only [Bool.and_eq_true] at hs
  exact hs.1.1.2
 unfold S.small16 at h16
 simp only [Bool.and_eq_true, Bool.not_eq_true'] at h16
 have hb := h16.1.1.1.2
 have hd := h16.1.2
 have hl2 := hl
 simp only [S.laid, Bool.and_eq_true, decide_eq_true_eq] at hl2
 obtain ⟨⟨hsc, h60⟩, hok⟩ := hl2
 have h6 : x.rs.length <= 6 := by
  unfold S.lensBad at hb
  rw [Bool.or_eq_false_iff, Bool.and_eq_false_iff] at hb
  obtain ⟨hb1, _⟩ := hb
  rcases hb1 with h | h
  ·have := of_decide_eq_false h; omega
  ·have := of_decide_eq_false h; omega
 have hcnt : ∀ r, r ∈ x.rs -> r.count <= 16 := fun r hr => by
  have h1 : S.runBad r = false := by
   cases hc : S.runBad r
   ·rfl
   ·have : x.rs.any S.runBad = true := List.any_eq_true.2 ⟨r, hr, hc⟩
    rw [hd] at this
    cases this
  have h2 := right_count (runs_in hok hr)
  unfold S.runBad at h1
  rw [Bool.or_eq_false_iff, Bool.and_eq_false_iff] at h1
  obtain ⟨_, h3⟩ := h1
  rcases h3 with h | h
  ·have := of_decide_eq_false h; omega
  ·have := of_decide_eq_false h; omega
 have hsum : ∀ k, k <= x.rs.length -> S.sumTo x.rs k <= 16 * (k : Int) := by
  intro k
  induction k with
  | zero => intro _; rw [sumTo_zero]; simp
  | succ k ih =>
   intro hk
   rw [sumTo_succ x.rs (by omega)]
   have h1 := ih (by omega)
   have h2 := hcnt _ (List.getElem_mem (show k < x.rs.length by omega))
   push_cast
   omega
 have hm := mains_sum hsc (fun r hr => runs_in hok hr) (Nat.le_refl x.rs.length)
 rw [List.take_length] at hm
 have := hsum x.rs.length (Nat.le_refl _)
 unfold S.nOf
 omega
theorem few_chains {x : Dt} {ds : List Dm} (hs : S.small25 x ds = true) (hl : S.laid (bars x.bs) x.rs = true) : (S.cOf x).length <= 100 := by
 have h1 := few_bars hs hl
 have h2 : (S.cOf x).length <= S.nOf x := chains_le x.js _ _
 omega
def S.kept (x : Dt) (rs : List Rod) (C : List (List Int)) (z : Bx) (p : Int) : List SCh := (C.map (S.schOf x rs)).filter (S.supAt z p rs)
end Go.Proofs.YtmfpbafpnoomeaaGreat
