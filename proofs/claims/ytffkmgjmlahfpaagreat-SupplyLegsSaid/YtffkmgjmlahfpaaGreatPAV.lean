/- The supply of any detail: what supply.At answers. Plain: a chain's main legs cover all places from where the first begins to where the last ends; no laid bar is in two chains. Plain: the bars that sup -/
import Derived.Test.YtffkmgjmlahfpaaGreatPAS
import Derived.Test.YtffkmgjmlahfpaaGreatPAR
import Derived.Test.YtffkmgjmlahfpaaGreatPAT
import Derived.Test.YtffkmgjmlahfpaaGreatPAC
import Derived.Test.YtffkmgjmlahfpaaGreatPR
import Derived.Test.YtffkmgjmlahfpaaGreatPAG
import Derived.Test.YtffkmgjmlahfpaaGreatPAU
import Derived.Test.YtffkmgjmlahfpaaGreatPX
import Derived.Test.YtffkmgjmlahfpaaGreatPAE
set_option linter.unusedVariables false
set_option linter.unusedSimpArgs false
namespace Go.Proofs.YtffkmgjmlahfpaaGreat
open Go.RowKit
def S.nOf (x : Dt) : Nat := (S.mains (bars x.bs) x.rs).length
def S.cOf (x : Dt) : List (List Int) := S.chains x.js (S.nOf x)
structure LookOk (x : Dt) (ds : List Dm) : Prop where
  mem : S.member x.m = true
  laid : S.laid (bars x.bs) x.rs = true
  dems : S.dems ds = true
  rule : S.rule x.rule = true
  j1000 : x.jn ≤ 1000
  n2000 : S.nOf x ≤ 2000
  c2000 : (S.cOf x).length ≤ 2000
  cin : ChIn (S.cOf x) (S.nOf x)
  good : LapsGood x.js (S.nOf x) (S.rankOf (S.mains (bars x.bs) x.rs))
theorem look_ok {x : Dt} {ds : List Dm} (hlk : S.look x (S.dems ds) = true) : LookOk x ds := by
  have hlk2 := hlk
  simp only [S.look, Bool.and_eq_true, decide_eq_true_eq] at hlk2
  obtain ⟨⟨⟨⟨⟨hmem, hlaid⟩, hdm⟩, hrule⟩, hj1000⟩, hlok⟩ := hlk2
  have hn2000 : S.nOf x ≤ 2000 := by
    have h2 := hlaid
    simp only [S.laid, Bool.and_eq_true] at h2
    have := mains_len h2.2 (by omega)
    unfold S.nOf
    omega
  have hgood : LapsGood x.js (S.nOf x) (S.rankOf (S.mains (bars x.bs) x.rs)) := laps_good hlok
  refine ⟨hmem, hlaid, hdm, hrule, hj1000, hn2000, Nat.le_trans (chains_le x.js _ _) hn2000, fun l hl => ?_, hgood⟩
  unfold S.cOf S.chains S.chainsTo at hl
  obtain ⟨q, hq, rfl⟩ := List.mem_map.1 hl
  have hq2 := List.mem_range.1 (List.mem_filter.1 hq).1
  have := chainOf_le (S.nextF x.js) (S.nOf x) q
  exact ⟨Nat.succ_pos _, by omega, fun i hi => hgood.mem_range (i := q) (by omega) hi⟩
theorem dems_at {ds : List Dm} (h : S.dems ds = true) {k : Nat} {d : Dm} (hk : ds[k]? = some d) : S.demRight d = true := by
  unfold S.dems at h
  simp only [Bool.and_eq_true] at h
  have h2 := List.all_eq_true.1 h.2 k (List.mem_range.2 (List.getElem?_eq_some_iff.1 hk).1)
  unfold S.demAt at h2
  rw [hk] at h2
  simp only [Bool.and_eq_true] at h2
  exact h2.1
section
variable {x : Dt} {ds : List Dm} {w : World}
theorem good_dv (h : DtOk w x ds) : ∀ W, Below w.heap.size w W → Calls Tryz.prog 121 #[.slice x.dA x.dn x.dc] W fun e w' => e = .returned (.bool (S.dems ds)) ∧ Below W.heap.size W w' :=
  fun W hw => dvalid_any ds x.dA x.dn x.dc w.heap.size W hw.size h.cap (h.dems.at_ (Nat.le_refl _) hw)
theorem good_look (h : DtOk w x ds) (hlk : S.look x (S.dems ds) = true) : ∀ W, Below w.heap.size w W → Calls Tryz.prog 65 #[dtV x] W (GivesLook true (S.mains (bars x.bs) x.rs).length ((S.mains (bars x.bs) x.rs).flatMap mnC) W) :=
  fun W hw => look_yes x (S.dems ds) w.heap.size W hw.size (h.at_.at_ (Nat.le_refl _) hw) (fun V hV => good_dv h V (hw.trans (hV.mono hw.size))) hlk
theorem bad_look (h : DtOk w x ds) (hlk : S.look x (S.dems ds) = false) : ∀ W, Below w.heap.size w W → Calls Tryz.prog 65 #[dtV x] W (GivesLook false 0 [] W) :=
  fun W hw => look_no x (S.dems ds) w.heap.size W hw.size (h.at_.at_ (Nat.le_refl _) hw) (fun V hV => good_dv h V (hw.trans (hV.mono hw.size))) hlk
theorem good_chains (h : DtOk w x ds) (hlk : S.look x (S.dems ds) = true) : ∀ W, Below w.heap.size w W → Calls Tryz.prog 93 #[dtV x] W (GivesSup x (S.cOf x) (S.nOf x) W) := fun W hw => by
  have g := look_ok hlk
  have hat := h.at_.at_ (Nat.le_refl _) hw
  exact schains_any x (S.cOf x) (S.nOf x) w.heap.size W hw.size hat g.laid g.rule g.mem g.n2000 g.c2000 g.cin
    (fun V hV => lvalid_any x true w.heap.size _ _ V (hw.trans (hV.mono hw.size)).size (fun U hU => good_look h hlk U ((hw.trans (hV.mono hw.size)).trans (hU.mono (hw.trans (hV.mono hw.size)).size))))
    (fun V hV => rods_any x w.heap.size V (hw.trans (hV.mono hw.size)).size (h.at_.at_ (Nat.le_refl _) (hw.trans (hV.mono hw.size))) g.laid g.n2000)
    (fun V hV => lchains_yes x w.heap.size _ _ _ V (hw.trans (hV.mono hw.size)).size g.n2000 (fun U hU => good_look h hlk U ((hw.trans (hV.mono hw.size)).trans (hU.mono (hw.trans (hV.mono hw.size)).size)))
      (fun U hU => chains_any x _ _ w.heap.size U ((hw.trans (hV.mono hw.size)).trans (hU.mono (hw.trans (hV.mono hw.size)).size)).size (h.at_.at_ (Nat.le_refl _) ((hw.trans (hV.mono hw.size)).trans (hU.mono (hw.trans (hV.mono hw.size)).size))) g.good g.n2000 g.j1000))
theorem good_sups (h : DtOk w x ds) (hlk : S.look x (S.dems ds) = true) {k : Nat} {d : Dm} (hk : ds[k]? = some d) : ∀ W, Below w.heap.size w W → Calls Tryz.prog 83 #[dtV x, .int .i64 k] W (GivesSups x (S.cOf x) (S.nOf x) (fun rs => S.sup rs d.zone) W) := fun W hw => by
  have g := look_ok hlk
  exact sups_any x (S.cOf x) (S.nOf x) ds k d w.heap.size W hw.size (h.at_.at_ (Nat.le_refl _) hw) (h.dems.at_ (Nat.le_refl _) hw) hk (dems_at g.dems hk) g.laid g.n2000 g.c2000 g.cin (fun V hV => good_chains h hlk V (hw.trans (hV.mono hw.size)))
theorem good_At (h : DtOk w x ds) (hlk : S.look x (S.dems ds) = true) {k : Nat} {d : Dm} (hk : ds[k]? = some d) {p : Int} (hp : -1048576 ≤ p ∧ p ≤ 1048576) {rs : List Rod} (hrs : RodsOf x (S.nOf x) rs) :
    ∀ W, Below w.heap.size w W → Calls Tryz.prog 30 #[dtV x, .int .i64 k, .int .i64 p] W fun e w' => e = .returned (.tuple #[.int .i64 (S.supplyAt x rs (S.cOf x) d.zone p), .int .i64 0]) ∧ Below W.heap.size W w' := fun W hw => by
  have g := look_ok hlk
  refine (At_any x (S.cOf x) (S.nOf x) d.zone k p W g.c2000 (fun rs l c h1 h2 h3 h4 => area_bd g.cin g.laid rs l c ⟨h2, h1⟩ h3 h4) (fun V hV => at_any x (S.cOf x) (S.nOf x) d.zone k p V g.c2000 hp.1 hp.2 (fun U hU => good_sups h hlk hk U ((hw.trans (hV.mono hw.size)).trans (hU.mono (hw.trans (hV.mono hw.size)).size))))).mono ?_
  rintro e w' ⟨rs', cs, rfl, h1, h2, h3, h4, h5⟩
  exact ⟨by rw [supplyAt_same ⟨h1, h2⟩ hrs h3 h4], h5⟩
theorem good_Of (h : DtOk w x ds) (hlk : S.look x (S.dems ds) = true) (hC : (S.cOf x).length ≤ 100) {k : Nat} {d : Dm} (hk : ds[k]? = some d) {rs : List Rod} (hrs : RodsOf x (S.nOf x) rs) :
    ∀ W, Below w.heap.size w W → Calls Tryz.prog 31 #[dtV x, .int .i64 k] W fun e w' => ∃ (A : Option Addr) (c : Nat), e = .returned (.tuple #[.slice A (S.supplyOf x rs (S.cOf x) d.zone).length c, .int .i64 0]) ∧
      w'.ownsRow W.heap.size 81 2 (.slice A (S.supplyOf x rs (S.cOf x) d.zone).length c) (S.supplyOf x rs (S.cOf x) d.zone).length ((S.supplyOf x rs (S.cOf x) d.zone).flatMap stC) ∧ Below W.heap.size W w' := fun W hw => by
  have g := look_ok hlk
  refine (Of_any x (S.cOf x) (S.nOf x) d.zone k W hC (fun rs l c h1 h2 h3 h4 => area_bd g.cin g.laid rs l c ⟨h2, h1⟩ h3 h4) (fun rs cs h1 h2 h3 h4 => of_steps hC g.cin g.laid g.rule d.zone rs cs ⟨h2, h1⟩ h3 h4) (fun V hV => good_sups h hlk hk V (hw.trans (hV.mono hw.size)))).mono ?_
  rintro e w' ⟨A, c, rs', cs, rfl, h1, h2, h3, h4, h5, h6⟩
  rw [supplyOf_same ⟨h1, h2⟩ hrs h3 h4] at h5 ⊢
  exact ⟨A, c, rfl, h5, h6⟩
def S.given26 (x : Dt) (ds : List Dm) (d p : Int) : Int := if S.look x (S.dems ds) = false then 1 else if d < 0 ∨ (ds.length : Int) ≤ d ∨ S.place p = false then 2 else 0
theorem bad_chains (h : DtOk w x ds) (hlk : S.look x (S.dems ds) = false) : ∀ W, Below w.heap.size w W → Calls Tryz.prog 93 #[dtV x] W fun e w' => e = .returned (.tuple #[.slice none 0 0, .slice none 0 0, .int .i64 1]) ∧ Below W.heap.size W w' :=
  fun W hw => schains_no x W (fun V hV => lvalid_any x false w.heap.size _ _ V (hw.trans (hV.mono hw.size)).size (fun U hU => bad_look h hlk U ((hw.trans (hV.mono hw.size)).trans (hU.mono (hw.trans (hV.mono hw.size)).size))))
theorem bad_sups (h : DtOk w x ds) (d : Int) (hg : S.given26 x ds d 0 ≠ 0) : ∀ W, Below w.heap.size w W → Calls Tryz.prog 83 #[dtV x, .int .i64 d] W fun e w' => e = .returned (.tuple #[.slice none 0 0, .slice none 0 0, .int .i64 (S.given26 x ds d 0)]) ∧ Below W.heap.size W w' := fun W hw => by
  unfold S.given26 at hg ⊢
  by_cases hlk : S.look x (S.dems ds) = false
  · rw [if_pos hlk]
    exact sups_err x d 1 W rfl (fun V hV => bad_chains h hlk V (hw.trans (hV.mono hw.size)))
  · rw [if_neg hlk] at hg ⊢
    have hlk2 : S.look x (S.dems ds) = true := by simpa using hlk
    by_cases hr : d < 0 ∨ (ds.length : Int) ≤ d ∨ S.place 0 = false
    · rw [if_pos hr]
      refine sups_range x (S.cOf x) (S.nOf x) d W ?_ (fun V hV => good_chains h hlk2 V (hw.trans (hV.mono hw.size)))
      rcases hr with h1 | h1 | h1
      · exact .inl h1
      · exact .inr (by rw [h.dems.len] at h1; exact h1)
      · exact absurd h1 (by decide)
    · rw [if_neg hr] at hg
      exact absurd rfl hg
theorem bad_at (h : DtOk w x ds) (d p : Int) (hg : S.given26 x ds d p ≠ 0) : ∀ W, Below w.heap.size w W → Calls Tryz.prog 81 #[dtV x, .int .i64 d, .int .i64 p] W fun e w' => e = .returned (.tuple #[.slice none 0 0, .slice none 0 0, .int .i64 (S.given26 x ds d p)]) ∧ Below W.heap.size W w' := fun W hw => by
  by_cases hg0 : S.given26 x ds d 0 = 0
  · unfold S.given26 at hg hg0 ⊢
    by_cases hlk : S.look x (S.dems ds) = false
    · rw [if_pos hlk] at hg0; cases hg0
    · rw [if_neg hlk] at hg hg0 ⊢
      have hlk2 : S.look x (S.dems ds) = true := by simpa using hlk
      by_cases hr : d < 0 ∨ (ds.length : Int) ≤ d ∨ S.place p = false
      · rw [if_pos hr]
        by_cases hr0 : d < 0 ∨ (ds.length : Int) ≤ d ∨ S.place 0 = false
        · rw [if_pos hr0] at hg0; cases hg0
        · obtain ⟨m, rfl⟩ := Int.eq_ofNat_of_zero_le (show 0 ≤ d by omega)
          have hml : m < ds.length := by omega
          refine at_far x (S.cOf x) (S.nOf x) ds[m].zone m p W ?_ (fun V hV => good_sups h hlk2 (List.getElem?_eq_getElem hml) V (hw.trans (hV.mono hw.size)))
          have hpl : S.place p = false := by
            rcases hr with h1 | h1 | h1
            · omega
            · omega
            · exact h1
          unfold S.place at hpl
          rw [Bool.and_eq_false_iff, decide_eq_false_iff_not, decide_eq_false_iff_not] at hpl
          omega
      · rw [if_neg hr] at hg
        exact absurd rfl hg
  · have he : S.given26 x ds d p = S.given26 x ds d 0 := by
      unfold S.given26 at hg0 ⊢
      by_cases hlk : S.look x (S.dems ds) = false
      · rw [if_pos hlk, if_pos hlk]
      · rw [if_neg hlk] at hg0 ⊢
        rw [if_neg hlk]
        by_cases hr : d < 0 ∨ (ds.length : Int) ≤ d ∨ S.place 0 = false
        · have hr2 : d < 0 ∨ (ds.length : Int) ≤ d := by
            rcases hr with h1 | h1 | h1
            · exact .inl h1
            · exact .inr h1
            · exact absurd h1 (by decide)
          rw [if_pos hr, if_pos (by rcases hr2 with h1 | h1; exact .inl h1; exact .inr (.inl h1))]
        · rw [if_neg hr] at hg0
          exact absurd rfl hg0
    rw [he]
    refine at_err x d p _ W ?_ (fun V hV => bad_sups h d hg0 V (hw.trans (hV.mono hw.size)))
    simpa using hg0
theorem bad_At (h : DtOk w x ds) (d p : Int) (hg : S.given26 x ds d p ≠ 0) : ∀ W, Below w.heap.size w W → Calls Tryz.prog 30 #[dtV x, .int .i64 d, .int .i64 p] W fun e w' => e = .returned (.tuple #[.int .i64 0, .int .i64 (S.given26 x ds d p)]) ∧ Below W.heap.size W w' :=
  fun W hw => At_err x d p _ W (by simpa using hg) (fun V hV => bad_at h d p hg V (hw.trans (hV.mono hw.size)))
end
theorem given26_zero {x : Dt} {ds : List Dm} {d p : Int} (h : S.given26 x ds d p = 0) : S.look x (S.dems ds) = true ∧ (∃ (m : Nat) (dm : Dm), d = m ∧ ds[m]? = some dm) ∧ -1048576 ≤ p ∧ p ≤ 1048576 := by
  unfold S.given26 at h
  split at h
  · cases h
  · rename_i h1
    split at h
    · cases h
    · rename_i h2
      have hpl : S.place p = true := by
        cases hp : S.place p
        · exact absurd (.inr (.inr hp)) h2
        · rfl
      unfold S.place at hpl
      simp only [Bool.and_eq_true, decide_eq_true_eq] at hpl
      obtain ⟨m, rfl⟩ := Int.eq_ofNat_of_zero_le (show 0 ≤ d by omega)
      have hml : m < ds.length := by omega
      exact ⟨by simpa using h1, ⟨m, ds[m], rfl, List.getElem?_eq_getElem hml⟩, hpl⟩
theorem few_bars {x : Dt} {ds : List Dm} (hs : S.small25 x ds = true) (hl : S.laid (bars x.bs) x.rs = true) : S.nOf x ≤ 96 := by
  have h16 : S.small16 (bars x.bs) x.rs = true := by
    unfold S.small25 at hs
    simp only [Bool.and_eq_true] at hs
    exact hs.1.1.2
  unfold S.small16 at h16
  simp only [Bool.and_eq_true, Bool.not_eq_true'] at h16
  have hb := h16.1.1.1.2
  have hd := h16.1.2
  have hl2 := hl
  simp only [S.laid, Bool.and_eq_true, decide_eq_true_eq] at hl2
  obtain ⟨⟨hsc, h60⟩, hok⟩ := hl2
  have h6 : x.rs.length ≤ 6 := by
    unfold S.lensBad at hb
    rw [Bool.or_eq_false_iff, Bool.and_eq_false_iff] at hb
    obtain ⟨hb1, _⟩ := hb
    rcases hb1 with h | h
    · have := of_decide_eq_false h; omega
    · have := of_decide_eq_false h; omega
  have hcnt : ∀ r, r ∈ x.rs → r.count ≤ 16 := fun r hr => by
    have h1 : S.runBad r = false := by
      cases hc : S.runBad r
      · rfl
      · have : x.rs.any S.runBad = true := List.any_eq_true.2 ⟨r, hr, hc⟩
        rw [hd] at this
        cases this
    have h2 := right_count (runs_in hok hr)
    unfold S.runBad at h1
    rw [Bool.or_eq_false_iff, Bool.and_eq_false_iff] at h1
    obtain ⟨_, h3⟩ := h1
    rcases h3 with h | h
    · have := of_decide_eq_false h; omega
    · have := of_decide_eq_false h; omega
  have hsum : ∀ k, k ≤ x.rs.length → S.sumTo x.rs k ≤ 16 * (k : Int) := by
    intro k
    induction k with
    | zero => intro _; rw [sumTo_zero]; simp
    | succ k ih =>
      intro hk
      rw [sumTo_succ x.rs (by omega)]
      have h1 := ih (by omega)
      have h2 := hcnt _ (List.getElem_mem (show k < x.rs.length by omega))
      push_cast
      omega
  have hm := mains_sum hsc (fun r hr => runs_in hok hr) (Nat.le_refl x.rs.length)
  rw [List.take_length] at hm
  have := hsum x.rs.length (Nat.le_refl _)
  unfold S.nOf
  omega
theorem few_chains {x : Dt} {ds : List Dm} (hs : S.small25 x ds = true) (hl : S.laid (bars x.bs) x.rs = true) : (S.cOf x).length ≤ 100 := by
  have h1 := few_bars hs hl
  have h2 : (S.cOf x).length ≤ S.nOf x := chains_le x.js _ _
  omega
theorem no_two {x : Dt} {ds : List Dm} (g : LookOk x ds) : (S.cOf x).flatten.Nodup := by
  unfold S.cOf S.chains S.chainsTo
  unfold List.Nodup
  rw [List.pairwise_flatten]
  refine ⟨fun l hl => ?_, ?_⟩
  · obtain ⟨q, _, rfl⟩ := List.mem_map.1 hl
    exact chain_nodup g.good q
  · rw [List.pairwise_map]
    have hnd : ((List.range (S.nOf x)).filter (fun i => !S.secF x.js (i : Nat))).Nodup := (List.nodup_range).filter _
    refine List.Pairwise.imp_of_mem ?_ hnd
    intro a b ha hb hab i hi i' hj he
    subst he
    have h1 : S.secF x.js (a : Nat) = false := by simpa using (List.mem_filter.1 ha).2
    have h2 : S.secF x.js (b : Nat) = false := by simpa using (List.mem_filter.1 hb).2
    exact hab (by have := g.good.same h1 h2 _ i (Nat.le_refl _) hi hj; omega)
def S.areaI (rs : List Rod) (i : Int) : Int := S.steelArea (S.sizeI rs i)
theorem areaI_pos {x : Dt} {n : Nat} {rs : List Rod} (hla : S.laid (bars x.bs) x.rs = true) (hrs : RodsOf x n rs) {i : Int} (h : 0 ≤ i ∧ i < n) : 1 ≤ S.areaI rs i ∧ S.areaI rs i ≤ 1000000 ∧ S.size (S.sizeI rs i) = true := by
  have hk : i.toNat < rs.length := by rw [hrs.len]; omega
  have hb := bar_size (rod_fit (hrs.ok _ hk) hla).bar
  unfold S.areaI
  rw [sizeI_at hk]
  refine ⟨?_, ?_, hb⟩
  · generalize rs[i.toNat].bar.b.size = d at hb
    rcases size_cases hb with h | h | h | h | h | h | h | h | h <;> (subst h; decide)
  · generalize rs[i.toNat].bar.b.size = d at hb
    rcases size_cases hb with h | h | h | h | h | h | h | h | h <;> (subst h; decide)
def S.kept (x : Dt) (rs : List Rod) (C : List (List Int)) (z : Bx) (p : Int) : List SCh := (C.map (S.schOf x rs)).filter (S.supAt z p rs)
theorem kept_mem {x : Dt} {rs : List Rod} {C : List (List Int)} {z : Bx} {p : Int} {c : SCh} (h : c ∈ S.kept x rs C z p) : ∃ l, l ∈ C ∧ c = S.schOf x rs l ∧ S.supAt z p rs c = true := by
  obtain ⟨h1, h2⟩ := List.mem_filter.1 h
  obtain ⟨l, hl, rfl⟩ := List.mem_map.1 h1
  exact ⟨l, hl, rfl, h2⟩
theorem Bars_err (x : Dt) (k : Int) (p : Int) (er : Int) (w : World) (he : (er == 0) = false)
    (hAT : ∀ W, Below w.heap.size w W → Calls Tryz.prog 81 #[dtV x, .int .i64 k, .int .i64 p] W fun e w' => e = .returned (.tuple #[.slice none 0 0, .slice none 0 0, .int .i64 er]) ∧ Below W.heap.size W w') :
    Calls Tryz.prog 36 #[dtV x, .int .i64 k, .int .i64 p] w fun e w' => e = .returned (.tuple #[.slice none 0 0, .int .i64 er]) ∧ Below w.heap.size w w' := by
  have HAT := Lib.hid hAT
  have he2 : ¬ (er = 0) := by simpa using he
  clear hAT
  unfold dtV at HAT
  unfold dtV
  have hDB := Blk.new w 34 #[.string x.m.name, .slice x.mA x.mn x.mc, .slice x.hA x.hn x.hc, .int .i64 x.m.cover, .int .i64 x.m.aggr, .int .i64 x.m.poker, .slice x.bA x.bn x.bc, .slice x.rA x.rn x.rc, .slice x.jA x.jn x.jc, .slice x.dA x.dn x.dc, .int .i64 x.rule.num, .int .i64 x.rule.den, .int .i64 x.rule.pnum, .int .i64 x.rule.pden, .int .i64 x.rule.bnum, .int .i64 x.rule.bden, .int .i64 x.rule.lnum, .int .i64 x.rule.lden, .int .i64 x.rule.least]
  have hW1 : Below w.heap.size w (w.alloc (.cells #[.string x.m.name, .slice x.mA x.mn x.mc, .slice x.hA x.hn x.hc, .int .i64 x.m.cover, .int .i64 x.m.aggr, .int .i64 x.m.poker, .slice x.bA x.bn x.bc, .slice x.rA x.rn x.rc, .slice x.jA x.jn x.jc, .slice x.dA x.dn x.dc, .int .i64 x.rule.num, .int .i64 x.rule.den, .int .i64 x.rule.pnum, .int .i64 x.rule.pden, .int .i64 x.rule.bnum, .int .i64 x.rule.bden, .int .i64 x.rule.lnum, .int .i64 x.rule.lden, .int .i64 x.rule.least] 34)) := ba_alloc (Below.refl _ _) _
  go_enter Tryz.func36, Tryz.ntmps36
  go_upto_region 1 with fail
  generalize (w.alloc (.cells #[.string x.m.name, .slice x.mA x.mn x.mc, .slice x.hA x.hn x.hc, .int .i64 x.m.cover, .int .i64 x.m.aggr, .int .i64 x.m.poker, .slice x.bA x.bn x.bc, .slice x.rA x.rn x.rc, .slice x.jA x.jn x.jc, .slice x.dA x.dn x.dc, .int .i64 x.rule.num, .int .i64 x.rule.den, .int .i64 x.rule.pnum, .int .i64 x.rule.pden, .int .i64 x.rule.bnum, .int .i64 x.rule.bden, .int .i64 x.rule.lnum, .int .i64 x.rule.lden, .int .i64 x.rule.least] 34)) = W1 at *
  have HDB := Lib.hid hDB
  clear hDB
  go_wp2_with (first
    | ((with_reducible refine at_load 34 3 ?_); refine wpList_load_mid rfl 34 (.tmp 3) rfl _ _ rfl _ _ (HDB.out.via belr).range Tryz.underlying34 rfl (by kernel_rfl) ?_)
    | (go_at_call 81; (with_reducible refine (HAT.out _ belr).mono ?_); rintro e w2 ⟨rfl, hbw2⟩))
  go_ret2
  exact ⟨rfl, bel⟩
theorem overP_same {x : Dt} {n : Nat} {rs rs' : List Rod} (h : RodsOf x n rs) (h' : RodsOf x n rs') (p : Int) : S.overP rs p = S.overP rs' p := by
  funext i
  unfold S.overP
  rcases rods_at h h' i.toNat with ⟨e1, e2⟩ | ⟨r, r', e1, e2, _, e4, e5⟩
  · rw [e1, e2]
  · rw [e1, e2]
    show (decide ((S.legOf r).lo.x ≤ p) && decide (p ≤ (S.legOf r).hi.x)) = (decide ((S.legOf r').lo.x ≤ p) && decide (p ≤ (S.legOf r').hi.x))
    unfold S.legOf
    rw [e4, e5]
theorem barsL_bare (rs : List Rod) (p : Int) (cs : List SCh) : S.barsL rs p (cs.map SCh.bare) = S.barsL rs p cs := by
  unfold S.barsL
  rw [List.flatMap_map]
  rfl
theorem barsL_same {x : Dt} {n : Nat} {rs rs0 : List Rod} {C : List (List Int)} {cs : List SCh} (h : RodsOf x n rs) (h0 : RodsOf x n rs0) (hl : cs.length = C.length) (hc : ∀ (i : Nat) (hi : i < cs.length) (hj : i < C.length), SchOk x rs C[i] cs[i]) (z : Bx) (p : Int) :
    S.barsL rs p (cs.filter (S.supAt z p rs)) = S.barsL rs0 p (S.kept x rs0 C z p) := by
  unfold S.kept
  rw [← barsL_bare, filter_bare _ _ (supAt_bare h h0 z p), chs_bare h h0 hl hc]
  unfold S.barsL
  rw [overP_same h h0]
section
variable {x : Dt} {ds : List Dm} {w : World}
def S.barsAt (x : Dt) (rs : List Rod) (z : Bx) (p : Int) : List Int := S.sortI (S.barsL rs p (S.kept x rs (S.cOf x) z p))
theorem good_Bars (h : DtOk w x ds) (hlk : S.look x (S.dems ds) = true) (hC : (S.cOf x).length ≤ 100) {k : Nat} {d : Dm} (hk : ds[k]? = some d) {p : Int} (hp : -1048576 ≤ p ∧ p ≤ 1048576) {rs : List Rod} (hrs : RodsOf x (S.nOf x) rs) :
    ∀ W, Below w.heap.size w W → Calls Tryz.prog 36 #[dtV x, .int .i64 k, .int .i64 p] W fun e w' => ∃ (A : Option Addr) (c : Nat), e = .returned (.tuple #[.slice A (S.barsAt x rs d.zone p).length c, .int .i64 0]) ∧ w'.ownsRow W.heap.size 3 1 (.slice A (S.barsAt x rs d.zone p).length c) (S.barsAt x rs d.zone p).length (i64s (S.barsAt x rs d.zone p)) ∧ Below W.heap.size W w' := fun W hw => by
  have g := look_ok hlk
  refine (Bars_any x (S.cOf x) (S.nOf x) d.zone k p W hC g.n2000 g.cin g.laid (fun V hV => at_any x (S.cOf x) (S.nOf x) d.zone k p V g.c2000 hp.1 hp.2 (fun U hU => good_sups h hlk hk U ((hw.trans (hV.mono hw.size)).trans (hU.mono (hw.trans (hV.mono hw.size)).size))))).mono ?_
  rintro e w' ⟨A, c, rs', cs, rfl, h1, h2, h3, h4, h5⟩
  rw [barsL_same h1 hrs h2 h3] at h4 ⊢
  exact ⟨A, c, rfl, h4, h5⟩
theorem bad_Bars (h : DtOk w x ds) (d p : Int) (hg : S.given26 x ds d p ≠ 0) : ∀ W, Below w.heap.size w W → Calls Tryz.prog 36 #[dtV x, .int .i64 d, .int .i64 p] W fun e w' => e = .returned (.tuple #[.slice none 0 0, .int .i64 (S.given26 x ds d p)]) ∧ Below W.heap.size W w' :=
  fun W hw => Bars_err x d p _ W (by simpa using hg) (fun V hV => bad_at h d p hg V (hw.trans (hV.mono hw.size)))
theorem good_Leg (h : DtOk w x ds) (hlk : S.look x (S.dems ds) = true) {rs : List Rod} (hrs : RodsOf x (S.nOf x) rs) {i : Nat} {r : Rod} (hi : rs[i]? = some r) :
    ∀ W, Below w.heap.size w W → Calls Tryz.prog 39 #[dtV x, .int .i64 i] W fun e w' => e = .returned (.tuple #[boxV (if r.main < 0 then S.zbox else S.legOf r), .int .i64 (if r.main < 0 then 12 else 0)]) ∧ Below W.heap.size W w' := fun W hw => by
  have g := look_ok hlk
  obtain ⟨hix, hir⟩ := List.getElem?_eq_some_iff.1 hi
  refine (Leg_any x (S.nOf x) i W (by rw [← hrs.len]; exact hix) g.n2000 g.laid
    (fun V hV => lvalid_any x true w.heap.size _ _ V (hw.trans (hV.mono hw.size)).size (fun U hU => good_look h hlk U ((hw.trans (hV.mono hw.size)).trans (hU.mono (hw.trans (hV.mono hw.size)).size))))
    (fun V hV => rods_any x w.heap.size V (hw.trans (hV.mono hw.size)).size (h.at_.at_ (Nat.le_refl _) (hw.trans (hV.mono hw.size))) g.laid g.n2000)).mono ?_
  rintro e w' ⟨r', h1, rfl, h2⟩
  have h3 := hrs.ok i hix
  rw [hir] at h3
  obtain ⟨e1, e2, e3⟩ := rod_same h1 h3
  refine ⟨?_, h2⟩
  have e4 : S.legOf r' = S.legOf r := by unfold S.legOf; rw [e2, e3]
  rw [e3, e4]
end
theorem barsAt_mem {x : Dt} {ds : List Dm} (h : S.look x (S.dems ds) = true) {rs : List Rod} (hrs : RodsOf x (S.nOf x) rs) {z : Bx} {p i : Int} (hi : i ∈ S.barsAt x rs z p) : 0 ≤ i ∧ i < (S.nOf x : Int) ∧ S.overP rs p i = true ∧ ∃ r, rs[i.toNat]? = some r ∧ ¬ r.main < 0 := by
  have g := look_ok h
  have hi2 := sortI_mem.1 hi
  unfold S.barsL at hi2
  obtain ⟨c, hc, hf⟩ := List.mem_flatMap.1 hi2
  obtain ⟨l, hl, rfl, hs⟩ := kept_mem hc
  obtain ⟨h1, h2⟩ := List.mem_filter.1 hf
  change i ∈ l at h1
  obtain ⟨h3, h4⟩ := (g.cin l hl).2.2 i h1
  have hix : i.toNat < rs.length := by rw [hrs.len]; omega
  refine ⟨h3, h4, h2, rs[i.toNat], List.getElem?_eq_getElem hix, fun hneg => ?_⟩
  unfold S.supAt S.sup at hs
  simp only [Bool.and_eq_true, Bool.not_eq_true'] at hs
  have h9 : S.outI rs z i = true := by
    unfold S.outI
    rw [List.getElem?_eq_getElem hix]
    show S.outside rs[i.toNat] z = true
    unfold S.outside
    rw [if_pos hneg]
  obtain ⟨u, hu, he⟩ := List.getElem_of_mem h1
  have h8 : anyb l (S.outI rs z) = true := anyb_of (p := S.outI rs z) hu (by rw [he]; exact h9)
  have h10 : anyb l (S.outI rs z) = false := hs.2.2
  rw [h8] at h10
  cases h10
def S.mlegOf (r : Rod) : Bx := if r.main < 0 then S.zbox else S.legOf r
theorem mains_no {x : Dt} {n : Nat} {rs : List Rod} (hrs : RodsOf x n rs) {i : Nat} {m : Mn} {r : Rod} (hm : (S.mains (bars x.bs) x.rs)[i]? = some m) (hr : rs[i]? = some r) : m.leg = S.mlegOf r ∧ m.has = !decide (r.main < 0) := by
  obtain ⟨hix, hir⟩ := List.getElem?_eq_some_iff.1 hr
  have hR := hrs.ok i hix
  rw [hir] at hR
  obtain ⟨k, j, k0, hL, he⟩ := hR.ex
  have hg := hL.st.get
  rw [hm] at hg
  injection hg with hg
  have hlen : 0 < (S.laidPath r.bar.b (x.rs[k]'hL.st.lt) j).length := by rw [laidPath_len]; omega
  unfold S.mlegOf
  cases hml : S.mainLeg (S.laidPath r.bar.b (x.rs[k]'hL.st.lt) j) with
  | none =>
    rw [hml] at hg
    have h1 := main_none hlen hml
    have hmain : r.main < 0 := by rw [hR.main, he, h1]; decide
    rw [if_pos hmain, hg]
    exact ⟨rfl, by simp [hmain, S.mnOf]⟩
  | some b =>
    rw [hml] at hg
    obtain ⟨jj, h1, h2, h3⟩ := main_some hlen hml
    have hmain : r.main = (jj : Int) := by rw [hR.main, he]; exact h1
    rw [if_neg (by omega), hg]
    refine ⟨?_, by rw [hmain]; simp [S.mnOf]⟩
    unfold S.legOf
    rw [hmain, he, Int.toNat_natCast, List.getD_eq_getElem?_getD, h2]
    rfl
theorem rmain_rod (x : Dt) (rs : List Rod) (B : Nat) (w : World) (hB : B ≤ w.heap.size) (hA : DtAt w B x) (h : S.laid (bars x.bs) x.rs = true) (hrs : RodsOf x (S.nOf x) rs) {i : Nat} {r : Rod} (hi : rs[i]? = some r) :
    Calls Tryz.prog 43 #[dtV x, .int .i64 i] w fun e w' => e = .returned (.tuple #[boxV (S.mlegOf r), .bool (!decide (r.main < 0))]) ∧ Below w.heap.size w w' := by
  have hix : i < (S.mains (bars x.bs) x.rs).length := by
    have := (List.getElem?_eq_some_iff.1 hi).1
    rw [hrs.len] at this
    exact this
  have hm := List.getElem?_eq_getElem hix
  obtain ⟨e1, e2⟩ := mains_no hrs hm hi
  have := rmain_any x B w hB hA h i _ hm
  rw [e1, e2] at this
  exact this
set_option maxRecDepth 20000 in
set_option maxHeartbeats 2000000 in
theorem rends26_any (x : Dt) (i : Nat) (r : Rod) (B : Nat) (w : World) (hB : B ≤ w.heap.size) (hA : DtAt w B x) (hla : S.laid (bars x.bs) x.rs = true) (hru : S.rule x.rule = true) (hme : S.member x.m = true) (hR : RodOk x i r) (h0 : 0 ≤ r.main) :
    Calls Tryz.prog 97 #[dtV x, .int .i64 i] w fun e w' => e = .returned (.tuple #[.int .i64 (S.lowOf x r), .int .i64 (S.upOf x r)]) ∧ Below w.heap.size w w' := by
  have hF := rod_fit hR hla
  obtain ⟨k, j, k0, hL, he⟩ := hR.ex
  have HB1 := Lib.hid (fun (W : World) (hw : Below w.heap.size w W) => rbar16_any x.bs x.rs x.bA x.bn x.bc x.rA x.rn x.rc B W (size_via hB hw) (hA.at_ hB hw).bars (hA.at_ hB hw).runs i k j k0 r.bar hL)
  have HL1 : Hid (∀ W, Below w.heap.size w W → Calls Tryz.prog 95 #[.slice x.bA x.bn x.bc, .slice x.rA x.rn x.rc, .int .i64 i] W (GivesOne 89 6 r.legs.length (r.legs.flatMap boxC) W)) := Lib.hid fun W hw => by
    have := rlegs16_any x.bs x.rs x.bA x.bn x.bc x.rA x.rn x.rc B W (size_via hB hw) (hA.at_ hB hw).bars (hA.at_ hB hw).runs i k j k0 r.bar hL r.legs.length hF.len.symm
    rw [← he] at this
    exact this
  have HE1 := Lib.hid (fun (W : World) (hw : Below w.heap.size w W) (A : Option Addr) (c : Nat) (hs : Cells W W.heap.size A (r.legs.flatMap boxC)) => rends_rod x r A c W.heap.size W (Nat.le_refl _) ((hA.at_ hB hw).wide (size_via hB hw)) hs hF hru hme h0)
  have hl6 := legs_len r.bar.b.code
  have hl7 : r.legs.length ≤ 6 := by have := hF.len; omega
  unfold barV at HB1
  unfold barV ruleV memV at HE1
  clear hA hL he hR hF h0 hl6
  unfold dtV
  have hDB := Blk.new w 34 #[.string x.m.name, .slice x.mA x.mn x.mc, .slice x.hA x.hn x.hc, .int .i64 x.m.cover, .int .i64 x.m.aggr, .int .i64 x.m.poker, .slice x.bA x.bn x.bc, .slice x.rA x.rn x.rc, .slice x.jA x.jn x.jc, .slice x.dA x.dn x.dc, .int .i64 x.rule.num, .int .i64 x.rule.den, .int .i64 x.rule.pnum, .int .i64 x.rule.pden, .int .i64 x.rule.bnum, .int .i64 x.rule.bden, .int .i64 x.rule.lnum, .int .i64 x.rule.lden, .int .i64 x.rule.least]
  have hW1 : Below w.heap.size w (w.alloc (.cells #[.string x.m.name, .slice x.mA x.mn x.mc, .slice x.hA x.hn x.hc, .int .i64 x.m.cover, .int .i64 x.m.aggr, .int .i64 x.m.poker, .slice x.bA x.bn x.bc, .slice x.rA x.rn x.rc, .slice x.jA x.jn x.jc, .slice x.dA x.dn x.dc, .int .i64 x.rule.num, .int .i64 x.rule.den, .int .i64 x.rule.pnum, .int .i64 x.rule.pden, .int .i64 x.rule.bnum, .int .i64 x.rule.bden, .int .i64 x.rule.lnum, .int .i64 x.rule.lden, .int .i64 x.rule.least] 34)) := ba_alloc (Below.refl _ _) _
  go_enter Tryz.func97, Tryz.ntmps97
  go_upto_region 1 with fail
  generalize (w.alloc (.cells #[.string x.m.name, .slice x.mA x.mn x.mc, .slice x.hA x.hn x.hc, .int .i64 x.m.cover, .int .i64 x.m.aggr, .int .i64 x.m.poker, .slice x.bA x.bn x.bc, .slice x.rA x.rn x.rc, .slice x.jA x.jn x.jc, .slice x.dA x.dn x.dc, .int .i64 x.rule.num, .int .i64 x.rule.den, .int .i64 x.rule.pnum, .int .i64 x.rule.pden, .int .i64 x.rule.bnum, .int .i64 x.rule.bden, .int .i64 x.rule.lnum, .int .i64 x.rule.lden, .int .i64 x.rule.least] 34)) = W1 at *
  have d6 := hDB.cell 6
  have d7 := hDB.cell 7
  have dl := hDB.lt
  simp only [List.getElem?_toArray, List.getElem?_cons_zero, List.getElem?_cons_succ] at d6 d7
  have HDB := Lib.hid hDB
  clear hDB
  refine wp_region_mix 3 [9, 5, 0] (by kernel_rfl) (by kernel_rfl) (of_decide_eq_true (by kernel_rfl)) ?_
  try simp only [wpSegs, List.take_succ_cons, List.take_zero, List.drop_succ_cons, List.drop_zero, List.take_nil, List.drop_nil]
  repeat (first | (first | (refine quietLoad (by rfl) 32 (.tmp 6) rfl _ _ rfl _ _ (quietBy fun W hw => (HDB.out.via hw).mid 10 [.int .i64 x.rule.num, .int .i64 x.rule.den, .int .i64 x.rule.pnum, .int .i64 x.rule.pden, .int .i64 x.rule.bnum, .int .i64 x.rule.bden, .int .i64 x.rule.lnum, .int .i64 x.rule.lden, .int .i64 x.rule.least] rfl) Tryz.underlying32 rfl (by kernel_rfl) ?_; intro aQ hQ; simp only [go_sem, List.setIfInBounds_toArray, List.set_cons_succ, List.set_cons_zero] at hQ; subst hQ) | (refine quietLoad (by rfl) 26 (.tmp 8) rfl _ _ rfl _ _ (quietBy fun W hw => (HDB.out.via hw).mid 0 [.string x.m.name, .slice x.mA x.mn x.mc, .slice x.hA x.hn x.hc, .int .i64 x.m.cover, .int .i64 x.m.aggr, .int .i64 x.m.poker] rfl) Tryz.underlying26 rfl (by kernel_rfl) ?_; intro aQ hQ; simp only [go_sem, List.setIfInBounds_toArray, List.set_cons_succ, List.set_cons_zero] at hQ; subst hQ)) | go_big_quiet_step (fail))
  refine wpQuiet_nil ?_
  show wpList _ _ _ _ _ _
  go_wp2_with ((go_at_call 102; (with_reducible refine (HB1.out _ belr).mono ?_); rintro e w1 ⟨rfl, hbw1⟩))
  refine seg_next (grow_to belr) ?_
  try simp only [wpSegs, List.take_succ_cons, List.take_zero, List.drop_succ_cons, List.drop_zero, List.take_nil, List.drop_nil]
  repeat (go_big_quiet_step (fail))
  refine wpQuiet_nil ?_
  show wpList _ _ _ _ _ _
  go_wp2_with ((go_at_call 95; (with_reducible refine (HL1.out _ belr).mono ?_); rintro e w2 ⟨A2, c2, rfl, ho2, hbw2⟩))
  refine seg_next (grow_to belr) ?_
  have HO2 := Lib.hid (own_cells ho2 (by unfold maxLen; omega)).1
  clear ho2
  try simp only [wpSegs, List.take_succ_cons, List.take_zero, List.drop_succ_cons, List.drop_zero, List.take_nil, List.drop_nil]
  repeat (go_big_quiet_step (fail))
  refine wpQuiet_nil ?_
  show wpList _ _ _ _ _ _
  go_wp2_with ((go_at_call 159; (with_reducible refine (HE1.out _ belr _ _ HO2.out).mono ?_); rintro e w3 ⟨rfl, hbw3⟩))
  refine seg_next (grow_to belr) ?_
  try simp only [wpSegs, List.take_succ_cons, List.take_zero, List.drop_succ_cons, List.drop_zero, List.take_nil, List.drop_nil]
  repeat (go_big_quiet_step (fail))
  refine wpQuiet_nil ?_
  show wpList _ _ _ _ _ _
  go_wp2
  go_ret2
  exact ⟨rfl, bel⟩
theorem spanL_at {x : Dt} {rs : List Rod} {l : List Int} {a b : Rod} (ha : rs[(l.headD 0).toNat]? = some a) (hb : rs[(l.getLastD 0).toNat]? = some b) : S.spanL x rs l = S.spanOf x a b := by
  unfold S.spanL
  rw [ha, hb]
def S.anch (ta tb : Bool) (p q : Int) : Int × Int × Bool := if ta = false then (0, 0, false) else if tb = false then (0, 0, false) else if p < q then (p, q, true) else (0, 0, false)
set_option maxRecDepth 20000 in
set_option maxHeartbeats 4000000 in
theorem ranch_core (x : Dt) (ka kb lz ln : Nat) (ga gb : Bx) (ta tb : Bool) (la ua lb ub : Int) (b o c : Nat) (w : World) (hlz : lz = ln + 1) (hlm : lz ≤ 2002) (hb : b < w.heap.size)
    (c0 : w.cell? ⟨b, o, none⟩ = some (.int .i64 ka)) (c1 : w.cell? ⟨b, o + ln, none⟩ = some (.int .i64 kb))
    (hM1 : ∀ W, Below w.heap.size w W → Calls Tryz.prog 43 #[dtV x, .int .i64 ka] W fun e w' => e = .returned (.tuple #[boxV ga, .bool ta]) ∧ Below W.heap.size W w')
    (hM2 : ∀ W, Below w.heap.size w W → Calls Tryz.prog 43 #[dtV x, .int .i64 kb] W fun e w' => e = .returned (.tuple #[boxV gb, .bool tb]) ∧ Below W.heap.size W w')
    (hE1 : ta = true → tb = true → ∀ W, Below w.heap.size w W → Calls Tryz.prog 97 #[dtV x, .int .i64 ka] W fun e w' => e = .returned (.tuple #[.int .i64 la, .int .i64 ua]) ∧ Below W.heap.size W w')
    (hE2 : ta = true → tb = true → ∀ W, Below w.heap.size w W → Calls Tryz.prog 97 #[dtV x, .int .i64 kb] W fun e w' => e = .returned (.tuple #[.int .i64 lb, .int .i64 ub]) ∧ Below W.heap.size W w')
    (hbd : ta = true → tb = true → (-100000000000 ≤ ga.lo.x + la ∧ ga.lo.x + la ≤ 100000000000) ∧ (-100000000000 ≤ gb.hi.x - ub ∧ gb.hi.x - ub ≤ 100000000000)) :
    Calls Tryz.prog 44 #[dtV x, .slice (some ⟨b, o, none⟩) lz c] w fun e w' => e = .returned (.tuple #[.agg #[.int .i64 (S.anch ta tb (ga.lo.x + la) (gb.hi.x - ub)).1, .int .i64 (S.anch ta tb (ga.lo.x + la) (gb.hi.x - ub)).2.1], .bool (S.anch ta tb (ga.lo.x + la) (gb.hi.x - ub)).2.2]) ∧ Below w.heap.size w w' := by
  have HM1 := Lib.hid hM1
  have HM2 := Lib.hid hM2
  have HE1 := Lib.hid hE1
  have HE2 := Lib.hid hE2
  have HBD := Lib.hid hbd
  have e1 : IntKind.i64.wrap ((lz : Int) - 1) = (ln : Int) := by rw [show ((lz : Int) - 1) = (ln : Int) by omega]; exact IntWalk.i64_in _ (by omega)
  have e3 : (lz : Int) - 1 = (ln : Int) := by omega
  have hlni : (ln : Int) < (lz : Int) := by omega
  have hln0 : (0 : Int) < (lz : Int) := by omega
  have hlzN : 0 < lz := by omega
  have hlnN : ln < lz := by omega
  have hlz4 : lz ≠ 0 := by omega
  have e7 : IntKind.i64.wrap (ln : Int) = (ln : Int) := IntWalk.i64_in _ (by omega)
  have hlnz : (0 : Int) ≤ (ln : Int) := by omega
  have hb1 : b < w.heap.size + 1 := by omega
  have hb2 : b < w.heap.size + 2 := by omega
  clear hM1 hM2 hE1 hE2 hbd hlz
  unfold dtV at HM1 HM2 HE1 HE2
  unfold boxV at HM1 HM2
  unfold dtV
  have hDB := (Blk.new w 34 #[.string x.m.name, .slice x.mA x.mn x.mc, .slice x.hA x.hn x.hc, .int .i64 x.m.cover, .int .i64 x.m.aggr, .int .i64 x.m.poker, .slice x.bA x.bn x.bc, .slice x.rA x.rn x.rc, .slice x.jA x.jn x.jc, .slice x.dA x.dn x.dc, .int .i64 x.rule.num, .int .i64 x.rule.den, .int .i64 x.rule.pnum, .int .i64 x.rule.pden, .int .i64 x.rule.bnum, .int .i64 x.rule.bden, .int .i64 x.rule.lnum, .int .i64 x.rule.lden, .int .i64 x.rule.least]).alloc (.cells #[.int .i64 0, .int .i64 0] 45)
  have hSB := Blk.newN (W := w.alloc (.cells #[.string x.m.name, .slice x.mA x.mn x.mc, .slice x.hA x.hn x.hc, .int .i64 x.m.cover, .int .i64 x.m.aggr, .int .i64 x.m.poker, .slice x.bA x.bn x.bc, .slice x.rA x.rn x.rc, .slice x.jA x.jn x.jc, .slice x.dA x.dn x.dc, .int .i64 x.rule.num, .int .i64 x.rule.den, .int .i64 x.rule.pnum, .int .i64 x.rule.pden, .int .i64 x.rule.bnum, .int .i64 x.rule.bden, .int .i64 x.rule.lnum, .int .i64 x.rule.lden, .int .i64 x.rule.least] 34)) (n := w.heap.size + 1) (by simp) 45 #[.int .i64 0, .int .i64 0]
  have hW1 : Below w.heap.size w ((w.alloc (.cells #[.string x.m.name, .slice x.mA x.mn x.mc, .slice x.hA x.hn x.hc, .int .i64 x.m.cover, .int .i64 x.m.aggr, .int .i64 x.m.poker, .slice x.bA x.bn x.bc, .slice x.rA x.rn x.rc, .slice x.jA x.jn x.jc, .slice x.dA x.dn x.dc, .int .i64 x.rule.num, .int .i64 x.rule.den, .int .i64 x.rule.pnum, .int .i64 x.rule.pden, .int .i64 x.rule.bnum, .int .i64 x.rule.bden, .int .i64 x.rule.lnum, .int .i64 x.rule.lden, .int .i64 x.rule.least] 34)).alloc (.cells #[.int .i64 0, .int .i64 0] 45)) := ba_alloc (ba_alloc (Below.refl _ _) _) _
  go_enter Tryz.func44, Tryz.ntmps44
  go_upto_region 1 with fail
  generalize ((w.alloc (.cells #[.string x.m.name, .slice x.mA x.mn x.mc, .slice x.hA x.hn x.hc, .int .i64 x.m.cover, .int .i64 x.m.aggr, .int .i64 x.m.poker, .slice x.bA x.bn x.bc, .slice x.rA x.rn x.rc, .slice x.jA x.jn x.jc, .slice x.dA x.dn x.dc, .int .i64 x.rule.num, .int .i64 x.rule.den, .int .i64 x.rule.pnum, .int .i64 x.rule.pden, .int .i64 x.rule.bnum, .int .i64 x.rule.bden, .int .i64 x.rule.lnum, .int .i64 x.rule.lden, .int .i64 x.rule.least] 34)).alloc (.cells #[.int .i64 0, .int .i64 0] 45)) = W1 at *
  have a0 := (hW1.cell (p := ⟨b, o, none⟩) hb).trans c0
  have a1 := (hW1.cell (p := ⟨b, o + ln, none⟩) hb).trans c1
  have hbW : b < W1.heap.size := by have := hW1.size; omega
  have HDB := Lib.hid hDB
  have HSB := Lib.hid hSB
  clear hDB hSB c0 c1
  refine wp_region_mix 10 [] (by kernel_rfl) (by kernel_rfl) (of_decide_eq_true (by kernel_rfl)) ?_
  try simp only [wpSegs, List.take_succ_cons, List.take_zero, List.drop_succ_cons, List.drop_zero, List.take_nil, List.drop_nil]
  repeat (go_big_quiet_step (fail))
  refine wpQuiet_nil ?_
  show wpList _ _ _ _ _ _
  go_upto_region 2 with fail
  clear a0 a1 hbW
  go_upto_region 3 with (first
    | ((with_reducible refine at_load 34 2 ?_); refine wpList_load_mid rfl 34 (.tmp 2) rfl _ _ rfl _ _ (HDB.out.via belr).range Tryz.underlying34 rfl (by kernel_rfl) ?_)
    | (go_at_call 43; (with_reducible refine (HM1.out _ belr).mono ?_); rintro e w1 ⟨rfl, hbw1⟩))
  have hb2 : Below W1.heap.size W1 (w1.alloc (.cells #[.int .i64 ga.lo.x, .int .i64 ga.lo.y, .int .i64 ga.lo.z, .int .i64 ga.hi.x, .int .i64 ga.hi.y, .int .i64 ga.hi.z] 89)) := belr
  have hA2 := Blk.new w1 89 #[.int .i64 ga.lo.x, .int .i64 ga.lo.y, .int .i64 ga.lo.z, .int .i64 ga.hi.x, .int .i64 ga.hi.y, .int .i64 ga.hi.z]
  generalize (w1.alloc (.cells #[.int .i64 ga.lo.x, .int .i64 ga.lo.y, .int .i64 ga.lo.z, .int .i64 ga.hi.x, .int .i64 ga.hi.y, .int .i64 ga.hi.z] 89)) = W2 at *
  generalize w1.heap.size = g1 at *
  have HA2 := Lib.hid hA2
  clear hA2 hbw1
  go_upto_region 4 with (first
    | ((with_reducible refine at_load 34 2 ?_); refine wpList_load_mid rfl 34 (.tmp 2) rfl _ _ rfl _ _ (HDB.out.via belr).range Tryz.underlying34 rfl (by kernel_rfl) ?_)
    | (go_at_call 43; (with_reducible refine (HM2.out _ belr).mono ?_); rintro e w2 ⟨rfl, hbw2⟩))
  have hb3 : Below W2.heap.size W2 (w2.alloc (.cells #[.int .i64 gb.lo.x, .int .i64 gb.lo.y, .int .i64 gb.lo.z, .int .i64 gb.hi.x, .int .i64 gb.hi.y, .int .i64 gb.hi.z] 89)) := belr
  have hB3 := Blk.new w2 89 #[.int .i64 gb.lo.x, .int .i64 gb.lo.y, .int .i64 gb.lo.z, .int .i64 gb.hi.x, .int .i64 gb.hi.y, .int .i64 gb.hi.z]
  generalize (w2.alloc (.cells #[.int .i64 gb.lo.x, .int .i64 gb.lo.y, .int .i64 gb.lo.z, .int .i64 gb.hi.x, .int .i64 gb.hi.y, .int .i64 gb.hi.z] 89)) = W3 at *
  generalize w2.heap.size = g2 at *
  have HB3 := Lib.hid hB3
  have hb13 : Below W1.heap.size W1 W3 := belr
  clear hB3 hbw2
  cases ta
  · have hS := HSB.out.via hb13
    have s0 := hS.cell 0
    have s1 := hS.cell 1
    have sf0 := hS.frozen 0
    have sf1 := hS.frozen 1
    have sl := hS.lt
    simp only [List.getElem?_toArray, List.getElem?_cons_zero, List.getElem?_cons_succ] at s0 s1
    have hbF := ba_set2 (g := w.heap.size + 1) (show Below w.heap.size w W3 from belr) (Nat.le_succ _) (.int .i64 0) (.int .i64 0)
    clear hS
    go_wp2
    exact bodyPost_ret (v := .tuple #[.agg #[.int .i64 0, .int .i64 0], .bool false]) (by simp [results, Tryz.results44, go_sem, *]) rfl ⟨rfl, hbF⟩
  · cases tb
    · have hS := HSB.out.via hb13
      have s0 := hS.cell 0
      have s1 := hS.cell 1
      have sf0 := hS.frozen 0
      have sf1 := hS.frozen 1
      have sl := hS.lt
      simp only [List.getElem?_toArray, List.getElem?_cons_zero, List.getElem?_cons_succ] at s0 s1
      have hbF := ba_set2 (g := w.heap.size + 1) (show Below w.heap.size w W3 from belr) (Nat.le_succ _) (.int .i64 0) (.int .i64 0)
      clear hS
      go_wp2
      exact bodyPost_ret (v := .tuple #[.agg #[.int .i64 0, .int .i64 0], .bool false]) (by simp [results, Tryz.results44, go_sem, *]) rfl ⟨rfl, hbF⟩
    · obtain ⟨⟨b1, b2⟩, b3, b4⟩ := HBD.out rfl rfl
      have HF1 := Lib.hid (HE1.out rfl rfl)
      have HF2 := Lib.hid (HE2.out rfl rfl)
      clear HE1 HE2 HBD HM1 HM2
      go_upto_region 8 with (first
        | ((with_reducible refine at_load 34 2 ?_); refine wpList_load_mid rfl 34 (.tmp 2) rfl _ _ rfl _ _ (HDB.out.via belr).range Tryz.underlying34 rfl (by kernel_rfl) ?_)
        | (go_at_call 97; (with_reducible refine (HF1.out _ belr).mono ?_); rintro e w4 ⟨rfl, hbw4⟩)
        | (go_at_call 97; (with_reducible refine (HF2.out _ belr).mono ?_); rintro e w5 ⟨rfl, hbw5⟩))
      have hb35 : Below W3.heap.size W3 w5 := belr
      have hA5 := HA2.out.via (ba_via hb35 hb3)
      have hB5 := HB3.out.via hb35
      have a0 := hA5.cell 0
      have al := hA5.lt
      have c3 := hB5.cell 3
      have cl := hB5.lt
      simp only [List.getElem?_toArray, List.getElem?_cons_zero, List.getElem?_cons_succ] at a0 c3
      have x1 : IntKind.i64.wrap (ga.lo.x + la) = ga.lo.x + la := IntWalk.i64_in _ (by omega)
      have x2 : IntKind.i64.wrap (gb.hi.x - ub) = gb.hi.x - ub := IntWalk.i64_in _ (by omega)
      clear hA5 hB5
      go_upto_region 9 with fail
      have hS6 := Blk.new w5 45 #[.int .i64 (ga.lo.x + la), .int .i64 (gb.hi.x - ub)]
      have hb6 : Below W3.heap.size W3 (w5.alloc (.cells #[.int .i64 (ga.lo.x + la), .int .i64 (gb.hi.x - ub)] 45)) := belr
      generalize (w5.alloc (.cells #[.int .i64 (ga.lo.x + la), .int .i64 (gb.hi.x - ub)] 45)) = W6 at *
      generalize w5.heap.size = g5 at *
      generalize hp : ga.lo.x + la = p at *
      generalize hq : gb.hi.x - ub = q at *
      have HP := Lib.hid hp
      have HQ := Lib.hid hq
      have y0 := hS6.cell 0
      have y1 := hS6.cell 1
      have yl := hS6.lt
      simp only [List.getElem?_toArray, List.getElem?_cons_zero, List.getElem?_cons_succ] at y0 y1
      have hS := (HSB.out.via hb13).via hb6
      have s0 := hS.cell 0
      have s1 := hS.cell 1
      have sf0 := hS.frozen 0
      have sf1 := hS.frozen 1
      have sl := hS.lt
      simp only [List.getElem?_toArray, List.getElem?_cons_zero, List.getElem?_cons_succ] at s0 s1
      clear hS hS6 a0 c3 al cl x1 x2 hbw4 hbw5 hb35 hp hq
      by_cases hpq : p < q
      · have hbF := ba_set2 (g := w.heap.size + 1) (show Below w.heap.size w W6 from belr) (Nat.le_succ _) (.int .i64 p) (.int .i64 q)
        have hE : S.anch true true p q = (p, q, true) := by unfold S.anch; rw [if_neg (by simp), if_neg (by simp), if_pos hpq]
        have HE := Lib.hid hE
        clear hE
        have hnq : ¬ (q ≤ p) := by omega
        go_wp2
        exact bodyPost_ret (v := .tuple #[.agg #[.int .i64 p, .int .i64 q], .bool true]) (by simp [results, Tryz.results44, go_sem, *]) rfl ⟨by rw [HP.out, HQ.out, HE.out], hbF⟩
      · have hbF := ba_set2 (g := w.heap.size + 1) (show Below w.heap.size w W6 from belr) (Nat.le_succ _) (.int .i64 0) (.int .i64 0)
        have hE : S.anch true true p q = (0, 0, false) := by unfold S.anch; rw [if_neg (by simp), if_neg (by simp), if_neg hpq]
        have HE := Lib.hid hE
        clear hE
        have hnq : q ≤ p := by omega
        go_wp2
        exact bodyPost_ret (v := .tuple #[.agg #[.int .i64 0, .int .i64 0], .bool false]) (by simp [results, Tryz.results44, go_sem, *]) rfl ⟨by rw [HP.out, HQ.out, HE.out], hbF⟩
theorem leg_x {x : Dt} {r : Rod} (h : RodFit x r) (h0 : ¬ r.main < 0) : -1048576 ≤ (S.legOf r).lo.x ∧ (S.legOf r).hi.x ≤ 1048576 ∧ (S.legOf r).lo.x ≤ (S.legOf r).hi.x := by
  obtain ⟨q, hq, hqe, hqm⟩ := idxf_some (xs := r.legs) (p := S.isMainB) (by rw [← h.main]; omega)
  have hL : S.legOf r = r.legs[q] := by unfold S.legOf; rw [h.main, hqe]; simp [List.getD_eq_getElem?_getD, hq]
  have e1 := boxOk_x (h.legs _ (List.getElem_mem hq))
  rw [← hL] at e1
  omega
theorem ranch_any (x : Dt) (rs : List Rod) (l : List Int) (A : Option Addr) (c : Nat) (B : Nat) (w : World) (hB : B ≤ w.heap.size) (hA : DtAt w B x) (hla : S.laid (bars x.bs) x.rs = true) (hru : S.rule x.rule = true) (hme : S.member x.m = true) (hrs : RodsOf x (S.nOf x) rs)
    (hl0 : 0 < l.length) (hl1 : l.length ≤ 2001) (hin : ∀ i, i ∈ l → 0 ≤ i ∧ i < (S.nOf x : Int)) (hs : Cells w w.heap.size A (i64s l)) :
    Calls Tryz.prog 44 #[dtV x, .slice A l.length c] w fun e w' => e = .returned (.tuple #[.agg #[.int .i64 (S.spanL x rs l).1, .int .i64 (S.spanL x rs l).2.1], .bool (S.spanL x rs l).2.2]) ∧ Below w.heap.size w w' := by
  obtain ⟨b, o, rfl, hb, hx⟩ := hs.at_ (by simp; omega)
  obtain ⟨ln, hln⟩ : ∃ ln, l.length = ln + 1 := ⟨l.length - 1, by omega⟩
  have h0 : l[0] = l.headD 0 := by rw [List.headD_eq_head?_getD, List.head?_eq_getElem?, List.getElem?_eq_getElem (by omega)]; rfl
  have hn : l[ln] = l.getLastD 0 := by
    rw [List.getLastD_eq_getLast?, List.getLast?_eq_getElem?]
    rw [show l.length - 1 = ln by omega, List.getElem?_eq_getElem (by omega)]
    rfl
  obtain ⟨p1, p2⟩ := hin l[0] (List.getElem_mem _)
  obtain ⟨q1, q2⟩ := hin l[ln] (List.getElem_mem _)
  obtain ⟨ka, hka⟩ : ∃ ka : Nat, l[0] = (ka : Int) := ⟨l[0].toNat, by omega⟩
  obtain ⟨kb, hkb⟩ : ∃ kb : Nat, l[ln] = (kb : Int) := ⟨l[ln].toNat, by omega⟩
  have hkax : ka < rs.length := by rw [hrs.len]; omega
  have hkbx : kb < rs.length := by rw [hrs.len]; omega
  have ga := List.getElem?_eq_getElem hkax
  have gb := List.getElem?_eq_getElem hkbx
  have fa := rod_fit (hrs.ok ka hkax) hla
  have fb := rod_fit (hrs.ok kb hkbx) hla
  have c0 := hx 0 _ (i64s_get (xs := l) (k := 0) (by omega))
  have c1 := hx ln _ (i64s_get (xs := l) (k := ln) (by omega))
  rw [hka] at c0
  rw [hkb] at c1
  have e4 : l.headD 0 = (ka : Int) := by rw [← h0, hka]
  have e5 : l.getLastD 0 = (kb : Int) := by rw [← hn, hkb]
  have hsp : S.spanL x rs l = S.spanOf x rs[ka] rs[kb] := spanL_at (by rw [e4]; exact ga) (by rw [e5]; exact gb)
  have hml : ∀ r : Rod, ¬ r.main < 0 → S.mlegOf r = S.legOf r := fun r h => by unfold S.mlegOf; rw [if_neg h]
  have he : S.spanOf x rs[ka] rs[kb] = S.anch (!decide (rs[ka].main < 0)) (!decide (rs[kb].main < 0)) ((S.mlegOf rs[ka]).lo.x + S.lowOf x rs[ka]) ((S.mlegOf rs[kb]).hi.x - S.upOf x rs[kb]) := by
    have tf : ¬ (true = false) := by simp
    unfold S.spanOf S.anch
    by_cases n1 : rs[ka].main < 0
    · rw [if_pos n1, decide_eq_true n1]
      rfl
    · rw [if_neg n1, decide_eq_false n1, hml _ n1]
      by_cases n2 : rs[kb].main < 0
      · rw [if_pos n2, decide_eq_true n2]
        rfl
      · rw [if_neg n2, decide_eq_false n2, hml _ n2]
        rfl
  rw [hsp, he]
  refine ranch_core x ka kb l.length ln (S.mlegOf rs[ka]) (S.mlegOf rs[kb]) _ _ (S.lowOf x rs[ka]) (S.upOf x rs[ka]) (S.lowOf x rs[kb]) (S.upOf x rs[kb]) b o c w hln (by omega) hb c0 c1
    (fun W hw => rmain_rod x rs B W (size_via hB hw) (hA.at_ hB hw) hla hrs ga)
    (fun W hw => rmain_rod x rs B W (size_via hB hw) (hA.at_ hB hw) hla hrs gb)
    (fun t1 t2 W hw => rends26_any x ka rs[ka] B W (size_via hB hw) (hA.at_ hB hw) hla hru hme (hrs.ok ka hkax) (by simp at t1; exact t1))
    (fun t1 t2 W hw => rends26_any x kb rs[kb] B W (size_via hB hw) (hA.at_ hB hw) hla hru hme (hrs.ok kb hkbx) (by simp at t2; exact t2)) ?_
  intro t1 t2
  have n1 : ¬ rs[ka].main < 0 := by simp at t1; omega
  have n2 : ¬ rs[kb].main < 0 := by simp at t2; omega
  have u1 := leg_x fa n1
  have u2 := leg_x fb n2
  have u3 := endLen_bd x rs[ka] hru fa (S.legOf rs[ka]).lo
  have u4 := endLen_bd x rs[kb] hru fb (S.legOf rs[kb]).hi
  change 0 ≤ S.lowOf x rs[ka] ∧ _ at u3
  change 0 ≤ S.upOf x rs[kb] ∧ _ at u4
  rw [hml _ n1, hml _ n2]
  change 0 ≤ S.lowOf x rs[ka] ∧ S.lowOf x rs[ka] ≤ 40000000000 at u3
  change 0 ≤ S.upOf x rs[kb] ∧ S.upOf x rs[kb] ≤ 40000000000 at u4
  omega
end Go.Proofs.YtffkmgjmlahfpaaGreat
