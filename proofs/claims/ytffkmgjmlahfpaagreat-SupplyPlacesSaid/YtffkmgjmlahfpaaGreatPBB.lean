/- Contracts of the reference for layer 26, of any detail: Given, Anchored, Area, Supplies, At. Plain: the bars at a place as SupplyBars holds them: ascending; sums. Plain: the reference's bars at a plac -/
import Derived.Test.YtffkmgjmlahfpaaGreatPAX
import Derived.Test.YtffkmgjmlahfpaaGreatPBA
import Derived.Test.YtffkmgjmlahfpaaGreatPAZ
import Derived.Test.YtffkmgjmlahfpaaGreatPAV
import Derived.Test.YtffkmgjmlahfpaaGreatPAS
set_option linter.unusedVariables false
set_option linter.unusedSimpArgs false
namespace Go.Proofs.YtffkmgjmlahfpaaGreat
open Go.RowKit
theorem refIn_same (x : Dt) (rs : List Rod) (z : Bx) (p : Int) (l : List Int) : S.refIn (S.spanL x rs) (fun l => S.sup rs z (S.schOf x rs l)) p l = S.supAt z p rs (S.schOf x rs l) := by
  unfold S.refIn S.supAt S.atPl S.sup
  show ((S.spanL x rs l).2.2 && ((S.spanL x rs l).2.2 && _) && decide ((S.spanL x rs l).1 ≤ p) && decide (p < (S.spanL x rs l).2.1)) = ((decide ((S.spanL x rs l).1 ≤ p) && decide (p < (S.spanL x rs l).2.1)) && ((S.spanL x rs l).2.2 && _))
  cases (S.spanL x rs l).2.2
  · simp
  · simp only [Bool.true_and]
    rw [Bool.and_assoc, Bool.and_comm]
theorem refAt_same (x : Dt) (rs : List Rod) (C : List (List Int)) (z : Bx) (p : Int) : S.refAt (S.spanL x rs) (fun l => S.sup rs z (S.schOf x rs l)) (fun l => (S.schOf x rs l).area) p C = S.supplyAt x rs C z p := by
  unfold S.refAt S.supplyAt S.valueAt
  suffices hs : ∀ (C : List (List Int)) (n : Int), C.foldl (fun n l => if S.refIn (S.spanL x rs) (fun l => S.sup rs z (S.schOf x rs l)) p l then n + (S.schOf x rs l).area else n) n = ((C.map (S.schOf x rs)).filter (S.supAt z p rs)).foldl (fun n r => if S.atPl p r then n + r.area else n) n from hs C 0
  intro C
  induction C with
  | nil => intro n; rfl
  | cons l t ih =>
    intro n
    rw [List.foldl_cons, List.map_cons, List.filter_cons, refIn_same]
    by_cases h : S.supAt z p rs (S.schOf x rs l) = true
    · have h2 : S.atPl p (S.schOf x rs l) = true := by
        unfold S.supAt at h
        rw [Bool.and_eq_true] at h
        exact h.1
      rw [if_pos h, if_pos h, List.foldl_cons, if_pos h2]
      exact ih _
    · rw [if_neg h, if_neg h]
      exact ih _
section
variable {x : Dt} {ds : List Dm} {w : World}
theorem good_says (h : DtOk w x ds) (hlk : S.look x (S.dems ds) = true) {k : Nat} {d : Dm} (hk : ds[k]? = some d) {rs : List Rod} (hrs : RodsOf x (S.nOf x) rs) : ChSays x (S.cOf x) k (S.spanL x rs) (fun l => S.sup rs d.zone (S.schOf x rs l)) (fun l => (S.schOf x rs l).area) w := by
  have g := look_ok hlk
  refine ⟨fun l hl A c W hw hs => ?_, fun l hl A c W hw hs => ?_, fun l hl A c W hw hs => ?_, fun l hl => ?_, g.c2000⟩
  · obtain ⟨h0, h1, h2⟩ := g.cin l hl
    exact ranch_any x rs l A c w.heap.size W hw.size (h.at_.at_ (Nat.le_refl _) hw) g.laid g.rule g.mem hrs h0 h1 h2 hs
  · obtain ⟨h0, h1, h2⟩ := g.cin l hl
    exact rsupp_any x ds rs l k d A c w.heap.size W hw.size (h.at_.at_ (Nat.le_refl _) hw) (h.dems.at_ (Nat.le_refl _) hw) g.laid g.rule g.mem hrs hk h0 h1 h2 hs
  · obtain ⟨h0, h1, h2⟩ := g.cin l hl
    exact rarea_any x rs l A c w.heap.size W hw.size (h.at_.at_ (Nat.le_refl _) hw) g.laid hrs h0 h1 h2 hs
  · obtain ⟨h0, h1, h2⟩ := g.cin l hl
    have hm := minBy_mem (S.sizeI rs) (xs := l) (k := l.length) h0 (Nat.le_refl _)
    rw [List.take_length] at hm
    have := areaI_pos g.laid hrs (h2 _ hm)
    show 0 ≤ S.areaI rs _ ∧ S.areaI rs _ ≤ _
    exact ⟨by omega, this.2.1⟩
theorem says_at (h : DtOk w x ds) (hlk : S.look x (S.dems ds) = true) {k : Nat} {d : Dm} (hk : ds[k]? = some d) {rs : List Rod} (hrs : RodsOf x (S.nOf x) rs) {W : World} (hw : Below w.heap.size w W) : ChSays x (S.cOf x) k (S.spanL x rs) (fun l => S.sup rs d.zone (S.schOf x rs l)) (fun l => (S.schOf x rs l).area) W := by
  have s := good_says h hlk hk hrs
  exact ⟨fun l hl A c V hV hs => s.anch l hl A c V (hw.trans (hV.mono hw.size)) hs, fun l hl A c V hV hs => s.sups l hl A c V (hw.trans (hV.mono hw.size)) hs, fun l hl A c V hV hs => s.area l hl A c V (hw.trans (hV.mono hw.size)) hs, s.bd, s.len⟩
theorem good_rAt (h : DtOk w x ds) (hlk : S.look x (S.dems ds) = true) {k : Nat} {d : Dm} (hk : ds[k]? = some d) (p : Int) {rs : List Rod} (hrs : RodsOf x (S.nOf x) rs) :
    ∀ W, Below w.heap.size w W → Calls Tryz.prog 37 #[dtV x, .int .i64 k, .int .i64 p] W fun e w' => e = .returned (.int .i64 (S.supplyAt x rs (S.cOf x) d.zone p)) ∧ Below W.heap.size W w' := fun W hw => by
  have := rat26_core x (S.cOf x) k p _ _ _ W (says_at h hlk hk hrs hw) (fun V hV => good_rchains h hlk V (hw.trans (hV.mono hw.size)))
  rw [refAt_same] at this
  exact this
end
def S.givenR (t : Bool) (d : Int) (n : Nat) (tp : Bool) : Int := if t = false then 1 else if d < 0 ∨ (n : Int) ≤ d ∨ tp = false then 2 else 0
theorem rgiven_core (x : Dt) (t : Bool) (d p : Int) (w : World)
    (hLK : ∀ W, Below w.heap.size w W → Calls Tryz.prog 14 #[dtV x] W fun e w' => e = .returned (.bool t) ∧ Below W.heap.size W w') :
    Calls Tryz.prog 33 #[dtV x, .int .i64 d, .int .i64 p] w fun e w' => e = .returned (.int .i64 (S.givenR t d x.dn (S.place p))) ∧ Below w.heap.size w w' := by
  have HLK := Lib.hid hLK
  have HPL := Lib.hid (rplace10_any p)
  clear hLK
  unfold dtV at HLK
  unfold dtV
  generalize S.place p = tp at *
  have hDB := Blk.new w 34 #[.string x.m.name, .slice x.mA x.mn x.mc, .slice x.hA x.hn x.hc, .int .i64 x.m.cover, .int .i64 x.m.aggr, .int .i64 x.m.poker, .slice x.bA x.bn x.bc, .slice x.rA x.rn x.rc, .slice x.jA x.jn x.jc, .slice x.dA x.dn x.dc, .int .i64 x.rule.num, .int .i64 x.rule.den, .int .i64 x.rule.pnum, .int .i64 x.rule.pden, .int .i64 x.rule.bnum, .int .i64 x.rule.bden, .int .i64 x.rule.lnum, .int .i64 x.rule.lden, .int .i64 x.rule.least]
  have hW1 : Below w.heap.size w (w.alloc (.cells #[.string x.m.name, .slice x.mA x.mn x.mc, .slice x.hA x.hn x.hc, .int .i64 x.m.cover, .int .i64 x.m.aggr, .int .i64 x.m.poker, .slice x.bA x.bn x.bc, .slice x.rA x.rn x.rc, .slice x.jA x.jn x.jc, .slice x.dA x.dn x.dc, .int .i64 x.rule.num, .int .i64 x.rule.den, .int .i64 x.rule.pnum, .int .i64 x.rule.pden, .int .i64 x.rule.bnum, .int .i64 x.rule.bden, .int .i64 x.rule.lnum, .int .i64 x.rule.lden, .int .i64 x.rule.least] 34)) := ba_alloc (Below.refl _ _) _
  go_enter Tryz.func33, Tryz.ntmps33
  go_upto_region 1 with fail
  generalize (w.alloc (.cells #[.string x.m.name, .slice x.mA x.mn x.mc, .slice x.hA x.hn x.hc, .int .i64 x.m.cover, .int .i64 x.m.aggr, .int .i64 x.m.poker, .slice x.bA x.bn x.bc, .slice x.rA x.rn x.rc, .slice x.jA x.jn x.jc, .slice x.dA x.dn x.dc, .int .i64 x.rule.num, .int .i64 x.rule.den, .int .i64 x.rule.pnum, .int .i64 x.rule.pden, .int .i64 x.rule.bnum, .int .i64 x.rule.bden, .int .i64 x.rule.lnum, .int .i64 x.rule.lden, .int .i64 x.rule.least] 34)) = W1 at *
  have HDB := Lib.hid hDB
  clear hDB
  cases t
  · go_wp2_with (first
      | ((with_reducible refine at_load 34 3 ?_); refine wpList_load_mid rfl 34 (.tmp 3) rfl _ _ rfl _ _ (HDB.out.via belr).range Tryz.underlying34 rfl (by kernel_rfl) ?_)
      | (go_at_call 14; (with_reducible refine (HLK.out _ belr).mono ?_); rintro e w1 ⟨rfl, hbw1⟩))
    go_ret
    exact ⟨ret_i rfl, ba_via hbw1 hW1⟩
  · go_upto_region 3 with (first
      | ((with_reducible refine at_load 34 3 ?_); refine wpList_load_mid rfl 34 (.tmp 3) rfl _ _ rfl _ _ (HDB.out.via belr).range Tryz.underlying34 rfl (by kernel_rfl) ?_)
      | (go_at_call 14; (with_reducible refine (HLK.out _ belr).mono ?_); rintro e w1 ⟨rfl, hbw1⟩))
    have hw1 : Below w.heap.size w w1 := ba_via hbw1 hW1
    have hD1 := HDB.out.via hbw1
    have d9 := hD1.cell 9
    have dl := hD1.lt
    simp only [List.getElem?_toArray, List.getElem?_cons_zero, List.getElem?_cons_succ] at d9
    clear hD1 HDB HLK
    by_cases h1 : d < 0
    · go_wp2
      go_ret
      exact ⟨ret_i (by unfold S.givenR; rw [if_neg (by simp), if_pos (.inl h1)]), hw1⟩
    · by_cases h2 : (x.dn : Int) ≤ d
      · go_wp2
        go_ret
        exact ⟨ret_i (by unfold S.givenR; rw [if_neg (by simp), if_pos (.inr (.inl h2))]), hw1⟩
      · have h2' : ¬ ((x.dn : Int) ≤ d) := h2
        cases tp
        · go_wp2_with (go_at_call 88; (with_reducible refine (HPL.out _).mono ?_); rintro e w' ⟨rfl, rfl⟩)
          go_ret
          exact ⟨ret_i (by unfold S.givenR; rw [if_neg (by simp), if_pos (.inr (.inr rfl))]), hw1⟩
        · go_wp2_with (go_at_call 88; (with_reducible refine (HPL.out _).mono ?_); rintro e w' ⟨rfl, rfl⟩)
          go_ret
          exact ⟨ret_i (by unfold S.givenR; rw [if_neg (by simp), if_neg (by simp; omega)]), hw1⟩
theorem any_rgiven {x : Dt} {ds : List Dm} {w : World} (h : DtOk w x ds) (d p : Int) : ∀ W, Below w.heap.size w W → Calls Tryz.prog 33 #[dtV x, .int .i64 d, .int .i64 p] W fun e w' => e = .returned (.int .i64 (S.given26 x ds d p)) ∧ Below W.heap.size W w' := fun W hw => by
  have := rgiven_core x (S.look x (S.dems ds)) d p W (fun V hV => rlook_any x ds w.heap.size V (hw.trans (hV.mono hw.size)).size (h.at_.at_ (Nat.le_refl _) (hw.trans (hV.mono hw.size))) (h.dems.at_ (Nat.le_refl _) (hw.trans (hV.mono hw.size))))
  unfold S.givenR at this
  rw [← h.dems.len] at this
  exact this
theorem barsL_sub (x : Dt) (rs : List Rod) (p : Int) (q : SCh → Bool) (C : List (List Int)) : (S.barsL rs p ((C.map (S.schOf x rs)).filter q)).Sublist C.flatten := by
  induction C with
  | nil => exact List.Sublist.refl _
  | cons l t ih =>
    rw [List.map_cons, List.filter_cons, List.flatten_cons]
    split
    · unfold S.barsL at ih ⊢
      rw [List.flatMap_cons]
      exact List.Sublist.append List.filter_sublist ih
    · exact ih.trans (List.sublist_append_right _ _)
theorem barsAt_asc {x : Dt} {ds : List Dm} (h : S.look x (S.dems ds) = true) (rs : List Rod) (z : Bx) (p : Int) : (S.barsAt x rs z p).Pairwise (· < ·) := by
  have g := look_ok h
  have hnd : (S.barsL rs p (S.kept x rs (S.cOf x) z p)).Nodup := (no_two g).sublist (barsL_sub x rs p _ _)
  have hnd2 : (S.barsAt x rs z p).Nodup := (List.mergeSort_perm _ _).nodup_iff.2 hnd
  have hs := sortI_sorted (S.barsL rs p (S.kept x rs (S.cOf x) z p))
  exact (hs.and hnd2).imp (fun h => by have h1 := h.1; have h2 := h.2; omega)
theorem barsAt_len {x : Dt} {ds : List Dm} (h : S.look x (S.dems ds) = true) (hC : (S.cOf x).length ≤ 100) (rs : List Rod) (z : Bx) (p : Int) : (S.barsAt x rs z p).length ≤ 200100 := by
  have g := look_ok h
  unfold S.barsAt
  rw [sortI_len]
  have h1 := barsL_len rs p (S.kept x rs (S.cOf x) z p) (fun c hc => by
    obtain ⟨l, hl, rfl, _⟩ := kept_mem hc
    exact (g.cin l hl).2.1)
  have h2 : (S.kept x rs (S.cOf x) z p).length ≤ (S.cOf x).length := by
    unfold S.kept
    refine Nat.le_trans (List.length_filter_le _ _) ?_
    rw [List.length_map]
    exact Nat.le_refl _
  have h3 : (S.kept x rs (S.cOf x) z p).length * 2001 ≤ 100 * 2001 := Nat.mul_le_mul_right _ (by omega)
  omega
theorem asc_ext : ∀ {a b : List Int}, a.Pairwise (· < ·) → b.Pairwise (· < ·) → (∀ x, x ∈ a ↔ x ∈ b) → a = b := by
  intro a
  induction a with
  | nil =>
    intro b _ _ h
    cases b with
    | nil => rfl
    | cons x t => exact absurd ((h x).2 (by simp)) (by simp)
  | cons x t ih =>
    intro b ha hb h
    cases b with
    | nil => exact absurd ((h x).1 (by simp)) (by simp)
    | cons y u =>
      rw [List.pairwise_cons] at ha hb
      have hxy : x = y := by
        rcases List.mem_cons.1 ((h x).1 (by simp)) with h1 | h1
        · exact h1
        · rcases List.mem_cons.1 ((h y).2 (by simp)) with h2 | h2
          · exact h2.symm
          · have := hb.1 x h1
            have := ha.1 y h2
            omega
      subst hxy
      congr 1
      refine ih ha.2 hb.2 (fun z => ⟨fun hz => ?_, fun hz => ?_⟩)
      · rcases List.mem_cons.1 ((h z).1 (by simp [hz])) with h1 | h1
        · subst h1; have := ha.1 z hz; omega
        · exact h1
      · rcases List.mem_cons.1 ((h z).2 (by simp [hz])) with h1 | h1
        · subst h1; have := hb.1 z hz; omega
        · exact h1
def S.overM (rs : List Rod) (p : Int) (i : Nat) : Bool := match rs[i]? with | some r => !decide (r.main < 0) && (decide ((S.legOf r).lo.x ≤ p) && decide (p ≤ (S.legOf r).hi.x)) | none => false
def S.hasAt (x : Dt) (rs : List Rod) (z : Bx) (p : Int) (i : Int) (l : List Int) : Bool := l.any (fun j => j == i) && S.supAt z p rs (S.schOf x rs l)
def S.rbarI (x : Dt) (rs : List Rod) (C : List (List Int)) (z : Bx) (p : Int) (i : Nat) : List Int := (C.filter (S.hasAt x rs z p (i : Int))).map fun _ => (i : Int)
def S.rbars (x : Dt) (rs : List Rod) (C : List (List Int)) (z : Bx) (p : Int) (k : Nat) : List Int := (List.range k).flatMap fun i => if S.overM rs p i then S.rbarI x rs C z p i else []
theorem rbars_next (x : Dt) (rs : List Rod) (C : List (List Int)) (z : Bx) (p : Int) (k : Nat) : S.rbars x rs C z p (k + 1) = S.rbars x rs C z p k ++ (if S.overM rs p k then S.rbarI x rs C z p k else []) := by
  unfold S.rbars
  rw [List.range_succ, List.flatMap_append]
  simp
theorem one_list {C : List (List Int)} (hn : C.flatten.Nodup) (i : Int) (q : List Int → Bool) (hq : ∀ l, q l = true → i ∈ l) : (C.filter q).length ≤ 1 := by
  induction C with
  | nil => simp
  | cons l t ih =>
    rw [List.flatten_cons, List.nodup_append] at hn
    rw [List.filter_cons]
    split
    · rename_i h
      have h0 : t.filter q = [] := List.filter_eq_nil_iff.2 fun m hm hqm => hn.2.2 i (hq l h) i (List.mem_flatten.2 ⟨m, hm, hq m hqm⟩) rfl
      rw [h0]
      simp
    · exact ih hn.2.1
theorem hasAt_mem {x : Dt} {rs : List Rod} {z : Bx} {p i : Int} {l : List Int} (h : S.hasAt x rs z p i l = true) : i ∈ l := by
  unfold S.hasAt at h
  rw [Bool.and_eq_true, List.any_eq_true] at h
  obtain ⟨⟨j, hj, he⟩, _⟩ := h
  have : j = i := by simpa using he
  exact this ▸ hj
theorem rbarI_one {x : Dt} {rs : List Rod} {C : List (List Int)} (hn : C.flatten.Nodup) (z : Bx) (p : Int) (i : Nat) : S.rbarI x rs C z p i = [] ∨ S.rbarI x rs C z p i = [(i : Int)] := by
  have h := one_list hn (i : Int) (S.hasAt x rs z p (i : Int)) (fun l hl => hasAt_mem hl)
  unfold S.rbarI
  cases hc : C.filter (S.hasAt x rs z p (i : Int)) with
  | nil => exact .inl rfl
  | cons a t =>
    rw [hc] at h
    cases t with
    | nil => exact .inr rfl
    | cons b u => simp at h
theorem rbars_asc {x : Dt} {rs : List Rod} {C : List (List Int)} (hn : C.flatten.Nodup) (z : Bx) (p : Int) (k : Nat) : (S.rbars x rs C z p k).Pairwise (· < ·) ∧ ∀ i, i ∈ S.rbars x rs C z p k → i < (k : Int) := by
  induction k with
  | zero => exact ⟨by simp [S.rbars], fun i hi => by simp [S.rbars] at hi⟩
  | succ k ih =>
    obtain ⟨h1, h2⟩ := ih
    rw [rbars_next]
    have h3 : (if S.overM rs p k then S.rbarI x rs C z p k else []) = [] ∨ (if S.overM rs p k then S.rbarI x rs C z p k else []) = [(k : Int)] := by
      split
      · exact rbarI_one hn z p k
      · exact .inl rfl
    rcases h3 with h3 | h3
    · rw [h3, List.append_nil]
      exact ⟨h1, fun i hi => by have := h2 i hi; omega⟩
    · rw [h3]
      refine ⟨List.pairwise_append.2 ⟨h1, by simp, fun a ha b hb => ?_⟩, fun i hi => ?_⟩
      · rw [List.mem_singleton] at hb
        subst hb
        exact h2 a ha
      · rcases List.mem_append.1 hi with h | h
        · have := h2 i h; omega
        · rw [List.mem_singleton] at h; omega
theorem rbars_mem {x : Dt} {rs : List Rod} {C : List (List Int)} {z : Bx} {p : Int} {k : Nat} {i : Int} : i ∈ S.rbars x rs C z p k ↔ ∃ n : Nat, n < k ∧ i = (n : Int) ∧ S.overM rs p n = true ∧ ∃ l, l ∈ C ∧ S.hasAt x rs z p (n : Int) l = true := by
  unfold S.rbars
  rw [List.mem_flatMap]
  constructor
  · rintro ⟨n, hn, hi⟩
    split at hi
    · rename_i ho
      unfold S.rbarI at hi
      obtain ⟨l, hl, he⟩ := List.mem_map.1 hi
      obtain ⟨h1, h2⟩ := List.mem_filter.1 hl
      exact ⟨n, List.mem_range.1 hn, he.symm, ho, l, h1, h2⟩
    · cases hi
  · rintro ⟨n, hn, rfl, ho, l, h1, h2⟩
    refine ⟨n, List.mem_range.2 hn, ?_⟩
    rw [if_pos ho]
    unfold S.rbarI
    exact List.mem_map.2 ⟨l, List.mem_filter.2 ⟨h1, h2⟩, rfl⟩
theorem hasAt_of {x : Dt} {rs : List Rod} {z : Bx} {p i : Int} {l : List Int} (h : i ∈ l) (hs : S.supAt z p rs (S.schOf x rs l) = true) : S.hasAt x rs z p i l = true := by
  unfold S.hasAt
  rw [Bool.and_eq_true, List.any_eq_true]
  exact ⟨⟨i, h, by simp⟩, hs⟩
theorem rbars_same {x : Dt} {ds : List Dm} (h : S.look x (S.dems ds) = true) {rs : List Rod} (hrs : RodsOf x (S.nOf x) rs) (z : Bx) (p : Int) : S.rbars x rs (S.cOf x) z p (S.nOf x) = S.barsAt x rs z p := by
  have g := look_ok h
  refine asc_ext (rbars_asc (no_two g) z p _).1 (barsAt_asc h rs z p) (fun i => ?_)
  rw [rbars_mem]
  constructor
  · rintro ⟨n, hn, rfl, ho, l, hl, hh⟩
    have hs : S.supAt z p rs (S.schOf x rs l) = true := by
      unfold S.hasAt at hh
      rw [Bool.and_eq_true] at hh
      exact hh.2
    unfold S.barsAt
    refine sortI_mem.2 ?_
    unfold S.barsL
    refine List.mem_flatMap.2 ⟨S.schOf x rs l, ?_, List.mem_filter.2 ⟨hasAt_mem hh, ?_⟩⟩
    · unfold S.kept
      exact List.mem_filter.2 ⟨List.mem_map.2 ⟨l, hl, rfl⟩, hs⟩
    · unfold S.overM at ho
      unfold S.overP
      rw [Int.toNat_natCast]
      have hx : n < rs.length := by rw [hrs.len]; exact hn
      rw [List.getElem?_eq_getElem hx] at ho ⊢
      simp only [Bool.and_eq_true] at ho ⊢
      exact ho.2
  · intro hi
    obtain ⟨h1, h2, h3, r, h4, h5⟩ := barsAt_mem h hrs hi
    have hi2 := sortI_mem.1 (show i ∈ S.sortI _ from hi)
    unfold S.barsL at hi2
    obtain ⟨c, hc, hf⟩ := List.mem_flatMap.1 hi2
    obtain ⟨l, hl, rfl, hs⟩ := kept_mem hc
    obtain ⟨h6, _⟩ := List.mem_filter.1 hf
    have e : i = ((i.toNat : Nat) : Int) := by omega
    refine ⟨i.toNat, by omega, e, ?_, l, hl, ?_⟩
    · unfold S.overP at h3
      unfold S.overM
      rw [h4] at h3 ⊢
      simp only [Bool.and_eq_true] at h3 ⊢
      exact ⟨by simpa using h5, h3⟩
    · rw [← e]
      exact hasAt_of h6 hs
end Go.Proofs.YtffkmgjmlahfpaaGreat
