/- Lemmas. -/
import Derived.Test.YtmfpbafpnoomeaaGreatMAO
import Derived.Test.YtmfpbafpnoomeaaGreatMAS
set_option linter.unusedVariables false
set_option linter.unusedSimpArgs false
namespace Go.Proofs.YtmfpbafpnoomeaaGreat
open Go.RowKit
section
variable {x : Dt} {ds : List Dm} {w : World}
theorem good_rcount (h : DtOk w x ds) (hlk : S.look x (S.dems ds) = true) : ∀ W, Below w.heap.size w W -> Calls Tryz.prog 99 #[dtV x] W fun e w' => e = .returned (.int .i64 (S.nOf x)) /\ Below W.heap.size W w' :=
 fun W hw => rcount25_any x w.heap.size W hw.size (h.at_.at_ (Nat.le_refl _) hw) (look_ok hlk).laid
theorem good_rchains (h : DtOk w x ds) (hlk : S.look x (S.dems ds) = true) : ∀ W, Below w.heap.size w W -> Calls Tryz.prog 73 #[dtV x] W (GivesChs (S.cOf x) W) := fun W hw => by
 have g := look_ok hlk
 exact rchains_any x (S.nOf x) _ w.heap.size W hw.size (h.at_.at_ (Nat.le_refl _) hw) g.good g.n2000 g.j1000 (fun V hV => good_rcount h hlk V (hw.trans (hV.mono hw.size)))
end
theorem refIn_same (x : Dt) (rs : List Rod) (z : Bx) (p : Int) (l : List Int) : S.refIn (S.spanL x rs) (fun l => S.sup rs z (S.schOf x rs l)) p l = S.supAt z p rs (S.schOf x rs l) := by
 unfold S.refIn S.supAt S.atPl S.sup
 show ((S.spanL x rs l).2.2 && ((S.spanL x rs l).2.2 && _) && decide ((S.spanL x rs l).1 <= p) && decide (p < (S.spanL x rs l).2.1)) = ((decide ((S.spanL x rs l).1 <= p) && decide (p < (S.spanL x rs l).2.1)) && ((S.spanL x rs l).2.2 && _))
 cases (S.spanL x rs l).2.2
 ·simp
 ·simp only [Bool.true_and]
  rw [Bool.and_assoc, Bool.and_comm]
theorem refAt_same (x : Dt) (rs : List Rod) (C : List (List Int)) (z : Bx) (p : Int) : S.refAt (S.spanL x rs) (fun l => S.sup rs z (S.schOf x rs l)) (fun l => (S.schOf x rs l).area) p C = S.supplyAt x rs C z p := by
 unfold S.refAt S.supplyAt S.valueAt
 suffices hs : ∀ (C : List (List Int)) (n : Int), C.foldl (fun n l => if S.refIn (S.spanL x rs) (fun l => S.sup rs z (S.schOf x rs l)) p l then n + (S.schOf x rs l).area else n) n = ((C.map (S.schOf x rs)).filter (S.supAt z p rs)).foldl (fun n r => if S.atPl p r then n + r.area else n) n from hs C 0
 intro C
 induction C with
 | nil => intro n; rfl
 | cons l t ih =>
  intro n
  rw [List.foldl_cons, List.map_cons, List.filter_cons, refIn_same]
  by_cases h : S.supAt z p rs (S.schOf x rs l) = true
  ·have h2 : S.atPl p (S.schOf x rs l) = true := by
    unfold S.supAt at h
    rw [Bool.and_eq_true] at h
    exact h.1
   rw [if_pos h, if_pos h, List.foldl_cons, if_pos h2]
   exact ih _
  ·rw [if_neg h, if_neg h]
   exact ih _
section
variable {x : Dt} {ds : List Dm} {w : World}
theorem good_says (h : DtOk w x ds) (hlk : S.look x (S.dems ds) = true) {k : Nat} {d : Dm} (hk : ds[k]? = some d) {rs : List Rod} (hrs : RodsOf x (S.nOf x) rs) : ChSays x (S.cOf x) k (S.spanL x rs) (fun l => S.sup rs d.zone (S.schOf x rs l)) (fun l => (S.schOf x rs l).area) w := by
 have g := look_ok hlk
 refine ⟨fun l hl A c W hw hs => ?_, fun l hl A c W hw hs => ?_, fun l hl A c W hw hs => ?_, fun l hl => ?_, g.c2000⟩
 ·obtain ⟨h0, h1, h2⟩ := g.cin l hl
  exact ranch_any x rs l A c w.heap.size W hw.size (h.at_.at_ (Nat.le_refl _) hw) g.laid g.rule g.mem hrs h0 h1 h2 hs
 ·obtain ⟨h0, h1, h2⟩ := g.cin l hl
  exact rsupp_any x ds rs l k d A c w.heap.size W hw.size (h.at_.at_ (Nat.le_refl _) hw) (h.dems.at_ (Nat.le_refl _) hw) g.laid g.rule g.mem hrs hk h0 h1 h2 hs
 ·obtain ⟨h0, h1, h2⟩ := g.cin l hl
  exact rarea_any x rs l A c w.heap.size W hw.size (h.at_.at_ (Nat.le_refl _) hw) g.laid hrs h0 h1 h2 hs
 ·obtain ⟨h0, h1, h2⟩ := g.cin l hl
  have hm := minBy_mem (S.sizeI rs) (xs := l) (k := l.length) h0 (Nat.le_refl _)
  rw [List.take_length] at hm
  have := areaI_pos g.laid hrs (h2 _ hm)
  show 0 <= S.areaI rs _ /\ S.areaI rs _ <= _
  exact ⟨by omega, this.2.1⟩
theorem says_at (h : DtOk w x ds) (hlk : S.look x (S.dems ds) = true) {k : Nat} {d : Dm} (hk : ds[k]? = some d) {rs : List Rod} (hrs : RodsOf x (S.nOf x) rs) {W : World} (hw : Below w.heap.size w W) : ChSays x (S.cOf x) k (S.spanL x rs) (fun l => S.sup rs d.zone (S.schOf x rs l)) (fun l => (S.schOf x rs l).area) W := by
 have s := good_says h hlk hk hrs
 exact ⟨fun l hl A c V hV hs => s.anch l hl A c V (hw.trans (hV.mono hw.size)) hs, fun l hl A c V hV hs => s.sups l hl A c V (hw.trans (hV.mono hw.size)) hs, fun l hl A c V hV hs => s.area l hl A c V (hw.trans (hV.mono hw.size)) hs, s.bd, s.len⟩
theorem good_rAt (h : DtOk w x ds) (hlk : S.look x (S.dems ds) = true) {k : Nat} {d : Dm} (hk : ds[k]? = some d) (p : Int) {rs : List Rod} (hrs : RodsOf x (S.nOf x) rs) :
 ∀ W, Below w.heap.size w W -> Calls Tryz.prog 52 #[dtV x, .int .i64 k, .int .i64 p] W fun e w' => e = .returned (.int .i64 (S.supplyAt x rs (S.cOf x) d.zone p)) /\ Below W.heap.size W w' := fun W hw => by
 have := rat26_core x (S.cOf x) k p _ _ _ W (says_at h hlk hk hrs hw) (fun V hV => good_rchains h hlk V (hw.trans (hV.mono hw.size)))
 rw [refAt_same] at this
 exact this
end
section
variable {x : Dt} {ds : List Dm} {w : World}
theorem given27_yes (h : DtOk w x ds) (hlk : S.look x (S.dems ds) = true) {k : Nat} {dm : Dm} (hk : ds[k]? = some dm) : S.given27 x ds k = 0 := by
 have hkx : k < ds.length := (List.getElem?_eq_some_iff.1 hk).1
 have hdl := h.dems.len
 unfold S.given27 S.given26
 rw [if_neg (by rw [hlk]; simp), if_neg]
 rintro (h1 | h1 | h1)
 ·omega
 ·omega
 ·exact absurd h1 (by decide)
end
set_option maxHeartbeats 2000000 in
theorem rat10_any (l : List Stp) (x : Int) (A : Option Addr) (n c B : Nat) (w : World) (hB : B <= w.heap.size) (hA : StepsAt w B A n l) (hm : n <= 1000000) (h : S.steps l = true) :
 Calls Tryz.prog 46 #[.slice A n c, .int .i64 x] w fun e w' => e = .returned (.int .i64 (S.valueOf x l)) /\ Below w.heap.size w w' := by
 have HV := lh (seek_value (steps_ascend h) x)
 have HN := lh hA.len
 have HS := lh hA.cells
 clear hA h
 go_enter Tryz.func46, Tryz.ntmps46
 go_wp2
 go_loop [5, 6] (fun v i => ∃ q : Nat, q <= n /\ i = .int .i64 q /\ ∃ u : Int, v = .int .i64 u /\ Hid (u = S.seek x (l.take q))) (fun _ i => n - (intOf i).toNat)
 case atStart => exact ⟨0, Nat.zero_le _, rfl, 0, rfl, lh rfl⟩
 case round =>
  obtain ⟨q, hq, rfl, u, rfl, hu⟩ := hrel
  by_cases hlt : q < n
  ·have hqx : q < l.length := by rw [HN.out]; exact hlt
   have hqi : (q : Int) < n := by omega
   have HNX := lh (seek_next x hqx)
   rw [<- hu.out] at HNX
   obtain ⟨b, o, hA2, hbb, hxx⟩ := HS.out.at_ (by rw [flat_len stC 2 stC_len]; omega)
   clear hxx
   subst hA2
   have c0 := HS.out.row0 stC_len hqx rfl
   have c1 := HS.out.rowj stC_len hqx 1 rfl
   have hbl : b < w.heap.size := by omega
   generalize l[q] = r at *
   by_cases h1 : r.fro <= x
   ·have b1 : decide (r.fro <= x) = true := decide_eq_true h1
    have HE := lh (HNX.out.trans (if_pos h1))
    clear h1 HNX
    go_wp2
    go_round
    case rel => exact ⟨q + 1, by omega, by go_num, r.val, rfl, lh HE.out.symm⟩
    case measure => simp [intOf]; omega
   ·have b1 : decide (r.fro <= x) = false := decide_eq_false h1
    have HE := lh (HNX.out.trans (if_neg h1))
    clear h1 HNX
    go_wp2
    go_round
    case rel => exact ⟨q + 1, by omega, by go_num, u, rfl, lh HE.out.symm⟩
    case measure => simp [intOf]; omega
  ·have hqn : q = n := by omega
   have hqi : ¬ ((q : Int) < n) := by omega
   have HE := lh (show u = S.valueOf x l by rw [hu.out, List.take_of_length_le (by rw [HN.out, hqn]; exact Nat.le_refl _)]; exact HV.out)
   subst hqn
   go_wp2
   go_ret
   exact ⟨ret_i HE.out, Below.refl _ _⟩
theorem froms_get {l : List Stp} {i : Nat} (h : i < l.length) : (S.froms l)[i]'(by unfold S.froms; simpa using h) = l[i].fro := by unfold S.froms; simp
theorem froms_len (l : List Stp) : (S.froms l).length = l.length := by unfold S.froms; simp
set_option maxRecDepth 20000 in
set_option maxHeartbeats 4000000 in
theorem rplaces_any (l1 l2 : List Stp) (A1 A2 : Option Addr) (n1 c1 n2 c2 : Nat) (w : World) (hn1 : l1.length = n1) (hn2 : l2.length = n2) (h1 : n1 <= 300) (h2 : n2 <= 300) (hs1 : Cells w w.heap.size A1 (l1.flatMap stC)) (hs2 : Cells w w.heap.size A2 (l2.flatMap stC)) :
 Calls Tryz.prog 45 #[.slice A1 n1 c1, .slice A2 n2 c2] w fun e w' => ∃ (A : Option Addr) (c : Nat), e = .returned (.slice A (S.mg (S.froms l1) (S.froms l2)).length c) /\ Cells w' w'.heap.size A (i64s (S.mg (S.froms l1) (S.froms l2))) /\ Below w.heap.size w w' := by
 have HS1 := lh hs1
 have HS2 := lh hs2
 have HN1 := lh hn1
 have HN2 := lh hn2
 clear hs1 hs2 hn1 hn2
 go_enter Tryz.func45, Tryz.ntmps45
 go_wp2
 go_loopw [5, 6, 7] (fun v i k wr => ∃ (p q : Nat) (out : List Int), p <= n1 /\ q <= n2 /\ out.length <= p + q /\ i = .int .i64 p /\ k = .int .i64 q /\ Hid (out ++ S.mg ((S.froms l1).drop p) ((S.froms l2).drop q) = S.mg (S.froms l1) (S.froms l2)) /\ wr.ownsRow w.heap.size 3 1 v out.length (i64s out) /\ Below w.heap.size w wr) (fun _ i k _ => (n1 - (intOf i).toNat) + (n2 - (intOf k).toNat))
 case atStart => exact ⟨0, 0, [], Nat.zero_le _, Nat.zero_le _, Nat.le_refl _, rfl, rfl, lh rfl, World.ownsRow_nil _ _ _ _, Below.refl _ _⟩
 case round =>
  obtain ⟨p, q, out, hp, hq, hol, rfl, rfl, ho, hO, hbr⟩ := hrel
  have HO := lh hO
  have hsr := hbr.size
  clear hO
  obtain ⟨lz, hlz⟩ : ∃ lz, lz = out.length := ⟨_, rfl⟩
  have HLZ := lh hlz
  have HO1 := HO.out
  rw [<- hlz] at HO1 hol
  clear hlz HO
  have HO := lh HO1
  clear HO1
  have hfa : (S.froms l1).length = n1 := by rw [froms_len]; exact HN1.out
  have hfb : (S.froms l2).length = n2 := by rw [froms_len]; exact HN2.out
  have ep : IntKind.i64.wrap ((p : Int) + 1) = ((p + 1 : Nat) : Int) := by rw [show ((p : Int) + 1) = ((p + 1 : Nat) : Int) by omega]; exact IntWalk.i64_in _ (by omega)
  have eq1 : IntKind.i64.wrap ((q : Int) + 1) = ((q + 1 : Nat) : Int) := by rw [show ((q : Int) + 1) = ((q + 1 : Nat) : Int) by omega]; exact IntWalk.i64_in _ (by omega)
  by_cases hpn : p < n1
  ·have hpx : p < l1.length := by rw [HN1.out]; exact hpn
   obtain ⟨b1, o1, hA1, hb1, hxx⟩ := (HS1.out.below hbr).at_ (by rw [flat_len stC 2 stC_len]; omega)
   clear hxx
   subst hA1
   have k1 := (HS1.out.below hbr).row0 stC_len hpx rfl
   have hbl1 : b1 < wr.heap.size := by omega
   have hpi : (p : Int) < n1 := by omega
   have bp : decide ((p : Int) < n1) = true := decide_eq_true hpi
   have bp2 : decide (p < n1) = true := decide_eq_true hpn
   obtain ⟨X, hX⟩ : ∃ X, X = l1[p].fro := ⟨_, rfl⟩
   have HXa := lh (show X = (S.froms l1)[p]'(by omega) by rw [hX, froms_get hpx])
   rw [<- hX] at k1
   clear hX
   by_cases hqn : q < n2
   ·have hqx : q < l2.length := by rw [HN2.out]; exact hqn
    obtain ⟨b2, o2, hA2, hb2, hxx⟩ := (HS2.out.below hbr).at_ (by rw [flat_len stC 2 stC_len]; omega)
    clear hxx
    subst hA2
    have k2 := (HS2.out.below hbr).row0 stC_len hqx rfl
    have hbl2 : b2 < wr.heap.size := by omega
    have hqi : (q : Int) < n2 := by omega
    obtain ⟨Y, hY⟩ : ∃ Y, Y = l2[q].fro := ⟨_, rfl⟩
    have HYb := lh (show Y = (S.froms l2)[q]'(by omega) by rw [hY, froms_get hqx])
    rw [<- hY] at k2
    clear hY
    have bq : decide ((q : Int) < n2) = true := decide_eq_true hqi
    have bq2 : decide (q < n2) = true := decide_eq_true hqn
    have be : ((q : Int) == (n2 : Int)) = false := by simp; omega
    have be2 : (q == n2) = false := by simp; omega
    rcases Int.lt_trichotomy X Y with h3 | h3 | h3
    ·have HST := lh (show S.mg ((S.froms l1).drop p) ((S.froms l2).drop q) = X :: S.mg ((S.froms l1).drop (p + 1)) ((S.froms l2).drop q) by
      have h := mg_step (a := S.froms l1) (b := S.froms l2) (i := p) (k := q) (x := X) (.inl ⟨by omega, HXa.out, fun hk => by rw [<- HXa.out, <- HYb.out]; exact h3⟩)
      rw [if_pos ⟨by omega, HXa.out.symm⟩, if_neg (fun ⟨_, h2⟩ => by rw [<- HYb.out] at h2; omega)] at h
      exact h)
     have bl : decide (X < Y) = true := decide_eq_true h3
     have xx : (X == X) = true := by simp
     have yx : (Y == X) = false := by simp; omega
     clear h3
     go_upto_region 5 with fail
     go_cut [41] from 19 to 41 (fun s wx => s = .bool true /\ Below wr.heap.size wr wx)
     case first =>
      go_quiet (fail)
      go_wp2
      go_meet
      exact ⟨rfl, ba_drewN (Below.refl _ _) _⟩
     case rest =>
      obtain ⟨rfl, hbc⟩ := hcut
      generalize wc = w5 at *
      have k15 := (hbc.cell (p := ⟨b1, o1 + p * 2, none⟩) hbl1).trans k1
      have k25 := (hbc.cell (p := ⟨b2, o2 + q * 2, none⟩) hbl2).trans k2
      have hbl5 : b1 < w5.heap.size := Nat.lt_of_lt_of_le hbl1 hbc.size
      have hbl6 : b2 < w5.heap.size := Nat.lt_of_lt_of_le hbl2 hbc.size
      have h5s := hbc.size
      have HO5 := lh (own_kept HO.out (fun k hk => hbc.block k (HO.out.lt k hk).2))
      have HB5 := lh (hbr.trans (hbc.mono hsr))
      clear k1 k2 be be2
      go_wp2_with (at_builtin; refine wpList_append_cells rfl (.tmp 82) (.tmp 84) _ rfl elemInt w.heap.size _ lz (i64s out) rfl (own_kept HO5.out (fun k hk => (ba_alloc (Below.refl _ _) _).block k (HO5.out.lt k hk).2)) (some ⟨w5.heap.size, 0, none⟩) 1 1 [.int .i64 X] _ rfl rfl (Cells.newRow w5 #[.int .i64 X] 3 (0, 0)) (by simp [Value.oneCell']) (by unfold maxLen; omega) (by omega) (by simp; omega) ?_; intro v2 wE hOE hbE)
      go_roundw
      case rel =>
       refine ⟨p + 1, q, out ++ [X], by omega, by omega, by rw [List.length_append, <- HLZ.out]; show lz + 1 <= _; omega, by go_num, rfl, lh (by rw [<- ho.out, HST.out]; simp), ?_, HB5.out.trans (((ba_alloc (Below.refl _ _) _).mono (by omega)).trans hbE)⟩
       rw [List.length_append, <- HLZ.out]
       simpa using hOE
      case measure => simp [intOf]; omega
    ·have HST := lh (show S.mg ((S.froms l1).drop p) ((S.froms l2).drop q) = Y :: S.mg ((S.froms l1).drop (p + 1)) ((S.froms l2).drop (q + 1)) by
      have h := mg_step (a := S.froms l1) (b := S.froms l2) (i := p) (k := q) (x := Y) (.inr ⟨by omega, HYb.out, fun hi => by rw [<- HXa.out, <- HYb.out]; omega⟩)
      rw [if_pos ⟨by omega, by rw [<- HXa.out]; exact h3⟩] at h
      have e2 : (if ∃ hk : q < (S.froms l2).length, (S.froms l2)[q] = Y then q + 1 else q) = q + 1 := if_pos ⟨by omega, HYb.out.symm⟩
      rw [e2] at h
      exact h)
     have bl : decide (X < Y) = false := decide_eq_false (by omega)
     have xy : (X == Y) = true := by simp [h3]
     have yy : (Y == Y) = true := by simp
     clear h3
     go_upto_region 5 with fail
     go_cut [41] from 19 to 41 (fun s wx => s = .bool false /\ Below wr.heap.size wr wx)
     case first =>
      go_quiet (fail)
      go_wp2
      go_meet
      exact ⟨rfl, ba_drewN (Below.refl _ _) _⟩
     case rest =>
      obtain ⟨rfl, hbc⟩ := hcut
      generalize wc = w5 at *
      have k15 := (hbc.cell (p := ⟨b1, o1 + p * 2, none⟩) hbl1).trans k1
      have k25 := (hbc.cell (p := ⟨b2, o2 + q * 2, none⟩) hbl2).trans k2
      have hbl5 : b1 < w5.heap.size := Nat.lt_of_lt_of_le hbl1 hbc.size
      have hbl6 : b2 < w5.heap.size := Nat.lt_of_lt_of_le hbl2 hbc.size
      have h5s := hbc.size
      have HO5 := lh (own_kept HO.out (fun k hk => hbc.block k (HO.out.lt k hk).2))
      have HB5 := lh (hbr.trans (hbc.mono hsr))
      clear k1 k2 be be2
      go_wp2_with (at_builtin; refine wpList_append_cells rfl (.tmp 82) (.tmp 84) _ rfl elemInt w.heap.size _ lz (i64s out) rfl (own_kept HO5.out (fun k hk => (ba_alloc (Below.refl _ _) _).block k (HO5.out.lt k hk).2)) (some ⟨w5.heap.size, 0, none⟩) 1 1 [.int .i64 Y] _ rfl rfl (Cells.newRow w5 #[.int .i64 Y] 3 (0, 0)) (by simp [Value.oneCell']) (by unfold maxLen; omega) (by omega) (by simp; omega) ?_; intro v2 wE hOE hbE)
      go_roundw
      case rel =>
       refine ⟨p + 1, q + 1, out ++ [Y], by omega, by omega, by rw [List.length_append, <- HLZ.out]; show lz + 1 <= _; omega, by go_num, by go_num, lh (by rw [<- ho.out, HST.out]; simp), ?_, HB5.out.trans (((ba_alloc (Below.refl _ _) _).mono (by omega)).trans hbE)⟩
       rw [List.length_append, <- HLZ.out]
       simpa using hOE
      case measure => simp [intOf]; omega
    ·have HST := lh (show S.mg ((S.froms l1).drop p) ((S.froms l2).drop q) = Y :: S.mg ((S.froms l1).drop p) ((S.froms l2).drop (q + 1)) by
      have h := mg_step (a := S.froms l1) (b := S.froms l2) (i := p) (k := q) (x := Y) (.inr ⟨by omega, HYb.out, fun hi => by rw [<- HXa.out, <- HYb.out]; omega⟩)
      rw [if_neg (fun ⟨_, h2⟩ => by rw [<- HXa.out] at h2; omega), if_pos ⟨by omega, HYb.out.symm⟩] at h
      exact h)
     have bl : decide (X < Y) = false := decide_eq_false (by omega)
     have xy : (X == Y) = false := by simp; omega
     have yy : (Y == Y) = true := by simp
     clear h3
     go_upto_region 5 with fail
     go_cut [41] from 19 to 41 (fun s wx => s = .bool false /\ Below wr.heap.size wr wx)
     case first =>
      go_quiet (fail)
      go_wp2
      go_meet
      exact ⟨rfl, ba_drewN (Below.refl _ _) _⟩
     case rest =>
      obtain ⟨rfl, hbc⟩ := hcut
      generalize wc = w5 at *
      have k15 := (hbc.cell (p := ⟨b1, o1 + p * 2, none⟩) hbl1).trans k1
      have k25 := (hbc.cell (p := ⟨b2, o2 + q * 2, none⟩) hbl2).trans k2
      have hbl5 : b1 < w5.heap.size := Nat.lt_of_lt_of_le hbl1 hbc.size
      have hbl6 : b2 < w5.heap.size := Nat.lt_of_lt_of_le hbl2 hbc.size
      have h5s := hbc.size
      have HO5 := lh (own_kept HO.out (fun k hk => hbc.block k (HO.out.lt k hk).2))
      have HB5 := lh (hbr.trans (hbc.mono hsr))
      clear k1 k2 be be2
      go_wp2_with (at_builtin; refine wpList_append_cells rfl (.tmp 82) (.tmp 84) _ rfl elemInt w.heap.size _ lz (i64s out) rfl (own_kept HO5.out (fun k hk => (ba_alloc (Below.refl _ _) _).block k (HO5.out.lt k hk).2)) (some ⟨w5.heap.size, 0, none⟩) 1 1 [.int .i64 Y] _ rfl rfl (Cells.newRow w5 #[.int .i64 Y] 3 (0, 0)) (by simp [Value.oneCell']) (by unfold maxLen; omega) (by omega) (by simp; omega) ?_; intro v2 wE hOE hbE)
      go_roundw
      case rel =>
       refine ⟨p, q + 1, out ++ [Y], by omega, by omega, by rw [List.length_append, <- HLZ.out]; show lz + 1 <= _; omega, rfl, by go_num, lh (by rw [<- ho.out, HST.out]; simp), ?_, HB5.out.trans (((ba_alloc (Below.refl _ _) _).mono (by omega)).trans hbE)⟩
       rw [List.length_append, <- HLZ.out]
       simpa using hOE
      case measure => simp [intOf]; omega
   ·have hq2 : q = n2 := by omega
    have HST := lh (show S.mg ((S.froms l1).drop p) ((S.froms l2).drop q) = X :: S.mg ((S.froms l1).drop (p + 1)) ((S.froms l2).drop q) by
     have h := mg_step (a := S.froms l1) (b := S.froms l2) (i := p) (k := q) (x := X) (.inl ⟨by omega, HXa.out, fun hk => by omega⟩)
     rw [if_pos ⟨by omega, HXa.out.symm⟩, if_neg (fun ⟨h1, _⟩ => by omega)] at h
     exact h)
    subst hq2
    have be : ((q : Int) == (q : Int)) = true := by simp
    have bq : decide ((q : Int) < q) = false := by simp
    go_upto_region 5 with fail
    go_cut [41] from 19 to 41 (fun s wx => s = .bool true /\ Below wr.heap.size wr wx)
    case first =>
     go_quiet (fail)
     go_wp2
     go_meet
     exact ⟨rfl, ba_drewN (Below.refl _ _) _⟩
    case rest =>
     obtain ⟨rfl, hbc⟩ := hcut
     generalize wc = w5 at *
     have k15 := (hbc.cell (p := ⟨b1, o1 + p * 2, none⟩) hbl1).trans k1
     have hbl5 : b1 < w5.heap.size := Nat.lt_of_lt_of_le hbl1 hbc.size
     have h5s := hbc.size
     have HO5 := lh (own_kept HO.out (fun k hk => hbc.block k (HO.out.lt k hk).2))
     have HB5 := lh (hbr.trans (hbc.mono hsr))
     have xx : (X == X) = true := by simp
     clear k1 be
     go_wp2_with (at_builtin; refine wpList_append_cells rfl (.tmp 82) (.tmp 84) _ rfl elemInt w.heap.size _ lz (i64s out) rfl (own_kept HO5.out (fun k hk => (ba_alloc (Below.refl _ _) _).block k (HO5.out.lt k hk).2)) (some ⟨w5.heap.size, 0, none⟩) 1 1 [.int .i64 X] _ rfl rfl (Cells.newRow w5 #[.int .i64 X] 3 (0, 0)) (by simp [Value.oneCell']) (by unfold maxLen; omega) (by omega) (by simp; omega) ?_; intro v2 wE hOE hbE)
     go_roundw
     case rel =>
      refine ⟨p + 1, q, out ++ [X], by omega, by omega, by rw [List.length_append, <- HLZ.out]; show lz + 1 <= _; omega, by go_num, rfl, lh (by rw [<- ho.out, HST.out]; simp), ?_, HB5.out.trans (((ba_alloc (Below.refl _ _) _).mono (by omega)).trans hbE)⟩
      rw [List.length_append, <- HLZ.out]
      simpa using hOE
     case measure => simp [intOf]; omega
  ·have hp2 : p = n1 := by omega
   by_cases hqn : q < n2
   ·have hqx : q < l2.length := by rw [HN2.out]; exact hqn
    obtain ⟨b2, o2, hA2, hb2, hxx⟩ := (HS2.out.below hbr).at_ (by rw [flat_len stC 2 stC_len]; omega)
    clear hxx
    subst hA2
    have k2 := (HS2.out.below hbr).row0 stC_len hqx rfl
    have hbl2 : b2 < wr.heap.size := by omega
    have hqi : (q : Int) < n2 := by omega
    obtain ⟨Y, hY⟩ : ∃ Y, Y = l2[q].fro := ⟨_, rfl⟩
    have HYb := lh (show Y = (S.froms l2)[q]'(by omega) by rw [hY, froms_get hqx])
    rw [<- hY] at k2
    clear hY
    have HST := lh (show S.mg ((S.froms l1).drop p) ((S.froms l2).drop q) = Y :: S.mg ((S.froms l1).drop p) ((S.froms l2).drop (q + 1)) by
     have h := mg_step (a := S.froms l1) (b := S.froms l2) (i := p) (k := q) (x := Y) (.inr ⟨by omega, HYb.out, fun hi => by omega⟩)
     rw [if_neg (fun ⟨h1, _⟩ => by omega), if_pos ⟨by omega, HYb.out.symm⟩] at h
     exact h)
    subst hp2
    have bp : decide ((p : Int) < p) = false := by simp
    have bq : decide ((q : Int) < n2) = true := decide_eq_true hqi
    have bq2 : decide (q < n2) = true := decide_eq_true hqn
    have be : ((q : Int) == (n2 : Int)) = false := by simp; omega
    have be2 : (q == n2) = false := by simp; omega
    go_upto_region 5 with fail
    go_cut [41] from 19 to 41 (fun s wx => s = .bool false /\ Below wr.heap.size wr wx)
    case first =>
     go_quiet (fail)
     go_wp2
     go_meet
     exact ⟨rfl, ba_drewN (Below.refl _ _) _⟩
    case rest =>
     obtain ⟨rfl, hbc⟩ := hcut
     generalize wc = w5 at *
     have k25 := (hbc.cell (p := ⟨b2, o2 + q * 2, none⟩) hbl2).trans k2
     have hbl5 : b2 < w5.heap.size := Nat.lt_of_lt_of_le hbl2 hbc.size
     have h5s := hbc.size
     have HO5 := lh (own_kept HO.out (fun k hk => hbc.block k (HO.out.lt k hk).2))
     have HB5 := lh (hbr.trans (hbc.mono hsr))
     have xx : (Y == Y) = true := by simp
     clear k2 be be2
     go_wp2_with (at_builtin; refine wpList_append_cells rfl (.tmp 82) (.tmp 84) _ rfl elemInt w.heap.size _ lz (i64s out) rfl (own_kept HO5.out (fun k hk => (ba_alloc (Below.refl _ _) _).block k (HO5.out.lt k hk).2)) (some ⟨w5.heap.size, 0, none⟩) 1 1 [.int .i64 Y] _ rfl rfl (Cells.newRow w5 #[.int .i64 Y] 3 (0, 0)) (by simp [Value.oneCell']) (by unfold maxLen; omega) (by omega) (by simp; omega) ?_; intro v2 wE hOE hbE)
     go_roundw
     case rel =>
      refine ⟨p, q + 1, out ++ [Y], by omega, by omega, by rw [List.length_append, <- HLZ.out]; show lz + 1 <= _; omega, rfl, by go_num, lh (by rw [<- ho.out, HST.out]; simp), ?_, HB5.out.trans (((ba_alloc (Below.refl _ _) _).mono (by omega)).trans hbE)⟩
      rw [List.length_append, <- HLZ.out]
      simpa using hOE
     case measure => simp [intOf]; omega
   ·have hq2 : q = n2 := by omega
    have HE := lh (show out = S.mg (S.froms l1) (S.froms l2) by
     have h := ho.out
     rw [List.drop_eq_nil_of_le (by omega), List.drop_eq_nil_of_le (by omega)] at h
     simpa [S.mg] using h)
    subst hp2 hq2
    have bp : decide ((p : Int) < p) = false := by simp
    have bq : decide ((q : Int) < q) = false := by simp
    obtain ⟨A5, c5, hu, _, _, hC5⟩ := own_form HO.out (by unfold maxLen; omega)
    subst hu
    go_wp2
    go_ret
    rw [<- HE.out]
    rw [<- HLZ.out]
    exact ⟨A5, c5, rfl, hC5, hbr⟩
section
variable {x : Dt} {ds : List Dm} {w : World}
theorem bad_parts (h : DtOk w x ds) (d : Int) (hg : S.given27 x ds d ≠ 0) : ∀ W, Below w.heap.size w W -> Calls Tryz.prog 42 #[dtV x, .int .i64 d] W fun e w' => e = .returned (.tuple #[.slice none 0 0, .int .i64 (S.given27 x ds d)]) /\ Below W.heap.size W w' := fun W hw =>
 parts_err x d _ W (by simpa using hg) (fun V hV => good_known h d V (hw.trans (hV.mono hw.size)))
end
theorem rspans_err (x : Dt) (d er : Int) (w : World) (he : (er == 0) = false)
 (hGV : ∀ W, Below w.heap.size w W -> Calls Tryz.prog 43 #[dtV x, .int .i64 d] W fun e w' => e = .returned (.int .i64 er) /\ Below W.heap.size W w') :
 Calls Tryz.prog 15 #[dtV x, .int .i64 d] w fun e w' => e = .returned (.tuple #[.slice none 0 0, .int .i64 er]) /\ Below w.heap.size w w' := by
 have HGV := lh hGV
 have he2 : ¬ (er = 0) := by simpa using he
 clear hGV
 unfold dtV at HGV
 unfold dtV
 have hDB := Blk.new w 34 (dtc x)
 have hW1 : Below w.heap.size w (w.alloc (.cells (dtc x) 34)) := ba_alloc (Below.refl _ _) _
 go_enter Tryz.func15, Tryz.ntmps15
 go_upto_region 1 with fail
 generalize (w.alloc (.cells (dtc x) 34)) = W1 at *
 have HDB := lh hDB
 clear hDB
 go_wp2_with (first
  | ((with_reducible refine at_load 34 2 ?_); refine wpList_load_mid rfl 34 (.tmp 2) rfl _ _ rfl _ _ (HDB.out.via belr).range Tryz.underlying34 rfl (by kernel_rfl) ?_)
  | (go_at_call 43; (with_reducible refine (HGV.out _ belr).mono ?_); rintro e w2 ⟨rfl, hbw2⟩))
 go_ret2
 exact ⟨rfl, bel⟩
set_option maxRecDepth 20000 in
set_option maxHeartbeats 8000000 in
theorem rspans_yes (x : Dt) (k : Nat) (s : List Stp) (dm : Dm) (w : World) (hk : k < x.dn) (hs2 : s.length <= 200) (hst : S.steps s = true) (hwt : S.steps dm.st = true) (hdn : dm.n <= 200)
 (hdc : ∀ W, Below w.heap.size w W -> ∃ bD oD, x.dA = some ⟨bD, oD, none⟩ /\ bD < W.heap.size /\ ∀ j v, (dmC dm)[j]? = some v -> W.cell? ⟨bD, oD + k * 8 + j, none⟩ = some v)
 (hds : ∀ W, Below w.heap.size w W -> StepsAt W w.heap.size dm.A dm.n dm.st)
 (hGV : ∀ W, Below w.heap.size w W -> Calls Tryz.prog 43 #[dtV x, .int .i64 k] W fun e w' => e = .returned (.int .i64 0) /\ Below W.heap.size W w')
 (hOF : ∀ W, Below w.heap.size w W -> Calls Tryz.prog 44 #[dtV x, .int .i64 k] W (GivesSt s W)) :
 Calls Tryz.prog 15 #[dtV x, .int .i64 k] w (GivesSpn (S.spansL (S.partsOf s dm.st)) w) := by
 have HGV := lh hGV
 have HOF := lh hOF
 have HDC := lh hdc
 have HDS := lh hds
 have HST := lh hst
 have HWT := lh hwt
 have hwn : dm.st.length = dm.n := (hds w (Below.refl _ _)).len
 have hki : (k : Int) < x.dn := by omega
 clear hGV hOF hdc hds hst hwt
 unfold dtV at HGV HOF
 unfold dtV
 have hDB := Blk.new w 34 (dtc x)
 have hW1 : Below w.heap.size w (w.alloc (.cells (dtc x) 34)) := ba_alloc (Below.refl _ _) _
 go_enter Tryz.func15, Tryz.ntmps15
 go_upto_region 1 with fail
 generalize (w.alloc (.cells (dtc x) 34)) = W1 at *
 have HDB := lh hDB
 clear hDB
 go_upto_region 7 with (first
  | ((with_reducible refine at_load 34 2 ?_); refine wpList_load_mid rfl 34 (.tmp 2) rfl _ _ rfl _ _ (HDB.out.via belr).range Tryz.underlying34 rfl (by kernel_rfl) ?_)
  | (go_at_call 43; (with_reducible refine (HGV.out _ belr).mono ?_); rintro e w2 ⟨rfl, hbw2⟩)
  | (go_at_call 44; (with_reducible refine (HOF.out _ belr).mono ?_); rintro e w3 ⟨A3, c3, rfl, hO3, hbw3⟩))
 have hb13 : Below W1.heap.size W1 w3 := ba_via hbw3 hbw2
 have hw3 : Below w.heap.size w w3 := ba_via hb13 hW1
 have HD3 := lh (HDB.out.via hb13)
 have hC3 := (own_cells hO3 (by unfold maxLen; omega)).1
 have hpl := rplaces_any s dm.st A3 dm.A s.length c3 dm.n dm.c w3 rfl hwn (by omega) (by omega) hC3 (((HDS.out _ hw3).cells).mono hw3.size)
 rw [mg_spots HST.out HWT.out] at hpl
 have HC3 := lh hC3
 clear hO3 hbw2 hbw3 hb13 hW1 HDB HGV HOF hC3
 obtain ⟨n1, hn1⟩ : ∃ n1, n1 = s.length := ⟨_, rfl⟩
 have HN1 := lh hn1
 rw [<- hn1] at hs2 hpl
 rw [<- hn1]
 have HPLC := lh hpl
 clear hn1 hpl
 obtain ⟨bD, oD, hdA, hbD, hdm⟩ := HDC.out w3 hw3
 have k7 := hdm 7 _ rfl
 have hDx := HD3.out
 have d9 := hDx.cell 9
 have dl := hDx.lt
 simp only [ga1, ga2, ga3] at d9
 rw [hdA] at d9
 clear hdm hDx
 go_upto_region 10 with (go_at_call 45; (with_reducible refine HPLC.out.mono ?_); rintro e w4 ⟨A4, c4, rfl, hC4, hbw4⟩)
 have hw4 : Below w.heap.size w w4 := ba_via hbw4 hw3
 have HS4 := lh ((HC3.out.below hbw4).mono hbw4.size)
 have HC4 := lh hC4
 have hpn := spots_len s dm.st
 rw [hwn, <- HN1.out] at hpn
 obtain ⟨m, hm⟩ : ∃ m, m = (S.spots s dm.st).length := ⟨_, rfl⟩
 have HM := lh hm
 rw [<- hm] at hpn
 rw [<- hm]
 have HPK := lh (parts_ok (spots_place HST.out HWT.out))
 have HSP := lh (spots_place HST.out HWT.out)
 clear hm hC4 hbw4 HPLC d9 dl k7 HC3 HD3 hdA hbD hw3
 go_wp2
 go_loopw [10, 12] (fun v i wr => ∃ q : Nat, q <= m /\ i = .int .i64 q /\ ∃ out : List Sp, Hid (out = S.spansL ((S.partsOf s dm.st).take q)) /\ wr.ownsRow w4.heap.size 49 2 v out.length (out.flatMap snC) /\ Below w4.heap.size w4 wr) (fun _ i _ => m - (intOf i).toNat)
 case atStart => exact ⟨0, Nat.zero_le _, rfl, [], lh rfl, World.ownsRow_nil _ _ _ _, Below.refl _ _⟩
 case round =>
  obtain ⟨q, hq, rfl, out, hout, hO, hbr⟩ := hrel
  have hol : out.length <= 400 := by
   have h1 := spansL_len ((S.partsOf s dm.st).take q)
   rw [<- hout.out, List.length_take] at h1
   omega
  obtain ⟨lz, hlo⟩ : ∃ lz, lz = out.length := ⟨_, rfl⟩
  have HLO := lh hlo
  rw [<- hlo] at hO hol
  clear hlo
  obtain ⟨A8, c8, hu8, _, _, hxx⟩ := own_form hO (by unfold maxLen; omega)
  clear hxx
  subst hu8
  have HO := lh hO
  clear hO
  have hsr := hbr.size
  have hbwr : Below w.heap.size w wr := ba_via hbr hw4
  by_cases hlt : q < m
  ·have hqx : q < (S.spots s dm.st).length := by rw [<- HM.out]; exact hlt
   have hqi : (q : Int) < m := by omega
   have hqp : q < (S.partsOf s dm.st).length := by rw [partsOf_len]; exact hqx
   obtain ⟨b, o, hA5, hbb, hcc⟩ := (HC4.out.below hbr).at_ (by simp; omega)
   subst hA5
   have hck := hcc q _ (i64s_get hqx)
   have hbl : b < wr.heap.size := by omega
   have HNX := lh (spansL_next hqp)
   rw [<- hout.out, partsOf_get hqp] at HNX
   have hp0 := HPK.out.first q hqp
   rw [partsOf_get hqp] at hp0
   unfold S.partAt at hp0 HNX
   rw [show (S.spots s dm.st).getD q 0 = (S.spots s dm.st)[q] by simp [List.getD_eq_getElem?_getD, hqx]] at hp0 HNX
   obtain ⟨hp1, hp2⟩ := hp0
   simp only [] at hp1 hp2
   have hp3 : (S.spots s dm.st)[q] <= 1048576 := by
    have := HSP.out _ (List.getElem_mem hqx)
    unfold S.place at this
    simp only [Bool.and_eq_true, decide_eq_true_eq] at this
    exact this.2
   obtain ⟨P, hP⟩ : ∃ P, P = (S.spots s dm.st)[q] := ⟨_, rfl⟩
   obtain ⟨E, hE⟩ : ∃ E, E = S.spotEnd (S.spots s dm.st) q := ⟨_, rfl⟩
   rw [<- hP] at hck hp1 hp3 HNX
   rw [<- hE] at hp2 HNX
   obtain ⟨q1, hq1⟩ : ∃ q1, q1 = q + 1 := ⟨_, rfl⟩
   have e1 : IntKind.i64.wrap ((q : Int) + 1) = (q1 : Int) := by rw [show ((q : Int) + 1) = (q1 : Int) by omega]; exact IntWalk.i64_in _ (by omega)
   have eP : IntKind.i64.wrap (P - 1) = P - 1 := IntWalk.i64_in _ (by omega)
   have HQ1 := lh hq1
   have HEND : Hid ((decide ((q1 : Int) < m) = true /\ ∃ X, wr.cell? ⟨b, o + q1, none⟩ = some (.int .i64 X) /\ IntKind.i64.wrap (X - 1) = E /\ (q1 : Int) < m) ∨ (decide ((q1 : Int) < m) = false /\ E = 1048576 /\ decide (q1 < m) = false /\ ¬ ((q1 : Int) < m))) := lh (by
    by_cases h2 : q1 < m
    ·have hx2 : q + 1 < (S.spots s dm.st).length := by rw [<- HM.out]; omega
     have hpp := HSP.out _ (List.getElem_mem hx2)
     unfold S.place at hpp
     simp only [Bool.and_eq_true, decide_eq_true_eq] at hpp
     refine .inl ⟨decide_eq_true (by omega), (S.spots s dm.st)[q + 1], by rw [hq1]; exact hcc (q + 1) _ (i64s_get hx2), ?_, by omega⟩
     rw [hE]
     unfold S.spotEnd
     rw [List.getElem?_eq_getElem hx2]
     exact IntWalk.i64_in _ (by omega)
    ·refine .inr ⟨decide_eq_false (by omega), ?_, decide_eq_false h2, by omega⟩
     rw [hE]
     unfold S.spotEnd
     rw [List.getElem?_eq_none (by rw [<- HM.out]; omega)])
   have HSA := lh (fun (W : World) (hw : Below wr.heap.size wr W) => rat10_any s P A3 n1 c3 W.heap.size W (Nat.le_refl _) ⟨HN1.out.symm, by omega, (HS4.out.below (hbr.trans (hw.mono hsr))).mono (Nat.le_trans hsr hw.size)⟩ (by omega) HST.out)
   have HSB := lh (fun (W : World) (hw : Below wr.heap.size wr W) => rat10_any dm.st P dm.A dm.n dm.c w.heap.size W (ba_via hw hbwr).size (HDS.out W (ba_via hw hbwr)) (by omega) HWT.out)
   clear hcc hP hE hq1 hqx hqp
   generalize S.valueOf P s = va at *
   generalize S.valueOf P dm.st = vb at *
   go_upto_region 13 with fail
   refine wp_region_mix 0 [5, 5] (by kernel_rfl) (by kernel_rfl) (of_decide_eq_true (by kernel_rfl)) ?_
   try simp only [wpSegs, gt1, gt2, gt3, gt4, List.take_nil, List.drop_nil]
   repeat (go_big_quiet_step (fail))
   refine wpQuiet_nil ?_
   show wpList _ _ _ _ _ _
   go_wp2_with ((go_at_call 46; (with_reducible refine (HSA.out _ belr).mono ?_); rintro e w7 ⟨rfl, hbw7⟩))
   refine seg_next (grow_to belr) ?_
   try simp only [wpSegs, gt1, gt2, gt3, gt4, List.take_nil, List.drop_nil]
   repeat (go_big_quiet_step (fail))
   refine wpQuiet_nil ?_
   show wpList _ _ _ _ _ _
   go_wp2_with ((go_at_call 46; (with_reducible refine (HSB.out _ belr).mono ?_); rintro e w8 ⟨rfl, hbw8⟩))
   refine seg_next (grow_to belr) ?_
   try simp only [wpSegs, gt1, gt2, gt3, gt4, List.take_nil, List.drop_nil]
   repeat (go_big_quiet_step (fail))
   refine wpQuiet_nil ?_
   show wpList _ _ _ _ _ _
   have h8 : Below wr.heap.size wr w8 := belr
   clear hbw7 hbw8 HSA HSB
   have h8s := h8.size
   have HO5 := lh (own_kept HO.out (fun k hk => h8.block k (HO.out.lt k hk).2))
   have HB := lh (hbr.trans (h8.mono hsr))
   have hsW : w4.heap.size <= w8.heap.size := by omega
   have hck8 := (h8.cell (p := ⟨b, o + q, none⟩) hbl).trans hck
   have hbl8 : b < w8.heap.size := by omega
   by_cases hw : vb <= va
   ·have bw : decide (vb <= va) = true := decide_eq_true hw
    have HNE := lh (show out = S.spansL ((S.partsOf s dm.st).take (q + 1)) by rw [HNX.out]; unfold S.spanNext; rw [if_pos hw])
    clear hw hck
    go_wp2
    go_roundw
    case rel => exact ⟨q1, by have := HQ1.out; omega, rfl, out, by rw [HQ1.out]; exact HNE, by rw [<- HLO.out]; exact HO5.out, HB.out⟩
    case measure => have := HQ1.out; simp [intOf]; omega
   ·have bw : decide (vb <= va) = false := decide_eq_false hw
    have HND := lh (show (decide ((q1 : Int) < m) = true /\ ∃ X, w8.cell? ⟨b, o + q1, none⟩ = some (.int .i64 X) /\ IntKind.i64.wrap (X - 1) = E /\ (q1 : Int) < m) ∨ (decide ((q1 : Int) < m) = false /\ E = 1048576 /\ decide (q1 < m) = false /\ ¬ ((q1 : Int) < m)) by
     rcases HEND.out with ⟨b1, X, hx, e2, hm⟩ | h
     ·exact .inl ⟨b1, X, (h8.cell (p := ⟨b, o + q1, none⟩) hbl).trans hx, e2, hm⟩
     ·exact .inr ⟨h.1, h.2.1, h.2.2.1, by omega⟩)
    clear HEND hck
    rcases List.eq_nil_or_concat out with hnil | ⟨init, q0, hcon⟩
    ·subst hnil
     obtain rfl : lz = 0 := HLO.out
     have HNE := lh (show [⟨P, E⟩] = S.spansL ((S.partsOf s dm.st).take (q + 1)) by rw [HNX.out]; unfold S.spanNext; rw [if_neg hw]; rfl)
     clear hw HNX
     rcases HND.out with ⟨b1, X, hck2, e2, hq1m⟩ | ⟨b1, rfl, b2, hnb⟩
     all_goals (
      clear HND
      go_upto_region 18 with fail
      go_cut [86] from 72 to 86 (fun s wx => s = .bool false /\ Below w8.heap.size w8 wx)
      case first =>
       go_quiet (fail)
       go_wp2
       go_meet
       exact ⟨rfl, ba_drewN (Below.refl _ _) _⟩
      case rest =>
       obtain ⟨rfl, hbc⟩ := hcut
       generalize wc = W11 at *
       have h11s := hbc.size
       have hck9 := (hbc.cell (p := ⟨b, o + q, none⟩) hbl8).trans hck8
       have hbl9 : b < W11.heap.size := by omega
       have HO6 := lh (own_kept HO5.out (fun k hk => hbc.block k (HO5.out.lt k hk).2))
       have HB6 := lh (HB.out.trans (hbc.mono hsW))
       go_wp2_with (at_builtin; refine wpList_append_cells rfl (.tmp 92) (.tmp 99) _ rfl elemSpn w4.heap.size _ 0 [] rfl (own_kept HO6.out (fun k hk => (ba_alloc (Below.refl _ _) _).block k (HO6.out.lt k hk).2)) (some ⟨W11.heap.size, 0, none⟩) 1 1 [.int .i64 P, .int .i64 _] _ rfl rfl (Cells.newRow W11 #[.int .i64 P, .int .i64 _] 49 (0, 0)) (by simp [Value.oneCell']) (by unfold maxLen; omega) (by omega) (by simp; omega) ?_; intro v2 wE hOE hbE)
       go_roundw
       case rel => exact ⟨q1, by have := HQ1.out; omega, rfl, [⟨P, _⟩], by rw [HQ1.out]; exact HNE, hOE, HB6.out.trans (((ba_alloc (Below.refl _ _) _).mono (by omega)).trans hbE)⟩
       case measure => have := HQ1.out; simp [intOf]; omega)
    ·rw [List.concat_eq_append] at hcon
     subst hcon
     obtain ⟨z, hz⟩ : ∃ z, z = init.length := ⟨_, rfl⟩
     have hln : (init ++ [q0]).length = lz := HLO.out.symm
     have hlz : lz = z + 1 := by rw [<- hln, hz]; simp
     have hO5 := HO5.out
     rcases hO5.2 with ⟨_, h0⟩ | ⟨g, cap, cur, hv, hbg, hg, hxx⟩
     ·omega
     clear hxx
     injection hv with hA _ hc
     subst hc
     obtain ⟨o8, ho0⟩ : ∃ o8, o8 = 0 := ⟨_, rfl⟩
     have hA' : A8 = some ⟨g, o8, none⟩ := by rw [ho0]; exact hA
     have hO6 := hO5
     rw [hA] at hO6
     clear hA hO5
     subst hA'
     have kh : w8.cell? ⟨g, o8 + z * 2 + 1, none⟩ = some (.int .i64 q0.hi) := by
      rw [ho0, Nat.zero_add, hO6.cellAt (z * 2 + 1) (by omega)]
      have h1 := flat_get snC 2 snC_len (init ++ [q0]) z (by rw [hln]; omega) 1 (by omega)
      rw [h1]
      simp [hz]
     have gl : g < w8.heap.size := (Array.getElem?_eq_some_iff.1 hg).1
     have e3 : IntKind.i64.wrap ((lz : Int) - 1) = (z : Int) := by rw [show ((lz : Int) - 1) = (z : Int) by omega]; exact IntWalk.i64_in _ (by omega)
     have hzl : (z : Int) < lz := by omega
     have b0 : decide ((0 : Int) <= (z : Int)) = true := decide_eq_true (by omega)
     have HO7 := lh hO6
     have HZ := lh hz
     have HLZ := lh hlz
     have HO0 := lh ho0
     clear hO6 hz hlz ho0 hg HO5
     by_cases heq : q0.hi = P - 1
     ·have bq : (q0.hi == (P - 1)) = true := by simp [heq]
      have HNE := lh (show init ++ [⟨q0.lo, E⟩] = S.spansL ((S.partsOf s dm.st).take (q + 1)) by rw [HNX.out]; unfold S.spanNext; rw [if_neg hw]; simp [show q0.hi + 1 = P by omega])
      clear hw heq HNX
      rcases HND.out with ⟨b1, X, hck2, e2, hq1m⟩ | ⟨b1, rfl, b2, hnb⟩
      all_goals (
       clear HND
       go_upto_region 18 with fail
       go_cut [86] from 72 to 86 (fun s wx => s = .bool true /\ Below w8.heap.size w8 wx)
       case first =>
        go_quiet (fail)
        go_wp2
        go_meet
        exact ⟨rfl, ba_drewN (Below.refl _ _) _⟩
       case rest =>
        obtain ⟨rfl, hbc⟩ := hcut
        generalize wc = W11 at *
        have HO8 := lh (own_kept HO7.out (fun k hk => hbc.block k (HO7.out.lt k hk).2))
        have HB6 := lh (HB.out.trans (hbc.mono hsW))
        have kh2 := (hbc.cell (p := ⟨g, o8 + z * 2 + 1, none⟩) gl).trans kh
        have fh : W11.frozen? ⟨g, o8 + z * 2 + 1, none⟩ = false := by rw [HO0.out, Nat.zero_add]; exact HO8.out.frozenAt _
        have gl2 : g < W11.heap.size := Nat.lt_of_lt_of_le gl hbc.size
        clear kh
        go_wp2
        go_roundw
        case rel =>
         refine ⟨q1, by have := HQ1.out; omega, rfl, init ++ [⟨q0.lo, _⟩], by rw [HQ1.out]; exact HNE, ?_, HB6.out.setCell hbg _⟩
         first
          | (have h := (HO8.out.stored (z * 2 + 1) (.int .i64 E)).1; rw [HZ.out, flat_last] at h; rw [HO0.out, Nat.zero_add, HZ.out]; rw [HLZ.out, HZ.out] at h ⊢; simpa using h)
          | (have h := (HO8.out.stored (z * 2 + 1) (.int .i64 1048576)).1; rw [HZ.out, flat_last] at h; rw [HO0.out, Nat.zero_add, HZ.out]; rw [HLZ.out, HZ.out] at h ⊢; simpa using h)
        case measure => have := HQ1.out; simp [intOf]; omega)
     ·have bq : (q0.hi == (P - 1)) = false := by simp [heq]
      have HNE := lh (show (init ++ [q0]) ++ [⟨P, E⟩] = S.spansL ((S.partsOf s dm.st).take (q + 1)) by rw [HNX.out]; unfold S.spanNext; rw [if_neg hw]; simp [show ¬ (q0.hi + 1 = P) by omega])
      clear hw heq HNX
      rcases HND.out with ⟨b1, X, hck2, e2, hq1m⟩ | ⟨b1, rfl, b2, hnb⟩
      all_goals (
       clear HND
       go_upto_region 18 with fail
       go_cut [86] from 72 to 86 (fun s wx => s = .bool false /\ Below w8.heap.size w8 wx)
       case first =>
        go_quiet (fail)
        go_wp2
        go_meet
        exact ⟨rfl, ba_drewN (Below.refl _ _) _⟩
       case rest =>
        obtain ⟨rfl, hbc⟩ := hcut
        generalize wc = W11 at *
        have h11s := hbc.size
        have hck9 := (hbc.cell (p := ⟨b, o + q, none⟩) hbl8).trans hck8
        have hbl9 : b < W11.heap.size := by omega
        have HO8 := lh (own_kept HO7.out (fun k hk => hbc.block k (HO7.out.lt k hk).2))
        have HB6 := lh (HB.out.trans (hbc.mono hsW))
        clear kh
        go_wp2_with (at_builtin; refine wpList_append_cells rfl (.tmp 92) (.tmp 99) _ rfl elemSpn w4.heap.size _ lz ((init ++ [q0]).flatMap snC) rfl (by rw [HO0.out]; exact own_kept HO8.out (fun k hk => (ba_alloc (Below.refl _ _) _).block k (HO8.out.lt k hk).2)) (some ⟨W11.heap.size, 0, none⟩) 1 1 [.int .i64 P, .int .i64 _] _ rfl rfl (Cells.newRow W11 #[.int .i64 P, .int .i64 _] 49 (0, 0)) (by simp [Value.oneCell']) (by unfold maxLen; omega) (by omega) (by simp; omega) ?_; intro v2 wE hOE hbE)
        go_roundw
        case rel =>
         refine ⟨q1, by have := HQ1.out; omega, rfl, (init ++ [q0]) ++ [⟨P, _⟩], by rw [HQ1.out]; exact HNE, ?_, HB6.out.trans (((ba_alloc (Below.refl _ _) _).mono (by omega)).trans hbE)⟩
         have e5 : ∀ u : Sp, (init ++ [q0] ++ [u]).length = lz + 1 := fun u => by rw [List.length_append, hln]; rfl
         rw [e5]
         simpa using hOE
        case measure => have := HQ1.out; simp [intOf]; omega)
  ·have hqn : q = m := by omega
   have hqi : ¬ ((q : Int) < m) := by omega
   have HE := lh (show out = S.spansL (S.partsOf s dm.st) by rw [hout.out, List.take_of_length_le (by rw [hqn, HM.out, partsOf_len]; exact Nat.le_refl _)])
   have hC5 := (own_cells HO.out (by unfold maxLen; omega)).1
   have HLE := lh (show lz = (S.spansL (S.partsOf s dm.st)).length by rw [HLO.out, HE.out])
   clear HO
   subst hqn
   go_wp2
   go_ret2
   rw [HE.out] at hC5
   refine ⟨A8, c8, ?_, hC5, hbwr⟩
   rw [<- HLE.out]
   rfl
end Go.Proofs.YtmfpbafpnoomeaaGreat
