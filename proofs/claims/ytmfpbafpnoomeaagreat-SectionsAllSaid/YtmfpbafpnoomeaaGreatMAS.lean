/- Lemmas. -/
import Derived.Laws.OwnMore
import Derived.Test.YtmfpbafpnoomeaaGreatMAR
import Derived.Test.YtmfpbafpnoomeaaGreatMAQ
set_option linter.unusedVariables false
set_option linter.unusedSimpArgs false
namespace Go.Proofs.YtmfpbafpnoomeaaGreat
open Go.RowKit
theorem secplace_any (n : Int) (w : World) : Calls Tryz.prog 48 #[.int .i64 n] w fun e w' => e = .returned (.bool (S.place n)) /\ w = w' := by
 have H := lh (show S.place n = (decide (-1048576 <= n) && decide (n <= 1048576)) from rfl)
 by_cases h1 : -1048576 <= n
 ·by_cases h2 : n <= 1048576
  ·have HE := lh (show S.place n = true by rw [H.out]; simp [h1, h2])
   go_enter Tryz.func48, Tryz.ntmps48
   go_wp2
   go_ret
   exact ⟨ret_b HE.out.symm, rfl⟩
  ·have HE := lh (show S.place n = false by rw [H.out]; simp [h1, h2])
   go_enter Tryz.func48, Tryz.ntmps48
   go_wp2
   go_ret
   exact ⟨ret_b HE.out.symm, rfl⟩
 ·have HE := lh (show S.place n = false by rw [H.out]; simp [h1])
  go_enter Tryz.func48, Tryz.ntmps48
  go_wp2
  go_ret
  exact ⟨ret_b HE.out.symm, rfl⟩
set_option maxHeartbeats 2000000 in
theorem known_core (x : Dt) (d : Int) (t : Bool) (w : World)
 (hLV : ∀ W, Below w.heap.size w W -> Calls Tryz.prog 53 #[dtV x] W fun e w' => e = .returned (.bool t) /\ Below W.heap.size W w') :
 Calls Tryz.prog 47 #[dtV x, .int .i64 d] w fun e w' => e = .returned (.int .i64 (if t = false then 1 else if d < 0 ∨ (x.dn : Int) <= d then 2 else 0)) /\ Below w.heap.size w w' := by
 have HLV := lh hLV
 clear hLV
 unfold dtV at HLV
 unfold dtV
 have hDB := Blk.new w 34 (dtc x)
 have hW1 : Below w.heap.size w (w.alloc (.cells (dtc x) 34)) := ba_alloc (Below.refl _ _) _
 go_enter Tryz.func47, Tryz.ntmps47
 go_upto_region 1 with fail
 generalize (w.alloc (.cells (dtc x) 34)) = W1 at *
 have HDB := lh hDB
 clear hDB
 cases t
 ·go_wp2_with (first
   | ((with_reducible refine at_load 34 2 ?_); refine wpList_load_mid rfl 34 (.tmp 2) rfl _ _ rfl _ _ (HDB.out.via belr).range Tryz.underlying34 rfl (by kernel_rfl) ?_)
   | (go_at_call 53; (with_reducible refine (HLV.out _ belr).mono ?_); rintro e w2 ⟨rfl, hbw2⟩))
  go_ret
  exact ⟨ret_i rfl, bel⟩
 ·go_upto_region 3 with (first
   | ((with_reducible refine at_load 34 2 ?_); refine wpList_load_mid rfl 34 (.tmp 2) rfl _ _ rfl _ _ (HDB.out.via belr).range Tryz.underlying34 rfl (by kernel_rfl) ?_)
   | (go_at_call 53; (with_reducible refine (HLV.out _ belr).mono ?_); rintro e w2 ⟨rfl, hbw2⟩))
  have hD2 := HDB.out.via hbw2
  have d9 := hD2.cell 9
  have dl := hD2.lt
  simp only [ga1, ga2, ga3] at d9
  have hw2 : Below w.heap.size w w2 := ba_via hbw2 hW1
  clear hD2 HDB HLV
  by_cases h1 : d < 0
  ·have b1 : decide (d < 0) = true := decide_eq_true h1
   go_wp2
   go_ret
   exact ⟨rfl, hw2⟩
  ·have b1 : decide (d < 0) = false := decide_eq_false h1
   by_cases h2 : (x.dn : Int) <= d
   ·have b2 : decide ((x.dn : Int) <= d) = true := decide_eq_true h2
    go_wp2
    go_ret
    exact ⟨rfl, hw2⟩
   ·have b2 : decide ((x.dn : Int) <= d) = false := decide_eq_false h2
    go_wp2
    go_ret
    exact ⟨rfl, hw2⟩
section
variable {x : Dt} {ds : List Dm} {w : World}
theorem sec_lv (h : DtOk w x ds) : ∀ W, Below w.heap.size w W -> Calls Tryz.prog 53 #[dtV x] W fun e w' => e = .returned (.bool (S.look x (S.dems ds))) /\ Below W.heap.size W w' := fun W hw => by
 cases hlk : S.look x (S.dems ds)
 ·exact lvalid_any x false w.heap.size 0 [] W hw.size (fun V hV => bad_look h hlk V (hw.trans (hV.mono hw.size)))
 ·exact lvalid_any x true w.heap.size _ _ W hw.size (fun V hV => good_look h hlk V (hw.trans (hV.mono hw.size)))
def S.given27 (x : Dt) (ds : List Dm) (d : Int) : Int := S.given26 x ds d 0
theorem good_known (h : DtOk w x ds) (d : Int) : ∀ W, Below w.heap.size w W -> Calls Tryz.prog 47 #[dtV x, .int .i64 d] W fun e w' => e = .returned (.int .i64 (S.given27 x ds d)) /\ Below W.heap.size W w' := fun W hw => by
 have := known_core x d (S.look x (S.dems ds)) W (fun V hV => sec_lv h V (hw.trans (hV.mono hw.size)))
 have e : S.given27 x ds d = (if S.look x (S.dems ds) = false then 1 else if d < 0 ∨ (x.dn : Int) <= d then 2 else 0) := by
  unfold S.given27 S.given26
  rw [h.dems.len]
  have : S.place 0 = true := rfl
  rw [this]
  simp
 rw [e]
 exact this
end
set_option maxHeartbeats 2000000 in
theorem rgiven27_core (x : Dt) (d : Int) (t : Bool) (w : World)
 (hLV : ∀ W, Below w.heap.size w W -> Calls Tryz.prog 54 #[dtV x] W fun e w' => e = .returned (.bool t) /\ Below W.heap.size W w') :
 Calls Tryz.prog 43 #[dtV x, .int .i64 d] w fun e w' => e = .returned (.int .i64 (if t = false then 1 else if d < 0 ∨ (x.dn : Int) <= d then 2 else 0)) /\ Below w.heap.size w w' := by
 have HLV := lh hLV
 clear hLV
 unfold dtV at HLV
 unfold dtV
 have hDB := Blk.new w 34 (dtc x)
 have hW1 : Below w.heap.size w (w.alloc (.cells (dtc x) 34)) := ba_alloc (Below.refl _ _) _
 go_enter Tryz.func43, Tryz.ntmps43
 go_upto_region 1 with fail
 generalize (w.alloc (.cells (dtc x) 34)) = W1 at *
 have HDB := lh hDB
 clear hDB
 cases t
 ·go_wp2_with (first
   | ((with_reducible refine at_load 34 2 ?_); refine wpList_load_mid rfl 34 (.tmp 2) rfl _ _ rfl _ _ (HDB.out.via belr).range Tryz.underlying34 rfl (by kernel_rfl) ?_)
   | (go_at_call 54; (with_reducible refine (HLV.out _ belr).mono ?_); rintro e w2 ⟨rfl, hbw2⟩))
  go_ret
  exact ⟨ret_i rfl, bel⟩
 ·go_upto_region 3 with (first
   | ((with_reducible refine at_load 34 2 ?_); refine wpList_load_mid rfl 34 (.tmp 2) rfl _ _ rfl _ _ (HDB.out.via belr).range Tryz.underlying34 rfl (by kernel_rfl) ?_)
   | (go_at_call 54; (with_reducible refine (HLV.out _ belr).mono ?_); rintro e w2 ⟨rfl, hbw2⟩))
  have hD2 := HDB.out.via hbw2
  have d9 := hD2.cell 9
  have dl := hD2.lt
  simp only [ga1, ga2, ga3] at d9
  have hw2 : Below w.heap.size w w2 := ba_via hbw2 hW1
  clear hD2 HDB HLV
  by_cases h1 : d < 0
  ·have b1 : decide (d < 0) = true := decide_eq_true h1
   go_wp2
   go_ret
   exact ⟨rfl, hw2⟩
  ·have b1 : decide (d < 0) = false := decide_eq_false h1
   by_cases h2 : (x.dn : Int) <= d
   ·have b2 : decide ((x.dn : Int) <= d) = true := decide_eq_true h2
    go_wp2
    go_ret
    exact ⟨rfl, hw2⟩
   ·have b2 : decide ((x.dn : Int) <= d) = false := decide_eq_false h2
    go_wp2
    go_ret
    exact ⟨rfl, hw2⟩
section
variable {x : Dt} {ds : List Dm} {w : World}
theorem any_rgiven27 (h : DtOk w x ds) (d : Int) : ∀ W, Below w.heap.size w W -> Calls Tryz.prog 43 #[dtV x, .int .i64 d] W fun e w' => e = .returned (.int .i64 (S.given27 x ds d)) /\ Below W.heap.size W w' := fun W hw => by
 have := rgiven27_core x d (S.look x (S.dems ds)) W (fun V hV => rlook_any x ds w.heap.size V (hw.trans (hV.mono hw.size)).size (h.at_.at_ (Nat.le_refl _) (hw.trans (hV.mono hw.size))) (h.dems.at_ (Nat.le_refl _) (hw.trans (hV.mono hw.size))))
 have e : S.given27 x ds d = (if S.look x (S.dems ds) = false then 1 else if d < 0 ∨ (x.dn : Int) <= d then 2 else 0) := by
  unfold S.given27 S.given26
  rw [h.dems.len]
  have : S.place 0 = true := rfl
  rw [this]
  simp
 rw [e]
 exact this
theorem given27_zero {d : Int} (h : S.given27 x ds d = 0) : S.look x (S.dems ds) = true /\ ∃ (m : Nat) (dm : Dm), d = m /\ ds[m]? = some dm := by
 obtain ⟨h1, h2, _⟩ := given26_zero (p := 0) h
 exact ⟨h1, h2⟩
end
theorem run_append_none {P : Program} {w : World} (base : Nat) (t ty e : TypeId) (i : TypeInfo) (size : Nat) (ht : P.underlying t = some (.slice e)) (hi : P.info? e = some i)
 (v : Value) (n : Nat) (xs : List Value) (c : Nat) (hown : w.ownsRow base e size v n xs) :
 (Builtin.append_ #[t, t] ty #[v, .slice none 0 c]).run P w = .ok v w := by
 rcases hown.2 with ⟨rfl, rfl⟩ | ⟨g, cap, cur, rfl, _, _, hnc, _⟩
 ·simp [Builtin.append_, run_underlying ht, sizeOf, typeInfo, hi, Builtin.lenOf, Builtin.firstCells]
 ·simp [Builtin.append_, run_underlying ht, sizeOf, typeInfo, hi, Builtin.lenOf, Builtin.firstCells, hnc, storeCells]
theorem wpList_append_none {P : Program} {w : World} {ops : Array Oper} {rest : List Oper} {o : Oper} {a : Act} {Q : Exit -> Act -> World -> Prop} (hgd : o.guard = none) (s x : Operand) (t : TypeId)
 (ho : o.op = .call { callee := .builtin .append, args := #[s, x], argTypes := #[t, t] })
 (base : Nat) (e : TypeId) (i : TypeInfo) (size : Nat) (ht : P.underlying t = some (.slice e)) (hi : P.info? e = some i)
 (v : Value) (n : Nat) (xs : List Value) (c : Nat) (hs : a.eval s = v) (hown : w.ownsRow base e size v n xs) (hx : a.eval x = .slice none 0 c)
 (h : wpList P ops Q rest (a.put o.dst v) w) : wpList P ops Q (o :: rest) a w := by
 refine wpList_plain hgd fun K hK => ?_
 have hrun := run_append_none (P := P) (w := w) base t o.type e i size ht hi v n xs c hown
 unfold Oper.wp
 simp [execOp, ho, resolve, invoke, builtin, hs, hx, hrun, Result.andThen]
 exact hK _ _ h
theorem grow_any (n : Nat) (w : World) (hn : n <= 1000) :
 Calls Tryz.prog 96 #[.slice none 0 0, .int .i64 n] w fun e w' => ∃ v, e = .returned v /\ w'.ownsRow w.heap.size 136 2 v 0 [] /\ Below w.heap.size w w' := by
 by_cases h0 : n = 0
 ·subst h0
  refine (Any8.slices_Grow_room Tryz.growSt none 0 0 0 w (by omega) (by omega) (by omega) (by omega)).mono ?_
  rintro e w' ⟨rfl, rfl⟩
  exact ⟨_, rfl, World.ownsRow_nil _ _ _ _, Below.refl _ _⟩
 ·obtain ⟨i0, hi, hz0, hz1, hz2⟩ := info_parts elemSt.info
  refine (Any8.slices_Grow_grow Tryz.growSt i0 _ hi hz0 (by rw [hz1]; decide) none 0 0 n [] w (by omega) (by omega) (by rw [hz2]; omega) (by omega) (by simp) (fun _ => rfl) (fun a ha => by cases ha)).mono ?_
  rintro e w' ⟨rfl, rfl⟩
  have hle := grownCap_le_maxLen w (0 + n) 0 (Tryz.growSt_ren.t 25) (by unfold maxLen; omega)
  have hge := grownCap_ge w (0 + n) 0 (Tryz.growSt_ren.t 25)
  refine ⟨_, rfl, ⟨rfl, .inr ⟨w.heap.size, _, _, rfl, Nat.le_refl _, heap_alloc_new w.drew _, Nat.zero_le _, hle, ?_, rfl⟩⟩, ?_⟩
  ·rw [Nat.zero_add] at hge ⊢
   simp [Builtin.zeroCells, elemSt.cells]
   omega
  ·exact ba_alloc (ba_drew (Below.refl _ _)) _
theorem wpList_append_cells {P : Program} {w : World} {ops : Array Oper} {rest : List Oper} {o : Oper} {a : Act} {Q : Exit -> Act -> World -> Prop} (hgd : o.guard = none) (s x : Operand) (t : TypeId)
 (ho : o.op = .call { callee := .builtin .append, args := #[s, x], argTypes := #[t, t] }) {E : TypeId} {z : Value} {size bytes : Nat} (hE : Elem P t E z size bytes)
 (base : Nat) (v : Value) (n : Nat) (xs : List Value) (hs : a.eval s = v) (hown : w.ownsRow base E size v n xs) (A : Option Addr) (m c : Nat) (news : List Value) (B : Nat) (hx : a.eval x = .slice A m c)
 (hl : news.length = m * size) (hc : Cells w B A news) (h1 : ∀ u ∈ news, u.oneCell' = true) (h63 : n + m <= maxLen) (hbytes : (n + m) * bytes <= 140737488355328) (hbase : base <= w.heap.size)
 (h : ∀ v' w', w'.ownsRow base E size v' (n + m) (xs ++ news) -> Below base w w' -> wpList P ops Q rest (a.put o.dst v') w') : wpList P ops Q (o :: rest) a w := by
 obtain ⟨i, hi, hz, hsz, hby⟩ := info_parts hE.info
 cases A with
 | none =>
  have hn : news = [] := by
   rcases hc with h2 | ⟨b, o2, h2, _⟩
   ·exact h2
   ·cases h2
  subst hn
  have hm : m = 0 := by
   rcases Nat.mul_eq_zero.1 (show m * size = 0 by simpa using hl.symm) with h2 | h2
   ·exact h2
   ·have := hE.pos; omega
  subst hm
  exact wpList_append_none hgd s x t ho base E i size hE.slice hi v n xs c hs hown hx (h v w (by simpa using hown) (Below.refl _ _))
 | some ad =>
  refine wpList_append_own_at w hgd s x t ho base E i z size bytes hE.slice hi hz hsz hby hE.cells hE.pos v n xs hs hown ad m c news hx hl (fun j u hu => ?_) h1 h63 hbytes hbase (fun v' w' h2 h3 _ h4 => h v' w' h2 ((Below.refl _ w).grown h3 hbase (fun k hk => (hown.lt k hk).1)))
  have hlen : 0 < news.length := by
   rcases Nat.eq_zero_or_pos news.length with h5 | h5
   ·rw [List.length_eq_zero_iff.1 h5] at hu; simp at hu
   ·exact h5
  obtain ⟨b, o2, he, _, _⟩ := hc.at_ hlen
  have he2 : ad = ⟨b, o2, none⟩ := Option.some.inj he
  subst he2
  have e : (Addr.add ⟨b, o2, none⟩ j) = ⟨b, o2 + j, none⟩ := by unfold Addr.add; split <;> simp_all
  rw [e]
  exact hc.get hu
theorem stC_one (l : List Stp) : ∀ u ∈ l.flatMap stC, u.oneCell' = true := by
 intro u hu
 obtain ⟨s, _, hs⟩ := List.mem_flatMap.1 hu
 simp at hs
 rcases hs with rfl | rfl <;> rfl
set_option maxRecDepth 20000 in
set_option maxHeartbeats 4000000 in
theorem concat_any (l1 l2 : List Stp) (A1 A2 : Option Addr) (n1 c1 n2 c2 g : Nat) (w : World) (hn1 : l1.length = n1) (hn2 : l2.length = n2) (h1 : n1 <= 300) (h2 : n2 <= 300) (hg : g < w.heap.size)
 (k0 : w.cell? ⟨g, 0, none⟩ = some (.slice A1 n1 c1)) (k1 : w.cell? ⟨g, 1, none⟩ = some (.slice A2 n2 c2)) (hs1 : Cells w w.heap.size A1 (l1.flatMap stC)) (hs2 : Cells w w.heap.size A2 (l2.flatMap stC)) :
 Calls Tryz.prog 70 #[.slice (some ⟨g, 0, none⟩) 2 2] w fun e w' => ∃ (A : Option Addr) (c : Nat), e = .returned (.slice A (n1 + n2) c) /\ Cells w' w'.heap.size A ((l1 ++ l2).flatMap stC) /\ Below w.heap.size w w' := by
 obtain ⟨nt, hnt⟩ : ∃ nt, nt = n1 + n2 := ⟨_, rfl⟩
 have HGR := lh (grow_any nt w (by omega))
 have HS1 := lh hs1
 have HS2 := lh hs2
 have HN1 := lh hn1
 have HN2 := lh hn2
 have e0 : IntKind.i64.wrap (0 + (n1 : Int)) = (n1 : Int) := by rw [Int.zero_add]; exact IntWalk.i64_in _ (by omega)
 have e1 : IntKind.i64.wrap ((n1 : Int) + (n2 : Int)) = (nt : Int) := by rw [show ((n1 : Int) + (n2 : Int)) = (nt : Int) by omega]; exact IntWalk.i64_in _ (by omega)
 have b1 : decide ((n1 : Int) < 0) = false := decide_eq_false (by omega)
 have b2 : decide ((nt : Int) < 0) = false := decide_eq_false (by omega)
 have hn6 : nt <= 600 := by omega
 have HNT := lh hnt
 clear hs1 hs2 hn1 hn2 hnt
 go_enter Tryz.func70, Tryz.ntmps70
 go_wp2
 go_loop [3, 11] (fun v i => (i = .int .i64 0 /\ v = .int .i64 0) ∨ (i = .int .i64 1 /\ v = .int .i64 (n1 : Int)) ∨ (i = .int .i64 2 /\ v = .int .i64 (nt : Int))) (fun _ i => 2 - (intOf i).toNat)
 case atStart => exact .inl ⟨rfl, rfl⟩
 case round =>
  rcases hrel with ⟨rfl, rfl⟩ | ⟨rfl, rfl⟩ | ⟨rfl, rfl⟩
  ·go_wp2
   go_round
   case rel => exact .inr (.inl ⟨by go_num, by go_num⟩)
   case measure => simp [intOf]
  ·go_wp2
   go_round
   case rel => exact .inr (.inr ⟨by go_num, by go_num⟩)
   case measure => simp [intOf]
  ·go_upto_region 10 with (go_at_call 96; (with_reducible refine HGR.out.mono ?_); rintro e w2 ⟨v2, rfl, ho2, hb2⟩)
   go_wp2
   go_loopw [6, 27] (fun v i wr => (i = .int .i64 0 /\ wr.ownsRow w.heap.size 136 2 v 0 [] /\ Below w.heap.size w wr) ∨ (i = .int .i64 1 /\ wr.ownsRow w.heap.size 136 2 v n1 (l1.flatMap stC) /\ Below w.heap.size w wr) ∨ (i = .int .i64 2 /\ wr.ownsRow w.heap.size 136 2 v nt ((l1 ++ l2).flatMap stC) /\ Below w.heap.size w wr)) (fun _ i _ => 2 - (intOf i).toNat)
   case atStart => exact .inl ⟨rfl, ho2, hb2⟩
   case round =>
    rcases hrel with ⟨rfl, ho, hbr⟩ | ⟨rfl, ho, hbr⟩ | ⟨rfl, ho, hbr⟩
    ·have k0r := (hbr.cell (p := ⟨g, 0, none⟩) hg).trans k0
     have hgr : g < wr.heap.size := Nat.lt_of_lt_of_le hg hbr.size
     go_wp2_with (at_builtin; refine wpList_append_cells rfl (.tmp 31) (.tmp 32) _ rfl elemSt w.heap.size u6 0 [] rfl ho A1 n1 c1 (l1.flatMap stC) _ rfl (by rw [flat_len stC 2 stC_len, HN1.out]) (HS1.out.below hbr) (stC_one l1) (by unfold maxLen; omega) (by omega) hbr.size ?_; intro v3 wE hoE hbE)
     go_roundw
     case rel => exact .inr (.inl ⟨by go_num, by simpa using hoE, hbr.trans hbE⟩)
     case measure => simp [intOf]
    ·have k1r := (hbr.cell (p := ⟨g, 1, none⟩) hg).trans k1
     have hgr : g < wr.heap.size := Nat.lt_of_lt_of_le hg hbr.size
     go_wp2_with (at_builtin; refine wpList_append_cells rfl (.tmp 31) (.tmp 32) _ rfl elemSt w.heap.size u6 n1 (l1.flatMap stC) rfl ho A2 n2 c2 (l2.flatMap stC) _ rfl (by rw [flat_len stC 2 stC_len, HN2.out]) (HS2.out.below hbr) (stC_one l2) (by unfold maxLen; omega) (by omega) hbr.size ?_; intro v3 wE hoE hbE)
     go_roundw
     case rel => exact .inr (.inr ⟨by go_num, by rw [HNT.out]; simpa using hoE, hbr.trans hbE⟩)
     case measure => simp [intOf]
    ·obtain ⟨A5, c5, hu6, _, _, hC5⟩ := own_form ho (by unfold maxLen; omega)
     subst hu6
     go_wp2
     go_ret
     rw [HNT.out]
     exact ⟨A5, c5, rfl, hC5, hbr⟩
abbrev prC (p : Prt) : List Value := [.int .i64 p.lo, .int .i64 p.hi, .int .i64 p.there, .int .i64 p.wants]
theorem prC_len (p : Prt) : (prC p).length = 4 := rfl
theorem elemPr : Elem Tryz.prog 100 104 (.agg #[.int .i64 0, .int .i64 0, .int .i64 0, .int .i64 0]) 4 32 := ⟨Tryz.underlying100, by kernel_rfl, rfl, by decide⟩
def GivesPr (L : List Prt) (w : World) (e : Ending) (w' : World) : Prop :=
 ∃ (A : Option Addr) (c : Nat), e = .returned (.tuple #[.slice A L.length c, .int .i64 0]) /\ Cells w' w'.heap.size A (L.flatMap prC) /\ Below w.heap.size w w'
theorem parts_err (x : Dt) (d er : Int) (w : World) (he : (er == 0) = false)
 (hKN : ∀ W, Below w.heap.size w W -> Calls Tryz.prog 47 #[dtV x, .int .i64 d] W fun e w' => e = .returned (.int .i64 er) /\ Below W.heap.size W w') :
 Calls Tryz.prog 42 #[dtV x, .int .i64 d] w fun e w' => e = .returned (.tuple #[.slice none 0 0, .int .i64 er]) /\ Below w.heap.size w w' := by
 have HKN := lh hKN
 have he2 : ¬ (er = 0) := by simpa using he
 clear hKN
 unfold dtV at HKN
 unfold dtV
 have hDB := Blk.new w 34 (dtc x)
 have hW1 : Below w.heap.size w (w.alloc (.cells (dtc x) 34)) := ba_alloc (Below.refl _ _) _
 go_enter Tryz.func42, Tryz.ntmps42
 go_upto_region 1 with fail
 generalize (w.alloc (.cells (dtc x) 34)) = W1 at *
 have HDB := lh hDB
 clear hDB
 go_wp2_with (first
  | ((with_reducible refine at_load 34 2 ?_); refine wpList_load_mid rfl 34 (.tmp 2) rfl _ _ rfl _ _ (HDB.out.via belr).range Tryz.underlying34 rfl (by kernel_rfl) ?_)
  | (go_at_call 47; (with_reducible refine (HKN.out _ belr).mono ?_); rintro e w2 ⟨rfl, hbw2⟩))
 go_ret2
 exact ⟨rfl, bel⟩
theorem take_snoc {α : Type} {l : List α} {k : Nat} (h : k < l.length) : l.take (k + 1) = l.take k ++ [l[k]] := by rw [List.take_add_one, List.getElem?_eq_getElem h]; rfl
set_option maxRecDepth 20000 in
set_option maxHeartbeats 8000000 in
theorem parts_yes (x : Dt) (k : Nat) (s : List Stp) (dm : Dm) (w : World) (hk : k < x.dn) (hs2 : s.length <= 200) (hst : S.steps s = true) (hwt : S.steps dm.st = true) (hdn : dm.n <= 200)
 (hdc : ∀ W, Below w.heap.size w W -> ∃ bD oD, x.dA = some ⟨bD, oD, none⟩ /\ bD < W.heap.size /\ ∀ j v, (dmC dm)[j]? = some v -> W.cell? ⟨bD, oD + k * 8 + j, none⟩ = some v)
 (hds : ∀ W, Below w.heap.size w W -> StepsAt W w.heap.size dm.A dm.n dm.st)
 (hKN : ∀ W, Below w.heap.size w W -> Calls Tryz.prog 47 #[dtV x, .int .i64 k] W fun e w' => e = .returned (.int .i64 0) /\ Below W.heap.size W w')
 (hOF : ∀ W, Below w.heap.size w W -> Calls Tryz.prog 69 #[dtV x, .int .i64 k] W (GivesSt s W)) :
 Calls Tryz.prog 42 #[dtV x, .int .i64 k] w (GivesPr (S.partsOf s dm.st) w) := by
 have HKN := lh hKN
 have HOF := lh hOF
 have HDC := lh hdc
 have HDS := lh hds
 have HST := lh hst
 have HWT := lh hwt
 have hwn : dm.st.length = dm.n := (hds w (Below.refl _ _)).len
 have hki : (k : Int) < x.dn := by omega
 clear hKN hOF hdc hds hst hwt
 unfold dtV at HKN HOF
 unfold dtV
 have hDB := Blk.new w 34 (dtc x)
 have hW1 : Below w.heap.size w (w.alloc (.cells (dtc x) 34)) := ba_alloc (Below.refl _ _) _
 go_enter Tryz.func42, Tryz.ntmps42
 go_upto_region 1 with fail
 generalize (w.alloc (.cells (dtc x) 34)) = W1 at *
 have HDB := lh hDB
 clear hDB
 go_upto_region 8 with (first
  | ((with_reducible refine at_load 34 2 ?_); refine wpList_load_mid rfl 34 (.tmp 2) rfl _ _ rfl _ _ (HDB.out.via belr).range Tryz.underlying34 rfl (by kernel_rfl) ?_)
  | (go_at_call 47; (with_reducible refine (HKN.out _ belr).mono ?_); rintro e w2 ⟨rfl, hbw2⟩)
  | (go_at_call 69; (with_reducible refine (HOF.out _ belr).mono ?_); rintro e w3 ⟨A3, c3, rfl, hO3, hbw3⟩))
 have hb13 : Below W1.heap.size W1 w3 := ba_via hbw3 hbw2
 have hw3 : Below w.heap.size w w3 := ba_via hb13 hW1
 have HD3 := lh (HDB.out.via hb13)
 have HC3 := lh (own_cells hO3 (by unfold maxLen; omega)).1
 clear hO3 hbw2 hbw3 hb13 hW1 HDB HKN HOF
 obtain ⟨n1, hn1⟩ : ∃ n1, n1 = s.length := ⟨_, rfl⟩
 have HN1 := lh hn1
 rw [<- hn1] at hs2
 rw [<- hn1]
 clear hn1
 obtain ⟨bD, oD, hdA, hbD, hdm⟩ := HDC.out w3 hw3
 have k7 := hdm 7 _ rfl
 have hDx := HD3.out
 have d9 := hDx.cell 9
 have dl := hDx.lt
 simp only [ga1, ga2, ga3] at d9
 rw [hdA] at d9
 clear hdm hDx
 have hb34 : Below w3.heap.size w3 (w3.alloc (.cells #[.slice A3 n1 c3, .slice dm.A dm.n dm.c] 79)) := ba_alloc (Below.refl _ _) _
 obtain ⟨nt, hnt⟩ : ∃ nt, nt = n1 + dm.n := ⟨_, rfl⟩
 have hco := concat_any s dm.st A3 dm.A n1 c3 dm.n dm.c w3.heap.size (w3.alloc (.cells #[.slice A3 n1 c3, .slice dm.A dm.n dm.c] 79)) HN1.out.symm hwn (by omega) (by omega) (by simp) (by simp) (by simp)
  ((HC3.out.below hb34).mono hb34.size) (((HDS.out _ (ba_via hb34 hw3)).cells).mono (ba_via hb34 hw3).size)
 rw [<- hnt] at hco
 have HCO := lh hco
 have HNT := lh hnt
 have hn4 : nt <= 400 := by omega
 clear hco hnt
 go_wp2_with (go_at_call 70; (with_reducible refine HCO.out.mono ?_); rintro e w4 ⟨A4, c4, rfl, hC4, hbw4⟩)
 have h34 : Below w3.heap.size w3 w4 := ba_via hbw4 hb34
 have hw4 : Below w.heap.size w w4 := ba_via h34 hw3
 have HD4 := lh (HD3.out.via h34)
 have HS4 := lh ((HC3.out.below h34).mono h34.size)
 have HC4 := lh hC4
 have hll : (s ++ dm.st).length = nt := by rw [List.length_append, HNT.out, hwn, HN1.out]
 have HLL := lh hll
 have HPL := lh (show ∀ t, t ∈ s ++ dm.st -> S.place t.fro = true from fun t ht => by
  rcases List.mem_append.1 ht with h | h
  ·exact steps_place HST.out h
  ·exact steps_place HWT.out h)
 clear hC4 hbw4 HCO d9 dl k7 hb34 h34 HC3 HD3 hdA hbD hll hw3
 go_loopw [9, 44] (fun v i wr => ∃ q : Nat, q <= nt /\ i = .int .i64 q /\ wr.ownsRow w4.heap.size 3 1 v q (i64s (S.froms ((s ++ dm.st).take q))) /\ Below w4.heap.size w4 wr) (fun _ i _ => nt - (intOf i).toNat)
 case atStart => exact ⟨0, Nat.zero_le _, rfl, World.ownsRow_nil _ _ _ _, Below.refl _ _⟩
 case round =>
  obtain ⟨q, hq, rfl, hO, hbr⟩ := hrel
  have HO := lh hO
  have hsr := hbr.size
  clear hO
  by_cases hlt : q < nt
  ·have hqx : q < (s ++ dm.st).length := by rw [HLL.out]; exact hlt
   have hqi : (q : Int) < nt := by omega
   have hCS := HC4.out.below hbr
   obtain ⟨b, o, hA2, hbb, hxx⟩ := hCS.at_ (by rw [flat_len stC 2 stC_len]; omega)
   clear hxx
   subst hA2
   have c0 := hCS.row0 stC_len hqx rfl
   have c1' := hCS.rowj stC_len hqx 1 rfl
   have hbl : b < wr.heap.size := by omega
   have HTK := lh (take_snoc hqx)
   have HPC := lh (fun W => (HPL.out _ (List.getElem_mem hqx)) ▸ secplace_any (s ++ dm.st)[q].fro W)
   clear hCS
   generalize (s ++ dm.st)[q] = r at *
   go_upto_region 11 with fail
   have hC11 := Blk.new wr 136 #[.int .i64 r.fro, .int .i64 r.val]
   have hb11 : Below wr.heap.size wr (wr.alloc (.cells #[.int .i64 r.fro, .int .i64 r.val] 136)) := ba_alloc (Below.refl _ _) _
   generalize (wr.alloc (.cells #[.int .i64 r.fro, .int .i64 r.val] 136)) = W11 at *
   have h11s := hb11.size
   have HO5 := lh (own_kept HO.out (fun k hk => hb11.block k (HO.out.lt k hk).2))
   have y0 := hC11.cell 0
   have yl := hC11.lt
   simp only [ga1, ga2, ga3] at y0
   have HB := lh (hbr.trans (hb11.mono hsr))
   have hsW : w4.heap.size <= W11.heap.size := by omega
   clear hC11 hb11 c0 c1' HO
   go_wp2_with (first
    | (go_at_call 48; (with_reducible refine (HPC.out _).mono ?_); rintro e w' ⟨rfl, rfl⟩)
    | (at_builtin; refine wpList_append_cells rfl (.tmp 51) (.tmp 54) _ rfl elemInt w4.heap.size u9 q (i64s (S.froms ((s ++ dm.st).take q))) rfl (own_kept HO5.out (fun k hk => (ba_alloc (Below.refl _ _) _).block k (HO5.out.lt k hk).2)) (some ⟨W11.heap.size, 0, none⟩) 1 1 [.int .i64 r.fro] _ rfl rfl (Cells.newRow W11 #[.int .i64 r.fro] 3 (0, 0)) (by simp [Value.oneCell']) (by unfold maxLen; omega) (by omega) (by simp; omega) ?_; intro v2 wE hOE hbE))
   go_roundw
   case rel => exact ⟨q + 1, by omega, by go_num, by rw [HTK.out]; simpa [S.froms] using hOE, HB.out.trans (((ba_alloc (Below.refl _ _) _).mono hsW).trans hbE)⟩
   case measure => simp [intOf]; omega
  ·have hqn : q = nt := by omega
   have hqi : ¬ ((q : Int) < nt) := by omega
   subst hqn
   have hO := HO.out
   rw [List.take_of_length_le (by rw [HLL.out]; exact Nat.le_refl _)] at hO
   have HSO := lh (sort_own (S.froms (s ++ dm.st)) u9 q w4.heap.size wr hO (by omega))
   have HOr := lh hO
   clear hO HO
   go_upto_region 15 with (go_at_call 71; (with_reducible refine HSO.out.mono ?_); rintro e w5 ⟨rfl, hO5, hX5⟩)
   have hb5 : Below w4.heap.size wr w5 := hX5.below (by omega) (fun k hk => (HOr.out.lt k (by simpa using hk)).1)
   have h5s := hX5.size
   obtain ⟨A5, c5, hu9, _, _, _⟩ := own_form hO5 (by unfold maxLen; omega)
   subst hu9
   have HCP := lh (compact_own (S.sortI (S.froms (s ++ dm.st))) A5 c5 q w4.heap.size w5 hO5 (by omega))
   have HLT5 := lh hO5.lt
   have hw5 : Below w4.heap.size w4 w5 := hbr.trans hb5
   rw [show Go.Lib.compact (S.sortI (S.froms (s ++ dm.st))) = S.spots s dm.st from rfl] at HCP
   clear hO5 hX5 HSO HOr hb5 hbr
   have hpl := spots_len s dm.st
   rw [hwn, <- HN1.out] at hpl
   go_upto_region 17 with (go_at_call 72; (with_reducible refine HCP.out.mono ?_); rintro e w6 ⟨rfl, hO6, hX6⟩)
   have hb6 : Below w4.heap.size w5 w6 := hX6.below (by omega) (fun k hk => (HLT5.out k (by simpa using hk)).1)
   have hw6 : Below w4.heap.size w4 w6 := hw5.trans hb6
   have HPC := lh (own_cells hO6 (by unfold maxLen; omega)).1
   have hWB : Below w.heap.size w w6 := ba_via hw6 hw4
   have HD6 := lh (HD4.out.via hw6)
   have HS6 := lh ((HS4.out.below hw6).mono hw6.size)
   have HSP := lh (spots_place HST.out HWT.out)
   obtain ⟨m, hm⟩ : ∃ m, m = (S.spots s dm.st).length := ⟨_, rfl⟩
   have HM := lh hm
   rw [<- hm] at hpl
   rw [<- hm]
   clear hm hO6 hX6 hb6 hw5 HLT5 HCP hw6 hw4 HD4 HS4 HC4 hsr hqi hlt hq HLL HPL h5s
   go_wp2
   go_loopw [12, 63] (fun v i wr => ∃ q : Nat, q <= m /\ i = .int .i64 q /\ wr.ownsRow w6.heap.size 104 4 v q (((S.partsOf s dm.st).take q).flatMap prC) /\ Below w6.heap.size w6 wr) (fun _ i _ => m - (intOf i).toNat)
   case atStart => exact ⟨0, Nat.zero_le _, rfl, World.ownsRow_nil _ _ _ _, Below.refl _ _⟩
   case round =>
    obtain ⟨q, hq, rfl, hO, hbr⟩ := hrel
    have HO := lh hO
    have hsr := hbr.size
    have hbwr : Below w.heap.size w wr := ba_via hbr hWB
    clear hO
    by_cases hlt : q < m
    ·have hqx : q < (S.spots s dm.st).length := by rw [<- HM.out]; exact hlt
     have hqi : (q : Int) < m := by omega
     have hqp : q < (S.partsOf s dm.st).length := by rw [partsOf_len]; exact hqx
     obtain ⟨b, o, hA5, hbb, hcc⟩ := (HPC.out.below hbr).at_ (by simp; omega)
     subst hA5
     have hck := hcc q _ (i64s_get hqx)
     have hbl : b < wr.heap.size := by omega
     obtain ⟨P, hP⟩ : ∃ P, P = (S.spots s dm.st)[q] := ⟨_, rfl⟩
     obtain ⟨E, hE⟩ : ∃ E, E = S.spotEnd (S.spots s dm.st) q := ⟨_, rfl⟩
     have HTK := lh (show (S.partsOf s dm.st).take (q + 1) = (S.partsOf s dm.st).take q ++ [⟨P, E, S.valueOf P s, S.valueOf P dm.st⟩] by
      rw [take_snoc hqp, partsOf_get hqp]
      unfold S.partAt
      rw [show (S.spots s dm.st).getD q 0 = P by rw [hP]; simp [List.getD_eq_getElem?_getD, hqx], <- hE])
     rw [<- hP] at hck
     obtain ⟨q1, hq1⟩ : ∃ q1, q1 = q + 1 := ⟨_, rfl⟩
     have e1 : IntKind.i64.wrap ((q : Int) + 1) = (q1 : Int) := by rw [show ((q : Int) + 1) = (q1 : Int) by omega]; exact IntWalk.i64_in _ (by omega)
     have HQ1 := lh hq1
     have HEND : Hid ((decide ((q1 : Int) < m) = true /\ ∃ X, wr.cell? ⟨b, o + q1, none⟩ = some (.int .i64 X) /\ IntKind.i64.wrap (X - 1) = E /\ (q1 : Int) < m) ∨ (decide ((q1 : Int) < m) = false /\ E = 1048576 /\ decide (q1 < m) = false /\ ¬ ((q1 : Int) < m))) := lh (by
      by_cases h2 : q1 < m
      ·have hx2 : q + 1 < (S.spots s dm.st).length := by rw [<- HM.out]; omega
       have hpp := HSP.out _ (List.getElem_mem hx2)
       unfold S.place at hpp
       simp only [Bool.and_eq_true, decide_eq_true_eq] at hpp
       refine .inl ⟨decide_eq_true (by omega), (S.spots s dm.st)[q + 1], by rw [hq1]; exact hcc (q + 1) _ (i64s_get hx2), ?_, by omega⟩
       rw [hE]
       unfold S.spotEnd
       rw [List.getElem?_eq_getElem hx2]
       exact IntWalk.i64_in _ (by omega)
      ·refine .inr ⟨decide_eq_false (by omega), ?_, decide_eq_false h2, by omega⟩
       rw [hE]
       unfold S.spotEnd
       rw [List.getElem?_eq_none (by rw [<- HM.out]; omega)])
     have HSA := lh (fun (W : World) (hw : Below wr.heap.size wr W) => stAt_any s P A3 n1 c3 W.heap.size W (Nat.le_refl _) ⟨HN1.out.symm, by omega, (HS6.out.below (hbr.trans (hw.mono hsr))).mono (Nat.le_trans hsr hw.size)⟩ (by omega) HST.out)
     have HSB := lh (fun (W : World) (hw : Below wr.heap.size wr W) => stAt_any dm.st P dm.A dm.n dm.c w.heap.size W (ba_via hw hbwr).size (HDS.out W (ba_via hw hbwr)) (by omega) HWT.out)
     have HDR := lh (HD6.out.via hbr)
     have HDM := lh (fun (W : World) (hw : Below wr.heap.size wr W) => HDC.out W (ba_via hw hbwr))
     clear hcc hP hE hq1
     generalize S.valueOf P s = va at *
     generalize S.valueOf P dm.st = vb at *
     rcases HEND.out with ⟨b1, X, hck2, e2, hq1m⟩ | ⟨b1, rfl, b2, hnb⟩
     all_goals (
      clear HEND
      go_upto_region 26 with (go_at_call 49; (with_reducible refine (HSA.out _ belr).mono ?_); rintro e w7 ⟨rfl, hbw7⟩)
      obtain ⟨bD, oD, hdA, hbD, hdm⟩ := HDM.out w7 hbw7
      have k7 := hdm 7 _ rfl
      have hDx := HDR.out.via hbw7
      have d9 := hDx.cell 9
      have dl := hDx.lt
      simp only [ga1, ga2, ga3] at d9
      rw [hdA] at d9
      clear hdm hDx
      have h7s := hbw7.size
      go_upto_region 29 with (go_at_call 49; (with_reducible refine (HSB.out _ (ba_via belr hbw7)).mono ?_); rintro e w8 ⟨rfl, hbw8⟩)
      have hb8 : Below wr.heap.size wr w8 := ba_via hbw8 hbw7
      have h8s := hb8.size
      have HO8 := lh (own_kept HO.out (fun k hk => hb8.block k (HO.out.lt k hk).2))
      have HB8 := lh (hbr.trans (hb8.mono hsr))
      clear d9 dl k7 hbw7 hbw8
      go_wp2_with (at_builtin; refine wpList_append_cells rfl (.tmp 102) (.tmp 109) _ rfl elemPr w6.heap.size u12 q (((S.partsOf s dm.st).take q).flatMap prC) rfl (own_kept HO8.out (fun k hk => (ba_alloc (Below.refl _ _) _).block k (HO8.out.lt k hk).2)) (some ⟨w8.heap.size, 0, none⟩) 1 1 [.int .i64 P, .int .i64 _, .int .i64 va, .int .i64 vb] _ rfl rfl (Cells.newRow w8 #[.int .i64 P, .int .i64 _, .int .i64 va, .int .i64 vb] 104 (0, 0)) (by simp [Value.oneCell']) (by unfold maxLen; omega) (by omega) (by simp; omega) ?_; intro v2 wE hOE hbE)
      go_roundw
      case rel => exact ⟨q1, by have := HQ1.out; omega, rfl, by rw [HQ1.out, HTK.out]; simpa using hOE, HB8.out.trans (((ba_alloc (Below.refl _ _) _).mono (by omega)).trans hbE)⟩
      case measure => have := HQ1.out; simp [intOf]; omega)
    ·have hqm : q = m := by omega
     have hqi : ¬ ((q : Int) < m) := by omega
     subst hqm
     have hO := HO.out
     rw [List.take_of_length_le (by rw [partsOf_len, <- HM.out]; exact Nat.le_refl _)] at hO
     obtain ⟨A9, c9, hu12, _, _, hC9⟩ := own_form hO (by unfold maxLen; omega)
     subst hu12
     have HL9 := lh (show q = (S.partsOf s dm.st).length by rw [partsOf_len, <- HM.out])
     clear hO HO
     go_wp2
     go_ret2
     refine ⟨A9, c9, ?_, hC9, hbwr⟩
     rw [<- HL9.out]
     rfl
theorem spansL_len (l : List Prt) : (S.spansL l).length <= l.length := by
 have key : ∀ (l : List Prt) (out : List Sp), (l.foldl S.spanNext out).length <= out.length + l.length := by
  intro l
  induction l with
  | nil => intro out; simp
  | cons a t ih =>
   intro out
   rw [List.foldl_cons]
   refine Nat.le_trans (ih _) ?_
   have : (S.spanNext out a).length <= out.length + 1 := by
    unfold S.spanNext
    split
    ·omega
    ·split
     ·split
      ·simp
      ·simp
     ·simp
   simp only [List.length_cons]
   omega
 have := key l []
 unfold S.spansL
 simpa using this
abbrev snC (s : Sp) : List Value := [.int .i64 s.lo, .int .i64 s.hi]
theorem snC_len (s : Sp) : (snC s).length = 2 := rfl
theorem elemSpn : Elem Tryz.prog 40 49 (.agg #[.int .i64 0, .int .i64 0]) 2 16 := ⟨Tryz.underlying40, by kernel_rfl, rfl, by decide⟩
def GivesSpn (L : List Sp) (w : World) (e : Ending) (w' : World) : Prop :=
 ∃ (A : Option Addr) (c : Nat), e = .returned (.tuple #[.slice A L.length c, .int .i64 0]) /\ Cells w' w'.heap.size A (L.flatMap snC) /\ Below w.heap.size w w'
theorem flat_last (init : List Sp) (q : Sp) (v : Int) : ((init ++ [q]).flatMap snC).set (init.length * 2 + 1) (.int .i64 v) = (init ++ [(⟨q.lo, v⟩ : Sp)]).flatMap snC := by
 have hl : (init.flatMap snC).length = init.length * 2 := flat_len snC 2 snC_len init
 rw [List.flatMap_append, List.flatMap_append, List.set_append_right _ _ (by omega), hl, show init.length * 2 + 1 - init.length * 2 = 1 by omega]
 rfl
set_option maxRecDepth 20000 in
set_option maxHeartbeats 8000000 in
theorem spans_yes (x : Dt) (d : Int) (L : List Prt) (w : World) (hL : L.length <= 400) (hpl : ∀ i (h : i < L.length), -1048576 <= L[i].lo /\ L[i].hi <= 1048576) (hsb : ∀ k, ∀ t, t ∈ S.spansL (L.take k) -> -1048576 <= t.hi /\ t.hi <= 1048576)
 (hPA : ∀ W, Below w.heap.size w W -> Calls Tryz.prog 42 #[dtV x, .int .i64 d] W (GivesPr L W)) :
 Calls Tryz.prog 13 #[dtV x, .int .i64 d] w (GivesSpn (S.spansL L) w) := by
 have HPA := lh hPA
 have HSB := lh hsb
 have HPL := lh hpl
 clear hPA hsb hpl
 unfold dtV at HPA
 unfold dtV
 have hDB := Blk.new w 34 (dtc x)
 have hW1 : Below w.heap.size w (w.alloc (.cells (dtc x) 34)) := ba_alloc (Below.refl _ _) _
 go_enter Tryz.func13, Tryz.ntmps13
 go_upto_region 1 with fail
 generalize (w.alloc (.cells (dtc x) 34)) = W1 at *
 have HDB := lh hDB
 clear hDB
 go_upto_region 4 with (first
  | ((with_reducible refine at_load 34 2 ?_); refine wpList_load_mid rfl 34 (.tmp 2) rfl _ _ rfl _ _ (HDB.out.via belr).range Tryz.underlying34 rfl (by kernel_rfl) ?_)
  | (go_at_call 42; (with_reducible refine (HPA.out _ belr).mono ?_); rintro e w2 ⟨A2, c2, rfl, hC2, hbw2⟩))
 have hw2 : Below w.heap.size w w2 := ba_via hbw2 hW1
 have HC2 := lh hC2
 clear hC2 hbw2 hW1 HDB HPA
 obtain ⟨n, hn⟩ : ∃ n, n = L.length := ⟨_, rfl⟩
 have HN := lh hn
 rw [<- hn] at hL
 rw [<- hn]
 clear hn
 go_wp2
 go_loopw [8, 23] (fun v i wr => ∃ q : Nat, q <= n /\ i = .int .i64 q /\ ∃ out : List Sp, Hid (out = S.spansL (L.take q)) /\ wr.ownsRow w2.heap.size 49 2 v out.length (out.flatMap snC) /\ Below w2.heap.size w2 wr) (fun _ i _ => n - (intOf i).toNat)
 case atStart => exact ⟨0, Nat.zero_le _, rfl, [], lh rfl, World.ownsRow_nil _ _ _ _, Below.refl _ _⟩
 case round =>
  obtain ⟨q, hq, rfl, out, hout, hO, hbr⟩ := hrel
  have hol : out.length <= 400 := by
   have h1 := spansL_len (L.take q)
   rw [<- hout.out, List.length_take] at h1
   omega
  obtain ⟨lz, hlo⟩ : ∃ lz, lz = out.length := ⟨_, rfl⟩
  have HLO := lh hlo
  rw [<- hlo] at hO hol
  clear hlo
  obtain ⟨A8, c8, hu8, _, _, hxx⟩ := own_form hO (by unfold maxLen; omega)
  clear hxx
  subst hu8
  have HO := lh hO
  clear hO
  have hsr := hbr.size
  have hbwr : Below w.heap.size w wr := ba_via hbr hw2
  by_cases hlt : q < n
  ·have hqx : q < L.length := by rw [<- HN.out]; exact hlt
   have hqi : (q : Int) < n := by omega
   have HNX := lh (spansL_next hqx)
   rw [<- hout.out] at HNX
   obtain ⟨hp1, hp2⟩ := HPL.out q hqx
   have hCS := HC2.out.below hbr
   obtain ⟨b, o, hA2, hbb, hxx⟩ := hCS.at_ (by rw [flat_len prC 4 prC_len]; omega)
   clear hxx
   subst hA2
   have c0 := hCS.row0 prC_len hqx rfl
   have c1' := hCS.rowj prC_len hqx 1 rfl
   have c2' := hCS.rowj prC_len hqx 2 rfl
   have c3' := hCS.rowj prC_len hqx 3 rfl
   have hbl : b < wr.heap.size := by omega
   clear hCS
   generalize L[q] = p at *
   go_upto_region 8 with fail
   have hC10 := Blk.new wr 104 #[.int .i64 p.lo, .int .i64 p.hi, .int .i64 p.there, .int .i64 p.wants]
   have hb10 : Below wr.heap.size wr (wr.alloc (.cells #[.int .i64 p.lo, .int .i64 p.hi, .int .i64 p.there, .int .i64 p.wants] 104)) := ba_alloc (Below.refl _ _) _
   generalize (wr.alloc (.cells #[.int .i64 p.lo, .int .i64 p.hi, .int .i64 p.there, .int .i64 p.wants] 104)) = W10 at *
   have HP := lh hC10
   have HB := lh (hbr.trans (hb10.mono hsr))
   have HO5 := lh (own_kept HO.out (fun k hk => hb10.block k (HO.out.lt k hk).2))
   have h10s := hb10.size
   have hsW : w2.heap.size <= W10.heap.size := by omega
   have p0 := hC10.cell 0
   have p1 := hC10.cell 1
   have p2 := hC10.cell 2
   have p3 := hC10.cell 3
   have pl := hC10.lt
   simp only [ga1, ga2, ga3] at p0 p1 p2 p3
   generalize wr.heap.size = g10 at *
   clear c0 c1' c2' c3' hC10 hb10 HO hbr
   by_cases hw : p.wants <= p.there
   ·have bw : decide (p.wants <= p.there) = true := decide_eq_true hw
    have HNE := lh (show out = S.spansL (L.take (q + 1)) by rw [HNX.out]; unfold S.spanNext; rw [if_pos hw])
    clear hw
    go_wp2
    go_roundw
    case rel => exact ⟨q + 1, by omega, by go_num, out, HNE, by rw [<- HLO.out]; exact HO5.out, HB.out⟩
    case measure => simp [intOf]; omega
   ·have bw : decide (p.wants <= p.there) = false := decide_eq_false hw
    rcases List.eq_nil_or_concat out with hnil | ⟨init, q0, hcon⟩
    ·subst hnil
     obtain rfl : lz = 0 := HLO.out
     have b0 : decide ((0 : Int) < ((0 : Nat) : Int)) = false := rfl
     have HNE := lh (show [⟨p.lo, p.hi⟩] = S.spansL (L.take (q + 1)) by rw [HNX.out]; unfold S.spanNext; rw [if_neg hw]; rfl)
     clear hw
     go_upto_region 11 with fail
     go_cut [40] from 41 to 55 (fun s wx => s = .bool false /\ Below W10.heap.size W10 wx)
     case first =>
      go_quiet (fail)
      go_wp2
      go_meet
      exact ⟨rfl, ba_drewN (Below.refl _ _) _⟩
     case rest =>
      obtain ⟨rfl, hbc⟩ := hcut
      generalize wc = W11 at *
      have HP11 := HP.out.via hbc
      have p0 := HP11.cell 0
      have p1 := HP11.cell 1
      have pl := HP11.lt
      simp only [ga1, ga2, ga3] at p0 p1
      have h11s := hbc.size
      have HO6 := lh (own_kept HO5.out (fun k hk => hbc.block k (HO5.out.lt k hk).2))
      have HB6 := lh (HB.out.trans (hbc.mono hsW))
      clear HP11
      go_wp2_with (at_builtin; refine wpList_append_cells rfl (.tmp 29) (.tmp 32) _ rfl elemSpn w2.heap.size _ 0 [] rfl (own_kept HO6.out (fun k hk => (ba_alloc (Below.refl _ _) _).block k (HO6.out.lt k hk).2)) (some ⟨W11.heap.size, 0, none⟩) 1 1 [.int .i64 p.lo, .int .i64 p.hi] _ rfl rfl (Cells.newRow W11 #[.int .i64 p.lo, .int .i64 p.hi] 49 (0, 0)) (by simp [Value.oneCell']) (by unfold maxLen; omega) (by omega) (by simp; omega) ?_; intro v2 wE hOE hbE)
      go_roundw
      case rel => exact ⟨q + 1, by omega, by go_num, [⟨p.lo, p.hi⟩], HNE, hOE, HB6.out.trans (((ba_alloc (Below.refl _ _) _).mono (by omega)).trans hbE)⟩
      case measure => simp [intOf]; omega
    ·rw [List.concat_eq_append] at hcon
     subst hcon
     obtain ⟨z, hz⟩ : ∃ z, z = init.length := ⟨_, rfl⟩
     have hln : (init ++ [q0]).length = lz := HLO.out.symm
     have hlz : lz = z + 1 := by rw [<- hln, hz]; simp
     have hO5 := HO5.out
     rcases hO5.2 with ⟨_, h0⟩ | ⟨g, cap, cur, hv, hbg, hg, hxx⟩
     ·omega
     clear hxx
     injection hv with hA _ hc
     subst hc
     obtain ⟨o8, ho0⟩ : ∃ o8, o8 = 0 := ⟨_, rfl⟩
     have hA' : A8 = some ⟨g, o8, none⟩ := by rw [ho0]; exact hA
     have hO6 := hO5
     rw [hA] at hO6
     clear hA hO5
     subst hA'
     have hq0 := HSB.out q q0 (by rw [<- hout.out]; simp)
     have kh : W10.cell? ⟨g, o8 + z * 2 + 1, none⟩ = some (.int .i64 q0.hi) := by
      rw [ho0, Nat.zero_add, hO6.cellAt (z * 2 + 1) (by omega)]
      have h1 := flat_get snC 2 snC_len (init ++ [q0]) z (by rw [hln]; omega) 1 (by omega)
      rw [h1]
      simp [hz]
     have gl : g < W10.heap.size := (Array.getElem?_eq_some_iff.1 hg).1
     have b0 : decide ((0 : Int) < (lz : Int)) = true := decide_eq_true (by omega)
     have b0n : decide (0 < lz) = true := decide_eq_true (by omega)
     have e1 : IntKind.i64.wrap ((lz : Int) - 1) = (z : Int) := by rw [show ((lz : Int) - 1) = (z : Int) by omega]; exact IntWalk.i64_in _ (by omega)
     have hzl : (z : Int) < lz := by omega
     have e2 : IntKind.i64.wrap (q0.hi + 1) = q0.hi + 1 := IntWalk.i64_in _ (by omega)
     have HO7 := lh hO6
     have HZ := lh hz
     have HLZ := lh hlz
     have HO0 := lh ho0
     clear hO6 hz hlz ho0 hg hq0 HO5
     by_cases heq : q0.hi + 1 = p.lo
     ·have bq : ((q0.hi + 1) == p.lo) = true := by simp [heq]
      have HNE := lh (show init ++ [⟨q0.lo, p.hi⟩] = S.spansL (L.take (q + 1)) by rw [HNX.out]; unfold S.spanNext; rw [if_neg hw]; simp [heq])
      clear hw heq
      go_upto_region 11 with fail
      go_cut [40] from 41 to 55 (fun s wx => s = .bool true /\ Below W10.heap.size W10 wx)
      case first =>
       go_quiet (fail)
       go_wp2
       go_meet
       exact ⟨rfl, ba_drewN (Below.refl _ _) _⟩
      case rest =>
       obtain ⟨rfl, hbc⟩ := hcut
       generalize wc = W11 at *
       have HP11 := HP.out.via hbc
       have p1 := HP11.cell 1
       have pl := HP11.lt
       simp only [ga1, ga2, ga3] at p1
       have HO8 := lh (own_kept HO7.out (fun k hk => hbc.block k (HO7.out.lt k hk).2))
       have HB6 := lh (HB.out.trans (hbc.mono hsW))
       have kh2 := (hbc.cell (p := ⟨g, o8 + z * 2 + 1, none⟩) gl).trans kh
       have fh : W11.frozen? ⟨g, o8 + z * 2 + 1, none⟩ = false := by rw [HO0.out, Nat.zero_add]; exact HO8.out.frozenAt _
       have gl2 : g < W11.heap.size := Nat.lt_of_lt_of_le gl hbc.size
       clear HP11 kh
       go_wp2
       go_roundw
       case rel =>
        refine ⟨q + 1, by omega, by go_num, init ++ [⟨q0.lo, p.hi⟩], HNE, ?_, HB6.out.setCell hbg _⟩
        have h := (HO8.out.stored (z * 2 + 1) (.int .i64 p.hi)).1
        rw [HZ.out, flat_last] at h
        rw [HO0.out, Nat.zero_add, HZ.out]
        rw [HLZ.out, HZ.out] at h ⊢
        simpa using h
       case measure => simp [intOf]; omega
     ·have bq : ((q0.hi + 1) == p.lo) = false := by simp [heq]
      have HNE := lh (show (init ++ [q0]) ++ [⟨p.lo, p.hi⟩] = S.spansL (L.take (q + 1)) by rw [HNX.out]; unfold S.spanNext; rw [if_neg hw]; simp [heq])
      clear hw heq
      go_upto_region 11 with fail
      go_cut [40] from 41 to 55 (fun s wx => s = .bool false /\ Below W10.heap.size W10 wx)
      case first =>
       go_quiet (fail)
       go_wp2
       go_meet
       exact ⟨rfl, ba_drewN (Below.refl _ _) _⟩
      case rest =>
       obtain ⟨rfl, hbc⟩ := hcut
       generalize wc = W11 at *
       have HP11 := HP.out.via hbc
       have p0 := HP11.cell 0
       have p1 := HP11.cell 1
       have pl := HP11.lt
       simp only [ga1, ga2, ga3] at p0 p1
       have h11s := hbc.size
       have HO8 := lh (own_kept HO7.out (fun k hk => hbc.block k (HO7.out.lt k hk).2))
       have HB6 := lh (HB.out.trans (hbc.mono hsW))
       clear HP11 kh
       go_wp2_with (at_builtin; refine wpList_append_cells rfl (.tmp 29) (.tmp 32) _ rfl elemSpn w2.heap.size _ lz ((init ++ [q0]).flatMap snC) rfl (by rw [HO0.out]; exact own_kept HO8.out (fun k hk => (ba_alloc (Below.refl _ _) _).block k (HO8.out.lt k hk).2)) (some ⟨W11.heap.size, 0, none⟩) 1 1 [.int .i64 p.lo, .int .i64 p.hi] _ rfl rfl (Cells.newRow W11 #[.int .i64 p.lo, .int .i64 p.hi] 49 (0, 0)) (by simp [Value.oneCell']) (by unfold maxLen; omega) (by omega) (by simp; omega) ?_; intro v2 wE hOE hbE)
       go_roundw
       case rel =>
        refine ⟨q + 1, by omega, by go_num, (init ++ [q0]) ++ [⟨p.lo, p.hi⟩], HNE, ?_, HB6.out.trans (((ba_alloc (Below.refl _ _) _).mono (by omega)).trans hbE)⟩
        have e3 : (init ++ [q0] ++ [(⟨p.lo, p.hi⟩ : Sp)]).length = lz + 1 := by rw [List.length_append, hln]; rfl
        rw [e3]
        simpa using hOE
       case measure => simp [intOf]; omega
  ·have hqn : q = n := by omega
   have hqi : ¬ ((q : Int) < n) := by omega
   have HE := lh (show out = S.spansL L by rw [hout.out, List.take_of_length_le (by rw [hqn, HN.out]; exact Nat.le_refl _)])
   have hC5 := (own_cells HO.out (by unfold maxLen; omega)).1
   have HLE := lh (show lz = (S.spansL L).length by rw [HLO.out, HE.out])
   clear HO
   subst hqn
   go_wp2
   go_ret2
   rw [HE.out] at hC5
   refine ⟨A8, c8, ?_, hC5, hbwr⟩
   rw [<- HLE.out]
   rfl
def S.firstOf (L : List Sp) : Int × Int := match L with | [] => (0, 12) | t :: _ => (t.lo, 0)
set_option maxHeartbeats 2000000 in
theorem fails_yes (x : Dt) (d : Int) (L : List Sp) (w : World) (hL : L.length <= 400)
 (hSP : ∀ W, Below w.heap.size w W -> Calls Tryz.prog 13 #[dtV x, .int .i64 d] W (GivesSpn L W)) :
 Calls Tryz.prog 12 #[dtV x, .int .i64 d] w fun e w' => e = .returned (.tuple #[.int .i64 (S.firstOf L).1, .int .i64 (S.firstOf L).2]) /\ Below w.heap.size w w' := by
 have HSP := lh hSP
 clear hSP
 unfold dtV at HSP
 unfold dtV
 have hDB := Blk.new w 34 (dtc x)
 have hW1 : Below w.heap.size w (w.alloc (.cells (dtc x) 34)) := ba_alloc (Below.refl _ _) _
 go_enter Tryz.func12, Tryz.ntmps12
 go_upto_region 1 with fail
 generalize (w.alloc (.cells (dtc x) 34)) = W1 at *
 have HDB := lh hDB
 clear hDB
 go_upto_region 4 with (first
  | ((with_reducible refine at_load 34 2 ?_); refine wpList_load_mid rfl 34 (.tmp 2) rfl _ _ rfl _ _ (HDB.out.via belr).range Tryz.underlying34 rfl (by kernel_rfl) ?_)
  | (go_at_call 13; (with_reducible refine (HSP.out _ belr).mono ?_); rintro e w2 ⟨A2, c2, rfl, hC2, hbw2⟩))
 have hw2 : Below w.heap.size w w2 := ba_via hbw2 hW1
 clear HSP HDB hW1 hbw2
 cases L with
 | nil =>
  clear hC2
  go_wp2
  go_ret2
  exact ⟨rfl, hw2⟩
 | cons t r =>
  obtain ⟨b, o, rfl, hb, hc⟩ := hC2.at_ (by simp)
  have c0 := hc 0 (.int .i64 t.lo) rfl
  obtain ⟨lz, hlz⟩ : ∃ lz, lz = (t :: r).length := ⟨_, rfl⟩
  have hz1 : (0 : Int) < lz := by rw [hlz]; simp
  have hz : ((lz : Int) == 0) = false := by simp; omega
  have hz2 : 0 < lz := by omega
  rw [<- hlz]
  simp only [Nat.add_zero] at c0
  clear hc hC2 hlz
  go_wp2
  go_ret2
  exact ⟨rfl, hw2⟩
section
variable {x : Dt} {ds : List Dm} {w : World}
theorem sec_dem (h : DtOk w x ds) {k : Nat} {dm : Dm} (hk : ds[k]? = some dm) : ∀ W, Below w.heap.size w W -> ∃ bD oD, x.dA = some ⟨bD, oD, none⟩ /\ bD < W.heap.size /\ ∀ j v, (dmC dm)[j]? = some v -> W.cell? ⟨bD, oD + k * 8 + j, none⟩ = some v := fun W hw => by
 obtain ⟨hkx, hkd⟩ := List.getElem?_eq_some_iff.1 hk
 have hc := (h.dems.at_ (Nat.le_refl _) hw).cells
 obtain ⟨b2, o2, hA2, hb2, hx⟩ := hc.at_ (by rw [flat_len dmC 8 dmC_len]; omega)
 clear hx
 rw [hA2] at hc
 exact ⟨b2, o2, hA2, Nat.lt_of_lt_of_le hb2 hw.size, fun j v hv => hc.rowj dmC_len hkx j (by rw [hkd]; exact hv)⟩
theorem dem_steps (hlk : S.look x (S.dems ds) = true) {k : Nat} {dm : Dm} (hk : ds[k]? = some dm) : S.steps dm.st = true /\ dm.st.length <= 200 := by
 have hr := dems_at (look_ok hlk).dems hk
 unfold S.demRight at hr
 simp only [Bool.and_eq_true] at hr
 have hs := hr.2
 refine ⟨hs, ?_⟩
 unfold S.steps at hs
 simp only [Bool.and_eq_true, decide_eq_true_eq] at hs
 exact hs.1
def S.partsD (x : Dt) (rs : List Rod) (dm : Dm) : List Prt := S.partsOf (S.supplyOf x rs (S.cOf x) dm.zone) dm.st
theorem partsD_len (h : DtOk w x ds) (hlk : S.look x (S.dems ds) = true) (hC : (S.cOf x).length <= 100) {k : Nat} {dm : Dm} (hk : ds[k]? = some dm) {rs : List Rod} (hrs : RodsOf x (S.nOf x) rs) : (S.partsD x rs dm).length <= 400 := by
 unfold S.partsD
 rw [partsOf_len]
 have h1 := spots_len (S.supplyOf x rs (S.cOf x) dm.zone) dm.st
 have h2 := sup_steps h hlk hC dm.zone hrs
 have h3 := (dem_steps hlk hk).2
 omega
theorem good_parts (h : DtOk w x ds) (hlk : S.look x (S.dems ds) = true) (hC : (S.cOf x).length <= 100) {k : Nat} {dm : Dm} (hk : ds[k]? = some dm) {rs : List Rod} (hrs : RodsOf x (S.nOf x) rs) :
 ∀ W, Below w.heap.size w W -> Calls Tryz.prog 42 #[dtV x, .int .i64 k] W (GivesPr (S.partsD x rs dm) W) := fun W hw => by
 have hkx : k < ds.length := (List.getElem?_eq_some_iff.1 hk).1
 have hdl := h.dems.len
 have hst := (h.dems.each dm (List.mem_of_getElem? hk))
 have hg : S.given27 x ds k = 0 := by
  unfold S.given27 S.given26
  rw [if_neg (by rw [hlk]; simp), if_neg]
  rintro (h1 | h1 | h1)
  ·omega
  ·omega
  ·exact absurd h1 (by decide)
 have hKN := good_known h (k : Int)
 rw [hg] at hKN
 exact parts_yes x k (S.supplyOf x rs (S.cOf x) dm.zone) dm W (by omega) (sup_steps h hlk hC dm.zone hrs) (sup_valid hlk hC hrs dm.zone) (dem_steps hlk hk).1 (by have := hst.len; have := (dem_steps hlk hk).2; omega)
  (fun V hV => sec_dem h hk V (hw.trans (hV.mono hw.size))) (fun V hV => (fun (a : StepsAt V w.heap.size dm.A dm.n dm.st) => (⟨a.len, a.max, a.cells.mono hw.size⟩ : StepsAt V W.heap.size dm.A dm.n dm.st)) ((h.dems.at_ (Nat.le_refl _) (hw.trans (hV.mono hw.size))).each dm (List.mem_of_getElem? hk)))
  (fun V hV => hKN V (hw.trans (hV.mono hw.size))) (fun V hV => good_Of h hlk hC hk hrs V (hw.trans (hV.mono hw.size)))
theorem good_Spans (h : DtOk w x ds) (hlk : S.look x (S.dems ds) = true) (hC : (S.cOf x).length <= 100) {k : Nat} {dm : Dm} (hk : ds[k]? = some dm) {rs : List Rod} (hrs : RodsOf x (S.nOf x) rs) :
 ∀ W, Below w.heap.size w W -> Calls Tryz.prog 13 #[dtV x, .int .i64 k] W (GivesSpn (S.spansL (S.partsD x rs dm)) W) := fun W hw => by
 have hP : PartsOk (S.partsD x rs dm) := parts_ok (spots_place (sup_valid hlk hC hrs dm.zone) (dem_steps hlk hk).1)
 refine spans_yes x k (S.partsD x rs dm) W (partsD_len h hlk hC hk hrs) hP.first (fun j t ht => ?_) (fun V hV => good_parts h hlk hC hk hrs V (hw.trans (hV.mono hw.size)))
 by_cases hj : j <= (S.partsD x rs dm).length
 ·have := (spans_inv hP j hj).good t ht
  omega
 ·rw [List.take_of_length_le (by omega), <- List.take_length (l := S.partsD x rs dm)] at ht
  have := (spans_inv hP (S.partsD x rs dm).length (Nat.le_refl _)).good t ht
  omega
theorem good_Fails (h : DtOk w x ds) (hlk : S.look x (S.dems ds) = true) (hC : (S.cOf x).length <= 100) {k : Nat} {dm : Dm} (hk : ds[k]? = some dm) {rs : List Rod} (hrs : RodsOf x (S.nOf x) rs) :
 ∀ W, Below w.heap.size w W -> Calls Tryz.prog 12 #[dtV x, .int .i64 k] W fun e w' => e = .returned (.tuple #[.int .i64 (S.firstOf (S.spansL (S.partsD x rs dm))).1, .int .i64 (S.firstOf (S.spansL (S.partsD x rs dm))).2]) /\ Below W.heap.size W w' := fun W hw =>
 fails_yes x k _ W (Nat.le_trans (spansL_len _) (partsD_len h hlk hC hk hrs)) (fun V hV => good_Spans h hlk hC hk hrs V (hw.trans (hV.mono hw.size)))
end
def S.ratioOf (a b : Int) : Int × Int × Int := if b = 0 then (0, 0, 16) else (a / gcdI a b, b / gcdI a b, 0)
theorem make_zero (a : Int) (w : World) : Calls Tryz.prog 50 #[.int .i64 a, .int .i64 0] w fun e w' => e = .returned (.tuple #[.agg #[.int .i64 0, .int .i64 0], .int .i64 16]) /\ Below w.heap.size w w' := by
 go_enter Tryz.func50, Tryz.ntmps50
 go_wp2
 exact bodyPost_ret (v := .tuple #[.agg #[.int .i64 0, .int .i64 0], .int .i64 16]) (by simp [results, Tryz.results50, go_sem, *]) rfl ⟨rfl, bel⟩
theorem make_all (a b : Int) (w : World) (ha : 0 <= a /\ a <= 1099511627776) (hb : 0 <= b /\ b <= 1099511627776) : Calls Tryz.prog 50 #[.int .i64 a, .int .i64 b] w fun e w' => e = .returned (.tuple #[.agg #[.int .i64 (S.ratioOf a b).1, .int .i64 (S.ratioOf a b).2.1], .int .i64 (S.ratioOf a b).2.2]) /\ Below w.heap.size w w' := by
 unfold S.ratioOf
 by_cases h : b = 0
 ·rw [if_pos h, h]
  exact make_zero a w
 ·rw [if_neg h]
  exact make_any a b w ha.1 (by omega) (by omega) (by omega)
theorem ratio_err (x : Dt) (d p er : Int) (w : World) (he : (er == 0) = false)
 (hKN : ∀ W, Below w.heap.size w W -> Calls Tryz.prog 47 #[dtV x, .int .i64 d] W fun e w' => e = .returned (.int .i64 er) /\ Below W.heap.size W w') :
 Calls Tryz.prog 18 #[dtV x, .int .i64 d, .int .i64 p] w fun e w' => e = .returned (.tuple #[.agg #[.int .i64 0, .int .i64 0], .int .i64 er]) /\ Below w.heap.size w w' := by
 have HKN := lh hKN
 have he2 : ¬ (er = 0) := by simpa using he
 have he3 : (er != 0) = true := by simp [he2]
 clear hKN
 unfold dtV at HKN
 unfold dtV
 have hDB := (Blk.new w 34 (dtc x)).alloc (.cells #[.int .i64 0, .int .i64 0] 54)
 have hSB := Blk.newN (W := w.alloc (.cells (dtc x) 34)) (n := w.heap.size + 1) (by simp) 54 #[.int .i64 0, .int .i64 0]
 have hW1 : Below w.heap.size w ((w.alloc (.cells (dtc x) 34)).alloc (.cells #[.int .i64 0, .int .i64 0] 54)) := ba_alloc (ba_alloc (Below.refl _ _) _) _
 go_enter Tryz.func18, Tryz.ntmps18
 go_upto_region 1 with fail
 generalize ((w.alloc (.cells (dtc x) 34)).alloc (.cells #[.int .i64 0, .int .i64 0] 54)) = W1 at *
 have HDB := lh hDB
 clear hDB
 go_upto_region 2 with (first
  | ((with_reducible refine at_load 34 3 ?_); refine wpList_load_mid rfl 34 (.tmp 3) rfl _ _ rfl _ _ (HDB.out.via belr).range Tryz.underlying34 rfl (by kernel_rfl) ?_)
  | (go_at_call 47; (with_reducible refine (HKN.out _ belr).mono ?_); rintro e w2 ⟨rfl, hbw2⟩))
 have hS2 := hSB.via hbw2
 have s0 := hS2.cell 0
 have s1 := hS2.cell 1
 have sf0 := hS2.frozen 0
 have sf1 := hS2.frozen 1
 have sl := hS2.lt
 simp only [ga1, ga2, ga3] at s0 s1
 have hw2 : Below w.heap.size w w2 := ba_via hbw2 hW1
 clear HDB HKN hSB hS2
 go_wp2
 exact bodyPost_ret (v := .tuple #[.agg #[.int .i64 0, .int .i64 0], .int .i64 er]) (by simp [results, Tryz.results18, go_sem, *]) rfl ⟨rfl, (hw2.setCell (Nat.le_succ _) _).setCell (Nat.le_succ _) _⟩
set_option maxHeartbeats 1000000 in
theorem ratio_out (x : Dt) (d p : Int) (w : World) (hp : S.place p = false)
 (hKN : ∀ W, Below w.heap.size w W -> Calls Tryz.prog 47 #[dtV x, .int .i64 d] W fun e w' => e = .returned (.int .i64 0) /\ Below W.heap.size W w') :
 Calls Tryz.prog 18 #[dtV x, .int .i64 d, .int .i64 p] w fun e w' => e = .returned (.tuple #[.agg #[.int .i64 0, .int .i64 0], .int .i64 2]) /\ Below w.heap.size w w' := by
 have HKN := lh hKN
 have HPL := lh (fun W => hp ▸ secplace_any p W)
 clear hKN
 unfold dtV at HKN
 unfold dtV
 have hDB := (Blk.new w 34 (dtc x)).alloc (.cells #[.int .i64 0, .int .i64 0] 54)
 have hSB := Blk.newN (W := w.alloc (.cells (dtc x) 34)) (n := w.heap.size + 1) (by simp) 54 #[.int .i64 0, .int .i64 0]
 have hW1 : Below w.heap.size w ((w.alloc (.cells (dtc x) 34)).alloc (.cells #[.int .i64 0, .int .i64 0] 54)) := ba_alloc (ba_alloc (Below.refl _ _) _) _
 go_enter Tryz.func18, Tryz.ntmps18
 go_upto_region 1 with fail
 generalize ((w.alloc (.cells (dtc x) 34)).alloc (.cells #[.int .i64 0, .int .i64 0] 54)) = W1 at *
 have HDB := lh hDB
 clear hDB
 go_upto_region 4 with (first
  | ((with_reducible refine at_load 34 3 ?_); refine wpList_load_mid rfl 34 (.tmp 3) rfl _ _ rfl _ _ (HDB.out.via belr).range Tryz.underlying34 rfl (by kernel_rfl) ?_)
  | (go_at_call 47; (with_reducible refine (HKN.out _ belr).mono ?_); rintro e w2 ⟨rfl, hbw2⟩))
 have hS2 := hSB.via hbw2
 have s0 := hS2.cell 0
 have s1 := hS2.cell 1
 have sf0 := hS2.frozen 0
 have sf1 := hS2.frozen 1
 have sl := hS2.lt
 simp only [ga1, ga2, ga3] at s0 s1
 have hw2 : Below w.heap.size w w2 := ba_via hbw2 hW1
 clear HDB HKN hSB hS2
 go_wp2_with (go_at_call 48; (with_reducible refine (HPL.out _).mono ?_); rintro e w' ⟨rfl, rfl⟩)
 exact bodyPost_ret (v := .tuple #[.agg #[.int .i64 0, .int .i64 0], .int .i64 2]) (by simp [results, Tryz.results18, go_sem, *]) rfl ⟨rfl, (hw2.setCell (Nat.le_succ _) _).setCell (Nat.le_succ _) _⟩
set_option maxRecDepth 20000 in
set_option maxHeartbeats 4000000 in
theorem ratio_yes (x : Dt) (k : Nat) (p a : Int) (dm : Dm) (w : World) (hk : k < x.dn) (hp : S.place p = true) (hwt : S.steps dm.st = true) (hdn : dm.n <= 200) (ha : 0 <= a /\ a <= 1099511627776)
 (hdc : ∀ W, Below w.heap.size w W -> ∃ bD oD, x.dA = some ⟨bD, oD, none⟩ /\ bD < W.heap.size /\ ∀ j v, (dmC dm)[j]? = some v -> W.cell? ⟨bD, oD + k * 8 + j, none⟩ = some v)
 (hds : ∀ W, Below w.heap.size w W -> StepsAt W w.heap.size dm.A dm.n dm.st)
 (hKN : ∀ W, Below w.heap.size w W -> Calls Tryz.prog 47 #[dtV x, .int .i64 k] W fun e w' => e = .returned (.int .i64 0) /\ Below W.heap.size W w')
 (hSA : ∀ W, Below w.heap.size w W -> Calls Tryz.prog 28 #[dtV x, .int .i64 k, .int .i64 p] W fun e w' => e = .returned (.tuple #[.int .i64 a, .int .i64 0]) /\ Below W.heap.size W w') :
 Calls Tryz.prog 18 #[dtV x, .int .i64 k, .int .i64 p] w fun e w' => e = .returned (.tuple #[.agg #[.int .i64 (S.ratioOf a (S.valueOf p dm.st)).1, .int .i64 (S.ratioOf a (S.valueOf p dm.st)).2.1], .int .i64 (S.ratioOf a (S.valueOf p dm.st)).2.2]) /\ Below w.heap.size w w' := by
 have HKN := lh hKN
 have HSA := lh hSA
 have HDC := lh hdc
 have HPL := lh (fun W => hp ▸ secplace_any p W)
 have HSB := lh (fun (W : World) (hw : Below w.heap.size w W) => stAt_any dm.st p dm.A dm.n dm.c w.heap.size W hw.size (hds W hw) (by omega) hwt)
 have HMK := lh (fun W => make_all a (S.valueOf p dm.st) W ha (valueOf_bd hwt p))
 have hki : (k : Int) < x.dn := by omega
 clear hKN hSA hdc hds hwt
 generalize S.ratioOf a (S.valueOf p dm.st) = r at *
 generalize S.valueOf p dm.st = b at *
 unfold dtV at HKN HSA
 unfold dtV
 have hDB := (Blk.new w 34 (dtc x)).alloc (.cells #[.int .i64 0, .int .i64 0] 54)
 have hSB := Blk.newN (W := w.alloc (.cells (dtc x) 34)) (n := w.heap.size + 1) (by simp) 54 #[.int .i64 0, .int .i64 0]
 have hW1 : Below w.heap.size w ((w.alloc (.cells (dtc x) 34)).alloc (.cells #[.int .i64 0, .int .i64 0] 54)) := ba_alloc (ba_alloc (Below.refl _ _) _) _
 go_enter Tryz.func18, Tryz.ntmps18
 go_upto_region 1 with fail
 generalize ((w.alloc (.cells (dtc x) 34)).alloc (.cells #[.int .i64 0, .int .i64 0] 54)) = W1 at *
 have HDB := lh hDB
 clear hDB
 go_upto_region 6 with (first
  | ((with_reducible refine at_load 34 3 ?_); refine wpList_load_mid rfl 34 (.tmp 3) rfl _ _ rfl _ _ (HDB.out.via belr).range Tryz.underlying34 rfl (by kernel_rfl) ?_)
  | (go_at_call 47; (with_reducible refine (HKN.out _ belr).mono ?_); rintro e w2 ⟨rfl, hbw2⟩)
  | (go_at_call 48; (with_reducible refine (HPL.out _).mono ?_); rintro e w' ⟨rfl, rfl⟩))
 have hw2 : Below w.heap.size w w2 := ba_via hbw2 hW1
 obtain ⟨bD, oD, hdA, hbD, hdm⟩ := HDC.out w2 hw2
 have k7 := hdm 7 _ rfl
 have HD2 := lh (HDB.out.via hbw2)
 have hDx := HD2.out
 have d9 := hDx.cell 9
 have dl := hDx.lt
 simp only [ga1, ga2, ga3] at d9
 rw [hdA] at d9
 have HS2 := lh (hSB.via hbw2)
 have HSA2 := lh (fun (W : World) (hw : Below w2.heap.size w2 W) => HSA.out W (ba_via hw hw2))
 clear hdm hDx HDB HKN hSB HSA hdA
 go_upto_region 9 with (go_at_call 49; (with_reducible refine (HSB.out _ hw2).mono ?_); rintro e w3 ⟨rfl, hbw3⟩)
 have HD3 := lh (HD2.out.via hbw3)
 clear HD2 d9 dl k7
 go_upto_region 12 with (first
  | ((with_reducible refine at_load 34 3 ?_); refine wpList_load_mid rfl 34 (.tmp 3) rfl _ _ rfl _ _ (HD3.out.via belr).range Tryz.underlying34 rfl (by kernel_rfl) ?_)
  | (go_at_call 28; (with_reducible refine (HSA2.out _ (ba_via belr hbw3)).mono ?_); rintro e w4 ⟨rfl, hbw4⟩))
 have h24 : Below w2.heap.size w2 w4 := ba_via hbw4 hbw3
 have HS4 := lh (HS2.out.via h24)
 have hw4 : Below w.heap.size w w4 := ba_via h24 hw2
 clear HD3 HSA2 HS2
 go_wp2_with (go_at_call 50; (with_reducible refine (HMK.out _).mono ?_); rintro e w5 ⟨rfl, hbw5⟩; have hS5 := HS4.out.via hbw5; have s0 := hS5.cell 0; have s1 := hS5.cell 1; have sf0 := hS5.frozen 0; have sf1 := hS5.frozen 1; have sl := hS5.lt; simp only [ga1, ga2, ga3] at s0 s1; clear HS4 hS5)
 have hw5 : Below w.heap.size w w5 := ba_via hbw5 hw4
 exact bodyPost_ret (v := .tuple #[.agg #[.int .i64 r.1, .int .i64 r.2.1], .int .i64 r.2.2]) (by simp [results, Tryz.results18, go_sem, *]) rfl ⟨rfl, (hw5.setCell (Nat.le_succ _) _).setCell (Nat.le_succ _) _⟩
section
variable {x : Dt} {ds : List Dm} {w : World}
theorem sup_at {p : Int} (hp : -1048576 <= p) (hlk : S.look x (S.dems ds) = true) {rs : List Rod} (hrs : RodsOf x (S.nOf x) rs) (z : Bx) : S.supplyAt x rs (S.cOf x) z p = S.valueOf p (S.supplyOf x rs (S.cOf x) z) := (supplyOf_value z hp (sch_span hlk hrs)).symm
def S.ratioD (x : Dt) (rs : List Rod) (dm : Dm) (p : Int) : Int × Int × Int := if S.place p then S.ratioOf (S.valueOf p (S.supplyOf x rs (S.cOf x) dm.zone)) (S.valueOf p dm.st) else (0, 0, 2)
theorem good_Ratio (h : DtOk w x ds) (hlk : S.look x (S.dems ds) = true) (hC : (S.cOf x).length <= 100) {k : Nat} {dm : Dm} (hk : ds[k]? = some dm) (p : Int) {rs : List Rod} (hrs : RodsOf x (S.nOf x) rs) :
 ∀ W, Below w.heap.size w W -> Calls Tryz.prog 18 #[dtV x, .int .i64 k, .int .i64 p] W fun e w' => e = .returned (.tuple #[.agg #[.int .i64 (S.ratioD x rs dm p).1, .int .i64 (S.ratioD x rs dm p).2.1], .int .i64 (S.ratioD x rs dm p).2.2]) /\ Below W.heap.size W w' := fun W hw => by
 have hkx : k < ds.length := (List.getElem?_eq_some_iff.1 hk).1
 have hdl := h.dems.len
 have hst := (h.dems.each dm (List.mem_of_getElem? hk))
 have hg : S.given27 x ds k = 0 := by
  unfold S.given27 S.given26
  rw [if_neg (by rw [hlk]; simp), if_neg]
  rintro (h1 | h1 | h1)
  ·omega
  ·omega
  ·exact absurd h1 (by decide)
 have hKN := good_known h (k : Int)
 rw [hg] at hKN
 unfold S.ratioD
 cases hp : S.place p
 ·rw [if_neg (by decide)]
  exact ratio_out x k p W hp (fun V hV => hKN V (hw.trans (hV.mono hw.size)))
 ·rw [if_pos rfl]
  have hpp : -1048576 <= p /\ p <= 1048576 := by unfold S.place at hp; simpa using hp
  have hbd := valueOf_bd (sup_valid hlk hC hrs dm.zone) p
  have hAT := good_At h hlk hk hpp hrs
  rw [sup_at hpp.1 hlk hrs] at hAT
  exact ratio_yes x k p _ dm W (by omega) hp (dem_steps hlk hk).1 (by have := hst.len; have := (dem_steps hlk hk).2; omega) hbd
   (fun V hV => sec_dem h hk V (hw.trans (hV.mono hw.size))) (fun V hV => (fun (a : StepsAt V w.heap.size dm.A dm.n dm.st) => (⟨a.len, a.max, a.cells.mono hw.size⟩ : StepsAt V W.heap.size dm.A dm.n dm.st)) ((h.dems.at_ (Nat.le_refl _) (hw.trans (hV.mono hw.size))).each dm (List.mem_of_getElem? hk)))
   (fun V hV => hKN V (hw.trans (hV.mono hw.size))) (fun V hV => hAT V (hw.trans (hV.mono hw.size)))
end
abbrev strA : ByteArray := ⟨#[97]⟩
abbrev strM : ByteArray := ⟨#[109]⟩
abbrev strD : ByteArray := ⟨#[100]⟩
abbrev box7 : Array Value := #[.int .i64 0, .int .i64 0, .int .i64 0, .int .i64 1000, .int .i64 200, .int .i64 300]
abbrev barArr7 (g : Nat) : Array Value := #[.string strA, .int .i64 10, .int .i64 1, .int .i64 0, .slice (some ⟨g, 0, none⟩) 1 1]
abbrev runArr7 : Array Value := #[.string strA, .int .i64 1, .int .i64 2, .int .i64 0, .int .i64 50, .int .i64 40, .int .i64 0, .int .i64 0, .int .i64 0, .int .i64 1]
abbrev stArr7 : Array Value := #[.int .i64 300, .int .i64 5000, .int .i64 500, .int .i64 0]
abbrev demArr7 (g : Nat) : Array Value := #[.string strD, .int .i64 0, .int .i64 0, .int .i64 0, .int .i64 1000, .int .i64 200, .int .i64 100, .slice (some ⟨g, 0, none⟩) 2 2]
abbrev exL7 (gx gb gr gd : Nat) : List Value := [.string strM, .slice (some ⟨gx, 0, none⟩) 1 1, .slice none 0 0, .int .i64 0, .int .i64 16, .int .i64 40, .slice (some ⟨gb, 0, none⟩) 1 1, .slice (some ⟨gr, 0, none⟩) 1 1, .slice none 0 0, .slice (some ⟨gd, 0, none⟩) 1 1,
 .int .i64 40, .int .i64 1, .int .i64 1, .int .i64 1, .int .i64 1, .int .i64 1, .int .i64 1, .int .i64 1, .int .i64 0]
structure ExBlks7 (w : World) (gx g gb gr gs gd : Nat) : Prop where
 box : Blk w gx 78 box7
 dims : Blk w g 3 #[.int .i64 1000]
 bar : Blk w gb 138 (barArr7 g)
 run : Blk w gr 142 runArr7
 stp : Blk w gs 136 stArr7
 dem : Blk w gd 81 (demArr7 gs)
theorem ba_exc7 {w W W' : World} (h : Below w.heap.size w W) (hX : Exc [w.heap.size] W W') : Below w.heap.size w W' :=
 ⟨hX.os.trans h.os, hX.tape.trans h.tape, hX.output.trans h.output, Nat.le_trans h.size hX.size, fun k hk => (hX.block k (Nat.lt_of_lt_of_le hk h.size) (by simp; omega)).trans (h.block k hk)⟩
set_option maxRecDepth 20000 in
set_option maxHeartbeats 800000 in
theorem example27_any (w : World) : Calls Tryz.prog 38 #[] w fun e w' => ∃ gx g gb gr gs gd, e = .returned (.agg (exL7 gx gb gr gd).toArray) /\ ExBlks7 w' gx g gb gr gs gd /\ Below w.heap.size w w' := by
 go_enter Tryz.func38, Tryz.ntmps38
 go_upto_region 1 with fail
 have hD0 : Blk (w.alloc (.cells #[.string ⟨#[]⟩, .slice none 0 0, .slice none 0 0, .int .i64 0, .int .i64 0, .int .i64 0, .slice none 0 0, .slice none 0 0, .slice none 0 0, .slice none 0 0, .int .i64 0, .int .i64 0, .int .i64 0, .int .i64 0, .int .i64 0, .int .i64 0, .int .i64 0, .int .i64 0, .int .i64 0] 34)) w.heap.size 34 #[.string ⟨#[]⟩, .slice none 0 0, .slice none 0 0, .int .i64 0, .int .i64 0, .int .i64 0, .slice none 0 0, .slice none 0 0, .slice none 0 0, .slice none 0 0, .int .i64 0, .int .i64 0, .int .i64 0, .int .i64 0, .int .i64 0, .int .i64 0, .int .i64 0, .int .i64 0, .int .i64 0] := Blk.new _ _ _
 have hb3 : Below w.heap.size w (w.alloc (.cells #[.string ⟨#[]⟩, .slice none 0 0, .slice none 0 0, .int .i64 0, .int .i64 0, .int .i64 0, .slice none 0 0, .slice none 0 0, .slice none 0 0, .slice none 0 0, .int .i64 0, .int .i64 0, .int .i64 0, .int .i64 0, .int .i64 0, .int .i64 0, .int .i64 0, .int .i64 0, .int .i64 0] 34)) := ba_alloc (Below.refl _ _) _
 generalize (w.alloc (.cells #[.string ⟨#[]⟩, .slice none 0 0, .slice none 0 0, .int .i64 0, .int .i64 0, .int .i64 0, .slice none 0 0, .slice none 0 0, .slice none 0 0, .slice none 0 0, .int .i64 0, .int .i64 0, .int .i64 0, .int .i64 0, .int .i64 0, .int .i64 0, .int .i64 0, .int .i64 0, .int .i64 0] 34)) = w1 at *
 go_wp2_with (
  (with_reducible refine at_store 34 0 21 ?_
   go_loud (
   have hBox := (((((Blk.new w1 78 box7).alloc (.cells #[.int .i64 1000] 3)).alloc (.cells (barArr7 (w1.heap.size + 1)) 138)).alloc (.cells runArr7 142)).alloc (.cells stArr7 136)).alloc (.cells (demArr7 (w1.heap.size + 1 + 1 + 1 + 1)) 81)
   have hDim := ((((Blk.newN (W := w1.alloc (.cells box7 78)) (n := w1.heap.size + 1) (by simp) 3 #[.int .i64 1000]).alloc (.cells (barArr7 (w1.heap.size + 1)) 138)).alloc (.cells runArr7 142)).alloc (.cells stArr7 136)).alloc (.cells (demArr7 (w1.heap.size + 1 + 1 + 1 + 1)) 81)
   have hBar := (((Blk.newN (W := (w1.alloc (.cells box7 78)).alloc (.cells #[.int .i64 1000] 3)) (n := w1.heap.size + 1 + 1) (by simp) 138 (barArr7 (w1.heap.size + 1))).alloc (.cells runArr7 142)).alloc (.cells stArr7 136)).alloc (.cells (demArr7 (w1.heap.size + 1 + 1 + 1 + 1)) 81)
   have hRun := ((Blk.newN (W := ((w1.alloc (.cells box7 78)).alloc (.cells #[.int .i64 1000] 3)).alloc (.cells (barArr7 (w1.heap.size + 1)) 138)) (n := w1.heap.size + 1 + 1 + 1) (by simp) 142 runArr7).alloc (.cells stArr7 136)).alloc (.cells (demArr7 (w1.heap.size + 1 + 1 + 1 + 1)) 81)
   have hStp := (Blk.newN (W := (((w1.alloc (.cells box7 78)).alloc (.cells #[.int .i64 1000] 3)).alloc (.cells (barArr7 (w1.heap.size + 1)) 138)).alloc (.cells runArr7 142)) (n := w1.heap.size + 1 + 1 + 1 + 1) (by simp) 136 stArr7).alloc (.cells (demArr7 (w1.heap.size + 1 + 1 + 1 + 1)) 81)
   have hDem := Blk.newN (W := ((((w1.alloc (.cells box7 78)).alloc (.cells #[.int .i64 1000] 3)).alloc (.cells (barArr7 (w1.heap.size + 1)) 138)).alloc (.cells runArr7 142)).alloc (.cells stArr7 136)) (n := w1.heap.size + 1 + 1 + 1 + 1 + 1) (by simp) 81 (demArr7 (w1.heap.size + 1 + 1 + 1 + 1))
   have hDz : Blk (((((((w1.alloc (.cells box7 78)).alloc (.cells #[.int .i64 1000] 3)).alloc (.cells (barArr7 (w1.heap.size + 1)) 138)).alloc (.cells runArr7 142)).alloc (.cells stArr7 136)).alloc (.cells (demArr7 (w1.heap.size + 1 + 1 + 1 + 1)) 81))) w.heap.size 34 #[.string ⟨#[]⟩, .slice none 0 0, .slice none 0 0, .int .i64 0, .int .i64 0, .int .i64 0, .slice none 0 0, .slice none 0 0, .slice none 0 0, .slice none 0 0, .int .i64 0, .int .i64 0, .int .i64 0, .int .i64 0, .int .i64 0, .int .i64 0, .int .i64 0, .int .i64 0, .int .i64 0] := ((((((hD0.alloc _).alloc _).alloc _).alloc _).alloc _).alloc _)
   have hgb : w.heap.size < w1.heap.size := hD0.lt
   have hbel : Below w.heap.size w ((((((w1.alloc (.cells box7 78)).alloc (.cells #[.int .i64 1000] 3)).alloc (.cells (barArr7 (w1.heap.size + 1)) 138)).alloc (.cells runArr7 142)).alloc (.cells stArr7 136)).alloc (.cells (demArr7 (w1.heap.size + 1 + 1 + 1 + 1)) 81)) := belr
   clear hD0 hb3
   generalize ((((((w1.alloc (.cells box7 78)).alloc (.cells #[.int .i64 1000] 3)).alloc (.cells (barArr7 (w1.heap.size + 1)) 138)).alloc (.cells runArr7 142)).alloc (.cells stArr7 136)).alloc (.cells (demArr7 (w1.heap.size + 1 + 1 + 1 + 1)) 81)) = WD at *
   generalize w1.heap.size = g1 at *
   have hPut : Blk (WD.setCells w.heap.size 0 (exL7 g1 (g1 + 1 + 1) (g1 + 1 + 1 + 1) (g1 + 1 + 1 + 1 + 1 + 1)).toArray.toList) w.heap.size 34 (exL7 g1 (g1 + 1 + 1) (g1 + 1 + 1 + 1) (g1 + 1 + 1 + 1 + 1 + 1)).toArray := Blk.put0 hDz (exL7 g1 (g1 + 1 + 1) (g1 + 1 + 1 + 1) (g1 + 1 + 1 + 1 + 1 + 1)).toArray rfl
   have hXs : Exc [w.heap.size] WD (WD.setCells w.heap.size 0 (exL7 g1 (g1 + 1 + 1) (g1 + 1 + 1 + 1) (g1 + 1 + 1 + 1 + 1 + 1)).toArray.toList) := exc_setCells _ _ _ _
   have hTh : WD.there w.heap.size 0 (exL7 g1 (g1 + 1 + 1) (g1 + 1 + 1 + 1) (g1 + 1 + 1 + 1 + 1 + 1)).toArray.size := hDz.there (by simp)
   refine wpList_store_mid rfl 34 (.tmp 0) (.tmp 21) rfl w.heap.size 0 (exL7 g1 (g1 + 1 + 1) (g1 + 1 + 1 + 1) (g1 + 1 + 1 + 1 + 1 + 1)).toArray rfl rfl hTh (by kernel_rfl) (all_oneCell_toArray (by simp [Value.oneCell'])) ?_
   generalize (WD.setCells w.heap.size 0 (exL7 g1 (g1 + 1 + 1) (g1 + 1 + 1 + 1) (g1 + 1 + 1 + 1 + 1 + 1)).toArray.toList) = WF at *)))
 have hbF : Below w.heap.size w WF := ba_exc7 hbel hXs
 refine bodyPost_ret (v := .agg (exL7 g1 (g1 + 1 + 1) (g1 + 1 + 1 + 1) (g1 + 1 + 1 + 1 + 1 + 1)).toArray) ?_ rfl ⟨_, g1 + 1, _, _, g1 + 1 + 1 + 1 + 1, _, rfl, ⟨hBox.exc hXs (by simp; omega), hDim.exc hXs (by simp; omega), hBar.exc hXs (by simp; omega), hRun.exc hXs (by simp; omega), hStp.exc hXs (by simp; omega), hDem.exc hXs (by simp; omega)⟩, hbF⟩
 have hres : (loadVar 34 ⟨w.heap.size, 0, none⟩).run Tryz.prog WF = .ok (.agg (exL7 g1 (g1 + 1 + 1) (g1 + 1 + 1 + 1) (g1 + 1 + 1 + 1 + 1 + 1)).toArray) WF := run_loadVar_mid WF w.heap.size 0 _ _ _ hPut.range Tryz.underlying34 rfl (by kernel_rfl)
 have ha : (asAddr (.pointer (some ⟨w.heap.size, 0, none⟩))).run Tryz.prog WF = .ok ⟨w.heap.size, 0, none⟩ WF := by kernel_rfl
 simp [results, Tryz.results38, Act.put, ha, hres, Result.andThen]
end Go.Proofs.YtmfpbafpnoomeaaGreat
