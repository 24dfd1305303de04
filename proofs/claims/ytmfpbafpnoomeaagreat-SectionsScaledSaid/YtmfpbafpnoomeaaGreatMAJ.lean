/- Lemmas. -/
import Derived.Laws.OwnMore
import Derived.Test.YtmfpbafpnoomeaaGreatMAG
import Derived.Test.YtmfpbafpnoomeaaGreatMAH
import Derived.Test.YtmfpbafpnoomeaaGreatMAI
set_option linter.unusedVariables false
set_option linter.unusedSimpArgs false
namespace Go.Proofs.YtmfpbafpnoomeaaGreat
open Go.RowKit
theorem run_append_none {P : Program} {w : World} (base : Nat) (t ty e : TypeId) (i : TypeInfo) (size : Nat) (ht : P.underlying t = some (.slice e)) (hi : P.info? e = some i)
 (v : Value) (n : Nat) (xs : List Value) (c : Nat) (hown : w.ownsRow base e size v n xs) :
 (Builtin.append_ #[t, t] ty #[v, .slice none 0 c]).run P w = .ok v w := by
 rcases hown.2 with ⟨rfl, rfl⟩ | ⟨g, cap, cur, rfl, _, _, hnc, _⟩
 ·simp [Builtin.append_, run_underlying ht, sizeOf, typeInfo, hi, Builtin.lenOf, Builtin.firstCells]
 ·simp [Builtin.append_, run_underlying ht, sizeOf, typeInfo, hi, Builtin.lenOf, Builtin.firstCells, hnc, storeCells]
theorem wpList_append_none {P : Program} {w : World} {ops : Array Oper} {rest : List Oper} {o : Oper} {a : Act} {Q : Exit -> Act -> World -> Prop} (hgd : o.guard = none) (s x : Operand) (t : TypeId)
 (ho : o.op = .call { callee := .builtin .append, args := #[s, x], argTypes := #[t, t] })
 (base : Nat) (e : TypeId) (i : TypeInfo) (size : Nat) (ht : P.underlying t = some (.slice e)) (hi : P.info? e = some i)
 (v : Value) (n : Nat) (xs : List Value) (c : Nat) (hs : a.eval s = v) (hown : w.ownsRow base e size v n xs) (hx : a.eval x = .slice none 0 c)
 (h : wpList P ops Q rest (a.put o.dst v) w) : wpList P ops Q (o :: rest) a w := by
 refine wpList_plain hgd fun K hK => ?_
 have hrun := run_append_none (P := P) (w := w) base t o.type e i size ht hi v n xs c hown
 unfold Oper.wp
 simp [execOp, ho, resolve, invoke, builtin, hs, hx, hrun, Result.andThen]
 exact hK _ _ h
theorem grow_any (n : Nat) (w : World) (hn : n <= 1000) :
 Calls Tryz.prog 96 #[.slice none 0 0, .int .i64 n] w fun e w' => ∃ v, e = .returned v /\ w'.ownsRow w.heap.size 136 2 v 0 [] /\ Below w.heap.size w w' := by
 by_cases h0 : n = 0
 ·subst h0
  refine (Any8.slices_Grow_room Tryz.growSt none 0 0 0 w (by omega) (by omega) (by omega) (by omega)).mono ?_
  rintro e w' ⟨rfl, rfl⟩
  exact ⟨_, rfl, World.ownsRow_nil _ _ _ _, Below.refl _ _⟩
 ·obtain ⟨i0, hi, hz0, hz1, hz2⟩ := info_parts elemSt.info
  refine (Any8.slices_Grow_grow Tryz.growSt i0 _ hi hz0 (by rw [hz1]; decide) none 0 0 n [] w (by omega) (by omega) (by rw [hz2]; omega) (by omega) (by simp) (fun _ => rfl) (fun a ha => by cases ha)).mono ?_
  rintro e w' ⟨rfl, rfl⟩
  have hle := grownCap_le_maxLen w (0 + n) 0 (Tryz.growSt_ren.t 25) (by unfold maxLen; omega)
  have hge := grownCap_ge w (0 + n) 0 (Tryz.growSt_ren.t 25)
  refine ⟨_, rfl, ⟨rfl, .inr ⟨w.heap.size, _, _, rfl, Nat.le_refl _, heap_alloc_new w.drew _, Nat.zero_le _, hle, ?_, rfl⟩⟩, ?_⟩
  ·rw [Nat.zero_add] at hge ⊢
   simp [Builtin.zeroCells, elemSt.cells]
   omega
  ·exact ba_alloc (ba_drew (Below.refl _ _)) _
theorem wpList_append_cells {P : Program} {w : World} {ops : Array Oper} {rest : List Oper} {o : Oper} {a : Act} {Q : Exit -> Act -> World -> Prop} (hgd : o.guard = none) (s x : Operand) (t : TypeId)
 (ho : o.op = .call { callee := .builtin .append, args := #[s, x], argTypes := #[t, t] }) {E : TypeId} {z : Value} {size bytes : Nat} (hE : Elem P t E z size bytes)
 (base : Nat) (v : Value) (n : Nat) (xs : List Value) (hs : a.eval s = v) (hown : w.ownsRow base E size v n xs) (A : Option Addr) (m c : Nat) (news : List Value) (B : Nat) (hx : a.eval x = .slice A m c)
 (hl : news.length = m * size) (hc : Cells w B A news) (h1 : ∀ u ∈ news, u.oneCell' = true) (h63 : n + m <= maxLen) (hbytes : (n + m) * bytes <= 140737488355328) (hbase : base <= w.heap.size)
 (h : ∀ v' w', w'.ownsRow base E size v' (n + m) (xs ++ news) -> Below base w w' -> wpList P ops Q rest (a.put o.dst v') w') : wpList P ops Q (o :: rest) a w := by
 obtain ⟨i, hi, hz, hsz, hby⟩ := info_parts hE.info
 cases A with
 | none =>
  have hn : news = [] := by
   rcases hc with h2 | ⟨b, o2, h2, _⟩
   ·exact h2
   ·cases h2
  subst hn
  have hm : m = 0 := by
   rcases Nat.mul_eq_zero.1 (show m * size = 0 by simpa using hl.symm) with h2 | h2
   ·exact h2
   ·have := hE.pos; omega
  subst hm
  exact wpList_append_none hgd s x t ho base E i size hE.slice hi v n xs c hs hown hx (h v w (by simpa using hown) (Below.refl _ _))
 | some ad =>
  refine wpList_append_own_at w hgd s x t ho base E i z size bytes hE.slice hi hz hsz hby hE.cells hE.pos v n xs hs hown ad m c news hx hl (fun j u hu => ?_) h1 h63 hbytes hbase (fun v' w' h2 h3 _ h4 => h v' w' h2 ((Below.refl _ w).grown h3 hbase (fun k hk => (hown.lt k hk).1)))
  have hlen : 0 < news.length := by
   rcases Nat.eq_zero_or_pos news.length with h5 | h5
   ·rw [List.length_eq_zero_iff.1 h5] at hu; simp at hu
   ·exact h5
  obtain ⟨b, o2, he, _, _⟩ := hc.at_ hlen
  have he2 : ad = ⟨b, o2, none⟩ := Option.some.inj he
  subst he2
  have e : (Addr.add ⟨b, o2, none⟩ j) = ⟨b, o2 + j, none⟩ := by unfold Addr.add; split <;> simp_all
  rw [e]
  exact hc.get hu
theorem stC_one (l : List Stp) : ∀ u ∈ l.flatMap stC, u.oneCell' = true := by
 intro u hu
 obtain ⟨s, _, hs⟩ := List.mem_flatMap.1 hu
 simp at hs
 rcases hs with rfl | rfl <;> rfl
set_option maxRecDepth 20000 in
set_option maxHeartbeats 4000000 in
theorem concat_any (l1 l2 : List Stp) (A1 A2 : Option Addr) (n1 c1 n2 c2 g : Nat) (w : World) (hn1 : l1.length = n1) (hn2 : l2.length = n2) (h1 : n1 <= 300) (h2 : n2 <= 300) (hg : g < w.heap.size)
 (k0 : w.cell? ⟨g, 0, none⟩ = some (.slice A1 n1 c1)) (k1 : w.cell? ⟨g, 1, none⟩ = some (.slice A2 n2 c2)) (hs1 : Cells w w.heap.size A1 (l1.flatMap stC)) (hs2 : Cells w w.heap.size A2 (l2.flatMap stC)) :
 Calls Tryz.prog 70 #[.slice (some ⟨g, 0, none⟩) 2 2] w fun e w' => ∃ (A : Option Addr) (c : Nat), e = .returned (.slice A (n1 + n2) c) /\ Cells w' w'.heap.size A ((l1 ++ l2).flatMap stC) /\ Below w.heap.size w w' := by
 obtain ⟨nt, hnt⟩ : ∃ nt, nt = n1 + n2 := ⟨_, rfl⟩
 have HGR := lh (grow_any nt w (by omega))
 have HS1 := lh hs1
 have HS2 := lh hs2
 have HN1 := lh hn1
 have HN2 := lh hn2
 have e0 : IntKind.i64.wrap (0 + (n1 : Int)) = (n1 : Int) := by rw [Int.zero_add]; exact IntWalk.i64_in _ (by omega)
 have e1 : IntKind.i64.wrap ((n1 : Int) + (n2 : Int)) = (nt : Int) := by rw [show ((n1 : Int) + (n2 : Int)) = (nt : Int) by omega]; exact IntWalk.i64_in _ (by omega)
 have b1 : decide ((n1 : Int) < 0) = false := decide_eq_false (by omega)
 have b2 : decide ((nt : Int) < 0) = false := decide_eq_false (by omega)
 have hn6 : nt <= 600 := by omega
 have HNT := lh hnt
 clear hs1 hs2 hn1 hn2 hnt
 go_enter Tryz.func70, Tryz.ntmps70
 go_wp2
 go_loop [3, 11] (fun v i => (i = .int .i64 0 /\ v = .int .i64 0) ∨ (i = .int .i64 1 /\ v = .int .i64 (n1 : Int)) ∨ (i = .int .i64 2 /\ v = .int .i64 (nt : Int))) (fun _ i => 2 - (intOf i).toNat)
 case atStart => exact .inl ⟨rfl, rfl⟩
 case round =>
  rcases hrel with ⟨rfl, rfl⟩ | ⟨rfl, rfl⟩ | ⟨rfl, rfl⟩
  ·go_wp2
   go_round
   case rel => exact .inr (.inl ⟨by go_num, by go_num⟩)
   case measure => simp [intOf]
  ·go_wp2
   go_round
   case rel => exact .inr (.inr ⟨by go_num, by go_num⟩)
   case measure => simp [intOf]
  ·go_upto_region 10 with (go_at_call 96; (with_reducible refine HGR.out.mono ?_); rintro e w2 ⟨v2, rfl, ho2, hb2⟩)
   go_wp2
   go_loopw [6, 27] (fun v i wr => (i = .int .i64 0 /\ wr.ownsRow w.heap.size 136 2 v 0 [] /\ Below w.heap.size w wr) ∨ (i = .int .i64 1 /\ wr.ownsRow w.heap.size 136 2 v n1 (l1.flatMap stC) /\ Below w.heap.size w wr) ∨ (i = .int .i64 2 /\ wr.ownsRow w.heap.size 136 2 v nt ((l1 ++ l2).flatMap stC) /\ Below w.heap.size w wr)) (fun _ i _ => 2 - (intOf i).toNat)
   case atStart => exact .inl ⟨rfl, ho2, hb2⟩
   case round =>
    rcases hrel with ⟨rfl, ho, hbr⟩ | ⟨rfl, ho, hbr⟩ | ⟨rfl, ho, hbr⟩
    ·have k0r := (hbr.cell (p := ⟨g, 0, none⟩) hg).trans k0
     have hgr : g < wr.heap.size := Nat.lt_of_lt_of_le hg hbr.size
     go_wp2_with (at_builtin; refine wpList_append_cells rfl (.tmp 31) (.tmp 32) _ rfl elemSt w.heap.size u6 0 [] rfl ho A1 n1 c1 (l1.flatMap stC) _ rfl (by rw [flat_len stC 2 stC_len, HN1.out]) (HS1.out.below hbr) (stC_one l1) (by unfold maxLen; omega) (by omega) hbr.size ?_; intro v3 wE hoE hbE)
     go_roundw
     case rel => exact .inr (.inl ⟨by go_num, by simpa using hoE, hbr.trans hbE⟩)
     case measure => simp [intOf]
    ·have k1r := (hbr.cell (p := ⟨g, 1, none⟩) hg).trans k1
     have hgr : g < wr.heap.size := Nat.lt_of_lt_of_le hg hbr.size
     go_wp2_with (at_builtin; refine wpList_append_cells rfl (.tmp 31) (.tmp 32) _ rfl elemSt w.heap.size u6 n1 (l1.flatMap stC) rfl ho A2 n2 c2 (l2.flatMap stC) _ rfl (by rw [flat_len stC 2 stC_len, HN2.out]) (HS2.out.below hbr) (stC_one l2) (by unfold maxLen; omega) (by omega) hbr.size ?_; intro v3 wE hoE hbE)
     go_roundw
     case rel => exact .inr (.inr ⟨by go_num, by rw [HNT.out]; simpa using hoE, hbr.trans hbE⟩)
     case measure => simp [intOf]
    ·obtain ⟨A5, c5, hu6, _, _, hC5⟩ := own_form ho (by unfold maxLen; omega)
     subst hu6
     go_wp2
     go_ret
     rw [HNT.out]
     exact ⟨A5, c5, rfl, hC5, hbr⟩
theorem secplace_any (n : Int) (w : World) : Calls Tryz.prog 48 #[.int .i64 n] w fun e w' => e = .returned (.bool (S.place n)) /\ w = w' := by
 have H := lh (show S.place n = (decide (-1048576 <= n) && decide (n <= 1048576)) from rfl)
 by_cases h1 : -1048576 <= n
 ·by_cases h2 : n <= 1048576
  ·have HE := lh (show S.place n = true by rw [H.out]; simp [h1, h2])
   go_enter Tryz.func48, Tryz.ntmps48
   go_wp2
   go_ret
   exact ⟨ret_b HE.out.symm, rfl⟩
  ·have HE := lh (show S.place n = false by rw [H.out]; simp [h1, h2])
   go_enter Tryz.func48, Tryz.ntmps48
   go_wp2
   go_ret
   exact ⟨ret_b HE.out.symm, rfl⟩
 ·have HE := lh (show S.place n = false by rw [H.out]; simp [h1])
  go_enter Tryz.func48, Tryz.ntmps48
  go_wp2
  go_ret
  exact ⟨ret_b HE.out.symm, rfl⟩
set_option maxHeartbeats 2000000 in
theorem known_core (x : Dt) (d : Int) (t : Bool) (w : World)
 (hLV : ∀ W, Below w.heap.size w W -> Calls Tryz.prog 53 #[dtV x] W fun e w' => e = .returned (.bool t) /\ Below W.heap.size W w') :
 Calls Tryz.prog 47 #[dtV x, .int .i64 d] w fun e w' => e = .returned (.int .i64 (if t = false then 1 else if d < 0 ∨ (x.dn : Int) <= d then 2 else 0)) /\ Below w.heap.size w w' := by
 have HLV := lh hLV
 clear hLV
 unfold dtV at HLV
 unfold dtV
 have hDB := Blk.new w 34 (dtc x)
 have hW1 : Below w.heap.size w (w.alloc (.cells (dtc x) 34)) := ba_alloc (Below.refl _ _) _
 go_enter Tryz.func47, Tryz.ntmps47
 go_upto_region 1 with fail
 generalize (w.alloc (.cells (dtc x) 34)) = W1 at *
 have HDB := lh hDB
 clear hDB
 cases t
 ·go_wp2_with (first
   | ((with_reducible refine at_load 34 2 ?_); refine wpList_load_mid rfl 34 (.tmp 2) rfl _ _ rfl _ _ (HDB.out.via belr).range Tryz.underlying34 rfl (by kernel_rfl) ?_)
   | (go_at_call 53; (with_reducible refine (HLV.out _ belr).mono ?_); rintro e w2 ⟨rfl, hbw2⟩))
  go_ret
  exact ⟨ret_i rfl, bel⟩
 ·go_upto_region 3 with (first
   | ((with_reducible refine at_load 34 2 ?_); refine wpList_load_mid rfl 34 (.tmp 2) rfl _ _ rfl _ _ (HDB.out.via belr).range Tryz.underlying34 rfl (by kernel_rfl) ?_)
   | (go_at_call 53; (with_reducible refine (HLV.out _ belr).mono ?_); rintro e w2 ⟨rfl, hbw2⟩))
  have hD2 := HDB.out.via hbw2
  have d9 := hD2.cell 9
  have dl := hD2.lt
  simp only [ga1, ga2, ga3] at d9
  have hw2 : Below w.heap.size w w2 := ba_via hbw2 hW1
  clear hD2 HDB HLV
  by_cases h1 : d < 0
  ·have b1 : decide (d < 0) = true := decide_eq_true h1
   go_wp2
   go_ret
   exact ⟨rfl, hw2⟩
  ·have b1 : decide (d < 0) = false := decide_eq_false h1
   by_cases h2 : (x.dn : Int) <= d
   ·have b2 : decide ((x.dn : Int) <= d) = true := decide_eq_true h2
    go_wp2
    go_ret
    exact ⟨rfl, hw2⟩
   ·have b2 : decide ((x.dn : Int) <= d) = false := decide_eq_false h2
    go_wp2
    go_ret
    exact ⟨rfl, hw2⟩
section
variable {x : Dt} {ds : List Dm} {w : World}
theorem sec_lv (h : DtOk w x ds) : ∀ W, Below w.heap.size w W -> Calls Tryz.prog 53 #[dtV x] W fun e w' => e = .returned (.bool (S.look x (S.dems ds))) /\ Below W.heap.size W w' := fun W hw => by
 cases hlk : S.look x (S.dems ds)
 ·exact lvalid_any x false w.heap.size 0 [] W hw.size (fun V hV => bad_look h hlk V (hw.trans (hV.mono hw.size)))
 ·exact lvalid_any x true w.heap.size _ _ W hw.size (fun V hV => good_look h hlk V (hw.trans (hV.mono hw.size)))
def S.given27 (x : Dt) (ds : List Dm) (d : Int) : Int := S.given26 x ds d 0
theorem good_known (h : DtOk w x ds) (d : Int) : ∀ W, Below w.heap.size w W -> Calls Tryz.prog 47 #[dtV x, .int .i64 d] W fun e w' => e = .returned (.int .i64 (S.given27 x ds d)) /\ Below W.heap.size W w' := fun W hw => by
 have := known_core x d (S.look x (S.dems ds)) W (fun V hV => sec_lv h V (hw.trans (hV.mono hw.size)))
 have e : S.given27 x ds d = (if S.look x (S.dems ds) = false then 1 else if d < 0 ∨ (x.dn : Int) <= d then 2 else 0) := by
  unfold S.given27 S.given26
  rw [h.dems.len]
  have : S.place 0 = true := rfl
  rw [this]
  simp
 rw [e]
 exact this
end
theorem spansL_len (l : List Prt) : (S.spansL l).length <= l.length := by
 have key : ∀ (l : List Prt) (out : List Sp), (l.foldl S.spanNext out).length <= out.length + l.length := by
  intro l
  induction l with
  | nil => intro out; simp
  | cons a t ih =>
   intro out
   rw [List.foldl_cons]
   refine Nat.le_trans (ih _) ?_
   have : (S.spanNext out a).length <= out.length + 1 := by
    unfold S.spanNext
    split
    ·omega
    ·split
     ·split
      ·simp
      ·simp
     ·simp
   simp only [List.length_cons]
   omega
 have := key l []
 unfold S.spansL
 simpa using this
end Go.Proofs.YtmfpbafpnoomeaaGreat
