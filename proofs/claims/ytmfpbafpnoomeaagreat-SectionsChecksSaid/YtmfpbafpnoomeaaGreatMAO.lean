/- Lemmas. -/
import Derived.Test.YtmfpbafpnoomeaaGreatMAN
import Derived.Test.YtmfpbafpnoomeaaGreatMAM
set_option linter.unusedVariables false
set_option linter.unusedSimpArgs false
namespace Go.Proofs.YtmfpbafpnoomeaaGreat
open Go.RowKit
def S.hopE (last : Int) (x : Bool × Int) (e : Int) : Bool × Int := if last < e /\ (x.1 = false ∨ e < x.2) then (true, e) else x
def S.hopC (last : Int) (x : Bool × Int) (c : SCh) : Bool × Int := if c.is = true then S.hopE last (S.hopE last x c.lo) c.hi else x
def S.hop (last : Int) (cs : List SCh) : Bool × Int := cs.foldl (S.hopC last) (false, 0)
def S.allEnds (cs : List SCh) : List Int := S.ends2 (cs.filter (·.is))
theorem hop_next (last : Int) {cs : List SCh} {k : Nat} (h : k < cs.length) : S.hop last (cs.take (k + 1)) = S.hopC last (S.hop last (cs.take k)) cs[k] := by
 have e : cs.take (k + 1) = cs.take k ++ [cs[k]] := by rw [List.take_add_one, List.getElem?_eq_getElem h]; rfl
 unfold S.hop
 rw [e, List.foldl_append]
 rfl
def HopAt (last : Int) (E : List Int) (x : Bool × Int) : Prop :=
 (x.1 = false /\ ∀ e, e ∈ E -> e <= last) ∨ (x.1 = true /\ x.2 ∈ E /\ last < x.2 /\ ∀ e, e ∈ E -> last < e -> x.2 <= e)
theorem hopE_at {last : Int} {E : List Int} {x : Bool × Int} (h : HopAt last E x) (e : Int) : HopAt last (E ++ [e]) (S.hopE last x e) := by
 unfold S.hopE
 rcases h with ⟨h1, h2⟩ | ⟨h1, h2, h3, h4⟩
 ·by_cases hl : last < e
  ·rw [if_pos ⟨hl, .inl h1⟩]
   refine .inr ⟨rfl, by simp, hl, fun e' he' hle => ?_⟩
   rcases List.mem_append.1 he' with h | h
   ·have := h2 e' h; omega
   ·rw [List.mem_singleton] at h; show e <= e'; omega
  ·rw [if_neg (fun h => hl h.1)]
   refine .inl ⟨h1, fun e' he' => ?_⟩
   rcases List.mem_append.1 he' with h | h
   ·exact h2 e' h
   ·rw [List.mem_singleton] at h; omega
 ·by_cases hl : last < e /\ (x.1 = false ∨ e < x.2)
  ·rw [if_pos hl]
   have hlt : e < x.2 := by
    rcases hl.2 with h | h
    ·rw [h1] at h; cases h
    ·exact h
   refine .inr ⟨rfl, by simp, hl.1, fun e' he' hle => ?_⟩
   show e <= e'
   rcases List.mem_append.1 he' with h | h
   ·have := h4 e' h hle; omega
   ·rw [List.mem_singleton] at h; omega
  ·rw [if_neg hl]
   refine .inr ⟨h1, List.mem_append_left _ h2, h3, fun e' he' hle => ?_⟩
   rcases List.mem_append.1 he' with h | h
   ·exact h4 e' h hle
   ·rw [List.mem_singleton] at h
    subst h
    by_cases h5 : e' < x.2
    ·exact absurd ⟨hle, .inr h5⟩ hl
    ·omega
theorem allEnds_cons (c : SCh) (cs : List SCh) : S.allEnds (c :: cs) = (if c.is = true then [c.lo, c.hi] else []) ++ S.allEnds cs := by
 unfold S.allEnds
 rw [List.filter_cons]
 split
 ·unfold S.ends2
  rw [List.flatMap_cons]
 ·simp
theorem hop_at (last : Int) (cs : List SCh) : HopAt last (S.allEnds cs) (S.hop last cs) := by
 suffices hs : ∀ (cs : List SCh) (E : List Int) (x : Bool × Int), HopAt last E x -> HopAt last (E ++ S.allEnds cs) (cs.foldl (S.hopC last) x) by
  have := hs cs [] (false, 0) (.inl ⟨rfl, fun e he => by cases he⟩)
  simpa [S.hop] using this
 intro cs
 induction cs with
 | nil => intro E x h; simpa [S.allEnds, S.ends2] using h
 | cons c t ih =>
  intro E x h
  rw [List.foldl_cons, allEnds_cons]
  by_cases hi : c.is = true
  ·have e : S.hopC last x c = S.hopE last (S.hopE last x c.lo) c.hi := by unfold S.hopC; rw [if_pos hi]
   rw [if_pos hi, e]
   have := ih _ _ (hopE_at (hopE_at h c.lo) c.hi)
   simpa using this
  ·have e : S.hopC last x c = x := by unfold S.hopC; rw [if_neg hi]
   rw [if_neg hi, e]
   simpa using ih _ _ h
structure UpTo (E : List Int) (last : Int) (U : List Int) : Prop where
 asc : U.Pairwise (· < ·)
 mem : ∀ e, e ∈ U ↔ (e ∈ E /\ e <= last)
theorem upto_nil {E : List Int} {last : Int} (h : ∀ e, e ∈ E -> last < e) : UpTo E last [] :=
 ⟨List.Pairwise.nil, fun e => ⟨fun h => (by cases h), fun ⟨h1, h2⟩ => (by have := h e h1; omega)⟩⟩
theorem upto_next {E : List Int} {last : Int} {U : List Int} (h : UpTo E last U) {n : Int} (h1 : n ∈ E) (h2 : last < n) (h3 : ∀ e, e ∈ E -> last < e -> n <= e) : UpTo E n (U ++ [n]) := by
 refine ⟨List.pairwise_append.2 ⟨h.asc, by simp, fun a ha b hb => ?_⟩, fun e => ?_⟩
 ·rw [List.mem_singleton] at hb
  have := ((h.mem a).1 ha).2
  omega
 ·rw [List.mem_append, List.mem_singleton, h.mem]
  constructor
  ·rintro (⟨h4, h5⟩ | rfl)
   ·exact ⟨h4, by omega⟩
   ·exact ⟨h1, by omega⟩
  ·rintro ⟨h4, h5⟩
   by_cases h6 : e <= last
   ·exact .inl ⟨h4, h6⟩
   ·have := h3 e h4 (by omega)
    exact .inr (by omega)
theorem upto_meas {E : List Int} {last n : Int} (h1 : n ∈ E) (h2 : last < n) : E.countP (fun e => decide (n < e)) < E.countP (fun e => decide (last < e)) := by
 induction E with
 | nil => cases h1
 | cons a t ih =>
  rw [List.countP_cons, List.countP_cons]
  have hmono : t.countP (fun e => decide (n < e)) <= t.countP (fun e => decide (last < e)) := List.countP_mono_left (fun e _ he => by rw [decide_eq_true_eq] at he ⊢; omega)
  rcases List.mem_cons.1 h1 with h | h
  ·subst h
   simp only [Int.lt_irrefl, decide_false, h2, decide_true]
   simp
   omega
  ·have := ih h
   by_cases h3 : n < a
   ·have h4 : last < a := by omega
    simp only [h3, h4, decide_true, if_true]
    omega
   ·simp only [h3, decide_false]
    by_cases h4 : last < a
    ·simp only [h4, decide_true, if_true, Bool.false_eq_true, if_false]
     omega
    ·simp only [h4, decide_false, Bool.false_eq_true, if_false]
     omega
theorem sh_shortF (f : Int -> Int) : ∀ (P : List Int) (v : Int) (out : List Stp), ((P.map fun p => (⟨p, f p⟩ : Stp)).foldl (fun x s => (s.val, if s.val = x.1 then x.2 else x.2 ++ [s])) (v, out)).2 = out ++ S.sh f v P := by
 intro P
 induction P with
 | nil => intro v out; simp [S.sh]
 | cons p t ih =>
  intro v out
  rw [List.map_cons, List.foldl_cons, S.sh]
  rw [ih]
  show (if f p = v then out else out ++ [⟨p, f p⟩]) ++ S.sh f (f p) t = _
  by_cases h : f p = v
  ·rw [if_pos h, if_pos h, h]
  ·rw [if_neg h, if_neg h]
   simp
theorem sh_short (f : Int -> Int) (P : List Int) : S.shortSt (P.map fun p => (⟨p, f p⟩ : Stp)) = S.sh f 0 P := by
 have := sh_shortF f P 0 []
 unfold S.shortSt S.shortStF
 rw [this]
 rfl
theorem sh_more {f : Int -> Int} {Q0 : List Int} (hc : ∀ a b, a <= b -> (∀ q, q ∈ Q0 -> ¬ (a < q /\ q <= b)) -> f a = f b) : ∀ (P Q : List Int) (a : Int), P.Pairwise (· < ·) -> Q.Pairwise (· < ·) -> (∀ p, p ∈ P -> a < p) -> (∀ q, q ∈ Q -> q ∈ P) -> (∀ q, q ∈ Q0 -> a < q -> q ∈ Q) -> S.sh f (f a) P = S.sh f (f a) Q := by
 intro P
 induction P with
 | nil =>
  intro Q a _ _ _ hQ _
  cases Q with
  | nil => rfl
  | cons q t => exact absurd (hQ q (by simp)) (by simp)
 | cons p t ih =>
  intro Q a hP hQa ha hQ h0
  rw [List.pairwise_cons] at hP
  have hap := ha p (by simp)
  by_cases hp : p ∈ Q
  ·-- p is the first of Q
   cases Q with
   | nil => cases hp
   | cons q u =>
    rw [List.pairwise_cons] at hQa
    have hqp : q = p := by
     rcases List.mem_cons.1 (hQ q (by simp)) with h | h
     ·exact h
     ·have h1 := hP.1 q h
      rcases List.mem_cons.1 hp with h2 | h2
      ·exact h2.symm
      ·have := hQa.1 p h2; omega
    subst hqp
    have key : S.sh f (f q) t = S.sh f (f q) u := by
     refine ih u q hP.2 hQa.2 hP.1 (fun x hx => ?_) (fun x hx hlt => ?_)
     ·rcases List.mem_cons.1 (hQ x (by simp [hx])) with h | h
      ·have := hQa.1 x hx; omega
      ·exact h
     ·rcases List.mem_cons.1 (h0 x hx (by omega)) with h | h
      ·omega
      ·exact h
    rw [S.sh, S.sh]
    by_cases he : f q = f a
    ·rw [if_pos he, if_pos he, <- he]
     exact key
    ·rw [if_neg he, if_neg he, key]
  ·have he : f p = f a := (hc a p (by omega) (fun q hq ⟨h1, h2⟩ => by
    have h3 := h0 q hq h1
    rcases List.mem_cons.1 (hQ q h3) with h | h
    ·subst h; exact hp h3
    ·have := hP.1 q h; omega)).symm
   rw [S.sh, if_pos he, <- he]
   refine ih Q p hP.2 hQa hP.1 (fun q hq => ?_) (fun q hq hlt => h0 q hq (by omega))
   rcases List.mem_cons.1 (hQ q hq) with h | h
   ·subst h; exact absurd hq hp
   ·exact h
theorem refOf_same {x : Dt} {rs : List Rod} {C : List (List Int)} (z : Bx) {U : List Int} {last : Int} (hU : UpTo (S.allEnds (C.map (S.schOf x rs))) last U) (hall : ∀ e, e ∈ S.allEnds (C.map (S.schOf x rs)) -> e <= last)
 (hin : ∀ c, c ∈ C.map (S.schOf x rs) -> c.is = true -> -1048576 <= c.lo /\ c.lo < c.hi) :
 S.shortSt (U.map fun p => (⟨p, S.supplyAt x rs C z p⟩ : Stp)) = S.supplyOf x rs C z := by
 have hf : (fun p => S.supplyAt x rs C z p) = fun p => S.valueAt p ((C.map (S.schOf x rs)).filter (S.sup rs z)) := by
  funext p
  exact supplyAt_sup x rs C z p
 have hsub : ∀ c, c ∈ (C.map (S.schOf x rs)).filter (S.sup rs z) -> c ∈ C.map (S.schOf x rs) /\ c.is = true := fun c hc => by
  obtain ⟨h1, h2⟩ := List.mem_filter.1 hc
  unfold S.sup at h2
  rw [Bool.and_eq_true] at h2
  exact ⟨h1, h2.1⟩
 rw [sh_short (fun p => S.supplyAt x rs C z p), hf]
 unfold S.supplyOf
 rw [short_ofL]
 have h0 : S.valueAt (-1048577) ((C.map (S.schOf x rs)).filter (S.sup rs z)) = 0 := valueAt_none fun c hc => by
  obtain ⟨h1, h2⟩ := hsub c hc
  have := hin c h1 h2
  omega
 obtain ⟨p1, p2⟩ := places_inv ((C.map (S.schOf x rs)).filter (S.sup rs z))
 have key := sh_more (f := fun p => S.valueAt p ((C.map (S.schOf x rs)).filter (S.sup rs z))) (Q0 := S.ends2 ((C.map (S.schOf x rs)).filter (S.sup rs z))) (valueAt_const _) U (S.places ((C.map (S.schOf x rs)).filter (S.sup rs z))) (-1048577) hU.asc p1 (fun p hp => ?_) (fun q hq => ?_) (fun q hq _ => (p2 q).2 hq)
 ·simp only [h0] at key
  exact key
 ·obtain ⟨h1, _⟩ := (hU.mem p).1 hp
  unfold S.allEnds at h1
  obtain ⟨c, hc, he⟩ := ends2_mem.1 h1
  obtain ⟨h2, h3⟩ := List.mem_filter.1 hc
  have := hin c h2 h3
  rcases he with rfl | rfl <;> omega
 ·obtain ⟨c, hc, he⟩ := ends2_mem.1 ((p2 q).1 hq)
  obtain ⟨h1, h2⟩ := hsub c hc
  have h3 : q ∈ S.allEnds (C.map (S.schOf x rs)) := ends2_mem.2 ⟨c, List.mem_filter.2 ⟨h1, h2⟩, he⟩
  exact (hU.mem q).2 ⟨h3, hall q h3⟩
def S.mlegOf (r : Rod) : Bx := if r.main < 0 then S.zbox else S.legOf r
theorem mains_no {x : Dt} {n : Nat} {rs : List Rod} (hrs : RodsOf x n rs) {i : Nat} {m : Mn} {r : Rod} (hm : (S.mains (bars x.bs) x.rs)[i]? = some m) (hr : rs[i]? = some r) : m.leg = S.mlegOf r /\ m.has = !decide (r.main < 0) := by
 obtain ⟨hix, hir⟩ := List.getElem?_eq_some_iff.1 hr
 have hR := hrs.ok i hix
 rw [hir] at hR
 obtain ⟨k, j, k0, hL, he⟩ := hR.ex
 have hg := hL.st.get
 rw [hm] at hg
 injection hg with hg
 have hlen : 0 < (S.laidPath r.bar.b (x.rs[k]'hL.st.lt) j).length := by rw [laidPath_len]; omega
 unfold S.mlegOf
 cases hml : S.mainLeg (S.laidPath r.bar.b (x.rs[k]'hL.st.lt) j) with
 | none =>
  rw [hml] at hg
  have h1 := main_none hlen hml
  have hmain : r.main < 0 := by rw [hR.main, he, h1]; decide
  rw [if_pos hmain, hg]
  exact ⟨rfl, by simp [hmain, S.mnOf]⟩
 | some b =>
  rw [hml] at hg
  obtain ⟨jj, h1, h2, h3⟩ := main_some hlen hml
  have hmain : r.main = (jj : Int) := by rw [hR.main, he]; exact h1
  rw [if_neg (by omega), hg]
  refine ⟨?_, by rw [hmain]; simp [S.mnOf]⟩
  unfold S.legOf
  rw [hmain, he, Int.toNat_natCast, List.getD_eq_getElem?_getD, h2]
  rfl
theorem rmain_rod (x : Dt) (rs : List Rod) (B : Nat) (w : World) (hB : B <= w.heap.size) (hA : DtAt w B x) (h : S.laid (bars x.bs) x.rs = true) (hrs : RodsOf x (S.nOf x) rs) {i : Nat} {r : Rod} (hi : rs[i]? = some r) :
 Calls Tryz.prog 101 #[dtV x, .int .i64 i] w fun e w' => e = .returned (.tuple #[boxV (S.mlegOf r), .bool (!decide (r.main < 0))]) /\ Below w.heap.size w w' := by
 have hix : i < (S.mains (bars x.bs) x.rs).length := by
  have := (List.getElem?_eq_some_iff.1 hi).1
  rw [hrs.len] at this
  exact this
 have hm := List.getElem?_eq_getElem hix
 obtain ⟨e1, e2⟩ := mains_no hrs hm hi
 have := rmain_any x B w hB hA h i _ hm
 rw [e1, e2] at this
 exact this
set_option maxRecDepth 20000 in
set_option maxHeartbeats 2000000 in
theorem rends26_any (x : Dt) (i : Nat) (r : Rod) (B : Nat) (w : World) (hB : B <= w.heap.size) (hA : DtAt w B x) (hla : S.laid (bars x.bs) x.rs = true) (hru : S.rule x.rule = true) (hme : S.member x.m = true) (hR : RodOk x i r) (h0 : 0 <= r.main) :
 Calls Tryz.prog 102 #[dtV x, .int .i64 i] w fun e w' => e = .returned (.tuple #[.int .i64 (S.lowOf x r), .int .i64 (S.upOf x r)]) /\ Below w.heap.size w w' := by
 have hF := rod_fit hR hla
 obtain ⟨k, j, k0, hL, he⟩ := hR.ex
 have HB1 := lh (fun (W : World) (hw : Below w.heap.size w W) => rbar16_any x.bs x.rs x.bA x.bn x.bc x.rA x.rn x.rc B W (size_via hB hw) (hA.at_ hB hw).bars (hA.at_ hB hw).runs i k j k0 r.bar hL)
 have HL1 : Hid (∀ W, Below w.heap.size w W -> Calls Tryz.prog 147 #[.slice x.bA x.bn x.bc, .slice x.rA x.rn x.rc, .int .i64 i] W (GivesOne 78 6 r.legs.length (r.legs.flatMap boxC) W)) := lh fun W hw => by
  have := rlegs16_any x.bs x.rs x.bA x.bn x.bc x.rA x.rn x.rc B W (size_via hB hw) (hA.at_ hB hw).bars (hA.at_ hB hw).runs i k j k0 r.bar hL r.legs.length hF.len.symm
  rw [<- he] at this
  exact this
 have HE1 := lh (fun (W : World) (hw : Below w.heap.size w W) (A : Option Addr) (c : Nat) (hs : Cells W W.heap.size A (r.legs.flatMap boxC)) => rends_rod x r A c W.heap.size W (Nat.le_refl _) ((hA.at_ hB hw).wide (size_via hB hw)) hs hF hru hme h0)
 have hl6 := legs_len r.bar.b.code
 have hl7 : r.legs.length <= 6 := by have := hF.len; omega
 unfold barV at HB1
 unfold barV ruleV memV at HE1
 clear hA hL he hR hF h0 hl6
 unfold dtV
 have hDB := Blk.new w 34 (dtc x)
 have hW1 : Below w.heap.size w (w.alloc (.cells (dtc x) 34)) := ba_alloc (Below.refl _ _) _
 go_enter Tryz.func102, Tryz.ntmps102
 go_upto_region 1 with fail
 generalize (w.alloc (.cells (dtc x) 34)) = W1 at *
 have d6 := hDB.cell 6
 have d7 := hDB.cell 7
 have dl := hDB.lt
 simp only [ga1, ga2, ga3] at d6 d7
 have HDB := lh hDB
 clear hDB
 refine wp_region_mix 3 [9, 5, 0] (by kernel_rfl) (by kernel_rfl) (of_decide_eq_true (by kernel_rfl)) ?_
 try simp only [wpSegs, gt1, gt2, gt3, gt4, List.take_nil, List.drop_nil]
 repeat (first | (first | (refine quietLoad (by rfl) 32 (.tmp 6) rfl _ _ rfl _ _ (quietBy fun W hw => (HDB.out.via hw).mid 10 [.int .i64 x.rule.num, .int .i64 x.rule.den, .int .i64 x.rule.pnum, .int .i64 x.rule.pden, .int .i64 x.rule.bnum, .int .i64 x.rule.bden, .int .i64 x.rule.lnum, .int .i64 x.rule.lden, .int .i64 x.rule.least] rfl) Tryz.underlying32 rfl (by kernel_rfl) ?_; intro aQ hQ; simp only [go_sem, List.setIfInBounds_toArray, List.set_cons_succ, List.set_cons_zero] at hQ; subst hQ) | (refine quietLoad (by rfl) 26 (.tmp 8) rfl _ _ rfl _ _ (quietBy fun W hw => (HDB.out.via hw).mid 0 [.string x.m.name, .slice x.mA x.mn x.mc, .slice x.hA x.hn x.hc, .int .i64 x.m.cover, .int .i64 x.m.aggr, .int .i64 x.m.poker] rfl) Tryz.underlying26 rfl (by kernel_rfl) ?_; intro aQ hQ; simp only [go_sem, List.setIfInBounds_toArray, List.set_cons_succ, List.set_cons_zero] at hQ; subst hQ)) | go_big_quiet_step (fail))
 refine wpQuiet_nil ?_
 show wpList _ _ _ _ _ _
 go_wp2_with ((go_at_call 150; (with_reducible refine (HB1.out _ belr).mono ?_); rintro e w1 ⟨rfl, hbw1⟩))
 refine seg_next (grow_to belr) ?_
 try simp only [wpSegs, gt1, gt2, gt3, gt4, List.take_nil, List.drop_nil]
 repeat (go_big_quiet_step (fail))
 refine wpQuiet_nil ?_
 show wpList _ _ _ _ _ _
 go_wp2_with ((go_at_call 147; (with_reducible refine (HL1.out _ belr).mono ?_); rintro e w2 ⟨A2, c2, rfl, ho2, hbw2⟩))
 refine seg_next (grow_to belr) ?_
 have HO2 := lh (own_cells ho2 (by unfold maxLen; omega)).1
 clear ho2
 try simp only [wpSegs, gt1, gt2, gt3, gt4, List.take_nil, List.drop_nil]
 repeat (go_big_quiet_step (fail))
 refine wpQuiet_nil ?_
 show wpList _ _ _ _ _ _
 go_wp2_with ((go_at_call 149; (with_reducible refine (HE1.out _ belr _ _ HO2.out).mono ?_); rintro e w3 ⟨rfl, hbw3⟩))
 refine seg_next (grow_to belr) ?_
 try simp only [wpSegs, gt1, gt2, gt3, gt4, List.take_nil, List.drop_nil]
 repeat (go_big_quiet_step (fail))
 refine wpQuiet_nil ?_
 show wpList _ _ _ _ _ _
 go_wp2
 go_ret2
 exact ⟨rfl, bel⟩
def S.anch (ta tb : Bool) (p q : Int) : Int × Int × Bool := if ta = false then (0, 0, false) else if tb = false then (0, 0, false) else if p < q then (p, q, true) else (0, 0, false)
set_option maxRecDepth 20000 in
set_option maxHeartbeats 4000000 in
theorem ranch_core (x : Dt) (ka kb lz ln : Nat) (ga gb : Bx) (ta tb : Bool) (la ua lb ub : Int) (b o c : Nat) (w : World) (hlz : lz = ln + 1) (hlm : lz <= 2002) (hb : b < w.heap.size)
 (c0 : w.cell? ⟨b, o, none⟩ = some (.int .i64 ka)) (c1 : w.cell? ⟨b, o + ln, none⟩ = some (.int .i64 kb))
 (hM1 : ∀ W, Below w.heap.size w W -> Calls Tryz.prog 101 #[dtV x, .int .i64 ka] W fun e w' => e = .returned (.tuple #[boxV ga, .bool ta]) /\ Below W.heap.size W w')
 (hM2 : ∀ W, Below w.heap.size w W -> Calls Tryz.prog 101 #[dtV x, .int .i64 kb] W fun e w' => e = .returned (.tuple #[boxV gb, .bool tb]) /\ Below W.heap.size W w')
 (hE1 : ta = true -> tb = true -> ∀ W, Below w.heap.size w W -> Calls Tryz.prog 102 #[dtV x, .int .i64 ka] W fun e w' => e = .returned (.tuple #[.int .i64 la, .int .i64 ua]) /\ Below W.heap.size W w')
 (hE2 : ta = true -> tb = true -> ∀ W, Below w.heap.size w W -> Calls Tryz.prog 102 #[dtV x, .int .i64 kb] W fun e w' => e = .returned (.tuple #[.int .i64 lb, .int .i64 ub]) /\ Below W.heap.size W w')
 (hbd : ta = true -> tb = true -> (-100000000000 <= ga.lo.x + la /\ ga.lo.x + la <= 100000000000) /\ (-100000000000 <= gb.hi.x - ub /\ gb.hi.x - ub <= 100000000000)) :
 Calls Tryz.prog 74 #[dtV x, .slice (some ⟨b, o, none⟩) lz c] w fun e w' => e = .returned (.tuple #[.agg #[.int .i64 (S.anch ta tb (ga.lo.x + la) (gb.hi.x - ub)).1, .int .i64 (S.anch ta tb (ga.lo.x + la) (gb.hi.x - ub)).2.1], .bool (S.anch ta tb (ga.lo.x + la) (gb.hi.x - ub)).2.2]) /\ Below w.heap.size w w' := by
 have HM1 := lh hM1
 have HM2 := lh hM2
 have HE1 := lh hE1
 have HE2 := lh hE2
 have HBD := lh hbd
 have e1 : IntKind.i64.wrap ((lz : Int) - 1) = (ln : Int) := by rw [show ((lz : Int) - 1) = (ln : Int) by omega]; exact IntWalk.i64_in _ (by omega)
 have e3 : (lz : Int) - 1 = (ln : Int) := by omega
 have hlni : (ln : Int) < (lz : Int) := by omega
 have hln0 : (0 : Int) < (lz : Int) := by omega
 have hlzN : 0 < lz := by omega
 have hlnN : ln < lz := by omega
 have hlz4 : lz ≠ 0 := by omega
 have e7 : IntKind.i64.wrap (ln : Int) = (ln : Int) := IntWalk.i64_in _ (by omega)
 have hlnz : (0 : Int) <= (ln : Int) := by omega
 have hb1 : b < w.heap.size + 1 := by omega
 have hb2 : b < w.heap.size + 2 := by omega
 clear hM1 hM2 hE1 hE2 hbd hlz
 unfold dtV at HM1 HM2 HE1 HE2
 unfold boxV at HM1 HM2
 unfold dtV
 have hDB := (Blk.new w 34 (dtc x)).alloc (.cells #[.int .i64 0, .int .i64 0] 49)
 have hSB := Blk.newN (W := w.alloc (.cells (dtc x) 34)) (n := w.heap.size + 1) (by simp) 49 #[.int .i64 0, .int .i64 0]
 have hW1 : Below w.heap.size w ((w.alloc (.cells (dtc x) 34)).alloc (.cells #[.int .i64 0, .int .i64 0] 49)) := ba_alloc (ba_alloc (Below.refl _ _) _) _
 go_enter Tryz.func74, Tryz.ntmps74
 go_upto_region 1 with fail
 generalize ((w.alloc (.cells (dtc x) 34)).alloc (.cells #[.int .i64 0, .int .i64 0] 49)) = W1 at *
 have a0 := (hW1.cell (p := ⟨b, o, none⟩) hb).trans c0
 have a1 := (hW1.cell (p := ⟨b, o + ln, none⟩) hb).trans c1
 have hbW : b < W1.heap.size := by have := hW1.size; omega
 have HDB := lh hDB
 have HSB := lh hSB
 clear hDB hSB c0 c1
 refine wp_region_mix 10 [] (by kernel_rfl) (by kernel_rfl) (of_decide_eq_true (by kernel_rfl)) ?_
 try simp only [wpSegs, gt1, gt2, gt3, gt4, List.take_nil, List.drop_nil]
 repeat (go_big_quiet_step (fail))
 refine wpQuiet_nil ?_
 show wpList _ _ _ _ _ _
 go_upto_region 2 with fail
 clear a0 a1 hbW
 go_upto_region 3 with (first
  | ((with_reducible refine at_load 34 2 ?_); refine wpList_load_mid rfl 34 (.tmp 2) rfl _ _ rfl _ _ (HDB.out.via belr).range Tryz.underlying34 rfl (by kernel_rfl) ?_)
  | (go_at_call 101; (with_reducible refine (HM1.out _ belr).mono ?_); rintro e w1 ⟨rfl, hbw1⟩))
 have hb2 : Below W1.heap.size W1 (w1.alloc (.cells #[.int .i64 ga.lo.x, .int .i64 ga.lo.y, .int .i64 ga.lo.z, .int .i64 ga.hi.x, .int .i64 ga.hi.y, .int .i64 ga.hi.z] 78)) := belr
 have hA2 := Blk.new w1 78 #[.int .i64 ga.lo.x, .int .i64 ga.lo.y, .int .i64 ga.lo.z, .int .i64 ga.hi.x, .int .i64 ga.hi.y, .int .i64 ga.hi.z]
 generalize (w1.alloc (.cells #[.int .i64 ga.lo.x, .int .i64 ga.lo.y, .int .i64 ga.lo.z, .int .i64 ga.hi.x, .int .i64 ga.hi.y, .int .i64 ga.hi.z] 78)) = W2 at *
 generalize w1.heap.size = g1 at *
 have HA2 := lh hA2
 clear hA2 hbw1
 go_upto_region 4 with (first
  | ((with_reducible refine at_load 34 2 ?_); refine wpList_load_mid rfl 34 (.tmp 2) rfl _ _ rfl _ _ (HDB.out.via belr).range Tryz.underlying34 rfl (by kernel_rfl) ?_)
  | (go_at_call 101; (with_reducible refine (HM2.out _ belr).mono ?_); rintro e w2 ⟨rfl, hbw2⟩))
 have hb3 : Below W2.heap.size W2 (w2.alloc (.cells #[.int .i64 gb.lo.x, .int .i64 gb.lo.y, .int .i64 gb.lo.z, .int .i64 gb.hi.x, .int .i64 gb.hi.y, .int .i64 gb.hi.z] 78)) := belr
 have hB3 := Blk.new w2 78 #[.int .i64 gb.lo.x, .int .i64 gb.lo.y, .int .i64 gb.lo.z, .int .i64 gb.hi.x, .int .i64 gb.hi.y, .int .i64 gb.hi.z]
 generalize (w2.alloc (.cells #[.int .i64 gb.lo.x, .int .i64 gb.lo.y, .int .i64 gb.lo.z, .int .i64 gb.hi.x, .int .i64 gb.hi.y, .int .i64 gb.hi.z] 78)) = W3 at *
 generalize w2.heap.size = g2 at *
 have HB3 := lh hB3
 have hb13 : Below W1.heap.size W1 W3 := belr
 clear hB3 hbw2
 cases ta
 ·have hS := HSB.out.via hb13
  have s0 := hS.cell 0
  have s1 := hS.cell 1
  have sf0 := hS.frozen 0
  have sf1 := hS.frozen 1
  have sl := hS.lt
  simp only [ga1, ga2, ga3] at s0 s1
  have hbF := ba_set2 (g := w.heap.size + 1) (show Below w.heap.size w W3 from belr) (Nat.le_succ _) (.int .i64 0) (.int .i64 0)
  clear hS
  go_wp2
  exact bodyPost_ret (v := .tuple #[.agg #[.int .i64 0, .int .i64 0], .bool false]) (by simp [results, Tryz.results74, go_sem, *]) rfl ⟨rfl, hbF⟩
 ·cases tb
  ·have hS := HSB.out.via hb13
   have s0 := hS.cell 0
   have s1 := hS.cell 1
   have sf0 := hS.frozen 0
   have sf1 := hS.frozen 1
   have sl := hS.lt
   simp only [ga1, ga2, ga3] at s0 s1
   have hbF := ba_set2 (g := w.heap.size + 1) (show Below w.heap.size w W3 from belr) (Nat.le_succ _) (.int .i64 0) (.int .i64 0)
   clear hS
   go_wp2
   exact bodyPost_ret (v := .tuple #[.agg #[.int .i64 0, .int .i64 0], .bool false]) (by simp [results, Tryz.results74, go_sem, *]) rfl ⟨rfl, hbF⟩
  ·obtain ⟨⟨b1, b2⟩, b3, b4⟩ := HBD.out rfl rfl
   have HF1 := lh (HE1.out rfl rfl)
   have HF2 := lh (HE2.out rfl rfl)
   clear HE1 HE2 HBD HM1 HM2
   go_upto_region 8 with (first
    | ((with_reducible refine at_load 34 2 ?_); refine wpList_load_mid rfl 34 (.tmp 2) rfl _ _ rfl _ _ (HDB.out.via belr).range Tryz.underlying34 rfl (by kernel_rfl) ?_)
    | (go_at_call 102; (with_reducible refine (HF1.out _ belr).mono ?_); rintro e w4 ⟨rfl, hbw4⟩)
    | (go_at_call 102; (with_reducible refine (HF2.out _ belr).mono ?_); rintro e w5 ⟨rfl, hbw5⟩))
   have hb35 : Below W3.heap.size W3 w5 := belr
   have hA5 := HA2.out.via (ba_via hb35 hb3)
   have hB5 := HB3.out.via hb35
   have a0 := hA5.cell 0
   have al := hA5.lt
   have c3 := hB5.cell 3
   have cl := hB5.lt
   simp only [ga1, ga2, ga3] at a0 c3
   have x1 : IntKind.i64.wrap (ga.lo.x + la) = ga.lo.x + la := IntWalk.i64_in _ (by omega)
   have x2 : IntKind.i64.wrap (gb.hi.x - ub) = gb.hi.x - ub := IntWalk.i64_in _ (by omega)
   clear hA5 hB5
   go_upto_region 9 with fail
   have hS6 := Blk.new w5 49 #[.int .i64 (ga.lo.x + la), .int .i64 (gb.hi.x - ub)]
   have hb6 : Below W3.heap.size W3 (w5.alloc (.cells #[.int .i64 (ga.lo.x + la), .int .i64 (gb.hi.x - ub)] 49)) := belr
   generalize (w5.alloc (.cells #[.int .i64 (ga.lo.x + la), .int .i64 (gb.hi.x - ub)] 49)) = W6 at *
   generalize w5.heap.size = g5 at *
   generalize hp : ga.lo.x + la = p at *
   generalize hq : gb.hi.x - ub = q at *
   have HP := lh hp
   have HQ := lh hq
   have y0 := hS6.cell 0
   have y1 := hS6.cell 1
   have yl := hS6.lt
   simp only [ga1, ga2, ga3] at y0 y1
   have hS := (HSB.out.via hb13).via hb6
   have s0 := hS.cell 0
   have s1 := hS.cell 1
   have sf0 := hS.frozen 0
   have sf1 := hS.frozen 1
   have sl := hS.lt
   simp only [ga1, ga2, ga3] at s0 s1
   clear hS hS6 a0 c3 al cl x1 x2 hbw4 hbw5 hb35 hp hq
   by_cases hpq : p < q
   ·have hbF := ba_set2 (g := w.heap.size + 1) (show Below w.heap.size w W6 from belr) (Nat.le_succ _) (.int .i64 p) (.int .i64 q)
    have hE : S.anch true true p q = (p, q, true) := by unfold S.anch; rw [if_neg (by simp), if_neg (by simp), if_pos hpq]
    have HE := lh hE
    clear hE
    have hnq : ¬ (q <= p) := by omega
    go_wp2
    exact bodyPost_ret (v := .tuple #[.agg #[.int .i64 p, .int .i64 q], .bool true]) (by simp [results, Tryz.results74, go_sem, *]) rfl ⟨by rw [HP.out, HQ.out, HE.out], hbF⟩
   ·have hbF := ba_set2 (g := w.heap.size + 1) (show Below w.heap.size w W6 from belr) (Nat.le_succ _) (.int .i64 0) (.int .i64 0)
    have hE : S.anch true true p q = (0, 0, false) := by unfold S.anch; rw [if_neg (by simp), if_neg (by simp), if_neg hpq]
    have HE := lh hE
    clear hE
    have hnq : q <= p := by omega
    go_wp2
    exact bodyPost_ret (v := .tuple #[.agg #[.int .i64 0, .int .i64 0], .bool false]) (by simp [results, Tryz.results74, go_sem, *]) rfl ⟨by rw [HP.out, HQ.out, HE.out], hbF⟩
theorem leg_x {x : Dt} {r : Rod} (h : RodFit x r) (h0 : ¬ r.main < 0) : -1048576 <= (S.legOf r).lo.x /\ (S.legOf r).hi.x <= 1048576 /\ (S.legOf r).lo.x <= (S.legOf r).hi.x := by
 obtain ⟨q, hq, hqe, hqm⟩ := idxf_some (xs := r.legs) (p := S.isMainB) (by rw [<- h.main]; omega)
 have hL : S.legOf r = r.legs[q] := by unfold S.legOf; rw [h.main, hqe]; simp [List.getD_eq_getElem?_getD, hq]
 have e1 := boxOk_x (h.legs _ (List.getElem_mem hq))
 rw [<- hL] at e1
 omega
theorem ranch_any (x : Dt) (rs : List Rod) (l : List Int) (A : Option Addr) (c : Nat) (B : Nat) (w : World) (hB : B <= w.heap.size) (hA : DtAt w B x) (hla : S.laid (bars x.bs) x.rs = true) (hru : S.rule x.rule = true) (hme : S.member x.m = true) (hrs : RodsOf x (S.nOf x) rs)
 (hl0 : 0 < l.length) (hl1 : l.length <= 2001) (hin : ∀ i, i ∈ l -> 0 <= i /\ i < (S.nOf x : Int)) (hs : Cells w w.heap.size A (i64s l)) :
 Calls Tryz.prog 74 #[dtV x, .slice A l.length c] w fun e w' => e = .returned (.tuple #[.agg #[.int .i64 (S.spanL x rs l).1, .int .i64 (S.spanL x rs l).2.1], .bool (S.spanL x rs l).2.2]) /\ Below w.heap.size w w' := by
 obtain ⟨b, o, rfl, hb, hx⟩ := hs.at_ (by simp; omega)
 obtain ⟨ln, hln⟩ : ∃ ln, l.length = ln + 1 := ⟨l.length - 1, by omega⟩
 have h0 : l[0] = l.headD 0 := by rw [List.headD_eq_head?_getD, List.head?_eq_getElem?, List.getElem?_eq_getElem (by omega)]; rfl
 have hn : l[ln] = l.getLastD 0 := by
  rw [List.getLastD_eq_getLast?, List.getLast?_eq_getElem?]
  rw [show l.length - 1 = ln by omega, List.getElem?_eq_getElem (by omega)]
  rfl
 obtain ⟨p1, p2⟩ := hin l[0] (List.getElem_mem _)
 obtain ⟨q1, q2⟩ := hin l[ln] (List.getElem_mem _)
 obtain ⟨ka, hka⟩ : ∃ ka : Nat, l[0] = (ka : Int) := ⟨l[0].toNat, by omega⟩
 obtain ⟨kb, hkb⟩ : ∃ kb : Nat, l[ln] = (kb : Int) := ⟨l[ln].toNat, by omega⟩
 have hkax : ka < rs.length := by rw [hrs.len]; omega
 have hkbx : kb < rs.length := by rw [hrs.len]; omega
 have ga := List.getElem?_eq_getElem hkax
 have gb := List.getElem?_eq_getElem hkbx
 have fa := rod_fit (hrs.ok ka hkax) hla
 have fb := rod_fit (hrs.ok kb hkbx) hla
 have c0 := hx 0 _ (i64s_get (xs := l) (k := 0) (by omega))
 have c1 := hx ln _ (i64s_get (xs := l) (k := ln) (by omega))
 rw [hka] at c0
 rw [hkb] at c1
 have e4 : l.headD 0 = (ka : Int) := by rw [<- h0, hka]
 have e5 : l.getLastD 0 = (kb : Int) := by rw [<- hn, hkb]
 have hsp : S.spanL x rs l = S.spanOf x rs[ka] rs[kb] := spanL_at (by rw [e4]; exact ga) (by rw [e5]; exact gb)
 have hml : ∀ r : Rod, ¬ r.main < 0 -> S.mlegOf r = S.legOf r := fun r h => by unfold S.mlegOf; rw [if_neg h]
 have he : S.spanOf x rs[ka] rs[kb] = S.anch (!decide (rs[ka].main < 0)) (!decide (rs[kb].main < 0)) ((S.mlegOf rs[ka]).lo.x + S.lowOf x rs[ka]) ((S.mlegOf rs[kb]).hi.x - S.upOf x rs[kb]) := by
  have tf : ¬ (true = false) := by simp
  unfold S.spanOf S.anch
  by_cases n1 : rs[ka].main < 0
  ·rw [if_pos n1, decide_eq_true n1]
   rfl
  ·rw [if_neg n1, decide_eq_false n1, hml _ n1]
   by_cases n2 : rs[kb].main < 0
   ·rw [if_pos n2, decide_eq_true n2]
    rfl
   ·rw [if_neg n2, decide_eq_false n2, hml _ n2]
    rfl
 rw [hsp, he]
 refine ranch_core x ka kb l.length ln (S.mlegOf rs[ka]) (S.mlegOf rs[kb]) _ _ (S.lowOf x rs[ka]) (S.upOf x rs[ka]) (S.lowOf x rs[kb]) (S.upOf x rs[kb]) b o c w hln (by omega) hb c0 c1
  (fun W hw => rmain_rod x rs B W (size_via hB hw) (hA.at_ hB hw) hla hrs ga)
  (fun W hw => rmain_rod x rs B W (size_via hB hw) (hA.at_ hB hw) hla hrs gb)
  (fun t1 t2 W hw => rends26_any x ka rs[ka] B W (size_via hB hw) (hA.at_ hB hw) hla hru hme (hrs.ok ka hkax) (by simp at t1; exact t1))
  (fun t1 t2 W hw => rends26_any x kb rs[kb] B W (size_via hB hw) (hA.at_ hB hw) hla hru hme (hrs.ok kb hkbx) (by simp at t2; exact t2)) ?_
 intro t1 t2
 have n1 : ¬ rs[ka].main < 0 := by simp at t1; omega
 have n2 : ¬ rs[kb].main < 0 := by simp at t2; omega
 have u1 := leg_x fa n1
 have u2 := leg_x fb n2
 have u3 := endLen_bd x rs[ka] hru fa (S.legOf rs[ka]).lo
 have u4 := endLen_bd x rs[kb] hru fb (S.legOf rs[kb]).hi
 change 0 <= S.lowOf x rs[ka] /\ _ at u3
 change 0 <= S.upOf x rs[kb] /\ _ at u4
 rw [hml _ n1, hml _ n2]
 change 0 <= S.lowOf x rs[ka] /\ S.lowOf x rs[ka] <= 40000000000 at u3
 change 0 <= S.upOf x rs[kb] /\ S.upOf x rs[kb] <= 40000000000 at u4
 omega
theorem box_set6 {w0 w : World} {b : Nat} {T : TypeId} {z0 z1 z2 z3 z4 z5 : Value} (h0 : Below w0.heap.size w0 w) (hl : w0.heap.size <= b) (hb : Blk w b T #[z0, z1, z2, z3, z4, z5]) (v0 v1 v2 v3 v4 v5 : Value) :
 ∃ W, ((((((w.setCell ⟨b, 0, none⟩ v0).setCell ⟨b, 1, none⟩ v1).setCell ⟨b, 2, none⟩ v2).setCell ⟨b, 3, none⟩ v3).setCell ⟨b, 4, none⟩ v4).setCell ⟨b, 5, none⟩ v5) = W /\ Below w0.heap.size w0 W /\ Blk W b T #[v0, v1, v2, v3, v4, v5] := by
 refine ⟨_, rfl, ba_set6 h0 hl _ _ _ _ _ _, ?_⟩
 have := (((((hb.set 0 v0).set 1 v1).set 2 v2).set 3 v3).set 4 v4).set 5 v5
 simpa only [List.setIfInBounds_toArray, List.set_cons_zero, List.set_cons_succ] using this
set_option maxRecDepth 20000 in
set_option maxHeartbeats 4000000 in
theorem rarea_core (x : Dt) (K : Int -> Int) (l : List Int) (lz b o c : Nat) (w : World) (hlz : l.length = lz) (hl0 : 0 < lz) (hl1 : lz <= 2001) (hb : b < w.heap.size) (hs : Cells w w.heap.size (some ⟨b, o, none⟩) (i64s l)) (hK : ∀ i, i ∈ l -> S.size (K i) = true)
 (hSZ : ∀ i, i ∈ l -> ∀ W, Below w.heap.size w W -> Calls Tryz.prog 109 #[dtV x, .int .i64 i] W fun e w' => e = .returned (.int .i64 (K i)) /\ Below W.heap.size W w') :
 Calls Tryz.prog 83 #[dtV x, .slice (some ⟨b, o, none⟩) lz c] w fun e w' => e = .returned (.int .i64 (S.steelArea (K (minBy K l)))) /\ Below w.heap.size w w' := by
 have HSZ := lh hSZ
 have HK := lh hK
 have HS := lh hs
 have HLZ := lh hlz
 have hi0 : (0 : Int) < (lz : Int) := by omega
 have c0 := hs.get (k := 0) (i64s_get (xs := l) (k := 0) (by omega))
 simp only [Nat.add_zero] at c0
 have HS0 := lh (HSZ.out l[0] (List.getElem_mem _))
 have H1 := lh (minBy_one K (xs := l) (by omega))
 generalize l[0] = i0 at *
 clear hSZ hK hs
 unfold dtV at HSZ HS0
 unfold dtV
 have hDB := Blk.new w 34 (dtc x)
 have hW1 : Below w.heap.size w (w.alloc (.cells (dtc x) 34)) := ba_alloc (Below.refl _ _) _
 go_enter Tryz.func83, Tryz.ntmps83
 go_upto_region 1 with fail
 generalize (w.alloc (.cells (dtc x) 34)) = W1 at *
 have HDB := lh hDB
 have a0 := (hW1.cell (p := ⟨b, o, none⟩) hb).trans c0
 have hbW : b < W1.heap.size := by have := hW1.size; omega
 clear hDB c0 hlz
 refine wp_region_mix 0 [4] (by kernel_rfl) (by kernel_rfl) (of_decide_eq_true (by kernel_rfl)) ?_
 try simp only [wpSegs, gt1, gt2, gt3, gt4, List.take_nil, List.drop_nil]
 repeat (first | (refine quietLoad (by rfl) 34 (.tmp 2) rfl _ _ rfl _ _ (quietBy fun W hw => (HDB.out.via hw).range) Tryz.underlying34 rfl (by kernel_rfl) ?_; intro aQ hQ; simp only [go_sem, List.setIfInBounds_toArray, List.set_cons_succ, List.set_cons_zero] at hQ; subst hQ) | go_big_quiet_step (fail))
 refine wpQuiet_nil ?_
 show wpList _ _ _ _ _ _
 go_wp2_with ((go_at_call 109; (with_reducible refine (HS0.out _ belr).mono ?_); rintro e w1 ⟨rfl, hbw1⟩))
 refine seg_next (grow_to belr) ?_
 try simp only [wpSegs, gt1, gt2, gt3, gt4, List.take_nil, List.drop_nil]
 repeat (go_big_quiet_step (fail))
 refine wpQuiet_nil ?_
 show wpList _ _ _ _ _ _
 go_upto_region 3 with fail
 have hb11 : Below W1.heap.size W1 w1 := ba_via hbw1 (ba_drew (Below.refl _ _))
 have hw1 : Below w.heap.size w w1 := ba_via hb11 hW1
 clear a0 hbW hbw1
 go_loopw [5, 6] (fun v i wr => ∃ k : Nat, 0 < k /\ k <= lz /\ i = .int .i64 k /\ ∃ u : Int, v = .int .i64 u /\ Hid (u = K (minBy K (l.take k))) /\ Below w1.heap.size w1 wr) (fun _ i _ => lz - (intOf i).toNat)
 case atStart => exact ⟨1, by omega, by omega, rfl, _, rfl, lh (by rw [H1.out]), Below.refl _ _⟩
 case round =>
  obtain ⟨k, hk0, hk, rfl, u, rfl, hu, hbr⟩ := hrel
  have hbwr : Below w.heap.size w wr := ba_via hbr hw1
  by_cases hlt : k < lz
  ·have hkx : k < l.length := by rw [HLZ.out]; exact hlt
   have hki : (k : Int) < lz := by omega
   have HNX := lh (congrArg K (minBy_next K hkx hk0))
   have hck := (HS.out.below hbwr).get (i64s_get hkx)
   have HSK := lh (HSZ.out l[k] (List.getElem_mem _))
   have hsr := hbwr.size
   have hbl : b < wr.heap.size := by omega
   have HDR := lh (HDB.out.via (ba_via hbr hb11))
   generalize l[k] = ik at *
   have HN2 := lh (show K (minBy K (l.take (k + 1))) = min u (K ik) by
    rw [apply_ite K, <- hu.out] at HNX
    rw [HNX.out]
    split <;> omega)
   clear HNX
   generalize K ik = nk at *
   go_upto_region 5 with fail
   refine wp_region_mix 0 [6, 0] (by kernel_rfl) (by kernel_rfl) (of_decide_eq_true (by kernel_rfl)) ?_
   try simp only [wpSegs, gt1, gt2, gt3, gt4, List.take_nil, List.drop_nil]
   repeat (first | (refine quietLoad (by rfl) 34 (.tmp 2) rfl _ _ rfl _ _ (quietBy fun W hw => (HDR.out.via hw).range) Tryz.underlying34 rfl (by kernel_rfl) ?_; intro aQ hQ; simp only [go_sem, List.setIfInBounds_toArray, List.set_cons_succ, List.set_cons_zero] at hQ; subst hQ) | go_big_quiet_step (fail))
   refine wpQuiet_nil ?_
   show wpList _ _ _ _ _ _
   go_wp2_with ((go_at_call 109; (with_reducible refine (HSK.out _ belr).mono ?_); rintro e w2 ⟨rfl, hbw2⟩))
   refine seg_next (grow_to belr) ?_
   try simp only [wpSegs, gt1, gt2, gt3, gt4, List.take_nil, List.drop_nil]
   repeat (go_big_quiet_step (fail))
   refine wpQuiet_nil ?_
   show wpList _ _ _ _ _ _
   go_wp2_with (fail)
   refine seg_next (grow_to belr) ?_
   try simp only [wpSegs, gt1, gt2, gt3, gt4, List.take_nil, List.drop_nil]
   repeat (go_big_quiet_step (fail))
   refine wpQuiet_nil ?_
   show wpList _ _ _ _ _ _
   go_wp2
   go_roundw
   case rel => exact ⟨k + 1, by omega, by omega, by go_num, min u nk, rfl, lh HN2.out.symm, ba_via belr hbr⟩
   case measure => simp [intOf]; omega
  ·have hkn : k = lz := by omega
   have hki : ¬ ((k : Int) < lz) := by omega
   have HU := lh (show u = K (minBy K l) by rw [hu.out, hkn, <- HLZ.out, List.take_length])
   have HA := lh (fun (W : World) => rsteelArea_any u W (by
    have h1 := minBy_mem K (xs := l) (k := l.length) (by rw [HLZ.out]; exact hl0) (Nat.le_refl _)
    rw [List.take_length] at h1
    rw [HU.out]
    exact HK.out _ h1))
   go_wp2_with (first
    | (go_at_call 110; (with_reducible refine (HA.out _).mono ?_); rintro e w' ⟨rfl, rfl⟩))
   go_ret
   exact ⟨ret_i (by rw [HU.out]), hbwr⟩
theorem rsize_rod (x : Dt) (rs : List Rod) (B : Nat) (w : World) (hB : B <= w.heap.size) (hA : DtAt w B x) (hla : S.laid (bars x.bs) x.rs = true) (hrs : RodsOf x (S.nOf x) rs) {i : Int} (hi : 0 <= i /\ i < (S.nOf x : Int)) :
 Calls Tryz.prog 109 #[dtV x, .int .i64 i] w fun e w' => e = .returned (.int .i64 (S.sizeI rs i)) /\ Below w.heap.size w w' := by
 obtain ⟨k, rfl⟩ : ∃ k : Nat, i = (k : Int) := ⟨i.toNat, by omega⟩
 have hk : k < S.nOf x := by omega
 have hkx : k < rs.length := by rw [hrs.len]; exact hk
 have hm := List.getElem?_eq_getElem (l := S.mains (bars x.bs) x.rs) (i := k) hk
 have h1 := rsize25_any x B w hB hA hla k _ hm
 have hR := hrs.ok k hkx
 obtain ⟨a, j, k0, hL, he⟩ := hR.ex
 have h2 := hL.st.get
 rw [hm] at h2
 injection h2 with h2
 have e : S.sizeI rs (k : Int) = ((S.mains (bars x.bs) x.rs)[k]'hk).size := by
  rw [h2]
  unfold S.sizeI
  rw [Int.toNat_natCast, List.getElem?_eq_getElem hkx, mnOf_size]
 rw [e]
 exact h1
theorem rarea_any (x : Dt) (rs : List Rod) (l : List Int) (A : Option Addr) (c : Nat) (B : Nat) (w : World) (hB : B <= w.heap.size) (hA : DtAt w B x) (hla : S.laid (bars x.bs) x.rs = true) (hrs : RodsOf x (S.nOf x) rs)
 (hl0 : 0 < l.length) (hl1 : l.length <= 2001) (hin : ∀ i, i ∈ l -> 0 <= i /\ i < (S.nOf x : Int)) (hs : Cells w w.heap.size A (i64s l)) :
 Calls Tryz.prog 83 #[dtV x, .slice A l.length c] w fun e w' => e = .returned (.int .i64 (S.schOf x rs l).area) /\ Below w.heap.size w w' := by
 obtain ⟨b, o, rfl, hb, hx⟩ := hs.at_ (by simp; omega)
 exact rarea_core x (S.sizeI rs) l l.length b o c w rfl hl0 hl1 hb hs (fun i hi => (areaI_pos hla hrs (hin i hi)).2.2) (fun i hi W hw => rsize_rod x rs B W (size_via hB hw) (hA.at_ hB hw) hla hrs (hin i hi))
set_option maxRecDepth 20000 in
set_option maxHeartbeats 8000000 in
theorem rsupp_core (x : Dt) (M : Int -> Bx) (T I : Int -> Bool) (z : Bx) (k : Nat) (l : List Int) (lz b o c bD oD : Nat) (p q : Int) (s : Bool) (w : World) (hlz : l.length = lz) (hl1 : lz <= 2001) (hs : Cells w w.heap.size (some ⟨b, o, none⟩) (i64s l)) (hb : b < w.heap.size)
 (hdA : x.dA = some ⟨bD, oD, none⟩) (hbD : bD < w.heap.size) (hk : k < x.dn)
 (z0 : w.cell? ⟨bD, oD + k * 8 + 1, none⟩ = some (.int .i64 z.lo.x)) (z1 : w.cell? ⟨bD, oD + k * 8 + 2, none⟩ = some (.int .i64 z.lo.y)) (z2 : w.cell? ⟨bD, oD + k * 8 + 3, none⟩ = some (.int .i64 z.lo.z)) (z3 : w.cell? ⟨bD, oD + k * 8 + 4, none⟩ = some (.int .i64 z.hi.x)) (z4 : w.cell? ⟨bD, oD + k * 8 + 5, none⟩ = some (.int .i64 z.hi.y)) (z5 : w.cell? ⟨bD, oD + k * 8 + 6, none⟩ = some (.int .i64 z.hi.z))
 (hM : ∀ i, i ∈ l -> ∀ W, Below w.heap.size w W -> Calls Tryz.prog 101 #[dtV x, .int .i64 i] W fun e w' => e = .returned (.tuple #[boxV (M i), .bool (T i)]) /\ Below W.heap.size W w')
 (hI : ∀ i, i ∈ l -> T i = true -> ∀ W, Calls Tryz.prog 108 #[boxV z, boxV (M i)] W fun e w' => e = .returned (.bool (I i)) /\ Below W.heap.size W w')
 (hN : ∀ W, Below w.heap.size w W -> Calls Tryz.prog 74 #[dtV x, .slice (some ⟨b, o, none⟩) lz c] W fun e w' => e = .returned (.tuple #[.agg #[.int .i64 p, .int .i64 q], .bool s]) /\ Below W.heap.size W w') :
 Calls Tryz.prog 82 #[dtV x, .slice (some ⟨b, o, none⟩) lz c, .int .i64 k] w fun e w' => e = .returned (.bool (s && !(anyb l fun i => !(T i && I i)))) /\ Below w.heap.size w w' := by
 have HM := lh hM
 have HI := lh hI
 have HN := lh hN
 have HS := lh hs
 have HLZ := lh hlz
 have HZ := lh (And.intro z0 (And.intro z1 (And.intro z2 (And.intro z3 (And.intro z4 z5)))))
 have hki : (k : Int) < x.dn := by omega
 have hki0 : ¬ ((k : Int) < 0) := by omega
 clear hM hI hN hs hlz z0 z1 z2 z3 z4 z5
 unfold dtV at HM HN
 unfold boxV at HM HI
 unfold dtV
 rw [hdA] at HM HN
 rw [hdA]
 clear hdA
 obtain ⟨dA, hdA⟩ : ∃ dA, dA = (some (⟨bD, oD, none⟩ : Addr)) := ⟨_, rfl⟩
 rw [<- hdA] at HM HN
 rw [<- hdA]
 have HDA := lh hdA
 clear hdA
 have hDB := Blk.new w 34 #[.string x.m.name, .slice x.mA x.mn x.mc, .slice x.hA x.hn x.hc, .int .i64 x.m.cover, .int .i64 x.m.aggr, .int .i64 x.m.poker, .slice x.bA x.bn x.bc, .slice x.rA x.rn x.rc, .slice x.jA x.jn x.jc, .slice dA x.dn x.dc, .int .i64 x.rule.num, .int .i64 x.rule.den, .int .i64 x.rule.pnum, .int .i64 x.rule.pden, .int .i64 x.rule.bnum, .int .i64 x.rule.bden, .int .i64 x.rule.lnum, .int .i64 x.rule.lden, .int .i64 x.rule.least]
 have hW1 : Below w.heap.size w (w.alloc (.cells #[.string x.m.name, .slice x.mA x.mn x.mc, .slice x.hA x.hn x.hc, .int .i64 x.m.cover, .int .i64 x.m.aggr, .int .i64 x.m.poker, .slice x.bA x.bn x.bc, .slice x.rA x.rn x.rc, .slice x.jA x.jn x.jc, .slice dA x.dn x.dc, .int .i64 x.rule.num, .int .i64 x.rule.den, .int .i64 x.rule.pnum, .int .i64 x.rule.pden, .int .i64 x.rule.bnum, .int .i64 x.rule.bden, .int .i64 x.rule.lnum, .int .i64 x.rule.lden, .int .i64 x.rule.least] 34)) := ba_alloc (Below.refl _ _) _
 go_enter Tryz.func82, Tryz.ntmps82
 go_upto_region 1 with fail
 generalize (w.alloc (.cells #[.string x.m.name, .slice x.mA x.mn x.mc, .slice x.hA x.hn x.hc, .int .i64 x.m.cover, .int .i64 x.m.aggr, .int .i64 x.m.poker, .slice x.bA x.bn x.bc, .slice x.rA x.rn x.rc, .slice x.jA x.jn x.jc, .slice dA x.dn x.dc, .int .i64 x.rule.num, .int .i64 x.rule.den, .int .i64 x.rule.pnum, .int .i64 x.rule.pden, .int .i64 x.rule.bnum, .int .i64 x.rule.bden, .int .i64 x.rule.lnum, .int .i64 x.rule.lden, .int .i64 x.rule.least] 34)) = W1 at *
 have HDB := lh hDB
 clear hDB
 go_upto_region 2 with fail
 go_loopw [7] (fun v wr => ∃ m : Nat, m <= lz /\ v = .int .i64 m /\ Hid (∀ j (hj : j < l.length), j < m -> (T l[j] && I l[j]) = true) /\ Below W1.heap.size W1 wr) (fun v _ => lz - (intOf v).toNat)
 case atStart => exact ⟨0, Nat.zero_le _, rfl, lh (fun j _ h => absurd h (by omega)), Below.refl _ _⟩
 case round =>
  obtain ⟨m, hm, rfl, hno, hbr⟩ := hrel
  have hbwr : Below w.heap.size w wr := ba_via hbr hW1
  by_cases hlt : m < lz
  ·have hmx : m < l.length := by rw [HLZ.out]; exact hlt
   have hmi : (m : Int) < lz := by omega
   have hcm := (HS.out.below hbwr).get (i64s_get hmx)
   have hsr := hbwr.size
   have hbl : b < wr.heap.size := by omega
   have HMI := lh (fun (W : World) (hw : Below wr.heap.size wr W) => HM.out l[m] (List.getElem_mem hmx) W (ba_via hw hbwr))
   have HII := lh (HI.out l[m] (List.getElem_mem hmx))
   have HOUT := lh (show (T l[m] && I l[m]) = false -> (s && !(anyb l fun i => !(T i && I i))) = false from fun h => by
    rw [show (anyb l fun i => !(T i && I i)) = true from anyb_of (p := fun i => !(T i && I i)) hmx (by simp only [h]; rfl)]
    simp)
   have HNX := lh (show (T l[m] && I l[m]) = true -> ∀ j (hj : j < l.length), j < m + 1 -> (T l[j] && I l[j]) = true from fun h j hj hlt => by
    by_cases e : j = m
    ·subst e; exact h
    ·exact hno.out j hj (by omega))
   have HDR := lh (HDB.out.via hbr)
   generalize l[m] = im at *
   generalize M im = g at *
   generalize T im = t at *
   generalize I im = ti at *
   go_upto_region 4 with fail
   refine wp_region_mixF 3 [0, 4] [8] _ 78 #[.int .i64 0, .int .i64 0, .int .i64 0, .int .i64 0, .int .i64 0, .int .i64 0] (by kernel_rfl) (by kernel_rfl) (of_decide_eq_true (by kernel_rfl)) rfl rfl (fun _ _ => by kernel_rfl) (by intro c a d v w h; cases d <;> exact h) ?_
   try simp only [wpSegsF, gt1, gt2, gt3, gt4, List.take_nil, List.drop_nil]
   repeat (go_big_quiet_step (fail))
   refine wpQuiet_nil ?_
   intro wA hCwA hGwA
   have hbA' : Below wr.heap.size wr wA := ba_via hGwA (ba_drew (Below.refl _ _))
   clear hCwA hGwA
   have hRGA := (HDR.out.via hbA').range
   go_wp2_with ((refine wpList_load_mid rfl 34 (.tmp 3) rfl _ _ rfl _ _ hRGA Tryz.underlying34 rfl (by kernel_rfl) ?_))
   refine segF_next (show Below _ _ _ from belr) ?_
   clear hRGA
   try simp only [wpSegsF, gt1, gt2, gt3, gt4, List.take_nil, List.drop_nil]
   repeat (go_big_quiet_step (fail))
   refine wpQuiet_nil ?_
   intro wB hCwB hGwB
   have hbB : Below wr.heap.size wr wB := ba_via hGwB hbA'
   clear hCwB hGwB
   go_wp2_with ((go_at_call 101; (with_reducible refine (HMI.out _ belr).mono ?_); rintro e w1 ⟨rfl, hbw1⟩))
   refine segF_next (show Below _ _ _ from belr) ?_
   try simp only [wpSegsF, endAt, gt1, gt2, gt3, gt4, List.take_nil, List.drop_nil]
   repeat (go_big_quiet_step (fail))
   refine wpQuiet_nil ?_
   intro b1 wD hOwD hGwD hLb1 hKb1
   simp only [endAt, List.drop_succ_cons, List.drop_zero, Nat.reduceAdd]
   have hbD2 : Below wr.heap.size wr wD := ba_via hGwD belr
   have hbl1 : b1 < wD.heap.size := hKb1.lt
   have y0 := hKb1.cell 0
   have y1 := hKb1.cell 1
   have y2 := hKb1.cell 2
   have y3 := hKb1.cell 3
   have y4 := hKb1.cell 4
   have y5 := hKb1.cell 5
   have x0 := hKb1.frozen 0
   have x1 := hKb1.frozen 1
   have x2 := hKb1.frozen 2
   have x3 := hKb1.frozen 3
   have x4 := hKb1.frozen 4
   have x5 := hKb1.frozen 5
   simp only [ga1, ga2, ga3] at y0 y1 y2 y3 y4 y5
   clear hOwD hGwD
   go_upto_region 5 with fail
   obtain ⟨W2, eW2, hW2, hB2⟩ := box_set6 hbD2 hLb1 hKb1 (.int .i64 g.lo.x) (.int .i64 g.lo.y) (.int .i64 g.lo.z) (.int .i64 g.hi.x) (.int .i64 g.hi.y) (.int .i64 g.hi.z)
   rw [eW2]
   clear eW2 y0 y1 y2 y3 y4 y5 x0 x1 x2 x3 x4 x5 hKb1 hbl1 hbD2 hbB hbA' hbw1 hcm
   clear wD w1 wB wA
   have hb2 : Below w.heap.size w W2 := ba_via hW2 hbwr
   cases t
   ·refine wp_region_mix 1 [10] (by kernel_rfl) (by kernel_rfl) (of_decide_eq_true (by kernel_rfl)) ?_
    try simp only [wpSegs, gt1, gt2, gt3, gt4, List.take_nil, List.drop_nil]
    repeat (go_big_quiet_step (fail))
    refine wpQuiet_nil ?_
    show wpList _ _ _ _ _ _
    go_wp2_with (fail)
    refine seg_next (grow_to belr) ?_
    try simp only [wpSegs, gt1, gt2, gt3, gt4, List.take_nil, List.drop_nil]
    repeat (go_big_quiet_step (fail))
    refine wpQuiet_nil ?_
    show wpList _ _ _ _ _ _
    go_wp2
    go_ret
    exact ⟨ret_b (HOUT.out rfl).symm, bel⟩
   ·have HIT := lh (HII.out rfl)
    have y0 := hB2.cell 0
    have y1 := hB2.cell 1
    have y2 := hB2.cell 2
    have y3 := hB2.cell 3
    have y4 := hB2.cell 4
    have y5 := hB2.cell 5
    have bl := hB2.lt
    simp only [ga1, ga2, ga3] at y0 y1 y2 y3 y4 y5
    obtain ⟨v0, v1, v2, v3, v4, v5⟩ := HZ.out
    have z0 := (hb2.cell (p := ⟨bD, _, none⟩) hbD).trans v0
    have z1 := (hb2.cell (p := ⟨bD, _, none⟩) hbD).trans v1
    have z2 := (hb2.cell (p := ⟨bD, _, none⟩) hbD).trans v2
    have z3 := (hb2.cell (p := ⟨bD, _, none⟩) hbD).trans v3
    have z4 := (hb2.cell (p := ⟨bD, _, none⟩) hbD).trans v4
    have z5 := (hb2.cell (p := ⟨bD, _, none⟩) hbD).trans v5
    have hbDl : bD < W2.heap.size := by have := hb2.size; omega
    have hD2 := HDR.out.via hW2
    have d9 := hD2.cell 9
    have dl := hD2.lt
    simp only [ga1, ga2, ga3] at d9
    rw [HDA.out] at d9
    clear v0 v1 v2 v3 v4 v5 hB2 hD2
    refine wp_region_mix 1 [10] (by kernel_rfl) (by kernel_rfl) (of_decide_eq_true (by kernel_rfl)) ?_
    try simp only [wpSegs, gt1, gt2, gt3, gt4, List.take_nil, List.drop_nil]
    repeat (go_big_quiet_step (fail))
    refine wpQuiet_nil ?_
    show wpList _ _ _ _ _ _
    go_wp2_with ((go_at_call 108; (with_reducible refine (HIT.out _).mono ?_); rintro e w1 ⟨rfl, hbw1⟩))
    refine seg_next (grow_to belr) ?_
    try simp only [wpSegs, gt1, gt2, gt3, gt4, List.take_nil, List.drop_nil]
    repeat (go_big_quiet_step (fail))
    refine wpQuiet_nil ?_
    show wpList _ _ _ _ _ _
    have hbw12 : Below wr.heap.size wr w1 := ba_via (ba_via hbw1 (ba_drew (Below.refl _ _))) hW2
    cases ti
    ·go_wp2
     go_ret
     exact ⟨ret_b (HOUT.out rfl).symm, ba_via hbw12 hbwr⟩
    ·go_wp2
     go_roundw
     case rel => exact ⟨m + 1, by omega, by go_num, lh (HNX.out rfl), ba_via hbw12 hbr⟩
     case measure => simp [intOf]; omega
  ·have hmn : m = lz := by omega
   have hmi : ¬ ((m : Int) < lz) := by omega
   have HDR := lh (HDB.out.via hbr)
   have HF := lh (show (s && !(anyb l fun i => !(T i && I i))) = s by
    rw [show (anyb l fun i => !(T i && I i)) = false from anyb_not (p := fun i => !(T i && I i)) (fun j hj => by have := hno.out j hj (by rw [hmn, <- HLZ.out]; exact hj); simp only [this]; rfl)]
    simp)
   clear hno
   go_wp2_with (first
    | ((with_reducible refine at_load 34 3 ?_); refine wpList_load_mid rfl 34 (.tmp 3) rfl _ _ rfl _ _ (HDR.out.via belr).range Tryz.underlying34 rfl (by kernel_rfl) ?_)
    | (go_at_call 74; (with_reducible refine (HN.out _ (ba_via belr hbwr)).mono ?_); rintro e w1 ⟨rfl, hbw1⟩))
   go_ret
   exact ⟨ret_b HF.out.symm, bel⟩
def S.mI (rs : List Rod) (i : Int) : Bx := match rs[i.toNat]? with | some r => S.mlegOf r | none => S.zbox
def S.tI (rs : List Rod) (i : Int) : Bool := match rs[i.toNat]? with | some r => !decide (r.main < 0) | none => false
def S.iI (rs : List Rod) (z : Bx) (i : Int) : Bool := match rs[i.toNat]? with | some r => S.inside (S.legOf r) z | none => false
theorem anyb_congr {l : List Int} {p q : Int -> Bool} (h : ∀ i, i ∈ l -> p i = q i) : anyb l p = anyb l q := by
 unfold anyb
 induction l with
 | nil => rfl
 | cons a t ih => rw [List.any_cons, List.any_cons, h a (by simp), ih (fun i hi => h i (by simp [hi]))]
theorem rsupp_any (x : Dt) (ds : List Dm) (rs : List Rod) (l : List Int) (k : Nat) (d : Dm) (A : Option Addr) (c : Nat) (B : Nat) (w : World) (hB : B <= w.heap.size) (hA : DtAt w B x) (hD : DemsAt w B x.dA x.dn ds) (hla : S.laid (bars x.bs) x.rs = true) (hru : S.rule x.rule = true) (hme : S.member x.m = true) (hrs : RodsOf x (S.nOf x) rs)
 (hk : ds[k]? = some d) (hl0 : 0 < l.length) (hl1 : l.length <= 2001) (hin : ∀ i, i ∈ l -> 0 <= i /\ i < (S.nOf x : Int)) (hs : Cells w w.heap.size A (i64s l)) :
 Calls Tryz.prog 82 #[dtV x, .slice A l.length c, .int .i64 k] w fun e w' => e = .returned (.bool (S.sup rs d.zone (S.schOf x rs l))) /\ Below w.heap.size w w' := by
 obtain ⟨b, o, rfl, hb, hx⟩ := hs.at_ (by simp; omega)
 obtain ⟨hkx, hke⟩ := List.getElem?_eq_some_iff.1 hk
 obtain ⟨bD, oD, hdA, hbD, hxx⟩ := hD.cells.at_ (by rw [flat_len dmC 8 dmC_len]; omega)
 have hDc := hD.cells
 rw [hdA] at hDc
 have z0 := hDc.rowj dmC_len hkx 1 rfl
 have z1 := hDc.rowj dmC_len hkx 2 rfl
 have z2 := hDc.rowj dmC_len hkx 3 rfl
 have z3 := hDc.rowj dmC_len hkx 4 rfl
 have z4 := hDc.rowj dmC_len hkx 5 rfl
 have z5 := hDc.rowj dmC_len hkx 6 rfl
 rw [hke] at z0 z1 z2 z3 z4 z5
 have hrod : ∀ i, i ∈ l -> ∃ (n : Nat) (r : Rod), i = (n : Int) /\ rs[n]? = some r /\ RodFit x r := fun i hi => by
  obtain ⟨h1, h2⟩ := hin i hi
  have h3 : i.toNat < rs.length := by rw [hrs.len]; omega
  exact ⟨i.toNat, rs[i.toNat], by omega, List.getElem?_eq_getElem h3, rod_fit (hrs.ok _ h3) hla⟩
 have key := rsupp_core x (S.mI rs) (S.tI rs) (S.iI rs d.zone) d.zone k l l.length b o c bD oD (S.spanL x rs l).1 (S.spanL x rs l).2.1 (S.spanL x rs l).2.2 w rfl hl1 hs hb hdA (Nat.lt_of_lt_of_le hbD hB) (by have := hD.len; omega) z0 z1 z2 z3 z4 z5
  (fun i hi W hw => by
    obtain ⟨n, r, rfl, hr, _⟩ := hrod i hi
    have := rmain_rod x rs B W (size_via hB hw) (hA.at_ hB hw) hla hrs hr
    unfold S.mI S.tI
    rw [Int.toNat_natCast, hr]
    exact this)
  (fun i hi ht W => by
    obtain ⟨n, r, rfl, hr, hf⟩ := hrod i hi
    unfold S.tI at ht
    rw [Int.toNat_natCast, hr] at ht
    have hm : ¬ r.main < 0 := by simpa using ht
    obtain ⟨q, hq, hqe, hqm⟩ := idxf_some (xs := r.legs) (p := S.isMainB) (by rw [<- hf.main]; omega)
    have hL : S.legOf r = r.legs[q] := by unfold S.legOf; rw [hf.main, hqe]; simp [List.getD_eq_getElem?_getD, hq]
    unfold S.mI S.iI
    rw [Int.toNat_natCast, hr]
    show Calls _ _ #[boxV d.zone, boxV (S.mlegOf r)] W fun e w' => e = .returned (.bool (S.inside (S.legOf r) d.zone)) /\ _
    unfold S.mlegOf
    rw [if_neg hm]
    rw [<- hL] at hqm
    obtain ⟨e1, e2, e3⟩ := isMainB_iff.1 hqm
    clear hL hqm
    generalize S.legOf r = L at *
    obtain ⟨⟨x1, y, z⟩, ⟨x2, y2, z2⟩⟩ := L
    simp only [] at e1 e2 e3
    subst e2 e3
    exact rin_any d.zone x1 x2 y z W)
  (fun W hw => ranch_any x rs l _ c B W (size_via hB hw) (hA.at_ hB hw) hla hru hme hrs hl0 hl1 hin ((hs.below hw).mono hw.size))
 have he : (anyb l fun i => !(S.tI rs i && S.iI rs d.zone i)) = anyb l (S.outI rs d.zone) := anyb_congr fun i hi => by
  obtain ⟨n, r, rfl, hr, _⟩ := hrod i hi
  unfold S.tI S.iI S.outI
  rw [Int.toNat_natCast, hr]
  show (!(!decide (r.main < 0) && S.inside (S.legOf r) d.zone)) = S.outside r d.zone
  unfold S.outside
  by_cases hm : r.main < 0
  ·rw [if_pos hm, decide_eq_true hm]; rfl
  ·rw [if_neg hm, decide_eq_false hm]; rfl
 rw [he] at key
 exact key
theorem span_set2 {w0 w : World} {b : Nat} {T : TypeId} {z0 z1 : Value} (h0 : Below w0.heap.size w0 w) (hl : w0.heap.size <= b) (hb : Blk w b T #[z0, z1]) (v0 v1 : Value) :
 ∃ W, ((w.setCell ⟨b, 0, none⟩ v0).setCell ⟨b, 1, none⟩ v1) = W /\ Below w0.heap.size w0 W /\ Blk W b T #[v0, v1] := by
 refine ⟨_, rfl, ba_set (ba_set h0 hl _) hl _, ?_⟩
 have := (hb.set 0 v0).set 1 v1
 simpa only [List.setIfInBounds_toArray, List.set_cons_zero, List.set_cons_succ] using this
structure ChSays (x : Dt) (C : List (List Int)) (k : Nat) (sp : List Int -> Int × Int × Bool) (su : List Int -> Bool) (ar : List Int -> Int) (w : World) : Prop where
 anch : ∀ l, l ∈ C -> ∀ (A : Option Addr) (c : Nat) (W : World), Below w.heap.size w W -> Cells W W.heap.size A (i64s l) -> Calls Tryz.prog 74 #[dtV x, .slice A l.length c] W fun e w' => e = .returned (.tuple #[.agg #[.int .i64 (sp l).1, .int .i64 (sp l).2.1], .bool (sp l).2.2]) /\ Below W.heap.size W w'
 sups : ∀ l, l ∈ C -> ∀ (A : Option Addr) (c : Nat) (W : World), Below w.heap.size w W -> Cells W W.heap.size A (i64s l) -> Calls Tryz.prog 82 #[dtV x, .slice A l.length c, .int .i64 k] W fun e w' => e = .returned (.bool (su l)) /\ Below W.heap.size W w'
 area : ∀ l, l ∈ C -> ∀ (A : Option Addr) (c : Nat) (W : World), Below w.heap.size w W -> Cells W W.heap.size A (i64s l) -> Calls Tryz.prog 83 #[dtV x, .slice A l.length c] W fun e w' => e = .returned (.int .i64 (ar l)) /\ Below W.heap.size W w'
 bd : ∀ l, l ∈ C -> 0 <= ar l /\ ar l <= 1000000
 len : C.length <= 2000
def S.refIn (sp : List Int -> Int × Int × Bool) (su : List Int -> Bool) (p : Int) (l : List Int) : Bool := (sp l).2.2 && su l && decide ((sp l).1 <= p) && decide (p < (sp l).2.1)
def S.refAt (sp : List Int -> Int × Int × Bool) (su : List Int -> Bool) (ar : List Int -> Int) (p : Int) (C : List (List Int)) : Int := C.foldl (fun n l => if S.refIn sp su p l then n + ar l else n) 0
theorem refAt_next (sp : List Int -> Int × Int × Bool) (su : List Int -> Bool) (ar : List Int -> Int) (p : Int) {C : List (List Int)} {k : Nat} (h : k < C.length) : S.refAt sp su ar p (C.take (k + 1)) = if S.refIn sp su p C[k] then S.refAt sp su ar p (C.take k) + ar C[k] else S.refAt sp su ar p (C.take k) := by
 have e : C.take (k + 1) = C.take k ++ [C[k]] := by rw [List.take_add_one, List.getElem?_eq_getElem h]; rfl
 unfold S.refAt
 rw [e, List.foldl_append]
 rfl
theorem refAt_bd (sp : List Int -> Int × Int × Bool) (su : List Int -> Bool) (ar : List Int -> Int) (p : Int) (C : List (List Int)) (h : ∀ l, l ∈ C -> 0 <= ar l /\ ar l <= 1000000) : 0 <= S.refAt sp su ar p C /\ S.refAt sp su ar p C <= 1000000 * (C.length : Int) := by
 suffices hs : ∀ (C : List (List Int)) (n : Int), (∀ l, l ∈ C -> 0 <= ar l /\ ar l <= 1000000) -> n <= C.foldl (fun n l => if S.refIn sp su p l then n + ar l else n) n /\ C.foldl (fun n l => if S.refIn sp su p l then n + ar l else n) n <= n + 1000000 * (C.length : Int) by
  have := hs C 0 h
  unfold S.refAt
  omega
 intro C
 induction C with
 | nil => intro n _; simp
 | cons l t ih =>
  intro n h
  rw [List.foldl_cons, List.length_cons]
  have h1 := h l (by simp)
  have h2 := ih (if S.refIn sp su p l then n + ar l else n) (fun l hl => h l (by simp [hl]))
  push_cast
  split at h2 <;> split <;> first | omega | contradiction
set_option maxRecDepth 20000 in
set_option maxHeartbeats 8000000 in
theorem rat26_core (x : Dt) (C : List (List Int)) (k : Nat) (p : Int) (sp : List Int -> Int × Int × Bool) (su : List Int -> Bool) (ar : List Int -> Int) (w : World) (hc : ChSays x C k sp su ar w)
 (hCH : ∀ W, Below w.heap.size w W -> Calls Tryz.prog 73 #[dtV x] W (GivesChs C W)) :
 Calls Tryz.prog 52 #[dtV x, .int .i64 k, .int .i64 p] w fun e w' => e = .returned (.int .i64 (S.refAt sp su ar p C)) /\ Below w.heap.size w w' := by
 have HCH := lh hCH
 have HAN := lh hc.anch
 have HSU := lh hc.sups
 have HAR := lh hc.area
 have HBD := lh hc.bd
 have hcl := hc.len
 clear hCH hc
 unfold dtV at HCH HAN HSU HAR
 unfold dtV
 have hDB := Blk.new w 34 (dtc x)
 have hW1 : Below w.heap.size w (w.alloc (.cells (dtc x) 34)) := ba_alloc (Below.refl _ _) _
 go_enter Tryz.func52, Tryz.ntmps52
 go_upto_region 1 with fail
 generalize (w.alloc (.cells (dtc x) 34)) = W1 at *
 have HDB := lh hDB
 clear hDB
 go_upto_region 2 with (first
  | ((with_reducible refine at_load 34 3 ?_); refine wpList_load_mid rfl 34 (.tmp 3) rfl _ _ rfl _ _ (HDB.out.via belr).range Tryz.underlying34 rfl (by kernel_rfl) ?_)
  | (go_at_call 73; (with_reducible refine (HCH.out _ belr).mono ?_); rintro e w1 ⟨A1, c1, rs, rfl, hrs, hrc, hcc, hce, hbw1⟩))
 have hb11 : Below W1.heap.size W1 w1 := belr
 have hw1 : Below w.heap.size w w1 := ba_via hb11 hW1
 have hrl : rs.length = C.length := by rw [<- hrs, List.length_map]
 have HRL := lh (fun (q : Nat) (hq : q < rs.length) (hqC : q < C.length) => show rs[q].l = C[q] from by
  have h1 : (rs.map (·.l))[q]? = C[q]? := by rw [hrs]
  rw [List.getElem?_map, List.getElem?_eq_getElem hq, List.getElem?_eq_getElem hqC] at h1
  exact Option.some.inj h1)
 have HCC := lh hcc
 have HCE := lh hce
 obtain ⟨nc, hnc⟩ : ∃ nc, nc = rs.length := ⟨_, rfl⟩
 have HNR := lh hnc
 have HNC := lh (hnc.trans hrl)
 rw [<- hnc]
 have hncl : nc <= 2000 := by rw [hnc, hrl]; exact hcl
 clear hrs hrc hcc hce hbw1 hnc hrl hcl
 go_upto_region 4 with fail
 go_loopw [8, 9] (fun v i wr => ∃ q : Nat, q <= nc /\ i = .int .i64 q /\ ∃ u : Int, v = .int .i64 u /\ Hid (u = S.refAt sp su ar p (C.take q)) /\ Below w1.heap.size w1 wr) (fun _ i _ => nc - (intOf i).toNat)
 case atStart => exact ⟨0, Nat.zero_le _, rfl, 0, rfl, lh rfl, Below.refl _ _⟩
 case round =>
  obtain ⟨q, hq, rfl, u, rfl, hu, hbr⟩ := hrel
  have hbwr : Below w.heap.size w wr := ba_via hbr hw1
  have hub := refAt_bd sp su ar p (C.take q) (fun l hl => HBD.out l (List.mem_of_mem_take hl))
  rw [<- hu.out, List.length_take] at hub
  have hu1 : 0 <= u := hub.1
  have hu2 : u <= 2000000000 := by omega
  clear hub
  by_cases hlt : q < nc
  ·have hqx : q < rs.length := by rw [<- HNR.out]; exact hlt
   have hqC : q < C.length := by rw [<- HNC.out]; exact hlt
   have hqi : (q : Int) < nc := by omega
   have HNX := lh (refAt_next sp su ar p hqC)
   rw [<- hu.out] at HNX
   have hsr := hbr.size
   obtain ⟨bA, oA, hAe, hbA, hxx⟩ := (HCC.out.below hbr).at_ (by rw [List.length_map]; omega)
   clear hxx
   have HAE := lh hAe
   have hc0 := (HCC.out.below hbr)
   rw [hAe] at hc0
   have c0 := hc0.get (k := q) (v := chV rs[q]) (by rw [List.getElem?_map, List.getElem?_eq_getElem hqx]; rfl)
   have hrq := HRL.out q hqx hqC
   have HCQ := lh (((HCE.out rs[q] (List.getElem_mem hqx)).1.below hbr).mono hsr)
   unfold chV at c0
   rw [hrq] at c0 HCQ
   have hmem := List.getElem_mem hqC
   have hbAl : bA < wr.heap.size := by omega
   have hba := HBD.out _ hmem
   have HA1 := lh (fun (W : World) (hw : Below wr.heap.size wr W) => HAN.out _ hmem rs[q].A rs[q].c W (ba_via hw hbwr) ((HCQ.out.below hw).mono hw.size))
   have HS1 := lh (fun (W : World) (hw : Below wr.heap.size wr W) => HSU.out _ hmem rs[q].A rs[q].c W (ba_via hw hbwr) ((HCQ.out.below hw).mono hw.size))
   have HR1 := lh (fun (W : World) (hw : Below wr.heap.size wr W) => HAR.out _ hmem rs[q].A rs[q].c W (ba_via hw hbwr) ((HCQ.out.below hw).mono hw.size))
   have HIN := lh (show S.refIn sp su p C[q] = ((sp C[q]).2.2 && su C[q] && decide ((sp C[q]).1 <= p) && decide (p < (sp C[q]).2.1)) from rfl)
   have HDR := lh (HDB.out.via (ba_via hbr hb11))
   rw [hAe]
   clear hc0 HCQ hmem hrq hAe
   generalize rs[q].A = rA at *
   generalize rs[q].c = rc at *
   generalize S.refIn sp su p C[q] = tin at *
   generalize ar C[q] = av at *
   generalize su C[q] = ts at *
   generalize (sp C[q]).2.2 = tok at *
   generalize (sp C[q]).1 = lo at *
   generalize (sp C[q]).2.1 = hi at *
   generalize C[q].length = ll at *
   go_upto_region 6 with fail
   refine wp_region_mixF 3 [0, 4] [8] _ 49 #[.int .i64 0, .int .i64 0] (by kernel_rfl) (by kernel_rfl) (of_decide_eq_true (by kernel_rfl)) rfl rfl (fun _ _ => by kernel_rfl) (by intro c a d v w h; cases d <;> exact h) ?_
   try simp only [wpSegsF, gt1, gt2, gt3, gt4, List.take_nil, List.drop_nil]
   repeat (go_big_quiet_step (fail))
   refine wpQuiet_nil ?_
   intro wA hCwA hGwA
   have hbA' : Below wr.heap.size wr wA := ba_via hGwA (ba_drew (Below.refl _ _))
   clear hCwA hGwA
   have hRGA := (HDR.out.via hbA').range
   go_wp2_with ((refine wpList_load_mid rfl 34 (.tmp 3) rfl _ _ rfl _ _ hRGA Tryz.underlying34 rfl (by kernel_rfl) ?_))
   refine segF_next (show Below _ _ _ from belr) ?_
   clear hRGA
   try simp only [wpSegsF, gt1, gt2, gt3, gt4, List.take_nil, List.drop_nil]
   repeat (go_big_quiet_step (fail))
   refine wpQuiet_nil ?_
   intro wB hCwB hGwB
   have hbB : Below wr.heap.size wr wB := ba_via hGwB hbA'
   clear hCwB hGwB
   go_wp2_with ((go_at_call 74; (with_reducible refine (HA1.out _ belr).mono ?_); rintro e w2 ⟨rfl, hbw2⟩))
   refine segF_next (show Below _ _ _ from belr) ?_
   try simp only [wpSegsF, endAt, gt1, gt2, gt3, gt4, List.take_nil, List.drop_nil]
   repeat (go_big_quiet_step (fail))
   refine wpQuiet_nil ?_
   intro b1 wD hOwD hGwD hLb1 hKb1
   simp only [endAt, List.drop_succ_cons, List.drop_zero, Nat.reduceAdd]
   have hbD2 : Below wr.heap.size wr wD := ba_via hGwD belr
   have hbl1 : b1 < wD.heap.size := hKb1.lt
   have y0 := hKb1.cell 0
   have y1 := hKb1.cell 1
   have x0 := hKb1.frozen 0
   have x1 := hKb1.frozen 1
   simp only [ga1, ga2, ga3] at y0 y1
   clear hOwD hGwD
   go_upto_region 7 with fail
   obtain ⟨W2, eW2, hW2, hB2⟩ := span_set2 hbD2 hLb1 hKb1 (.int .i64 lo) (.int .i64 hi)
   rw [eW2]
   clear eW2 y0 y1 x0 x1 hKb1 hbl1 hbD2 hbB hbA' hbw2
   clear wD w2 wB wA
   have y0 := hB2.cell 0
   have y1 := hB2.cell 1
   have bl := hB2.lt
   simp only [ga1, ga2, ga3] at y0 y1
   have c0' := (hW2.cell (p := ⟨bA, oA + q, none⟩) hbAl).trans c0
   have hbAl2 : bA < W2.heap.size := by have := hW2.size; omega
   have HD2 := lh (HDR.out.via hW2)
   have HSE := lh (fun (W : World) (hw : Below W2.heap.size W2 W) => HS1.out W (ba_via hw hW2))
   clear c0 hB2
   cases tok
   ·have HV := lh (show S.refAt sp su ar p (C.take (q + 1)) = u by rw [HNX.out, if_neg (by rw [HIN.out]; simp)])
    refine wp_region_mix 12 [8] (by kernel_rfl) (by kernel_rfl) (of_decide_eq_true (by kernel_rfl)) ?_
    try simp only [wpSegs, gt1, gt2, gt3, gt4, List.take_nil, List.drop_nil]
    repeat (first | (refine quietLoad (by rfl) 34 (.tmp 3) rfl _ _ rfl _ _ (quietBy fun W hw => (HD2.out.via hw).range) Tryz.underlying34 rfl (by kernel_rfl) ?_; intro aQ hQ; simp only [go_sem, List.setIfInBounds_toArray, List.set_cons_succ, List.set_cons_zero] at hQ; subst hQ) | go_big_quiet_step (fail))
    refine wpQuiet_nil ?_
    show wpList _ _ _ _ _ _
    go_wp2_with (fail)
    refine seg_next (grow_to belr) ?_
    try simp only [wpSegs, gt1, gt2, gt3, gt4, List.take_nil, List.drop_nil]
    repeat (go_big_quiet_step (fail))
    refine wpQuiet_nil ?_
    show wpList _ _ _ _ _ _
    go_wp2
    go_roundw
    case rel => exact ⟨q + 1, by omega, by go_num, u, rfl, lh HV.out.symm, ba_via (ba_via (ba_drew (Below.refl _ _)) hW2) hbr⟩
    case measure => simp [intOf]; omega
   ·cases ts
    ·have HV := lh (show S.refAt sp su ar p (C.take (q + 1)) = u by rw [HNX.out, if_neg (by rw [HIN.out]; simp)])
     refine wp_region_mix 12 [8] (by kernel_rfl) (by kernel_rfl) (of_decide_eq_true (by kernel_rfl)) ?_
     try simp only [wpSegs, gt1, gt2, gt3, gt4, List.take_nil, List.drop_nil]
     repeat (first | (refine quietLoad (by rfl) 34 (.tmp 3) rfl _ _ rfl _ _ (quietBy fun W hw => (HD2.out.via hw).range) Tryz.underlying34 rfl (by kernel_rfl) ?_; intro aQ hQ; simp only [go_sem, List.setIfInBounds_toArray, List.set_cons_succ, List.set_cons_zero] at hQ; subst hQ) | go_big_quiet_step (fail))
     refine wpQuiet_nil ?_
     show wpList _ _ _ _ _ _
     go_wp2_with ((go_at_call 82; (with_reducible refine (HSE.out _ belr).mono ?_); rintro e w3 ⟨rfl, hbw3⟩))
     refine seg_next (grow_to belr) ?_
     try simp only [wpSegs, gt1, gt2, gt3, gt4, List.take_nil, List.drop_nil]
     repeat (go_big_quiet_step (fail))
     refine wpQuiet_nil ?_
     show wpList _ _ _ _ _ _
     have hb9 : Below wr.heap.size wr w3 := ba_via (ba_via hbw3 (ba_drew (Below.refl _ _))) hW2
     go_wp2
     go_roundw
     case rel => exact ⟨q + 1, by omega, by go_num, u, rfl, lh HV.out.symm, ba_via hb9 hbr⟩
     case measure => simp [intOf]; omega
    ·by_cases h1 : lo <= p
     ·by_cases h2 : p < hi
      ·have HV := lh (show S.refAt sp su ar p (C.take (q + 1)) = u + av by rw [HNX.out, if_pos (by rw [HIN.out, decide_eq_true h1, decide_eq_true h2]; rfl)])
       have e1 : IntKind.i64.wrap (u + av) = u + av := IntWalk.i64_in _ (by omega)
       refine wp_region_mix 12 [8] (by kernel_rfl) (by kernel_rfl) (of_decide_eq_true (by kernel_rfl)) ?_
       try simp only [wpSegs, gt1, gt2, gt3, gt4, List.take_nil, List.drop_nil]
       repeat (first | (refine quietLoad (by rfl) 34 (.tmp 3) rfl _ _ rfl _ _ (quietBy fun W hw => (HD2.out.via hw).range) Tryz.underlying34 rfl (by kernel_rfl) ?_; intro aQ hQ; simp only [go_sem, List.setIfInBounds_toArray, List.set_cons_succ, List.set_cons_zero] at hQ; subst hQ) | go_big_quiet_step (fail))
       refine wpQuiet_nil ?_
       show wpList _ _ _ _ _ _
       go_wp2_with ((go_at_call 82; (with_reducible refine (HSE.out _ belr).mono ?_); rintro e w3 ⟨rfl, hbw3⟩))
       refine seg_next (grow_to belr) ?_
       try simp only [wpSegs, gt1, gt2, gt3, gt4, List.take_nil, List.drop_nil]
       repeat (go_big_quiet_step (fail))
       refine wpQuiet_nil ?_
       show wpList _ _ _ _ _ _
       have hb9 : Below W2.heap.size W2 w3 := ba_via hbw3 (ba_drew (Below.refl _ _))
       have c0'' := (hb9.cell (p := ⟨bA, oA + q, none⟩) hbAl2).trans c0'
       have hbAl3 : bA < w3.heap.size := by have := hb9.size; omega
       have HD9 := lh (HD2.out.via hb9)
       have HRE := lh (fun (W : World) (hw : Below w3.heap.size w3 W) => HR1.out W (ba_via (ba_via hw hb9) hW2))
       clear hbw3 y0 y1 bl
       go_upto_region 8 with fail
       refine wp_region_mix 1 [6] (by kernel_rfl) (by kernel_rfl) (of_decide_eq_true (by kernel_rfl)) ?_
       try simp only [wpSegs, gt1, gt2, gt3, gt4, List.take_nil, List.drop_nil]
       repeat (first | (refine quietLoad (by rfl) 34 (.tmp 3) rfl _ _ rfl _ _ (quietBy fun W hw => (HD9.out.via hw).range) Tryz.underlying34 rfl (by kernel_rfl) ?_; intro aQ hQ; simp only [go_sem, List.setIfInBounds_toArray, List.set_cons_succ, List.set_cons_zero] at hQ; subst hQ) | go_big_quiet_step (fail))
       refine wpQuiet_nil ?_
       show wpList _ _ _ _ _ _
       go_wp2_with ((go_at_call 83; (with_reducible refine (HRE.out _ belr).mono ?_); rintro e w4 ⟨rfl, hbw4⟩))
       refine seg_next (grow_to belr) ?_
       try simp only [wpSegs, gt1, gt2, gt3, gt4, List.take_nil, List.drop_nil]
       repeat (go_big_quiet_step (fail))
       refine wpQuiet_nil ?_
       show wpList _ _ _ _ _ _
       have hb10 : Below wr.heap.size wr w4 := ba_via (ba_via (ba_via hbw4 (ba_drew (Below.refl _ _))) hb9) hW2
       go_wp2
       go_roundw
       case rel => exact ⟨q + 1, by omega, by go_num, u + av, rfl, lh HV.out.symm, ba_via hb10 hbr⟩
       case measure => simp [intOf]; omega
      ·have h3 : decide (p < hi) = false := decide_eq_false h2
       have HF := lh h3
       have HV := lh (show S.refAt sp su ar p (C.take (q + 1)) = u by rw [HNX.out, if_neg (by rw [HIN.out, HF.out]; simp)])
       refine wp_region_mix 12 [8] (by kernel_rfl) (by kernel_rfl) (of_decide_eq_true (by kernel_rfl)) ?_
       try simp only [wpSegs, gt1, gt2, gt3, gt4, List.take_nil, List.drop_nil]
       repeat (first | (refine quietLoad (by rfl) 34 (.tmp 3) rfl _ _ rfl _ _ (quietBy fun W hw => (HD2.out.via hw).range) Tryz.underlying34 rfl (by kernel_rfl) ?_; intro aQ hQ; simp only [go_sem, List.setIfInBounds_toArray, List.set_cons_succ, List.set_cons_zero] at hQ; subst hQ) | go_big_quiet_step (fail))
       refine wpQuiet_nil ?_
       show wpList _ _ _ _ _ _
       go_wp2_with ((go_at_call 82; (with_reducible refine (HSE.out _ belr).mono ?_); rintro e w3 ⟨rfl, hbw3⟩))
       refine seg_next (grow_to belr) ?_
       try simp only [wpSegs, gt1, gt2, gt3, gt4, List.take_nil, List.drop_nil]
       repeat (go_big_quiet_step (fail))
       refine wpQuiet_nil ?_
       show wpList _ _ _ _ _ _
       have hb9 : Below wr.heap.size wr w3 := ba_via (ba_via hbw3 (ba_drew (Below.refl _ _))) hW2
       go_wp2
       go_roundw
       case rel => exact ⟨q + 1, by omega, by go_num, u, rfl, lh HV.out.symm, ba_via hb9 hbr⟩
       case measure => simp [intOf]; omega
     ·have h3 : decide (lo <= p) = false := decide_eq_false h1
      have HF := lh h3
      have HV := lh (show S.refAt sp su ar p (C.take (q + 1)) = u by rw [HNX.out, if_neg (by rw [HIN.out, HF.out]; simp)])
      refine wp_region_mix 12 [8] (by kernel_rfl) (by kernel_rfl) (of_decide_eq_true (by kernel_rfl)) ?_
      try simp only [wpSegs, gt1, gt2, gt3, gt4, List.take_nil, List.drop_nil]
      repeat (first | (refine quietLoad (by rfl) 34 (.tmp 3) rfl _ _ rfl _ _ (quietBy fun W hw => (HD2.out.via hw).range) Tryz.underlying34 rfl (by kernel_rfl) ?_; intro aQ hQ; simp only [go_sem, List.setIfInBounds_toArray, List.set_cons_succ, List.set_cons_zero] at hQ; subst hQ) | go_big_quiet_step (fail))
      refine wpQuiet_nil ?_
      show wpList _ _ _ _ _ _
      go_wp2_with ((go_at_call 82; (with_reducible refine (HSE.out _ belr).mono ?_); rintro e w3 ⟨rfl, hbw3⟩))
      refine seg_next (grow_to belr) ?_
      try simp only [wpSegs, gt1, gt2, gt3, gt4, List.take_nil, List.drop_nil]
      repeat (go_big_quiet_step (fail))
      refine wpQuiet_nil ?_
      show wpList _ _ _ _ _ _
      have hb9 : Below wr.heap.size wr w3 := ba_via (ba_via hbw3 (ba_drew (Below.refl _ _))) hW2
      go_wp2
      go_roundw
      case rel => exact ⟨q + 1, by omega, by go_num, u, rfl, lh HV.out.symm, ba_via hb9 hbr⟩
      case measure => simp [intOf]; omega
  ·have hqn : q = nc := by omega
   have hqi : ¬ ((q : Int) < nc) := by omega
   have HU := lh (show u = S.refAt sp su ar p C by rw [hu.out, List.take_of_length_le (by rw [hqn, HNC.out]; exact Nat.le_refl _)])
   go_wp2
   go_ret
   exact ⟨ret_i HU.out, hbwr⟩
end Go.Proofs.YtmfpbafpnoomeaaGreat
