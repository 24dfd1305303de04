/- Lemmas. -/
import Derived.Test.YtmfpbafpnoomeaaGreatMAM
set_option linter.unusedVariables false
set_option linter.unusedSimpArgs false
namespace Go.Proofs.YtmfpbafpnoomeaaGreat
open Go.RowKit
def GivesSt (L : List Stp) (w : World) (e : Ending) (w' : World) : Prop :=
 ∃ (A : Option Addr) (c : Nat), e = .returned (.tuple #[.slice A L.length c, .int .i64 0]) /\ w'.ownsRow w.heap.size 136 2 (.slice A L.length c) L.length (L.flatMap stC) /\ Below w.heap.size w w'
theorem Of_err (x : Dt) (k : Int) (er : Int) (w : World) (he : (er == 0) = false)
 (hSU : ∀ W, Below w.heap.size w W -> Calls Tryz.prog 90 #[dtV x, .int .i64 k] W fun e w' => e = .returned (.tuple #[.slice none 0 0, .slice none 0 0, .int .i64 er]) /\ Below W.heap.size W w') :
 Calls Tryz.prog 69 #[dtV x, .int .i64 k] w fun e w' => e = .returned (.tuple #[.slice none 0 0, .int .i64 er]) /\ Below w.heap.size w w' := by
 have HSU := lh hSU
 have he2 : ¬ (er = 0) := by simpa using he
 clear hSU
 unfold dtV at HSU
 unfold dtV
 have hDB := Blk.new w 34 (dtc x)
 have hW1 : Below w.heap.size w (w.alloc (.cells (dtc x) 34)) := ba_alloc (Below.refl _ _) _
 go_enter Tryz.func69, Tryz.ntmps69
 go_upto_region 1 with fail
 generalize (w.alloc (.cells (dtc x) 34)) = W1 at *
 have HDB := lh hDB
 clear hDB
 go_wp2_with (first
  | ((with_reducible refine at_load 34 2 ?_); refine wpList_load_mid rfl 34 (.tmp 2) rfl _ _ rfl _ _ (HDB.out.via belr).range Tryz.underlying34 rfl (by kernel_rfl) ?_)
  | (go_at_call 90; (with_reducible refine (HSU.out _ belr).mono ?_); rintro e w2 ⟨rfl, hbw2⟩))
 go_ret2
 exact ⟨rfl, bel⟩
section
variable {x : Dt} {ds : List Dm} {w : World}
theorem sup_steps (h : DtOk w x ds) (hlk : S.look x (S.dems ds) = true) (hC : (S.cOf x).length <= 100) (z : Bx) {rs : List Rod} (hrs : RodsOf x (S.nOf x) rs) : (S.supplyOf x rs (S.cOf x) z).length <= 200 := by
 have g := look_ok hlk
 have hp := places_len ((S.cOf x).map (S.schOf x rs) |>.filter (S.sup rs z))
 have hf := List.length_filter_le (S.sup rs z) ((S.cOf x).map (S.schOf x rs))
 rw [List.length_map] at hf
 have h1 := shortStF_len (S.ofL ((S.cOf x).map (S.schOf x rs) |>.filter (S.sup rs z)))
 have h2 := ofF_len ((S.cOf x).map (S.schOf x rs) |>.filter (S.sup rs z)) (S.places ((S.cOf x).map (S.schOf x rs) |>.filter (S.sup rs z)))
 unfold S.supplyOf S.shortSt
 unfold S.ofL at h1 ⊢
 omega
theorem sch_span {rs : List Rod} (hlk : S.look x (S.dems ds) = true) (hrs : RodsOf x (S.nOf x) rs) : ∀ c, c ∈ (S.cOf x).map (S.schOf x rs) -> c.is = true -> -1048576 <= c.lo /\ c.lo < c.hi := fun c hc hi => by
 have g := look_ok hlk
 obtain ⟨l, hl, rfl⟩ := List.mem_map.1 hc
 obtain ⟨h0, _, h1⟩ := g.cin l hl
 have hpos : 0 < l.length := h0
 obtain ⟨a1, a2⟩ := h1 (l.headD 0) (by cases l with | nil => simp at hpos | cons a t => simp)
 obtain ⟨b1, b2⟩ := h1 (l.getLastD 0) (by cases l with | nil => simp at hpos | cons a t => rw [List.getLastD_cons]; exact List.getLastD_mem_cons)
 have ka : (l.headD 0).toNat < rs.length := by rw [hrs.len]; omega
 have kb : (l.getLastD 0).toNat < rs.length := by rw [hrs.len]; omega
 have hsp := spanL_at (x := x) (List.getElem?_eq_getElem ka) (List.getElem?_eq_getElem kb)
 change (S.spanL x rs l).2.2 = true at hi
 have hb := span_in (lo := (S.spanL x rs l).1) (hi := (S.spanL x rs l).2.1) g.rule (rod_fit (hrs.ok _ ka) g.laid) (rod_fit (hrs.ok _ kb) g.laid) (by rw [<- hsp, <- hi])
 exact ⟨hb.1, hb.2.1⟩
end
theorem sch_self {x : Dt} {n : Nat} {rs : List Rod} (hrs : RodsOf x n rs) {l : List Int} (h0 : 0 < l.length) (hin : ∀ i, i ∈ l -> 0 <= i /\ i < (n : Int)) : SchOk x rs l (S.schOf x rs l) := by
 obtain ⟨a1, a2⟩ := hin (l.headD 0) (by cases l with | nil => simp at h0 | cons a t => simp)
 obtain ⟨b1, b2⟩ := hin (l.getLastD 0) (by cases l with | nil => simp at h0 | cons a t => rw [List.getLastD_cons]; exact List.getLastD_mem_cons)
 have ka : (l.headD 0).toNat < rs.length := by rw [hrs.len]; omega
 have kb : (l.getLastD 0).toNat < rs.length := by rw [hrs.len]; omega
 exact ⟨rfl, rfl, _, _, List.getElem?_eq_getElem ka, List.getElem?_eq_getElem kb, spanL_at (x := x) (List.getElem?_eq_getElem ka) (List.getElem?_eq_getElem kb)⟩
theorem sup_valid {x : Dt} {ds : List Dm} {rs : List Rod} (hlk : S.look x (S.dems ds) = true) (hC : (S.cOf x).length <= 100) (hrs : RodsOf x (S.nOf x) rs) (z : Bx) : S.steps (S.supplyOf x rs (S.cOf x) z) = true := by
 have g := look_ok hlk
 have h := of_steps hC g.cin g.laid g.rule z rs ((S.cOf x).map (S.schOf x rs)) hrs (by simp) (fun i hi hj => by
  obtain ⟨h0, _, h1⟩ := g.cin _ (List.getElem_mem hj)
  rw [List.getElem_map]
  exact sch_self hrs h0 h1)
 unfold S.supplyOf
 rw [short_ofL, <- ofL_sh]
 exact h
def S.valueV (v x : Int) (l : List Stp) : Int := match S.upTo x l with
 | 0 => v
 | k + 1 => match l[k]? with | some s => s.val | none => v
theorem upTo_cons (x : Int) (s : Stp) (l : List Stp) : S.upTo x (s :: l) = S.upTo x l + if s.fro <= x then 1 else 0 := by
 unfold S.upTo
 rw [List.countP_cons]
 simp
theorem upTo_none {x : Int} {l : List Stp} (h : ∀ s, s ∈ l -> x < s.fro) : S.upTo x l = 0 := by
 unfold S.upTo
 rw [List.countP_eq_zero]
 intro s hs
 have := h s hs
 simp only [decide_eq_true_eq]
 omega
theorem valueV_cons {v x : Int} {s : Stp} {l : List Stp} (h : s.fro <= x) : S.valueV v x (s :: l) = S.valueV s.val x l := by
 unfold S.valueV
 rw [upTo_cons, if_pos h]
 cases hk : S.upTo x l with
 | zero => rfl
 | succ k =>
  show (match (s :: l)[k + 1]? with | some s => s.val | none => v) = (match l[k]? with | some s => s.val | none => s.val)
  rw [List.getElem?_cons_succ]
  have hlt : k < l.length := by
   have : S.upTo x l <= l.length := by unfold S.upTo; exact List.countP_le_length
   omega
  rw [List.getElem?_eq_getElem hlt]
theorem sh_mem {f : Int -> Int} : ∀ {Q : List Int} {v : Int} {s : Stp}, s ∈ S.sh f v Q -> s.fro ∈ Q := by
 intro Q
 induction Q with
 | nil => intro v s h; simp [S.sh] at h
 | cons q t ih =>
  intro v s h
  rw [S.sh] at h
  split at h
  ·exact List.mem_cons_of_mem _ (ih h)
  ·rcases List.mem_cons.1 h with h | h
   ·subst h; exact List.mem_cons_self
   ·exact List.mem_cons_of_mem _ (ih h)
theorem sh_value {f : Int -> Int} {Q0 : List Int} (hc : ∀ a b, a <= b -> (∀ q, q ∈ Q0 -> ¬ (a < q /\ q <= b)) -> f a = f b) (p : Int) : ∀ (Q : List Int) (a : Int), Q.Pairwise (· < ·) -> (∀ q, q ∈ Q -> a < q) -> (∀ q, q ∈ Q0 -> a < q -> q ∈ Q) -> a <= p -> S.valueV (f a) p (S.sh f (f a) Q) = f p := by
 intro Q
 induction Q with
 | nil =>
  intro a _ _ h0 hap
  have : f a = f p := hc a p hap (fun q hq ⟨h1, h2⟩ => absurd (h0 q hq h1) (by simp))
  rw [<- this]
  rfl
 | cons q t ih =>
  intro a hP ha h0 hap
  rw [List.pairwise_cons] at hP
  have haq := ha q (by simp)
  by_cases hq : q <= p
  ·have key := ih q hP.2 hP.1 (fun x hx hlt => by
    rcases List.mem_cons.1 (h0 x hx (by omega)) with h | h
    ·omega
    ·exact h) hq
   rw [S.sh]
   by_cases he : f q = f a
   ·rw [if_pos he, <- he]
    exact key
   ·rw [if_neg he, valueV_cons (show (⟨q, f q⟩ : Stp).fro <= p from hq)]
    exact key
  ·have hz : S.upTo p (S.sh f (f a) (q :: t)) = 0 := upTo_none fun s hs => by
    rcases List.mem_cons.1 (sh_mem hs) with h | h
    ·omega
    ·have := hP.1 _ h; omega
   unfold S.valueV
   rw [hz]
   exact hc a p hap (fun x hx ⟨h1, h2⟩ => by
    rcases List.mem_cons.1 (h0 x hx h1) with h | h
    ·omega
    ·have := hP.1 _ h; omega)
theorem valueOf_V (x : Int) (l : List Stp) : S.valueOf x l = S.valueV 0 x l := by
 unfold S.valueOf S.valueV
 cases hk : S.upTo x l with
 | zero => rfl
 | succ k => rfl
theorem supplyOf_value {x : Dt} {rs : List Rod} {C : List (List Int)} (z : Bx) {p : Int} (hp : -1048576 <= p) (hin : ∀ c, c ∈ C.map (S.schOf x rs) -> c.is = true -> -1048576 <= c.lo /\ c.lo < c.hi) : S.valueOf p (S.supplyOf x rs C z) = S.supplyAt x rs C z p := by
 rw [valueOf_V, supplyAt_sup]
 unfold S.supplyOf
 rw [short_ofL]
 have hsub : ∀ c, c ∈ (C.map (S.schOf x rs)).filter (S.sup rs z) -> -1048576 <= c.lo /\ c.lo < c.hi := fun c hc => by
  obtain ⟨h1, h2⟩ := List.mem_filter.1 hc
  unfold S.sup at h2
  rw [Bool.and_eq_true] at h2
  exact hin c h1 h2.1
 have h0 : S.valueAt (-1048577) ((C.map (S.schOf x rs)).filter (S.sup rs z)) = 0 := valueAt_none fun c hc => by
  have := hsub c hc
  omega
 obtain ⟨p1, p2⟩ := places_inv ((C.map (S.schOf x rs)).filter (S.sup rs z))
 have key := sh_value (f := fun p => S.valueAt p ((C.map (S.schOf x rs)).filter (S.sup rs z))) (valueAt_const ((C.map (S.schOf x rs)).filter (S.sup rs z))) p (S.places ((C.map (S.schOf x rs)).filter (S.sup rs z))) (-1048577) p1 (fun q hq => ?_) (fun q hq _ => (p2 q).2 hq) (by omega)
 ·simp only [h0] at key
  exact key
 ·obtain ⟨c, hc, he⟩ := ends2_mem.1 ((p2 q).1 hq)
  have := hsub c hc
  rcases he with rfl | rfl <;> omega
structure Prt where
 lo : Int
 hi : Int
 there : Int
 wants : Int
def S.froms (l : List Stp) : List Int := l.map (·.fro)
def S.spots (s w : List Stp) : List Int := Go.Lib.compact (S.sortI (S.froms (s ++ w)))
def S.spotEnd (P : List Int) (i : Nat) : Int := match P[i + 1]? with | some q => q - 1 | none => 1048576
def S.partAt (s w : List Stp) (P : List Int) (i : Nat) : Prt := ⟨P.getD i 0, S.spotEnd P i, S.valueOf (P.getD i 0) s, S.valueOf (P.getD i 0) w⟩
def S.partsOf (s w : List Stp) : List Prt := (List.range (S.spots s w).length).map (S.partAt s w (S.spots s w))
def S.spanNext (out : List Sp) (p : Prt) : List Sp :=
 if p.wants <= p.there then out else
 match out.getLast? with
 | some q => if q.hi + 1 = p.lo then out.dropLast ++ [⟨q.lo, p.hi⟩] else out ++ [⟨p.lo, p.hi⟩]
 | none => [⟨p.lo, p.hi⟩]
def S.spansL (l : List Prt) : List Sp := l.foldl S.spanNext []
theorem spansL_next {l : List Prt} {k : Nat} (h : k < l.length) : S.spansL (l.take (k + 1)) = S.spanNext (S.spansL (l.take k)) l[k] := by
 have e : l.take (k + 1) = l.take k ++ [l[k]] := by rw [List.take_add_one, List.getElem?_eq_getElem h]; rfl
 unfold S.spansL
 rw [e, List.foldl_append]
 rfl
theorem sorted_inv (l : List Int) : (Go.Lib.compact (S.sortI l)).Pairwise (· < ·) /\ ∀ x, x ∈ Go.Lib.compact (S.sortI l) ↔ x ∈ l := by
 have hs : ∀ i j, i < j -> j < (S.sortI l).toArray.size -> (S.sortI l).toArray[i]! <= (S.sortI l).toArray[j]! := fun i j hij hj => by
  rw [getElem!_pos _ i (by omega), getElem!_pos _ j hj]
  simp only [List.getElem_toArray]
  exact List.pairwise_iff_getElem.1 (sortI_sorted l) i j _ _ hij
 obtain ⟨h1, h2, h3⟩ := compactUpTo_inv _ hs (S.sortI l).length (by simp)
 refine ⟨h1, fun x => ⟨fun hx => ?_, fun hx => ?_⟩⟩
 ·obtain ⟨j, hj, rfl⟩ := h2 x hx
  rw [getElem!_pos _ j (by simpa using hj)]
  simp only [List.getElem_toArray]
  exact sortI_mem.1 (List.getElem_mem _)
 ·obtain ⟨j, hj, rfl⟩ := List.getElem_of_mem (sortI_mem.2 hx)
  have := h3 j hj
  rw [getElem!_pos _ j (by simpa using hj)] at this
  unfold Go.Lib.compact
  simpa using this
theorem sorted_ext : ∀ {a b : List Int}, a.Pairwise (· < ·) -> b.Pairwise (· < ·) -> (∀ x, x ∈ a ↔ x ∈ b) -> a = b := by
 intro a
 induction a with
 | nil =>
  intro b _ _ h
  cases b with
  | nil => rfl
  | cons y t => exact absurd ((h y).2 (by simp)) (by simp)
 | cons x t ih =>
  intro b ha hb h
  cases b with
  | nil => exact absurd ((h x).1 (by simp)) (by simp)
  | cons y u =>
   rw [List.pairwise_cons] at ha hb
   have hxy : x = y := by
    rcases List.mem_cons.1 ((h x).1 (by simp)) with h1 | h1
    ·exact h1
    ·rcases List.mem_cons.1 ((h y).2 (by simp)) with h2 | h2
     ·exact h2.symm
     ·have := hb.1 _ h1
      have := ha.1 _ h2
      omega
   subst hxy
   congr 1
   refine ih ha.2 hb.2 fun z => ⟨fun hz => ?_, fun hz => ?_⟩
   ·rcases List.mem_cons.1 ((h z).1 (List.mem_cons_of_mem _ hz)) with h1 | h1
    ·have := ha.1 _ hz; omega
    ·exact h1
   ·rcases List.mem_cons.1 ((h z).2 (List.mem_cons_of_mem _ hz)) with h1 | h1
    ·have := hb.1 _ hz; omega
    ·exact h1
theorem spots_mem {s w : List Stp} {x : Int} : x ∈ S.spots s w ↔ (∃ t, t ∈ s /\ t.fro = x) ∨ ∃ t, t ∈ w /\ t.fro = x := by
 unfold S.spots
 rw [(sorted_inv _).2]
 unfold S.froms
 simp only [List.map_append, List.mem_append, List.mem_map]
theorem spots_asc (s w : List Stp) : (S.spots s w).Pairwise (· < ·) := (sorted_inv _).1
theorem spots_len (s w : List Stp) : (S.spots s w).length <= s.length + w.length := by
 unfold S.spots
 have := Go.Lib.compact_length_le (S.sortI (S.froms (s ++ w)))
 rw [sortI_len] at this
 have e : (S.froms (s ++ w)).length = s.length + w.length := by unfold S.froms; simp
 omega
theorem partsOf_len (s w : List Stp) : (S.partsOf s w).length = (S.spots s w).length := by unfold S.partsOf; simp
theorem partsOf_get {s w : List Stp} {i : Nat} (h : i < (S.partsOf s w).length) : (S.partsOf s w)[i] = S.partAt s w (S.spots s w) i := by
 have e : (S.partsOf s w)[i]? = some (S.partAt s w (S.spots s w) i) := by
  unfold S.partsOf
  rw [List.getElem?_map, List.getElem?_range (by rw [<- partsOf_len]; exact h)]
  rfl
 rw [List.getElem?_eq_getElem h] at e
 exact Option.some.inj e
structure PartsOk (L : List Prt) : Prop where
 le : ∀ i (h : i < L.length), L[i].lo <= L[i].hi
 next : ∀ i (h : i + 1 < L.length), L[i].hi + 1 = L[i + 1].lo
 last : ∀ i (h : i < L.length), i + 1 = L.length -> L[i].hi = 1048576
 first : ∀ i (h : i < L.length), -1048576 <= L[i].lo /\ L[i].hi <= 1048576
theorem parts_ok {s w : List Stp} (hp : ∀ q, q ∈ S.spots s w -> S.place q = true) : PartsOk (S.partsOf s w) := by
 have hpw := List.pairwise_iff_getElem.1 (spots_asc s w)
 have hpl : ∀ i (h : i < (S.spots s w).length), -1048576 <= (S.spots s w)[i] /\ (S.spots s w)[i] <= 1048576 := fun i h => by
  have := hp _ (List.getElem_mem h)
  unfold S.place at this
  simpa using this
 have key : ∀ i (h : i < (S.partsOf s w).length), (S.partsOf s w)[i].lo = (S.spots s w)[i]'(by rw [<- partsOf_len]; exact h) /\
  ((h2 : i + 1 < (S.spots s w).length) -> (S.partsOf s w)[i].hi = (S.spots s w)[i + 1] - 1) /\ (i + 1 = (S.spots s w).length -> (S.partsOf s w)[i].hi = 1048576) := fun i h => by
  have h1 : i < (S.spots s w).length := by rw [<- partsOf_len]; exact h
  rw [partsOf_get h]
  unfold S.partAt S.spotEnd
  simp only []
  refine ⟨by simp [List.getD_eq_getElem?_getD, h1], fun h2 => ?_, fun h2 => ?_⟩
  ·rw [List.getElem?_eq_getElem h2]
  ·rw [List.getElem?_eq_none (by omega)]
 have hl := partsOf_len s w
 refine ⟨fun i h => ?_, fun i h => ?_, fun i h he => (key i h).2.2 (by omega), fun i h => ?_⟩
 ·obtain ⟨k1, k2, k3⟩ := key i h
  by_cases h2 : i + 1 < (S.spots s w).length
  ·rw [k1, k2 h2]
   have := hpw i (i + 1) (by omega) h2 (by omega)
   omega
  ·rw [k1, k3 (by omega)]
   exact (hpl i _).2
 ·rw [(key i (by omega)).2.1 (by omega), (key (i + 1) h).1]
  omega
 ·obtain ⟨k1, k2, k3⟩ := key i h
  refine ⟨by rw [k1]; exact (hpl i _).1, ?_⟩
  by_cases h2 : i + 1 < (S.spots s w).length
  ·rw [k2 h2]
   have := (hpl (i + 1) h2).2
   omega
  ·rw [k3 (by omega)]
   omega
structure SpInv (L : List Prt) (k : Nat) (out : List Sp) : Prop where
 cov : ∀ p, (∃ s, s ∈ out /\ s.lo <= p /\ p <= s.hi) ↔ ∃ i, i < k /\ ∃ h : i < L.length, L[i].there < L[i].wants /\ L[i].lo <= p /\ p <= L[i].hi
 good : ∀ s, s ∈ out -> s.lo <= s.hi /\ -1048576 <= s.lo /\ s.hi <= 1048576
 sep : out.Pairwise (fun a b => a.hi + 1 < b.lo)
 end_ : ∀ s, s ∈ out -> ∀ h : k < L.length, s.hi < L[k].lo
theorem spans_step {L : List Prt} (hL : PartsOk L) {k : Nat} (hk : k < L.length) {out : List Sp} (h : SpInv L k out) : SpInv L (k + 1) (S.spanNext out L[k]) := by
 have hle := hL.le k hk
 have hfi := hL.first k hk
 have hnx : ∀ h2 : k + 1 < L.length, L[k].hi < L[k + 1].lo := fun h2 => by have := hL.next k h2; omega
 unfold S.spanNext
 by_cases hw : L[k].wants <= L[k].there
 ·rw [if_pos hw]
  refine ⟨fun p => (h.cov p).trans ⟨fun ⟨i, h1, h2⟩ => ⟨i, by omega, h2⟩, fun ⟨i, h1, h2, h3, h4⟩ => ⟨i, ?_, h2, h3, h4⟩⟩, h.good, h.sep, fun s hs h2 => ?_⟩
  ·by_cases hik : i = k
   ·subst hik; omega
   ·omega
  ·have := h.end_ s hs hk
   have := hnx h2
   omega
 ·rw [if_neg hw]
  have hmore : ∀ p, (∃ i, i < k + 1 /\ ∃ h : i < L.length, L[i].there < L[i].wants /\ L[i].lo <= p /\ p <= L[i].hi) ↔ (∃ s, s ∈ out /\ s.lo <= p /\ p <= s.hi) ∨ (L[k].lo <= p /\ p <= L[k].hi) := fun p => by
   rw [h.cov p]
   constructor
   ·rintro ⟨i, h1, h2, h3, h4⟩
    by_cases hik : i = k
    ·subst hik; exact .inr h4
    ·exact .inl ⟨i, by omega, h2, h3, h4⟩
   ·rintro (⟨i, h1, h2⟩ | h4)
    ·exact ⟨i, by omega, h2⟩
    ·exact ⟨k, by omega, hk, by omega, h4⟩
  have happ : SpInv L (k + 1) (out ++ [⟨L[k].lo, L[k].hi⟩]) ∨ ∃ q, out.getLast? = some q /\ q.hi + 1 = L[k].lo := by
   by_cases hq : ∃ q, out.getLast? = some q /\ q.hi + 1 = L[k].lo
   ·exact .inr hq
   ·left
    refine ⟨fun p => ?_, fun s hs => ?_, ?_, fun s hs h2 => ?_⟩
    ·rw [hmore p]
     constructor
     ·rintro ⟨s, hs, h1⟩
      rcases List.mem_append.1 hs with hs | hs
      ·exact .inl ⟨s, hs, h1⟩
      ·rw [List.mem_singleton] at hs; subst hs; exact .inr h1
     ·rintro (⟨s, hs, h1⟩ | h1)
      ·exact ⟨s, List.mem_append_left _ hs, h1⟩
      ·exact ⟨_, List.mem_append_right _ (List.mem_singleton.2 rfl), h1⟩
    ·rcases List.mem_append.1 hs with hs | hs
     ·exact h.good s hs
     ·rw [List.mem_singleton] at hs; subst hs; exact ⟨hle, hfi⟩
    ·refine List.pairwise_append.2 ⟨h.sep, by simp, fun a ha b hb => ?_⟩
     rw [List.mem_singleton] at hb
     subst hb
     have h1 := h.end_ a ha hk
     refine Classical.byContradiction fun hc => hq ?_
     have hae : a.hi + 1 = L[k].lo := by simp only [] at hc; omega
     -- then a is the last one
     have hne : out ≠ [] := fun he => by subst he; cases ha
     refine ⟨out.getLast hne, List.getLast?_eq_some_getLast hne, ?_⟩
     have h3 := h.end_ _ (List.getLast_mem hne) hk
     have h4 : a.hi <= (out.getLast hne).hi := by
      have hd : out.dropLast ++ [out.getLast hne] = out := List.dropLast_concat_getLast hne
      have hsep := h.sep
      rw [<- hd] at hsep ha
      rw [List.pairwise_append] at hsep
      rcases List.mem_append.1 ha with h5 | h5
      ·have h6 := hsep.2.2 a h5 _ (List.mem_singleton.2 rfl)
       have h7 := (h.good _ (List.getLast_mem hne)).1
       omega
      ·rw [List.mem_singleton] at h5
       rw [h5]
       exact Int.le_refl _
     omega
    ·rcases List.mem_append.1 hs with hs | hs
     ·have := h.end_ s hs hk
      have := hnx h2
      omega
     ·rw [List.mem_singleton] at hs; subst hs; exact hnx h2
  cases hg : out.getLast? with
  | none =>
   have : out = [] := List.getLast?_eq_none_iff.1 hg
   subst this
   rcases happ with h1 | ⟨q, h1, _⟩
   ·exact h1
   ·cases h1
  | some q =>
   show SpInv L (k + 1) (if q.hi + 1 = L[k].lo then out.dropLast ++ [⟨q.lo, L[k].hi⟩] else out ++ [⟨L[k].lo, L[k].hi⟩])
   by_cases hq : q.hi + 1 = L[k].lo
   ·rw [if_pos hq]
    have hne : out ≠ [] := fun he => by subst he; cases hg
    have hqe : q = out.getLast hne := by rw [List.getLast?_eq_some_getLast hne] at hg; exact (Option.some.inj hg).symm
    have hd : out.dropLast ++ [q] = out := by rw [hqe]; exact List.dropLast_concat_getLast hne
    have hqm : q ∈ out := by rw [<- hd]; simp
    have hqg := h.good q hqm
    have hsub : ∀ s, s ∈ out.dropLast -> s ∈ out := fun s hs => by rw [<- hd]; exact List.mem_append_left _ hs
    refine ⟨fun p => ?_, fun s hs => ?_, ?_, fun s hs h2 => ?_⟩
    ·rw [hmore p]
     constructor
     ·rintro ⟨s, hs, h1⟩
      rcases List.mem_append.1 hs with hs | hs
      ·exact .inl ⟨s, hsub s hs, h1⟩
      ·rw [List.mem_singleton] at hs
       subst hs
       simp only [] at h1
       by_cases hp : p <= q.hi
       ·exact .inl ⟨q, hqm, h1.1, hp⟩
       ·exact .inr ⟨by omega, h1.2⟩
     ·rintro (⟨s, hs, h1⟩ | h1)
      ·rw [<- hd] at hs
       rcases List.mem_append.1 hs with hs | hs
       ·exact ⟨s, List.mem_append_left _ hs, h1⟩
       ·rw [List.mem_singleton] at hs
        subst hs
        exact ⟨_, List.mem_append_right _ (List.mem_singleton.2 rfl), h1.1, by show p <= L[k].hi; omega⟩
      ·exact ⟨_, List.mem_append_right _ (List.mem_singleton.2 rfl), by show q.lo <= p; omega, h1.2⟩
    ·rcases List.mem_append.1 hs with hs | hs
     ·exact h.good s (hsub s hs)
     ·rw [List.mem_singleton] at hs
      subst hs
      exact ⟨by show q.lo <= L[k].hi; omega, hqg.2.1, hfi.2⟩
    ·have hsep := h.sep
     rw [<- hd, List.pairwise_append] at hsep
     refine List.pairwise_append.2 ⟨hsep.1, by simp, fun a ha b hb => ?_⟩
     rw [List.mem_singleton] at hb
     subst hb
     exact hsep.2.2 a ha q (by simp)
    ·rcases List.mem_append.1 hs with hs | hs
     ·have := h.end_ s (hsub s hs) hk
      have := hnx h2
      omega
     ·rw [List.mem_singleton] at hs; subst hs; exact hnx h2
   ·rw [if_neg hq]
    rcases happ with h1 | ⟨q', h1, h2⟩
    ·exact h1
    ·rw [hg] at h1
     cases h1
     exact absurd h2 hq
theorem spans_inv {L : List Prt} (hL : PartsOk L) : ∀ k, k <= L.length -> SpInv L k (S.spansL (L.take k)) := by
 intro k
 induction k with
 | zero => intro _; exact ⟨fun p => ⟨fun ⟨s, hs, _⟩ => by simp [S.spansL] at hs, fun ⟨i, h, _⟩ => by omega⟩, fun s hs => by simp [S.spansL] at hs, by simp [S.spansL], fun s hs => by simp [S.spansL] at hs⟩
 | succ k ih =>
  intro hk
  rw [spansL_next (by omega)]
  exact spans_step hL (by omega) (ih (by omega))
def Prt.spare (p : Prt) : Int := p.there - p.wants
def S.spareNext (b : Option Prt) (p : Prt) : Option Prt :=
 if 0 < p.wants then (match b with | none => some p | some q => if p.spare < q.spare then some p else some q) else b
def S.spareL (l : List Prt) : Option Prt := l.foldl S.spareNext none
theorem spareL_next {l : List Prt} {k : Nat} (h : k < l.length) : S.spareL (l.take (k + 1)) = S.spareNext (S.spareL (l.take k)) l[k] := by
 have e : l.take (k + 1) = l.take k ++ [l[k]] := by rw [List.take_add_one, List.getElem?_eq_getElem h]; rfl
 unfold S.spareL
 rw [e, List.foldl_append]
 rfl
def S.mg : List Int -> List Int -> List Int
 | [], b => b
 | x :: a, [] => x :: a
 | x :: a, y :: b => if x < y then x :: S.mg a (y :: b) else if x = y then x :: S.mg a b else y :: S.mg (x :: a) b
theorem mg_right (a : List Int) : S.mg a [] = a := by cases a <;> simp [S.mg]
theorem mg_mem : ∀ (n : Nat) (a b : List Int), a.length + b.length <= n -> ∀ x, x ∈ S.mg a b ↔ x ∈ a ∨ x ∈ b := by
 intro n
 induction n with
 | zero =>
  intro a b h x
  have : a = [] := List.eq_nil_of_length_eq_zero (by omega)
  subst this
  simp [S.mg]
 | succ n ih =>
  intro a b h x
  cases a with
  | nil => simp [S.mg]
  | cons u a =>
   cases b with
   | nil => rw [mg_right]; simp
   | cons v b =>
    simp only [List.length_cons] at h
    rw [S.mg]
    by_cases h1 : u < v
    ·rw [if_pos h1, List.mem_cons, ih a (v :: b) (by simp; omega), List.mem_cons, List.mem_cons]
     constructor
     ·rintro (h | h | h) <;> simp [h]
     ·rintro ((h | h) | h) <;> simp [h]
    ·rw [if_neg h1]
     by_cases h2 : u = v
     ·subst h2
      rw [if_pos rfl, List.mem_cons, ih a b (by omega), List.mem_cons, List.mem_cons]
      constructor
      ·rintro (h | h | h) <;> simp [h]
      ·rintro ((h | h) | h | h) <;> simp [h]
     ·rw [if_neg h2, List.mem_cons, ih (u :: a) b (by simp; omega), List.mem_cons, List.mem_cons]
      constructor
      ·rintro (h | (h | h) | h) <;> simp [h]
      ·rintro ((h | h) | h | h) <;> simp [h]
theorem mg_asc : ∀ (n : Nat) (a b : List Int), a.length + b.length <= n -> a.Pairwise (· < ·) -> b.Pairwise (· < ·) -> (S.mg a b).Pairwise (· < ·) := by
 intro n
 induction n with
 | zero =>
  intro a b h _ hb
  have : a = [] := List.eq_nil_of_length_eq_zero (by omega)
  subst this
  simpa [S.mg] using hb
 | succ n ih =>
  intro a b h ha hb
  cases a with
  | nil => simpa [S.mg] using hb
  | cons u a =>
   cases b with
   | nil => rw [mg_right]; exact ha
   | cons v b =>
    simp only [List.length_cons] at h
    rw [S.mg]
    have ha2 := List.pairwise_cons.1 ha
    have hb2 := List.pairwise_cons.1 hb
    by_cases h1 : u < v
    ·rw [if_pos h1, List.pairwise_cons]
     refine ⟨fun x hx => ?_, ih a (v :: b) (by simp; omega) ha2.2 hb⟩
     rcases (mg_mem _ a (v :: b) (Nat.le_refl _) x).1 hx with h | h
     ·exact ha2.1 x h
     ·rcases List.mem_cons.1 h with h | h
      ·omega
      ·have := hb2.1 x h; omega
    ·rw [if_neg h1]
     by_cases h2 : u = v
     ·subst h2
      rw [if_pos rfl, List.pairwise_cons]
      refine ⟨fun x hx => ?_, ih a b (by omega) ha2.2 hb2.2⟩
      rcases (mg_mem _ a b (Nat.le_refl _) x).1 hx with h | h
      ·exact ha2.1 x h
      ·exact hb2.1 x h
     ·rw [if_neg h2, List.pairwise_cons]
      refine ⟨fun x hx => ?_, ih (u :: a) b (by simp; omega) ha hb2.2⟩
      rcases (mg_mem _ (u :: a) b (Nat.le_refl _) x).1 hx with h | h
      ·rcases List.mem_cons.1 h with h | h
       ·omega
       ·have := ha2.1 x h; omega
      ·exact hb2.1 x h
theorem froms_asc {s : List Stp} (h : S.steps s = true) : (S.froms s).Pairwise (· < ·) := by
 unfold S.froms
 rw [List.pairwise_map, List.pairwise_iff_getElem]
 intro i j hi hj hij
 exact steps_ascend h i j hi hj hij
theorem mg_spots {s w : List Stp} (hs : S.steps s = true) (hw : S.steps w = true) : S.mg (S.froms s) (S.froms w) = S.spots s w := by
 refine sorted_ext (mg_asc _ _ _ (Nat.le_refl _) (froms_asc hs) (froms_asc hw)) (spots_asc s w) fun x => ?_
 rw [mg_mem _ _ _ (Nat.le_refl _), spots_mem]
 unfold S.froms
 simp only [List.mem_map]
theorem mg_step {a b : List Int} {i k : Nat} {x : Int} (h : (∃ hi : i < a.length, x = a[i] /\ ∀ hk : k < b.length, a[i] < b[k]) ∨ (∃ hk : k < b.length, x = b[k] /\ ∀ hi : i < a.length, ¬ a[i] < b[k])) :
 S.mg (a.drop i) (b.drop k) = x :: S.mg (a.drop (if ∃ hi : i < a.length, a[i] = x then i + 1 else i)) (b.drop (if ∃ hk : k < b.length, b[k] = x then k + 1 else k)) := by
 rcases h with ⟨hi, rfl, hno⟩ | ⟨hk, rfl, hno⟩
 ·rw [if_pos ⟨hi, rfl⟩, List.drop_eq_getElem_cons hi]
  by_cases hk : k < b.length
  ·have h1 := hno hk
   rw [if_neg (fun ⟨_, h2⟩ => by omega), List.drop_eq_getElem_cons hk, S.mg, if_pos h1]
  ·have hd : b.drop k = [] := List.drop_eq_nil_of_le (by omega)
   rw [if_neg (fun ⟨h2, _⟩ => hk h2), hd, mg_right, mg_right]
 ·have e2 : (if ∃ hk2 : k < b.length, b[k] = b[k] then k + 1 else k) = k + 1 := if_pos ⟨hk, rfl⟩
  rw [e2, List.drop_eq_getElem_cons hk]
  by_cases hi : i < a.length
  ·have h1 := hno hi
   rw [List.drop_eq_getElem_cons hi, S.mg, if_neg h1]
   by_cases h2 : a[i] = b[k]
   ·rw [if_pos h2, if_pos ⟨hi, h2⟩, h2]
   ·rw [if_neg h2, if_neg (fun ⟨_, h3⟩ => h2 h3), List.drop_eq_getElem_cons hi]
  ·have hd : a.drop i = [] := List.drop_eq_nil_of_le (by omega)
   rw [if_neg (fun ⟨h2, _⟩ => hi h2), hd, S.mg, S.mg]
def S.seek (x : Int) (l : List Stp) : Int := l.foldl (fun n s => if s.fro <= x then s.val else n) 0
theorem seek_next (x : Int) {l : List Stp} {k : Nat} (h : k < l.length) : S.seek x (l.take (k + 1)) = if l[k].fro <= x then l[k].val else S.seek x (l.take k) := by
 have e : l.take (k + 1) = l.take k ++ [l[k]] := by rw [List.take_add_one, List.getElem?_eq_getElem h]; rfl
 unfold S.seek
 rw [e, List.foldl_append]
 rfl
theorem seek_value {l : List Stp} (ha : S.ascend l) (x : Int) : S.seek x l = S.valueOf x l := by
 have key : ∀ k, k <= l.length -> S.seek x (l.take k) = S.valueOf x (l.take k) := by
  intro k
  induction k with
  | zero => intro _; simp [S.seek, S.valueOf, S.upTo]
  | succ k ih =>
   intro hk
   have hkx : k < l.length := by omega
   have e : l.take (k + 1) = l.take k ++ [l[k]] := by rw [List.take_add_one, List.getElem?_eq_getElem hkx]; rfl
   have hu : S.upTo x (l.take (k + 1)) = S.upTo x (l.take k) + (if l[k].fro <= x then 1 else 0) := by
    unfold S.upTo
    rw [e, List.countP_append, List.countP_cons, List.countP_nil]
    simp
   rw [seek_next x hkx, ih (by omega)]
   by_cases hx : l[k].fro <= x
   ·rw [if_pos hx]
    have hall : S.upTo x (l.take k) = k := by
     have h1 : S.upTo x (l.take k) = (l.take k).length := by
      unfold S.upTo
      rw [List.countP_eq_length]
      intro t ht
      obtain ⟨i, hi, rfl⟩ := List.getElem_of_mem ht
      rw [List.length_take] at hi
      rw [List.getElem_take]
      have := ha i k (by omega) hkx (by omega)
      simp only [decide_eq_true_eq]
      omega
     rw [h1, List.length_take]
     omega
    unfold S.valueOf
    rw [hu, if_pos hx, hall]
    show l[k].val = (match (l.take (k + 1))[k]? with | some s => s.val | none => 0)
    rw [List.getElem?_take, if_pos (by omega), List.getElem?_eq_getElem hkx]
   ·rw [if_neg hx]
    unfold S.valueOf
    rw [hu, if_neg hx, Nat.add_zero]
    cases hc : S.upTo x (l.take k) with
    | zero => rfl
    | succ m =>
     have hmk : m < (l.take k).length := by
      have : S.upTo x (l.take k) <= (l.take k).length := by unfold S.upTo; exact List.countP_le_length
      omega
     show (match (l.take k)[m]? with | some s => s.val | none => 0) = (match (l.take (k + 1))[m]? with | some s => s.val | none => 0)
     rw [List.length_take] at hmk
     rw [List.getElem?_take, List.getElem?_take, if_pos (by omega), if_pos (by omega)]
 have := key l.length (Nat.le_refl _)
 rwa [List.take_length] at this
theorem valueOf_bd {l : List Stp} (h : S.steps l = true) (x : Int) : 0 <= S.valueOf x l /\ S.valueOf x l <= 1099511627776 := by
 unfold S.valueOf
 cases S.upTo x l with
 | zero => exact ⟨Int.le_refl _, show (0 : Int) <= 1099511627776 by decide⟩
 | succ k =>
  show 0 <= (match l[k]? with | some s => s.val | none => 0) /\ (match l[k]? with | some s => s.val | none => 0) <= _
  cases hk : l[k]? with
  | none => exact ⟨Int.le_refl _, show (0 : Int) <= 1099511627776 by decide⟩
  | some s =>
   obtain ⟨hkx, rfl⟩ := List.getElem?_eq_some_iff.1 hk
   unfold S.steps at h
   rw [Bool.and_eq_true, List.all_eq_true] at h
   have := h.2 k (List.mem_range.2 hkx)
   unfold S.stepAt at this
   rw [List.getElem?_eq_getElem hkx] at this
   simp only [Bool.and_eq_true, decide_eq_true_eq] at this
   exact ⟨this.1.1.2, this.1.2⟩
theorem steps_place {l : List Stp} (h : S.steps l = true) {t : Stp} (ht : t ∈ l) : S.place t.fro = true := by
 obtain ⟨k, hkx, rfl⟩ := List.getElem_of_mem ht
 unfold S.steps at h
 rw [Bool.and_eq_true, List.all_eq_true] at h
 have := h.2 k (List.mem_range.2 hkx)
 unfold S.stepAt at this
 rw [List.getElem?_eq_getElem hkx] at this
 simp only [Bool.and_eq_true] at this
 exact this.1.1.1
theorem spots_place {s w : List Stp} (hs : S.steps s = true) (hw : S.steps w = true) : ∀ q, q ∈ S.spots s w -> S.place q = true := fun q hq => by
 rcases spots_mem.1 hq with ⟨t, ht, rfl⟩ | ⟨t, ht, rfl⟩
 ·exact steps_place hs ht
 ·exact steps_place hw ht
end Go.Proofs.YtmfpbafpnoomeaaGreat
namespace Go.Proofs.YtmfpbafpnoomeaaGreat
open Go.ChangeShapes Go.WideShapes Go.ChangeAt Go.RowKit
section
variable {H : Type} {enc : TypeId × Value -> H} {w : World} {base : Nat} {sp : Nat -> Bool} {hd : Bool}
theorem cellsBars : Tryz.prog.cellsOf 27 = 1 := by kernel_rfl
theorem cellsRuns : Tryz.prog.cellsOf 28 = 1 := by kernel_rfl
theorem cellsJoints : Tryz.prog.cellsOf 29 = 1 := by kernel_rfl
theorem cellsDems : Tryz.prog.cellsOf 30 = 1 := by kernel_rfl
theorem cellsSteps : Tryz.prog.cellsOf 79 = 1 := by kernel_rfl
theorem cellsRun : Tryz.prog.cellsOf 142 = 10 := by kernel_rfl
theorem cellsTurn : Tryz.prog.cellsOf 140 = 2 := by kernel_rfl
theorem cellsJoint : Tryz.prog.cellsOf 168 = 2 := by kernel_rfl
theorem cellsStep : Tryz.prog.cellsOf 136 = 2 := by kernel_rfl
theorem cellsDem : Tryz.prog.cellsOf 81 = 8 := by kernel_rfl
theorem cellsDetail : Tryz.prog.cellsOf 34 = 19 := by kernel_rfl
instance : Inhabited BarR := ⟨⟨⟨⟨#[]⟩, 0, 0, 0, []⟩, none, 0, 0⟩⟩
instance : Inhabited Rn := ⟨⟨⟨#[]⟩, 0, 0, ⟨0, 0, 0⟩, ⟨0, 0, 0⟩, 0⟩⟩
instance : Inhabited Jn := ⟨⟨0, 0⟩⟩
instance : Inhabited Stp := ⟨⟨0, 0⟩⟩
instance : Inhabited Dm := ⟨⟨⟨#[]⟩, ⟨⟨0, 0, 0⟩, ⟨0, 0, 0⟩⟩, [], none, 0, 0⟩⟩
structure RnI (r : Rn) : Prop where
 tx : I64 r.tx
 ty : I64 r.ty
 at_ : PtI r.at_
 step : PtI r.step
 count : I64 r.count
structure JnI (j : Jn) : Prop where
 first : I64 j.first
 second : I64 j.second
structure StpI (s : Stp) : Prop where
 fro : I64 s.fro
 val : I64 s.val
theorem opn_bar {fuel : Nat} {cs : List Value} {y : Option (DataW H × List MemPlace)} (h : DataW.trod enc Tryz.prog w base sp hd fuel 138 cs = y) (hy : y.isSome = true) :
 ∃ r : BarR, cs = barC r /\ (BarAt w w.heap.size r.A r.n r.b /\ r.n <= r.c /\ BarI r.b) := by
 obtain ⟨z, rfl⟩ := Option.isSome_iff_exists.1 hy
 obtain ⟨b, A, n, c, e, h1, h2, _, h3⟩ := open_bar h
 exact ⟨⟨b, A, n, c⟩, e, h1, h2, h3⟩
theorem opn_turn {fuel : Nat} {cs : List Value} {y : Option (DataW H × List MemPlace)} (h : DataW.trod enc Tryz.prog w base sp hd fuel 140 cs = y) (hy : y.isSome = true) :
 ∃ a b : Int, cs = [.int .i64 a, .int .i64 b] /\ I64 a /\ I64 b := by
 obtain ⟨z, rfl⟩ := Option.isSome_iff_exists.1 hy
 obtain ⟨xs, n, _, _, hl, hxl, hg⟩ := DataW.trod_struct Tryz.underlying140 h
 rw [cellsTurn] at hl
 obtain ⟨c0, c1, rfl⟩ := len2 hl
 have hs : ∀ i, i < 2 -> xs[i]?.isSome = true := fun i hi => by
  have : xs.length = 2 := hxl
  simp [this, hi]
 obtain ⟨n0, e0, b0⟩ := opn_int (hg 0 _ rfl) (hs 0 (by decide))
 obtain ⟨n1, e1, b1⟩ := opn_int (hg 1 _ rfl) (hs 1 (by decide))
 simp [cellsInt] at e0 e1
 subst e0 e1
 exact ⟨n0, n1, rfl, b0, b1⟩
theorem opn_joint {fuel : Nat} {cs : List Value} {y : Option (DataW H × List MemPlace)} (h : DataW.trod enc Tryz.prog w base sp hd fuel 168 cs = y) (hy : y.isSome = true) :
 ∃ j : Jn, cs = jnC j /\ JnI j := by
 obtain ⟨z, rfl⟩ := Option.isSome_iff_exists.1 hy
 obtain ⟨xs, n, _, _, hl, hxl, hg⟩ := DataW.trod_struct Tryz.underlying168 h
 rw [cellsJoint] at hl
 obtain ⟨c0, c1, rfl⟩ := len2 hl
 have hs : ∀ i, i < 2 -> xs[i]?.isSome = true := fun i hi => by
  have : xs.length = 2 := hxl
  simp [this, hi]
 obtain ⟨n0, e0, b0⟩ := opn_int (hg 0 _ rfl) (hs 0 (by decide))
 obtain ⟨n1, e1, b1⟩ := opn_int (hg 1 _ rfl) (hs 1 (by decide))
 simp [cellsInt] at e0 e1
 subst e0 e1
 exact ⟨⟨n0, n1⟩, rfl, ⟨b0, b1⟩⟩
theorem opn_step {fuel : Nat} {cs : List Value} {y : Option (DataW H × List MemPlace)} (h : DataW.trod enc Tryz.prog w base sp hd fuel 136 cs = y) (hy : y.isSome = true) :
 ∃ s : Stp, cs = stC s /\ StpI s := by
 obtain ⟨z, rfl⟩ := Option.isSome_iff_exists.1 hy
 obtain ⟨xs, n, _, _, hl, hxl, hg⟩ := DataW.trod_struct Tryz.underlying136 h
 rw [cellsStep] at hl
 obtain ⟨c0, c1, rfl⟩ := len2 hl
 have hs : ∀ i, i < 2 -> xs[i]?.isSome = true := fun i hi => by
  have : xs.length = 2 := hxl
  simp [this, hi]
 obtain ⟨n0, e0, b0⟩ := opn_int (hg 0 _ rfl) (hs 0 (by decide))
 obtain ⟨n1, e1, b1⟩ := opn_int (hg 1 _ rfl) (hs 1 (by decide))
 simp [cellsInt] at e0 e1
 subst e0 e1
 exact ⟨⟨n0, n1⟩, rfl, ⟨b0, b1⟩⟩
theorem len10 {α : Type} {l : List α} (h : l.length = 10) : ∃ a b c d e f g i j k, l = [a, b, c, d, e, f, g, i, j, k] := by
 match l, h with
 | [a, b, c, d, e, f, g, i, j, k], _ => exact ⟨a, b, c, d, e, f, g, i, j, k, rfl⟩
theorem len8 {α : Type} {l : List α} (h : l.length = 8) : ∃ a b c d e f g i, l = [a, b, c, d, e, f, g, i] := by
 match l, h with
 | [a, b, c, d, e, f, g, i], _ => exact ⟨a, b, c, d, e, f, g, i, rfl⟩
theorem len19 {α : Type} {l : List α} (h : l.length = 19) : ∃ a0 a1 a2 a3 a4 a5 a6 a7 a8 a9 b0 b1 b2 b3 b4 b5 b6 b7 b8, l = [a0, a1, a2, a3, a4, a5, a6, a7, a8, a9, b0, b1, b2, b3, b4, b5, b6, b7, b8] := by
 match l, h with
 | [a0, a1, a2, a3, a4, a5, a6, a7, a8, a9, b0, b1, b2, b3, b4, b5, b6, b7, b8], _ => exact ⟨a0, a1, a2, a3, a4, a5, a6, a7, a8, a9, b0, b1, b2, b3, b4, b5, b6, b7, b8, rfl⟩
theorem opn_run {fuel : Nat} {cs : List Value} {y : Option (DataW H × List MemPlace)} (h : DataW.trod enc Tryz.prog w base sp hd fuel 142 cs = y) (hy : y.isSome = true) :
 ∃ r : Rn, cs = rnC r /\ (r.mark.size <= 9223372036854775807 /\ RnI r) := by
 obtain ⟨z, rfl⟩ := Option.isSome_iff_exists.1 hy
 obtain ⟨xs, n, _, _, hl, hxl, hg⟩ := DataW.trod_struct Tryz.underlying142 h
 rw [cellsRun] at hl
 obtain ⟨c0, c1, c2, c3, c4, c5, c6, c7, c8, c9, rfl⟩ := len10 hl
 have hs : ∀ i, i < 5 -> xs[i]?.isSome = true := fun i hi => by
  have : xs.length = 5 := hxl
  simp [this, hi]
 obtain ⟨m, e0, b0⟩ := opn_str (hg 0 _ rfl) (hs 0 (by decide))
 obtain ⟨t0, t1, e1, b1, b1'⟩ := opn_turn (hg 1 _ rfl) (hs 1 (by decide))
 obtain ⟨p, e2, b2⟩ := opn_pt (hg 2 _ rfl) (hs 2 (by decide))
 obtain ⟨q, e3, b3⟩ := opn_pt (hg 3 _ rfl) (hs 3 (by decide))
 obtain ⟨k, e4, b4⟩ := opn_int (hg 4 _ rfl) (hs 4 (by decide))
 simp [cellsStr, cellsTurn, cellsPt, cellsInt] at e0 e1 e2 e3 e4
 obtain ⟨rfl, rfl⟩ := e1
 obtain ⟨rfl, rfl, rfl⟩ := e2
 obtain ⟨rfl, rfl, rfl⟩ := e3
 subst e0 e4
 have hmx : maxLen <= 9223372036854775807 := by unfold maxLen; decide
 exact ⟨⟨m, t0, t1, p, q, k⟩, rfl, by show m.size <= _; omega, ⟨b1, b1', b2, b3, b4⟩⟩
theorem opn_steps {fuel : Nat} {cs : List Value} {y : Option (DataW H × List MemPlace)} (h : DataW.trod enc Tryz.prog w base sp hd fuel 79 cs = y) (hy : y.isSome = true) :
 ∃ (A : Option Addr) (n c : Nat) (xs : List Stp), cs = [.slice A n c] /\ xs.length = n /\ n <= c /\ c <= maxLen /\ Cells w w.heap.size A (xs.flatMap stC) /\ ∀ x, x ∈ xs -> StpI x :=
 opn_rows Tryz.underlying79 stC 2 (by decide) stC_len cellsStep StpI (fun h hy => opn_step h hy) h hy
theorem opn_dem {fuel : Nat} {cs : List Value} {y : Option (DataW H × List MemPlace)} (h : DataW.trod enc Tryz.prog w base sp hd fuel 81 cs = y) (hy : y.isSome = true) :
 ∃ d : Dm, cs = dmC d /\ (StepsAt w w.heap.size d.A d.n d.st /\ d.n <= d.c /\ d.name.size <= 9223372036854775807 /\ BxI d.zone /\ ∀ s, s ∈ d.st -> StpI s) := by
 obtain ⟨z, rfl⟩ := Option.isSome_iff_exists.1 hy
 obtain ⟨xs, n, _, _, hl, hxl, hg⟩ := DataW.trod_struct Tryz.underlying81 h
 rw [cellsDem] at hl
 obtain ⟨c0, c1, c2, c3, c4, c5, c6, c7, rfl⟩ := len8 hl
 have hs : ∀ i, i < 3 -> xs[i]?.isSome = true := fun i hi => by
  have : xs.length = 3 := hxl
  simp [this, hi]
 obtain ⟨m, e0, b0⟩ := opn_str (hg 0 _ rfl) (hs 0 (by decide))
 obtain ⟨z, e1, b1⟩ := opn_box (hg 1 _ rfl) (hs 1 (by decide))
 obtain ⟨A, k, c, st, e2, h1, h2, h3, h4, h5⟩ := opn_steps (hg 2 _ rfl) (hs 2 (by decide))
 simp [cellsStr, cellsBox, cellsSteps] at e0 e1 e2
 obtain ⟨rfl, rfl, rfl, rfl, rfl, rfl⟩ := e1
 subst e0 e2
 have hmx : maxLen <= 9223372036854775807 := by unfold maxLen; decide
 exact ⟨⟨m, z, st, A, k, c⟩, rfl, ⟨h1, by show k <= _; omega, h4⟩, h2, by show m.size <= _; omega, b1, h5⟩
theorem opn_bars {fuel : Nat} {cs : List Value} {y : Option (DataW H × List MemPlace)} (h : DataW.trod enc Tryz.prog w base sp hd fuel 27 cs = y) (hy : y.isSome = true) :
 ∃ (A : Option Addr) (n c : Nat) (xs : List BarR), cs = [.slice A n c] /\ xs.length = n /\ n <= c /\ c <= maxLen /\ Cells w w.heap.size A (xs.flatMap barC) /\ ∀ r, r ∈ xs -> (BarAt w w.heap.size r.A r.n r.b /\ r.n <= r.c /\ BarI r.b) :=
 opn_rows Tryz.underlying27 barC 5 (by decide) barC_len cellsBar _ (fun h hy => opn_bar h hy) h hy
theorem opn_runs {fuel : Nat} {cs : List Value} {y : Option (DataW H × List MemPlace)} (h : DataW.trod enc Tryz.prog w base sp hd fuel 28 cs = y) (hy : y.isSome = true) :
 ∃ (A : Option Addr) (n c : Nat) (xs : List Rn), cs = [.slice A n c] /\ xs.length = n /\ n <= c /\ c <= maxLen /\ Cells w w.heap.size A (xs.flatMap rnC) /\ ∀ r, r ∈ xs -> (r.mark.size <= 9223372036854775807 /\ RnI r) :=
 opn_rows Tryz.underlying28 rnC 10 (by decide) rnC_len cellsRun _ (fun h hy => opn_run h hy) h hy
theorem opn_joints {fuel : Nat} {cs : List Value} {y : Option (DataW H × List MemPlace)} (h : DataW.trod enc Tryz.prog w base sp hd fuel 29 cs = y) (hy : y.isSome = true) :
 ∃ (A : Option Addr) (n c : Nat) (xs : List Jn), cs = [.slice A n c] /\ xs.length = n /\ n <= c /\ c <= maxLen /\ Cells w w.heap.size A (xs.flatMap jnC) /\ ∀ j, j ∈ xs -> JnI j :=
 opn_rows Tryz.underlying29 jnC 2 (by decide) jnC_len cellsJoint JnI (fun h hy => opn_joint h hy) h hy
theorem opn_dems {fuel : Nat} {cs : List Value} {y : Option (DataW H × List MemPlace)} (h : DataW.trod enc Tryz.prog w base sp hd fuel 30 cs = y) (hy : y.isSome = true) :
 ∃ (A : Option Addr) (n c : Nat) (xs : List Dm), cs = [.slice A n c] /\ xs.length = n /\ n <= c /\ c <= maxLen /\ Cells w w.heap.size A (xs.flatMap dmC) /\ ∀ d, d ∈ xs -> (StepsAt w w.heap.size d.A d.n d.st /\ d.n <= d.c /\ d.name.size <= 9223372036854775807 /\ BxI d.zone /\ ∀ s, s ∈ d.st -> StpI s) :=
 opn_rows Tryz.underlying30 dmC 8 (by decide) dmC_len cellsDem _ (fun h hy => opn_dem h hy) h hy
structure DtI (x : Dt) (ds : List Dm) : Prop where
 mem : MemI x.m
 bars : ∀ r, r ∈ x.bs -> r.n <= r.c /\ BarI r.b
 runs : ∀ r, r ∈ x.rs -> r.mark.size <= 9223372036854775807 /\ RnI r
 laps : ∀ j, j ∈ x.js -> JnI j
 dems : ∀ d, d ∈ ds -> d.n <= d.c /\ BxI d.zone /\ ∀ s, s ∈ d.st -> StpI s
 rule : RuleI x.rule
 caps : x.mn <= x.mc /\ x.hn <= x.hc /\ x.bn <= x.bc /\ x.rn <= x.rc /\ x.jn <= x.jc /\ x.dn <= x.dc
theorem arg_detail {cs : Array Value} {d : DataW H} {p : List MemPlace} (h : DataW.Trod enc Tryz.prog w base sp hd 34 (.agg cs) d p) :
 ∃ (x : Dt) (ds : List Dm), cs = (dtV x).cells /\ DtOk w x ds /\ DtI x ds := by
 obtain ⟨fuel, hf⟩ := h
 obtain ⟨xs, n, _, _, hl, hxl, hg⟩ := DataW.trod_struct Tryz.underlying34 hf
 rw [cellsDetail] at hl
 generalize hcl : cs.toList = cl at *
 have hcl2 : (Value.agg cs).cells.toList = cl := hcl
 rw [hcl2] at hl hg
 obtain ⟨a0, a1, a2, a3, a4, a5, a6, a7, a8, a9, b0, b1, b2, b3, b4, b5, b6, b7, b8, rfl⟩ := len19 hl
 have hs : ∀ i, i < 6 -> xs[i]?.isSome = true := fun i hi => by
  have : xs.length = 6 := hxl
  simp [this, hi]
 obtain ⟨m, mA, mn, mc, hA, hn, hc, e0, g0, g1, g2, g3, g4, g5⟩ := opn_member (hg 0 _ rfl) (hs 0 (by decide))
 obtain ⟨bA, bn, bc, bs, e1, k1, k2, k3, k4, k5⟩ := opn_bars (hg 1 _ rfl) (hs 1 (by decide))
 obtain ⟨rA, rn, rc, rs, e2, r1, r2, r3, r4, r5⟩ := opn_runs (hg 2 _ rfl) (hs 2 (by decide))
 obtain ⟨jA, jn, jc, js, e3, j1, j2, j3, j4, j5⟩ := opn_joints (hg 3 _ rfl) (hs 3 (by decide))
 obtain ⟨dA, dn, dc, ds, e4, d1, d2, d3, d4, d5⟩ := opn_dems (hg 4 _ rfl) (hs 4 (by decide))
 obtain ⟨q5, hq5⟩ := Option.isSome_iff_exists.1 (hs 5 (by decide))
 have h5 := hg 5 _ rfl
 rw [hq5] at h5
 obtain ⟨rule, e5, u1⟩ := open_rule h5
 simp [cellsMember, cellsBars, cellsRuns, cellsJoints, cellsDems, cellsRule] at e0 e1 e2 e3 e4 e5
 obtain ⟨rfl, rfl, rfl, rfl, rfl, rfl⟩ := e0
 obtain ⟨rfl, rfl, rfl, rfl, rfl, rfl, rfl, rfl, rfl⟩ := e5
 subst e1 e2 e3 e4
 have hmx : maxLen <= 9223372036854775807 := by unfold maxLen; decide
 refine ⟨⟨m, mA, mn, mc, hA, hn, hc, bs, bA, bn, bc, rs, rA, rn, rc, js, jA, jn, jc, dA, dn, dc, rule⟩, ds, ?_, ⟨⟨g0, g5.name, ⟨k1, by show bn <= _; omega, k4, fun r hr => (k5 r hr).1⟩, ⟨r1, by show rn <= _; omega, r4⟩, j1, by show jn <= _; omega, j4⟩, ⟨d1, by show dn <= _; omega, d4, fun d hd => (d5 d hd).1, fun d hd => (d5 d hd).2.2.1⟩, d2⟩, ⟨g5, fun r hr => (k5 r hr).2, r5, j5, fun d hd => ⟨(d5 d hd).2.1, (d5 d hd).2.2.2⟩, u1, g1, g3, k2, r2, j2, d2⟩⟩
 exact Array.toList_inj.1 hcl
end
end Go.Proofs.YtmfpbafpnoomeaaGreat
