/- Lemmas. -/
import Derived.Test.YtmfpbafpnoomeaaGreatMAF
set_option linter.unusedVariables false
set_option linter.unusedSimpArgs false
namespace Go.Proofs.YtmfpbafpnoomeaaGreat
open Go.RowKit
def S.valueV (v x : Int) (l : List Stp) : Int := match S.upTo x l with
 | 0 => v
 | k + 1 => match l[k]? with | some s => s.val | none => v
theorem upTo_cons (x : Int) (s : Stp) (l : List Stp) : S.upTo x (s :: l) = S.upTo x l + if s.fro <= x then 1 else 0 := by
 unfold S.upTo
 rw [List.countP_cons]
 simp
theorem upTo_none {x : Int} {l : List Stp} (h : ∀ s, s ∈ l -> x < s.fro) : S.upTo x l = 0 := by
 unfold S.upTo
 rw [List.countP_eq_zero]
 intro s hs
 have := h s hs
 simp only [decide_eq_true_eq]
 omega
theorem valueV_cons {v x : Int} {s : Stp} {l : List Stp} (h : s.fro <= x) : S.valueV v x (s :: l) = S.valueV s.val x l := by
 unfold S.valueV
 rw [upTo_cons, if_pos h]
 cases hk : S.upTo x l with
 | zero => rfl
 | succ k =>
  show (match (s :: l)[k + 1]? with | some s => s.val | none => v) = (match l[k]? with | some s => s.val | none => s.val)
  rw [List.getElem?_cons_succ]
  have hlt : k < l.length := by
   have : S.upTo x l <= l.length := by unfold S.upTo; exact List.countP_le_length
   omega
  rw [List.getElem?_eq_getElem hlt]
theorem sh_mem {f : Int -> Int} : ∀ {Q : List Int} {v : Int} {s : Stp}, s ∈ S.sh f v Q -> s.fro ∈ Q := by
 intro Q
 induction Q with
 | nil => intro v s h; simp [S.sh] at h
 | cons q t ih =>
  intro v s h
  rw [S.sh] at h
  split at h
  ·exact List.mem_cons_of_mem _ (ih h)
  ·rcases List.mem_cons.1 h with h | h
   ·subst h; exact List.mem_cons_self
   ·exact List.mem_cons_of_mem _ (ih h)
theorem sh_value {f : Int -> Int} {Q0 : List Int} (hc : ∀ a b, a <= b -> (∀ q, q ∈ Q0 -> ¬ (a < q /\ q <= b)) -> f a = f b) (p : Int) : ∀ (Q : List Int) (a : Int), Q.Pairwise (· < ·) -> (∀ q, q ∈ Q -> a < q) -> (∀ q, q ∈ Q0 -> a < q -> q ∈ Q) -> a <= p -> S.valueV (f a) p (S.sh f (f a) Q) = f p := by
 intro Q
 induction Q with
 | nil =>
  intro a _ _ h0 hap
  have : f a = f p := hc a p hap (fun q hq ⟨h1, h2⟩ => absurd (h0 q hq h1) (by simp))
  rw [<- this]
  rfl
 | cons q t ih =>
  intro a hP ha h0 hap
  rw [List.pairwise_cons] at hP
  have haq := ha q (by simp)
  by_cases hq : q <= p
  ·have key := ih q hP.2 hP.1 (fun x hx hlt => by
    rcases List.mem_cons.1 (h0 x hx (by omega)) with h | h
    ·omega
    ·exact h) hq
   rw [S.sh]
   by_cases he : f q = f a
   ·rw [if_pos he, <- he]
    exact key
   ·rw [if_neg he, valueV_cons (show (⟨q, f q⟩ : Stp).fro <= p from hq)]
    exact key
  ·have hz : S.upTo p (S.sh f (f a) (q :: t)) = 0 := upTo_none fun s hs => by
    rcases List.mem_cons.1 (sh_mem hs) with h | h
    ·omega
    ·have := hP.1 _ h; omega
   unfold S.valueV
   rw [hz]
   exact hc a p hap (fun x hx ⟨h1, h2⟩ => by
    rcases List.mem_cons.1 (h0 x hx h1) with h | h
    ·omega
    ·have := hP.1 _ h; omega)
theorem valueOf_V (x : Int) (l : List Stp) : S.valueOf x l = S.valueV 0 x l := by
 unfold S.valueOf S.valueV
 cases hk : S.upTo x l with
 | zero => rfl
 | succ k => rfl
theorem supplyOf_value {x : Dt} {rs : List Rod} {C : List (List Int)} (z : Bx) {p : Int} (hp : -1048576 <= p) (hin : ∀ c, c ∈ C.map (S.schOf x rs) -> c.is = true -> -1048576 <= c.lo /\ c.lo < c.hi) : S.valueOf p (S.supplyOf x rs C z) = S.supplyAt x rs C z p := by
 rw [valueOf_V, supplyAt_sup]
 unfold S.supplyOf
 rw [short_ofL]
 have hsub : ∀ c, c ∈ (C.map (S.schOf x rs)).filter (S.sup rs z) -> -1048576 <= c.lo /\ c.lo < c.hi := fun c hc => by
  obtain ⟨h1, h2⟩ := List.mem_filter.1 hc
  unfold S.sup at h2
  rw [Bool.and_eq_true] at h2
  exact hin c h1 h2.1
 have h0 : S.valueAt (-1048577) ((C.map (S.schOf x rs)).filter (S.sup rs z)) = 0 := valueAt_none fun c hc => by
  have := hsub c hc
  omega
 obtain ⟨p1, p2⟩ := places_inv ((C.map (S.schOf x rs)).filter (S.sup rs z))
 have key := sh_value (f := fun p => S.valueAt p ((C.map (S.schOf x rs)).filter (S.sup rs z))) (valueAt_const ((C.map (S.schOf x rs)).filter (S.sup rs z))) p (S.places ((C.map (S.schOf x rs)).filter (S.sup rs z))) (-1048577) p1 (fun q hq => ?_) (fun q hq _ => (p2 q).2 hq) (by omega)
 ·simp only [h0] at key
  exact key
 ·obtain ⟨c, hc, he⟩ := ends2_mem.1 ((p2 q).1 hq)
  have := hsub c hc
  rcases he with rfl | rfl <;> omega
structure Prt where
 lo : Int
 hi : Int
 there : Int
 wants : Int
def S.froms (l : List Stp) : List Int := l.map (·.fro)
def S.spots (s w : List Stp) : List Int := Go.Lib.compact (S.sortI (S.froms (s ++ w)))
def S.spotEnd (P : List Int) (i : Nat) : Int := match P[i + 1]? with | some q => q - 1 | none => 1048576
def S.partAt (s w : List Stp) (P : List Int) (i : Nat) : Prt := ⟨P.getD i 0, S.spotEnd P i, S.valueOf (P.getD i 0) s, S.valueOf (P.getD i 0) w⟩
def S.partsOf (s w : List Stp) : List Prt := (List.range (S.spots s w).length).map (S.partAt s w (S.spots s w))
def S.spanNext (out : List Sp) (p : Prt) : List Sp :=
 if p.wants <= p.there then out else
 match out.getLast? with
 | some q => if q.hi + 1 = p.lo then out.dropLast ++ [⟨q.lo, p.hi⟩] else out ++ [⟨p.lo, p.hi⟩]
 | none => [⟨p.lo, p.hi⟩]
def S.spansL (l : List Prt) : List Sp := l.foldl S.spanNext []
theorem spansL_next {l : List Prt} {k : Nat} (h : k < l.length) : S.spansL (l.take (k + 1)) = S.spanNext (S.spansL (l.take k)) l[k] := by
 have e : l.take (k + 1) = l.take k ++ [l[k]] := by rw [List.take_add_one, List.getElem?_eq_getElem h]; rfl
 unfold S.spansL
 rw [e, List.foldl_append]
 rfl
theorem sorted_inv (l : List Int) : (Go.Lib.compact (S.sortI l)).Pairwise (· < ·) /\ ∀ x, x ∈ Go.Lib.compact (S.sortI l) ↔ x ∈ l := by
 have hs : ∀ i j, i < j -> j < (S.sortI l).toArray.size -> (S.sortI l).toArray[i]! <= (S.sortI l).toArray[j]! := fun i j hij hj => by
  rw [getElem!_pos _ i (by omega), getElem!_pos _ j hj]
  simp only [List.getElem_toArray]
  exact List.pairwise_iff_getElem.1 (sortI_sorted l) i j _ _ hij
 obtain ⟨h1, h2, h3⟩ := compactUpTo_inv _ hs (S.sortI l).length (by simp)
 refine ⟨h1, fun x => ⟨fun hx => ?_, fun hx => ?_⟩⟩
 ·obtain ⟨j, hj, rfl⟩ := h2 x hx
  rw [getElem!_pos _ j (by simpa using hj)]
  simp only [List.getElem_toArray]
  exact sortI_mem.1 (List.getElem_mem _)
 ·obtain ⟨j, hj, rfl⟩ := List.getElem_of_mem (sortI_mem.2 hx)
  have := h3 j hj
  rw [getElem!_pos _ j (by simpa using hj)] at this
  unfold Go.Lib.compact
  simpa using this
theorem sorted_ext : ∀ {a b : List Int}, a.Pairwise (· < ·) -> b.Pairwise (· < ·) -> (∀ x, x ∈ a ↔ x ∈ b) -> a = b := by
 intro a
 induction a with
 | nil =>
  intro b _ _ h
  cases b with
  | nil => rfl
  | cons y t => exact absurd ((h y).2 (by simp)) (by simp)
 | cons x t ih =>
  intro b ha hb h
  cases b with
  | nil => exact absurd ((h x).1 (by simp)) (by simp)
  | cons y u =>
   rw [List.pairwise_cons] at ha hb
   have hxy : x = y := by
    rcases List.mem_cons.1 ((h x).1 (by simp)) with h1 | h1
    ·exact h1
    ·rcases List.mem_cons.1 ((h y).2 (by simp)) with h2 | h2
     ·exact h2.symm
     ·have := hb.1 _ h1
      have := ha.1 _ h2
      omega
   subst hxy
   congr 1
   refine ih ha.2 hb.2 fun z => ⟨fun hz => ?_, fun hz => ?_⟩
   ·rcases List.mem_cons.1 ((h z).1 (List.mem_cons_of_mem _ hz)) with h1 | h1
    ·have := ha.1 _ hz; omega
    ·exact h1
   ·rcases List.mem_cons.1 ((h z).2 (List.mem_cons_of_mem _ hz)) with h1 | h1
    ·have := hb.1 _ hz; omega
    ·exact h1
theorem spots_mem {s w : List Stp} {x : Int} : x ∈ S.spots s w ↔ (∃ t, t ∈ s /\ t.fro = x) ∨ ∃ t, t ∈ w /\ t.fro = x := by
 unfold S.spots
 rw [(sorted_inv _).2]
 unfold S.froms
 simp only [List.map_append, List.mem_append, List.mem_map]
theorem spots_asc (s w : List Stp) : (S.spots s w).Pairwise (· < ·) := (sorted_inv _).1
theorem spots_len (s w : List Stp) : (S.spots s w).length <= s.length + w.length := by
 unfold S.spots
 have := Go.Lib.compact_length_le (S.sortI (S.froms (s ++ w)))
 rw [sortI_len] at this
 have e : (S.froms (s ++ w)).length = s.length + w.length := by unfold S.froms; simp
 omega
theorem valueOf_const {s : List Stp} {a b : Int} (hab : a <= b) (h : ∀ t, t ∈ s -> ¬ (a < t.fro /\ t.fro <= b)) : S.valueOf a s = S.valueOf b s := by
 have e : S.upTo a s = S.upTo b s := by
  unfold S.upTo
  refine List.countP_congr fun t ht => ?_
  have := h t ht
  simp only [decide_eq_true_eq]
  omega
 unfold S.valueOf
 rw [e]
theorem valueOf_none {s : List Stp} {a : Int} (h : ∀ t, t ∈ s -> a < t.fro) : S.valueOf a s = 0 := by
 unfold S.valueOf
 rw [upTo_none h]
theorem partsOf_len (s w : List Stp) : (S.partsOf s w).length = (S.spots s w).length := by unfold S.partsOf; simp
theorem partsOf_get {s w : List Stp} {i : Nat} (h : i < (S.partsOf s w).length) : (S.partsOf s w)[i] = S.partAt s w (S.spots s w) i := by
 have e : (S.partsOf s w)[i]? = some (S.partAt s w (S.spots s w) i) := by
  unfold S.partsOf
  rw [List.getElem?_map, List.getElem?_range (by rw [<- partsOf_len]; exact h)]
  rfl
 rw [List.getElem?_eq_getElem h] at e
 exact Option.some.inj e
structure PartsOk (L : List Prt) : Prop where
 le : ∀ i (h : i < L.length), L[i].lo <= L[i].hi
 next : ∀ i (h : i + 1 < L.length), L[i].hi + 1 = L[i + 1].lo
 last : ∀ i (h : i < L.length), i + 1 = L.length -> L[i].hi = 1048576
 first : ∀ i (h : i < L.length), -1048576 <= L[i].lo /\ L[i].hi <= 1048576
theorem parts_ok {s w : List Stp} (hp : ∀ q, q ∈ S.spots s w -> S.place q = true) : PartsOk (S.partsOf s w) := by
 have hpw := List.pairwise_iff_getElem.1 (spots_asc s w)
 have hpl : ∀ i (h : i < (S.spots s w).length), -1048576 <= (S.spots s w)[i] /\ (S.spots s w)[i] <= 1048576 := fun i h => by
  have := hp _ (List.getElem_mem h)
  unfold S.place at this
  simpa using this
 have key : ∀ i (h : i < (S.partsOf s w).length), (S.partsOf s w)[i].lo = (S.spots s w)[i]'(by rw [<- partsOf_len]; exact h) /\
  ((h2 : i + 1 < (S.spots s w).length) -> (S.partsOf s w)[i].hi = (S.spots s w)[i + 1] - 1) /\ (i + 1 = (S.spots s w).length -> (S.partsOf s w)[i].hi = 1048576) := fun i h => by
  have h1 : i < (S.spots s w).length := by rw [<- partsOf_len]; exact h
  rw [partsOf_get h]
  unfold S.partAt S.spotEnd
  simp only []
  refine ⟨by simp [List.getD_eq_getElem?_getD, h1], fun h2 => ?_, fun h2 => ?_⟩
  ·rw [List.getElem?_eq_getElem h2]
  ·rw [List.getElem?_eq_none (by omega)]
 have hl := partsOf_len s w
 refine ⟨fun i h => ?_, fun i h => ?_, fun i h he => (key i h).2.2 (by omega), fun i h => ?_⟩
 ·obtain ⟨k1, k2, k3⟩ := key i h
  by_cases h2 : i + 1 < (S.spots s w).length
  ·rw [k1, k2 h2]
   have := hpw i (i + 1) (by omega) h2 (by omega)
   omega
  ·rw [k1, k3 (by omega)]
   exact (hpl i _).2
 ·rw [(key i (by omega)).2.1 (by omega), (key (i + 1) h).1]
  omega
 ·obtain ⟨k1, k2, k3⟩ := key i h
  refine ⟨by rw [k1]; exact (hpl i _).1, ?_⟩
  by_cases h2 : i + 1 < (S.spots s w).length
  ·rw [k2 h2]
   have := (hpl (i + 1) h2).2
   omega
  ·rw [k3 (by omega)]
   omega
theorem part_of {s w : List Stp} {p : Int} (hp : p <= 1048576) : (S.valueOf p s = 0 /\ S.valueOf p w = 0 /\ ∀ i (h : i < (S.partsOf s w).length), p < (S.partsOf s w)[i].lo) ∨
 ∃ i, ∃ h : i < (S.partsOf s w).length, (S.partsOf s w)[i].lo <= p /\ p <= (S.partsOf s w)[i].hi /\ (S.partsOf s w)[i].there = S.valueOf p s /\ (S.partsOf s w)[i].wants = S.valueOf p w := by
 have hpw := List.pairwise_iff_getElem.1 (spots_asc s w)
 have hl := partsOf_len s w
 have hlo : ∀ i (h : i < (S.partsOf s w).length), (S.partsOf s w)[i].lo = (S.spots s w)[i]'(by rw [<- hl]; exact h) := fun i h => by
  have h1 : i < (S.spots s w).length := by omega
  rw [partsOf_get h]
  unfold S.partAt
  simp [List.getD_eq_getElem?_getD, h1]
 by_cases hn : ∀ q, q ∈ S.spots s w -> p < q
 ·left
  exact ⟨valueOf_none fun t ht => hn _ (spots_mem.2 (.inl ⟨t, ht, rfl⟩)), valueOf_none fun t ht => hn _ (spots_mem.2 (.inr ⟨t, ht, rfl⟩)), fun i h => by rw [hlo i h]; exact hn _ (List.getElem_mem _)⟩
 ·right
  -- the last spot that is not beyond p
  have hex : ∃ i, ∃ h : i < (S.spots s w).length, (S.spots s w)[i] <= p /\ ∀ j (hj : j < (S.spots s w).length), i < j -> p < (S.spots s w)[j] := by
   have h0 : ∃ q, q ∈ S.spots s w /\ q <= p := by
    refine Classical.byContradiction fun hc => hn fun q hq => ?_
    exact Int.not_le.1 fun hle => hc ⟨q, hq, hle⟩
   obtain ⟨q, hq, hqp⟩ := h0
   obtain ⟨i0, hi0, rfl⟩ := List.getElem_of_mem hq
   have step : ∀ n i (h : i < (S.spots s w).length), (S.spots s w)[i] <= p -> (S.spots s w).length - i <= n -> ∃ i, ∃ h : i < (S.spots s w).length, (S.spots s w)[i] <= p /\ ∀ j (hj : j < (S.spots s w).length), i < j -> p < (S.spots s w)[j] := by
    intro n
    induction n with
    | zero => intro i h _ hn; omega
    | succ n ih =>
     intro i h hle hn
     by_cases hx : ∃ j, ∃ hj : j < (S.spots s w).length, i < j /\ (S.spots s w)[j] <= p
     ·obtain ⟨j, hj, hij, hjp⟩ := hx
      exact ih j hj hjp (by omega)
     ·exact ⟨i, h, hle, fun j hj hij => Int.not_le.1 fun hc => hx ⟨j, hj, hij, hc⟩⟩
   exact step _ i0 hi0 hqp (Nat.le_refl _)
  obtain ⟨i, hi, hip, hij⟩ := hex
  have hi2 : i < (S.partsOf s w).length := by omega
  have hno : ∀ q, q ∈ S.spots s w -> ¬ ((S.spots s w)[i] < q /\ q <= p) := fun q hq ⟨h1, h2⟩ => by
   obtain ⟨j, hj, rfl⟩ := List.getElem_of_mem hq
   by_cases hji : i < j
   ·have := hij j hj hji; omega
   ·by_cases he : j = i
    ·subst he; omega
    ·have := hpw j i hj hi (by omega); omega
  refine ⟨i, hi2, by rw [hlo i hi2]; exact hip, ?_, ?_, ?_⟩
  ·rw [partsOf_get hi2]
   unfold S.partAt S.spotEnd
   simp only []
   by_cases h2 : i + 1 < (S.spots s w).length
   ·rw [List.getElem?_eq_getElem h2]
    have := hij (i + 1) h2 (by omega)
    simp only []
    omega
   ·rw [List.getElem?_eq_none (by omega)]
    exact hp
  ·rw [partsOf_get hi2]
   show S.valueOf ((S.spots s w).getD i 0) s = _
   rw [show (S.spots s w).getD i 0 = (S.spots s w)[i] by simp [List.getD_eq_getElem?_getD, hi]]
   exact valueOf_const hip fun t ht => hno _ (spots_mem.2 (.inl ⟨t, ht, rfl⟩))
  ·rw [partsOf_get hi2]
   show S.valueOf ((S.spots s w).getD i 0) w = _
   rw [show (S.spots s w).getD i 0 = (S.spots s w)[i] by simp [List.getD_eq_getElem?_getD, hi]]
   exact valueOf_const hip fun t ht => hno _ (spots_mem.2 (.inr ⟨t, ht, rfl⟩))
structure SpInv (L : List Prt) (k : Nat) (out : List Sp) : Prop where
 cov : ∀ p, (∃ s, s ∈ out /\ s.lo <= p /\ p <= s.hi) ↔ ∃ i, i < k /\ ∃ h : i < L.length, L[i].there < L[i].wants /\ L[i].lo <= p /\ p <= L[i].hi
 good : ∀ s, s ∈ out -> s.lo <= s.hi /\ -1048576 <= s.lo /\ s.hi <= 1048576
 sep : out.Pairwise (fun a b => a.hi + 1 < b.lo)
 end_ : ∀ s, s ∈ out -> ∀ h : k < L.length, s.hi < L[k].lo
theorem spans_step {L : List Prt} (hL : PartsOk L) {k : Nat} (hk : k < L.length) {out : List Sp} (h : SpInv L k out) : SpInv L (k + 1) (S.spanNext out L[k]) := by
 have hle := hL.le k hk
 have hfi := hL.first k hk
 have hnx : ∀ h2 : k + 1 < L.length, L[k].hi < L[k + 1].lo := fun h2 => by have := hL.next k h2; omega
 unfold S.spanNext
 by_cases hw : L[k].wants <= L[k].there
 ·rw [if_pos hw]
  refine ⟨fun p => (h.cov p).trans ⟨fun ⟨i, h1, h2⟩ => ⟨i, by omega, h2⟩, fun ⟨i, h1, h2, h3, h4⟩ => ⟨i, ?_, h2, h3, h4⟩⟩, h.good, h.sep, fun s hs h2 => ?_⟩
  ·by_cases hik : i = k
   ·subst hik; omega
   ·omega
  ·have := h.end_ s hs hk
   have := hnx h2
   omega
 ·rw [if_neg hw]
  have hmore : ∀ p, (∃ i, i < k + 1 /\ ∃ h : i < L.length, L[i].there < L[i].wants /\ L[i].lo <= p /\ p <= L[i].hi) ↔ (∃ s, s ∈ out /\ s.lo <= p /\ p <= s.hi) ∨ (L[k].lo <= p /\ p <= L[k].hi) := fun p => by
   rw [h.cov p]
   constructor
   ·rintro ⟨i, h1, h2, h3, h4⟩
    by_cases hik : i = k
    ·subst hik; exact .inr h4
    ·exact .inl ⟨i, by omega, h2, h3, h4⟩
   ·rintro (⟨i, h1, h2⟩ | h4)
    ·exact ⟨i, by omega, h2⟩
    ·exact ⟨k, by omega, hk, by omega, h4⟩
  have happ : SpInv L (k + 1) (out ++ [⟨L[k].lo, L[k].hi⟩]) ∨ ∃ q, out.getLast? = some q /\ q.hi + 1 = L[k].lo := by
   by_cases hq : ∃ q, out.getLast? = some q /\ q.hi + 1 = L[k].lo
   ·exact .inr hq
   ·left
    refine ⟨fun p => ?_, fun s hs => ?_, ?_, fun s hs h2 => ?_⟩
    ·rw [hmore p]
     constructor
     ·rintro ⟨s, hs, h1⟩
      rcases List.mem_append.1 hs with hs | hs
      ·exact .inl ⟨s, hs, h1⟩
      ·rw [List.mem_singleton] at hs; subst hs; exact .inr h1
     ·rintro (⟨s, hs, h1⟩ | h1)
      ·exact ⟨s, List.mem_append_left _ hs, h1⟩
      ·exact ⟨_, List.mem_append_right _ (List.mem_singleton.2 rfl), h1⟩
    ·rcases List.mem_append.1 hs with hs | hs
     ·exact h.good s hs
     ·rw [List.mem_singleton] at hs; subst hs; exact ⟨hle, hfi⟩
    ·refine List.pairwise_append.2 ⟨h.sep, by simp, fun a ha b hb => ?_⟩
     rw [List.mem_singleton] at hb
     subst hb
     have h1 := h.end_ a ha hk
     refine Classical.byContradiction fun hc => hq ?_
     have hae : a.hi + 1 = L[k].lo := by simp only [] at hc; omega
     -- then a is the last one
     have hne : out ≠ [] := fun he => by subst he; cases ha
     refine ⟨out.getLast hne, List.getLast?_eq_some_getLast hne, ?_⟩
     have h3 := h.end_ _ (List.getLast_mem hne) hk
     have h4 : a.hi <= (out.getLast hne).hi := by
      have hd : out.dropLast ++ [out.getLast hne] = out := List.dropLast_concat_getLast hne
      have hsep := h.sep
      rw [<- hd] at hsep ha
      rw [List.pairwise_append] at hsep
      rcases List.mem_append.1 ha with h5 | h5
      ·have h6 := hsep.2.2 a h5 _ (List.mem_singleton.2 rfl)
       have h7 := (h.good _ (List.getLast_mem hne)).1
       omega
      ·rw [List.mem_singleton] at h5
       rw [h5]
       exact Int.le_refl _
     omega
    ·rcases List.mem_append.1 hs with hs | hs
     ·have := h.end_ s hs hk
      have := hnx h2
      omega
     ·rw [List.mem_singleton] at hs; subst hs; exact hnx h2
  cases hg : out.getLast? with
  | none =>
   have : out = [] := List.getLast?_eq_none_iff.1 hg
   subst this
   rcases happ with h1 | ⟨q, h1, _⟩
   ·exact h1
   ·cases h1
  | some q =>
   show SpInv L (k + 1) (if q.hi + 1 = L[k].lo then out.dropLast ++ [⟨q.lo, L[k].hi⟩] else out ++ [⟨L[k].lo, L[k].hi⟩])
   by_cases hq : q.hi + 1 = L[k].lo
   ·rw [if_pos hq]
    have hne : out ≠ [] := fun he => by subst he; cases hg
    have hqe : q = out.getLast hne := by rw [List.getLast?_eq_some_getLast hne] at hg; exact (Option.some.inj hg).symm
    have hd : out.dropLast ++ [q] = out := by rw [hqe]; exact List.dropLast_concat_getLast hne
    have hqm : q ∈ out := by rw [<- hd]; simp
    have hqg := h.good q hqm
    have hsub : ∀ s, s ∈ out.dropLast -> s ∈ out := fun s hs => by rw [<- hd]; exact List.mem_append_left _ hs
    refine ⟨fun p => ?_, fun s hs => ?_, ?_, fun s hs h2 => ?_⟩
    ·rw [hmore p]
     constructor
     ·rintro ⟨s, hs, h1⟩
      rcases List.mem_append.1 hs with hs | hs
      ·exact .inl ⟨s, hsub s hs, h1⟩
      ·rw [List.mem_singleton] at hs
       subst hs
       simp only [] at h1
       by_cases hp : p <= q.hi
       ·exact .inl ⟨q, hqm, h1.1, hp⟩
       ·exact .inr ⟨by omega, h1.2⟩
     ·rintro (⟨s, hs, h1⟩ | h1)
      ·rw [<- hd] at hs
       rcases List.mem_append.1 hs with hs | hs
       ·exact ⟨s, List.mem_append_left _ hs, h1⟩
       ·rw [List.mem_singleton] at hs
        subst hs
        exact ⟨_, List.mem_append_right _ (List.mem_singleton.2 rfl), h1.1, by show p <= L[k].hi; omega⟩
      ·exact ⟨_, List.mem_append_right _ (List.mem_singleton.2 rfl), by show q.lo <= p; omega, h1.2⟩
    ·rcases List.mem_append.1 hs with hs | hs
     ·exact h.good s (hsub s hs)
     ·rw [List.mem_singleton] at hs
      subst hs
      exact ⟨by show q.lo <= L[k].hi; omega, hqg.2.1, hfi.2⟩
    ·have hsep := h.sep
     rw [<- hd, List.pairwise_append] at hsep
     refine List.pairwise_append.2 ⟨hsep.1, by simp, fun a ha b hb => ?_⟩
     rw [List.mem_singleton] at hb
     subst hb
     exact hsep.2.2 a ha q (by simp)
    ·rcases List.mem_append.1 hs with hs | hs
     ·have := h.end_ s (hsub s hs) hk
      have := hnx h2
      omega
     ·rw [List.mem_singleton] at hs; subst hs; exact hnx h2
   ·rw [if_neg hq]
    rcases happ with h1 | ⟨q', h1, h2⟩
    ·exact h1
    ·rw [hg] at h1
     cases h1
     exact absurd h2 hq
theorem spans_inv {L : List Prt} (hL : PartsOk L) : ∀ k, k <= L.length -> SpInv L k (S.spansL (L.take k)) := by
 intro k
 induction k with
 | zero => intro _; exact ⟨fun p => ⟨fun ⟨s, hs, _⟩ => by simp [S.spansL] at hs, fun ⟨i, h, _⟩ => by omega⟩, fun s hs => by simp [S.spansL] at hs, by simp [S.spansL], fun s hs => by simp [S.spansL] at hs⟩
 | succ k ih =>
  intro hk
  rw [spansL_next (by omega)]
  exact spans_step hL (by omega) (ih (by omega))
theorem spans_law {s w : List Stp} (hp : ∀ q, q ∈ S.spots s w -> S.place q = true) : (∀ t, t ∈ S.spansL (S.partsOf s w) -> t.lo <= t.hi /\ -1048576 <= t.lo /\ t.hi <= 1048576) /\ (S.spansL (S.partsOf s w)).Pairwise (fun a b => a.hi + 1 < b.lo) /\
 ∀ p, p <= 1048576 -> ((∃ t, t ∈ S.spansL (S.partsOf s w) /\ t.lo <= p /\ p <= t.hi) ↔ S.valueOf p s < S.valueOf p w) := by
 have hL := parts_ok hp
 have h := spans_inv hL (S.partsOf s w).length (Nat.le_refl _)
 rw [List.take_length] at h
 refine ⟨h.good, h.sep, fun p hpp => (h.cov p).trans ⟨fun ⟨i, _, hi, h1, h2, h3⟩ => ?_, fun hlt => ?_⟩⟩
 ·rcases part_of (s := s) (w := w) hpp with ⟨_, _, hno⟩ | ⟨j, hj, k1, k2, k3, k4⟩
  ·have := hno i hi; omega
  ·have hij : i = j := by
    refine Classical.byContradiction fun hc => ?_
    have mono : ∀ d a (ha : a + d < (S.partsOf s w).length), 0 < d -> (S.partsOf s w)[a].hi < (S.partsOf s w)[a + d].lo := by
     intro d
     induction d with
     | zero => intro a ha h0; omega
     | succ d ih =>
      intro a ha _
      by_cases hd : d = 0
      ·subst hd
       have := hL.next a ha
       simp only [Nat.zero_add]
       omega
      ·have h1 := ih a (by omega) (by omega)
       have h2 := hL.le (a + d) (by omega)
       have h3 := hL.next (a + d) (by omega)
       show (S.partsOf s w)[a].hi < (S.partsOf s w)[a + d + 1].lo
       omega
    by_cases hlt : i < j
    ·have := mono (j - i) i (by omega) (by omega)
     have e : i + (j - i) = j := by omega
     simp only [e] at this
     omega
    ·have := mono (i - j) j (by omega) (by omega)
     have e : j + (i - j) = i := by omega
     simp only [e] at this
     omega
   subst hij
   omega
 ·rcases part_of (s := s) (w := w) hpp with ⟨k1, k2, _⟩ | ⟨j, hj, k1, k2, k3, k4⟩
  ·omega
  ·exact ⟨j, hj, hj, by omega, k1, k2⟩
def Prt.spare (p : Prt) : Int := p.there - p.wants
def S.spareNext (b : Option Prt) (p : Prt) : Option Prt :=
 if 0 < p.wants then (match b with | none => some p | some q => if p.spare < q.spare then some p else some q) else b
def S.spareL (l : List Prt) : Option Prt := l.foldl S.spareNext none
theorem spareL_next {l : List Prt} {k : Nat} (h : k < l.length) : S.spareL (l.take (k + 1)) = S.spareNext (S.spareL (l.take k)) l[k] := by
 have e : l.take (k + 1) = l.take k ++ [l[k]] := by rw [List.take_add_one, List.getElem?_eq_getElem h]; rfl
 unfold S.spareL
 rw [e, List.foldl_append]
 rfl
def S.mg : List Int -> List Int -> List Int
 | [], b => b
 | x :: a, [] => x :: a
 | x :: a, y :: b => if x < y then x :: S.mg a (y :: b) else if x = y then x :: S.mg a b else y :: S.mg (x :: a) b
theorem mg_right (a : List Int) : S.mg a [] = a := by cases a <;> simp [S.mg]
theorem mg_mem : ∀ (n : Nat) (a b : List Int), a.length + b.length <= n -> ∀ x, x ∈ S.mg a b ↔ x ∈ a ∨ x ∈ b := by
 intro n
 induction n with
 | zero =>
  intro a b h x
  have : a = [] := List.eq_nil_of_length_eq_zero (by omega)
  subst this
  simp [S.mg]
 | succ n ih =>
  intro a b h x
  cases a with
  | nil => simp [S.mg]
  | cons u a =>
   cases b with
   | nil => rw [mg_right]; simp
   | cons v b =>
    simp only [List.length_cons] at h
    rw [S.mg]
    by_cases h1 : u < v
    ·rw [if_pos h1, List.mem_cons, ih a (v :: b) (by simp; omega), List.mem_cons, List.mem_cons]
     constructor
     ·rintro (h | h | h) <;> simp [h]
     ·rintro ((h | h) | h) <;> simp [h]
    ·rw [if_neg h1]
     by_cases h2 : u = v
     ·subst h2
      rw [if_pos rfl, List.mem_cons, ih a b (by omega), List.mem_cons, List.mem_cons]
      constructor
      ·rintro (h | h | h) <;> simp [h]
      ·rintro ((h | h) | h | h) <;> simp [h]
     ·rw [if_neg h2, List.mem_cons, ih (u :: a) b (by simp; omega), List.mem_cons, List.mem_cons]
      constructor
      ·rintro (h | (h | h) | h) <;> simp [h]
      ·rintro ((h | h) | h | h) <;> simp [h]
theorem mg_asc : ∀ (n : Nat) (a b : List Int), a.length + b.length <= n -> a.Pairwise (· < ·) -> b.Pairwise (· < ·) -> (S.mg a b).Pairwise (· < ·) := by
 intro n
 induction n with
 | zero =>
  intro a b h _ hb
  have : a = [] := List.eq_nil_of_length_eq_zero (by omega)
  subst this
  simpa [S.mg] using hb
 | succ n ih =>
  intro a b h ha hb
  cases a with
  | nil => simpa [S.mg] using hb
  | cons u a =>
   cases b with
   | nil => rw [mg_right]; exact ha
   | cons v b =>
    simp only [List.length_cons] at h
    rw [S.mg]
    have ha2 := List.pairwise_cons.1 ha
    have hb2 := List.pairwise_cons.1 hb
    by_cases h1 : u < v
    ·rw [if_pos h1, List.pairwise_cons]
     refine ⟨fun x hx => ?_, ih a (v :: b) (by simp; omega) ha2.2 hb⟩
     rcases (mg_mem _ a (v :: b) (Nat.le_refl _) x).1 hx with h | h
     ·exact ha2.1 x h
     ·rcases List.mem_cons.1 h with h | h
      ·omega
      ·have := hb2.1 x h; omega
    ·rw [if_neg h1]
     by_cases h2 : u = v
     ·subst h2
      rw [if_pos rfl, List.pairwise_cons]
      refine ⟨fun x hx => ?_, ih a b (by omega) ha2.2 hb2.2⟩
      rcases (mg_mem _ a b (Nat.le_refl _) x).1 hx with h | h
      ·exact ha2.1 x h
      ·exact hb2.1 x h
     ·rw [if_neg h2, List.pairwise_cons]
      refine ⟨fun x hx => ?_, ih (u :: a) b (by simp; omega) ha hb2.2⟩
      rcases (mg_mem _ (u :: a) b (Nat.le_refl _) x).1 hx with h | h
      ·rcases List.mem_cons.1 h with h | h
       ·omega
       ·have := ha2.1 x h; omega
      ·exact hb2.1 x h
theorem froms_asc {s : List Stp} (h : S.steps s = true) : (S.froms s).Pairwise (· < ·) := by
 unfold S.froms
 rw [List.pairwise_map, List.pairwise_iff_getElem]
 intro i j hi hj hij
 exact steps_ascend h i j hi hj hij
theorem mg_spots {s w : List Stp} (hs : S.steps s = true) (hw : S.steps w = true) : S.mg (S.froms s) (S.froms w) = S.spots s w := by
 refine sorted_ext (mg_asc _ _ _ (Nat.le_refl _) (froms_asc hs) (froms_asc hw)) (spots_asc s w) fun x => ?_
 rw [mg_mem _ _ _ (Nat.le_refl _), spots_mem]
 unfold S.froms
 simp only [List.mem_map]
theorem valueOf_bd {l : List Stp} (h : S.steps l = true) (x : Int) : 0 <= S.valueOf x l /\ S.valueOf x l <= 1099511627776 := by
 unfold S.valueOf
 cases S.upTo x l with
 | zero => exact ⟨Int.le_refl _, show (0 : Int) <= 1099511627776 by decide⟩
 | succ k =>
  show 0 <= (match l[k]? with | some s => s.val | none => 0) /\ (match l[k]? with | some s => s.val | none => 0) <= _
  cases hk : l[k]? with
  | none => exact ⟨Int.le_refl _, show (0 : Int) <= 1099511627776 by decide⟩
  | some s =>
   obtain ⟨hkx, rfl⟩ := List.getElem?_eq_some_iff.1 hk
   unfold S.steps at h
   rw [Bool.and_eq_true, List.all_eq_true] at h
   have := h.2 k (List.mem_range.2 hkx)
   unfold S.stepAt at this
   rw [List.getElem?_eq_getElem hkx] at this
   simp only [Bool.and_eq_true, decide_eq_true_eq] at this
   exact ⟨this.1.1.2, this.1.2⟩
theorem steps_place {l : List Stp} (h : S.steps l = true) {t : Stp} (ht : t ∈ l) : S.place t.fro = true := by
 obtain ⟨k, hkx, rfl⟩ := List.getElem_of_mem ht
 unfold S.steps at h
 rw [Bool.and_eq_true, List.all_eq_true] at h
 have := h.2 k (List.mem_range.2 hkx)
 unfold S.stepAt at this
 rw [List.getElem?_eq_getElem hkx] at this
 simp only [Bool.and_eq_true] at this
 exact this.1.1.1
theorem spots_place {s w : List Stp} (hs : S.steps s = true) (hw : S.steps w = true) : ∀ q, q ∈ S.spots s w -> S.place q = true := fun q hq => by
 rcases spots_mem.1 hq with ⟨t, ht, rfl⟩ | ⟨t, ht, rfl⟩
 ·exact steps_place hs ht
 ·exact steps_place hw ht
end Go.Proofs.YtmfpbafpnoomeaaGreat
