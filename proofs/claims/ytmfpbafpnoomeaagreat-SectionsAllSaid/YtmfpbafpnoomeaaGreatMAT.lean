/- Lemmas. -/
import Derived.Test.YtmfpbafpnoomeaaGreatMAS
set_option linter.unusedVariables false
set_option linter.unusedSimpArgs false
namespace Go.Proofs.YtmfpbafpnoomeaaGreat
open Go.RowKit
theorem wpList_load_gdF {P : Program} {ops : Array Oper} {rest : List Oper} {op : Oper} {a : Act} {w : World} {Q : Exit -> Act -> World -> Prop} (hw : Region.wanted op (yielded ops a.tmps) = true) (ty : TypeId) (x : Operand) (ho : op.op = .load ty x)
 (b o : Nat) (hx : a.eval x = .pointer (some ⟨b, o, none⟩)) (cs : List Value) (d : TypeDesc) (hc : w.rangeAt b o cs)
 (hu : P.underlying ty = some d) (hd : d.isRow = true) (hi : (P.info? ty).map (·.size) = some cs.length)
 (h : wpList P ops Q rest (a.put op.dst (.agg cs.toArray)) w) : wpList P ops Q (op :: rest) a w := by
 unfold wpList
 rw [if_pos hw]
 exact .inl (wp_load_mid ty x ho b o hx cs d hc hu hd hi h)
theorem at_loadg {P : Program} {ops : Array Oper} {Q : Exit -> Act -> World -> Prop} {rest : List Oper} {a : Act} {w : World} (ty : TypeId) (s : Nat) {dst : Option Nat} {t : TypeId} {pos : String} {after : Array Edge} {gd : Nat × Bool}
 (h : wpList P ops Q ({ dst := dst, op := .load ty (.tmp s), type := t, pos := pos, after := after, guard := some gd } :: rest) a w) : wpList P ops Q ({ dst := dst, op := .load ty (.tmp s), type := t, pos := pos, after := after, guard := some gd } :: rest) a w := h
theorem at_loadw {P : Program} {K : Act -> World -> Prop} {Q : Exit -> Act -> World -> Prop} {a : Act} {w : World} (ty : TypeId) (s : Nat) {dst : Option Nat} {t : TypeId} {pos : String} {after : Array Edge} {gd : Option (Nat × Bool)}
 (h : Oper.wp P { dst := dst, op := .load ty (.tmp s), type := t, pos := pos, after := after, guard := gd } a w K Q) : Oper.wp P { dst := dst, op := .load ty (.tmp s), type := t, pos := pos, after := after, guard := gd } a w K Q := h
theorem valueOf_const {s : List Stp} {a b : Int} (hab : a <= b) (h : ∀ t, t ∈ s -> ¬ (a < t.fro /\ t.fro <= b)) : S.valueOf a s = S.valueOf b s := by
 have e : S.upTo a s = S.upTo b s := by
  unfold S.upTo
  refine List.countP_congr fun t ht => ?_
  have := h t ht
  simp only [decide_eq_true_eq]
  omega
 unfold S.valueOf
 rw [e]
theorem valueOf_none {s : List Stp} {a : Int} (h : ∀ t, t ∈ s -> a < t.fro) : S.valueOf a s = 0 := by
 unfold S.valueOf
 rw [upTo_none h]
theorem part_of {s w : List Stp} {p : Int} (hp : p <= 1048576) : (S.valueOf p s = 0 /\ S.valueOf p w = 0 /\ ∀ i (h : i < (S.partsOf s w).length), p < (S.partsOf s w)[i].lo) ∨
 ∃ i, ∃ h : i < (S.partsOf s w).length, (S.partsOf s w)[i].lo <= p /\ p <= (S.partsOf s w)[i].hi /\ (S.partsOf s w)[i].there = S.valueOf p s /\ (S.partsOf s w)[i].wants = S.valueOf p w := by
 have hpw := List.pairwise_iff_getElem.1 (spots_asc s w)
 have hl := partsOf_len s w
 have hlo : ∀ i (h : i < (S.partsOf s w).length), (S.partsOf s w)[i].lo = (S.spots s w)[i]'(by rw [<- hl]; exact h) := fun i h => by
  have h1 : i < (S.spots s w).length := by omega
  rw [partsOf_get h]
  unfold S.partAt
  simp [List.getD_eq_getElem?_getD, h1]
 by_cases hn : ∀ q, q ∈ S.spots s w -> p < q
 ·left
  exact ⟨valueOf_none fun t ht => hn _ (spots_mem.2 (.inl ⟨t, ht, rfl⟩)), valueOf_none fun t ht => hn _ (spots_mem.2 (.inr ⟨t, ht, rfl⟩)), fun i h => by rw [hlo i h]; exact hn _ (List.getElem_mem _)⟩
 ·right
  -- the last spot that is not beyond p
  have hex : ∃ i, ∃ h : i < (S.spots s w).length, (S.spots s w)[i] <= p /\ ∀ j (hj : j < (S.spots s w).length), i < j -> p < (S.spots s w)[j] := by
   have h0 : ∃ q, q ∈ S.spots s w /\ q <= p := by
    refine Classical.byContradiction fun hc => hn fun q hq => ?_
    exact Int.not_le.1 fun hle => hc ⟨q, hq, hle⟩
   obtain ⟨q, hq, hqp⟩ := h0
   obtain ⟨i0, hi0, rfl⟩ := List.getElem_of_mem hq
   have step : ∀ n i (h : i < (S.spots s w).length), (S.spots s w)[i] <= p -> (S.spots s w).length - i <= n -> ∃ i, ∃ h : i < (S.spots s w).length, (S.spots s w)[i] <= p /\ ∀ j (hj : j < (S.spots s w).length), i < j -> p < (S.spots s w)[j] := by
    intro n
    induction n with
    | zero => intro i h _ hn; omega
    | succ n ih =>
     intro i h hle hn
     by_cases hx : ∃ j, ∃ hj : j < (S.spots s w).length, i < j /\ (S.spots s w)[j] <= p
     ·obtain ⟨j, hj, hij, hjp⟩ := hx
      exact ih j hj hjp (by omega)
     ·exact ⟨i, h, hle, fun j hj hij => Int.not_le.1 fun hc => hx ⟨j, hj, hij, hc⟩⟩
   exact step _ i0 hi0 hqp (Nat.le_refl _)
  obtain ⟨i, hi, hip, hij⟩ := hex
  have hi2 : i < (S.partsOf s w).length := by omega
  have hno : ∀ q, q ∈ S.spots s w -> ¬ ((S.spots s w)[i] < q /\ q <= p) := fun q hq ⟨h1, h2⟩ => by
   obtain ⟨j, hj, rfl⟩ := List.getElem_of_mem hq
   by_cases hji : i < j
   ·have := hij j hj hji; omega
   ·by_cases he : j = i
    ·subst he; omega
    ·have := hpw j i hj hi (by omega); omega
  refine ⟨i, hi2, by rw [hlo i hi2]; exact hip, ?_, ?_, ?_⟩
  ·rw [partsOf_get hi2]
   unfold S.partAt S.spotEnd
   simp only []
   by_cases h2 : i + 1 < (S.spots s w).length
   ·rw [List.getElem?_eq_getElem h2]
    have := hij (i + 1) h2 (by omega)
    simp only []
    omega
   ·rw [List.getElem?_eq_none (by omega)]
    exact hp
  ·rw [partsOf_get hi2]
   show S.valueOf ((S.spots s w).getD i 0) s = _
   rw [show (S.spots s w).getD i 0 = (S.spots s w)[i] by simp [List.getD_eq_getElem?_getD, hi]]
   exact valueOf_const hip fun t ht => hno _ (spots_mem.2 (.inl ⟨t, ht, rfl⟩))
  ·rw [partsOf_get hi2]
   show S.valueOf ((S.spots s w).getD i 0) w = _
   rw [show (S.spots s w).getD i 0 = (S.spots s w)[i] by simp [List.getD_eq_getElem?_getD, hi]]
   exact valueOf_const hip fun t ht => hno _ (spots_mem.2 (.inr ⟨t, ht, rfl⟩))
theorem spans_law {s w : List Stp} (hp : ∀ q, q ∈ S.spots s w -> S.place q = true) : (∀ t, t ∈ S.spansL (S.partsOf s w) -> t.lo <= t.hi /\ -1048576 <= t.lo /\ t.hi <= 1048576) /\ (S.spansL (S.partsOf s w)).Pairwise (fun a b => a.hi + 1 < b.lo) /\
 ∀ p, p <= 1048576 -> ((∃ t, t ∈ S.spansL (S.partsOf s w) /\ t.lo <= p /\ p <= t.hi) ↔ S.valueOf p s < S.valueOf p w) := by
 have hL := parts_ok hp
 have h := spans_inv hL (S.partsOf s w).length (Nat.le_refl _)
 rw [List.take_length] at h
 refine ⟨h.good, h.sep, fun p hpp => (h.cov p).trans ⟨fun ⟨i, _, hi, h1, h2, h3⟩ => ?_, fun hlt => ?_⟩⟩
 ·rcases part_of (s := s) (w := w) hpp with ⟨_, _, hno⟩ | ⟨j, hj, k1, k2, k3, k4⟩
  ·have := hno i hi; omega
  ·have hij : i = j := by
    refine Classical.byContradiction fun hc => ?_
    have mono : ∀ d a (ha : a + d < (S.partsOf s w).length), 0 < d -> (S.partsOf s w)[a].hi < (S.partsOf s w)[a + d].lo := by
     intro d
     induction d with
     | zero => intro a ha h0; omega
     | succ d ih =>
      intro a ha _
      by_cases hd : d = 0
      ·subst hd
       have := hL.next a ha
       simp only [Nat.zero_add]
       omega
      ·have h1 := ih a (by omega) (by omega)
       have h2 := hL.le (a + d) (by omega)
       have h3 := hL.next (a + d) (by omega)
       show (S.partsOf s w)[a].hi < (S.partsOf s w)[a + d + 1].lo
       omega
    by_cases hlt : i < j
    ·have := mono (j - i) i (by omega) (by omega)
     have e : i + (j - i) = j := by omega
     simp only [e] at this
     omega
    ·have := mono (i - j) j (by omega) (by omega)
     have e : j + (i - j) = i := by omega
     simp only [e] at this
     omega
   subst hij
   omega
 ·rcases part_of (s := s) (w := w) hpp with ⟨k1, k2, _⟩ | ⟨j, hj, k1, k2, k3, k4⟩
  ·omega
  ·exact ⟨j, hj, hj, by omega, k1, k2⟩
def SpareInv (L : List Prt) (k : Nat) : Option Prt -> Prop
 | none => ∀ i (h : i < L.length), i < k -> L[i].wants <= 0
 | some q => ∃ j, ∃ hj : j < L.length, j < k /\ q = L[j] /\ 0 < q.wants /\ ∀ i (h : i < L.length), i < k -> 0 < L[i].wants -> q.spare < L[i].spare ∨ (q.spare = L[i].spare /\ j <= i)
theorem spare_inv {L : List Prt} : ∀ k, k <= L.length -> SpareInv L k (S.spareL (L.take k)) := by
 intro k
 induction k with
 | zero => intro _ i h h0; omega
 | succ k ih =>
  intro hk
  have hkx : k < L.length := by omega
  rw [spareL_next hkx]
  have h := ih (by omega)
  unfold S.spareNext
  by_cases hw : 0 < L[k].wants
  ·rw [if_pos hw]
   cases hb : S.spareL (L.take k) with
   | none =>
    rw [hb] at h
    refine ⟨k, hkx, by omega, rfl, hw, fun i hi hik hiw => ?_⟩
    by_cases he : i = k
    ·subst he; exact .inr ⟨rfl, Nat.le_refl _⟩
    ·have : L[i].wants <= 0 := h i hi (by omega)
     omega
   | some q =>
    rw [hb] at h
    obtain ⟨j, hj, hjk, hq, hqw, hmin⟩ := h
    show SpareInv L (k + 1) (if L[k].spare < q.spare then some L[k] else some q)
    by_cases hs : L[k].spare < q.spare
    ·rw [if_pos hs]
     refine ⟨k, hkx, by omega, rfl, hw, fun i hi hik hiw => ?_⟩
     by_cases he : i = k
     ·subst he; exact .inr ⟨rfl, Nat.le_refl _⟩
     ·rcases hmin i hi (by omega) hiw with h1 | ⟨h1, _⟩ <;> left <;> omega
    ·rw [if_neg hs]
     refine ⟨j, hj, by omega, hq, hqw, fun i hi hik hiw => ?_⟩
     by_cases he : i = k
     ·subst he
      by_cases h1 : q.spare < L[i].spare
      ·exact .inl h1
      ·exact .inr ⟨by omega, by omega⟩
     ·exact hmin i hi (by omega) hiw
  ·rw [if_neg hw]
   cases hb : S.spareL (L.take k) with
   | none =>
    rw [hb] at h
    intro i hi hik
    by_cases he : i = k
    ·subst he; omega
    ·exact h i hi (by omega)
   | some q =>
    rw [hb] at h
    obtain ⟨j, hj, hjk, hq, hqw, hmin⟩ := h
    refine ⟨j, hj, by omega, hq, hqw, fun i hi hik hiw => ?_⟩
    by_cases he : i = k
    ·subst he; omega
    ·exact hmin i hi (by omega) hiw
theorem spare_all (L : List Prt) : SpareInv L L.length (S.spareL L) := by
 have := spare_inv (L := L) L.length (Nat.le_refl _)
 rwa [List.take_length] at this
theorem spare_law {s w : List Stp} (hs : S.steps s = true) (hw : S.steps w = true) : match S.spareL (S.partsOf s w) with
 | none => (∀ p, p <= 1048576 -> S.valueOf p w = 0) /\ S.spansL (S.partsOf s w) = []
 | some q => 0 < S.valueOf q.lo w /\ S.valueOf q.lo s - S.valueOf q.lo w = q.spare /\ -1048576 <= q.lo /\ q.lo <= 1048576 /\ (∀ p, p <= 1048576 -> S.valueOf p w = 0 ∨ q.spare < S.valueOf p s - S.valueOf p w ∨ (q.spare = S.valueOf p s - S.valueOf p w /\ q.lo <= p)) /\ (q.spare < 0 ↔ S.spansL (S.partsOf s w) ≠ []) := by
 have hpl := spots_place hs hw
 have hL := parts_ok hpl
 obtain ⟨g1, g2, g3⟩ := spans_law hpl
 have h := spare_all (S.partsOf s w)
 have hwb := valueOf_bd hw
 have hsb := valueOf_bd hs
 have hin : ∀ i (hi : i < (S.partsOf s w).length), (S.partsOf s w)[i].there = S.valueOf (S.partsOf s w)[i].lo s /\ (S.partsOf s w)[i].wants = S.valueOf (S.partsOf s w)[i].lo w := fun i hi => by
  rw [partsOf_get hi]
  exact ⟨rfl, rfl⟩
 have hsp : S.spansL (S.partsOf s w) ≠ [] ↔ ∃ p, p <= 1048576 /\ S.valueOf p s < S.valueOf p w := by
  constructor
  ·intro hne
   obtain ⟨t, ht⟩ := List.exists_mem_of_ne_nil _ hne
   have := g1 t ht
   exact ⟨t.lo, by omega, (g3 t.lo (by omega)).1 ⟨t, ht, Int.le_refl _, this.1⟩⟩
  ·rintro ⟨p, hp, hlt⟩ he
   obtain ⟨t, ht, _⟩ := (g3 p hp).2 hlt
   rw [he] at ht
   cases ht
 cases hb : S.spareL (S.partsOf s w) with
 | none =>
  rw [hb] at h
  have h0 : ∀ p, p <= 1048576 -> S.valueOf p w = 0 := fun p hp => by
   rcases part_of (s := s) (w := w) hp with ⟨_, k2, _⟩ | ⟨j, hj, _, _, _, k4⟩
   ·exact k2
   ·have : (S.partsOf s w)[j].wants <= 0 := h j hj hj
    have := hwb p
    omega
  refine ⟨h0, Classical.byContradiction fun hne => ?_⟩
  obtain ⟨p, hp, hlt⟩ := hsp.1 hne
  have := h0 p hp
  have := hsb p
  omega
 | some q =>
  rw [hb] at h
  obtain ⟨j, hj, _, hq, hqw, hmin⟩ := h
  have hjl := hin j hj
  have hjf := hL.first j hj
  have hjle := hL.le j hj
  rw [<- hq] at hjl hjf hjle
  refine ⟨by rw [<- hjl.2]; exact hqw, by rw [<- hjl.1, <- hjl.2]; rfl, hjf.1, by omega, fun p hp => ?_, ?_⟩
  ·rcases part_of (s := s) (w := w) hp with ⟨_, k2, _⟩ | ⟨i, hi, k1, k2, k3, k4⟩
   ·exact .inl k2
   ·by_cases hz : S.valueOf p w = 0
    ·exact .inl hz
    ·have hiw : 0 < (S.partsOf s w)[i].wants := by have := hwb p; omega
     have e : (S.partsOf s w)[i].spare = S.valueOf p s - S.valueOf p w := by unfold Prt.spare; rw [k3, k4]
     rcases hmin i hi hi hiw with h1 | ⟨h1, h2⟩
     ·right; left; omega
     ·right; right
      refine ⟨by omega, ?_⟩
      by_cases hji : j = i
      ·subst hji
       rw [hq]
       exact k1
      ·have mono : ∀ d a (ha : a + d < (S.partsOf s w).length), (S.partsOf s w)[a].lo <= (S.partsOf s w)[a + d].lo := by
        intro d
        induction d with
        | zero => intro a ha; exact Int.le_refl _
        | succ d ih =>
         intro a ha
         have h1 := ih a (by omega)
         have h2 := hL.le (a + d) (by omega)
         have h3 := hL.next (a + d) (by omega)
         show (S.partsOf s w)[a].lo <= (S.partsOf s w)[a + d + 1].lo
         omega
       have h3 := mono (i - j) j (by omega)
       have e2 : j + (i - j) = i := by omega
       simp only [e2] at h3
       rw [hq]
       omega
  ·rw [hsp]
   constructor
   ·intro hneg
    refine ⟨q.lo, by omega, ?_⟩
    have e : q.spare = S.valueOf q.lo s - S.valueOf q.lo w := by unfold Prt.spare; rw [hjl.1, hjl.2]
    omega
   ·rintro ⟨p, hp, hlt⟩
    rcases part_of (s := s) (w := w) hp with ⟨k1, k2, _⟩ | ⟨i, hi, k1, k2, k3, k4⟩
    ·omega
    ·have hiw : 0 < (S.partsOf s w)[i].wants := by have := hsb p; omega
     have e : (S.partsOf s w)[i].spare = S.valueOf p s - S.valueOf p w := by unfold Prt.spare; rw [k3, k4]
     rcases hmin i hi hi hiw with h1 | ⟨h1, _⟩ <;> omega
set_option maxHeartbeats 1000000 in
theorem demAt_any (d : Dm) (p : Int) (B : Nat) (w : World) (hB : B <= w.heap.size) (hA : StepsAt w B d.A d.n d.st) (hm : d.name.size <= 9223372036854775807) (hn : d.n <= 1000000) (hd : S.demRight d = true) :
 Calls Tryz.prog 29 #[dmV d, .int .i64 p] w fun e w' => e = .returned (.tuple #[.int .i64 (S.valueOf p d.st), .int .i64 0]) /\ Below w.heap.size w w' := by
 have hst : S.steps d.st = true := by
  unfold S.demRight at hd
  simp only [Bool.and_eq_true] at hd
  exact hd.2
 have HR := lh (fun (W : World) (hw : B <= W.heap.size) (hh : StepsAt W B d.A d.n d.st) => hd ▸ dright_any d B W hw hh hm)
 have HS := lh (fun (W : World) (hw : B <= W.heap.size) (hh : StepsAt W B d.A d.n d.st) => stAt_any d.st p d.A d.n d.c B W hw hh hn hst)
 have HA := lh hA
 clear hA hm hd hst
 generalize S.valueOf p d.st = v at *
 unfold dmV at HR ⊢
 go_enter Tryz.func29, Tryz.ntmps29
 go_wp2_with (first
  | (go_at_call 58; (with_reducible refine (HR.out _ (dsize hB bel) (HA.out.below (Below.mono bel hB))).mono ?_); rintro e w1 ⟨rfl, hbw1⟩; obtain ⟨hcw1, hfw1⟩ := bcell hbw1; have hzw1_0 : w.heap.size < w1.heap.size := lt_via hbw1 sz)
  | (go_at_call 49; (with_reducible refine (HS.out _ (dsize hB bel) (HA.out.below (Below.mono bel hB))).mono ?_); rintro e w2 ⟨rfl, hbw2⟩; obtain ⟨hcw2, hfw2⟩ := bcell hbw2; have hzw2_0 : w.heap.size < w2.heap.size := lt_via hbw2 sz))
 go_ret2
 exact ⟨rfl, bel⟩
set_option maxHeartbeats 2000000 in
theorem ready_any (x : Dt) (d g : Int) (t : Bool) (w : World)
 (hSM : ∀ W, Below w.heap.size w W -> Calls Tryz.prog 11 #[dtV x] W fun e w' => e = .returned (.bool t) /\ Below W.heap.size W w')
 (hGV : ∀ W, Below w.heap.size w W -> Calls Tryz.prog 43 #[dtV x, .int .i64 d] W fun e w' => e = .returned (.int .i64 g) /\ Below W.heap.size W w') :
 Calls Tryz.prog 25 #[dtV x, .int .i64 d] w fun e w' => e = .returned (.bool (t && (g == 0))) /\ Below w.heap.size w w' := by
 have HSM := lh hSM
 have HGV := lh hGV
 clear hSM hGV
 unfold dtV at HSM HGV
 unfold dtV
 have hDB := Blk.new w 34 (dtc x)
 have hW1 : Below w.heap.size w (w.alloc (.cells (dtc x) 34)) := ba_alloc (Below.refl _ _) _
 go_enter Tryz.func25, Tryz.ntmps25
 go_upto_region 1 with fail
 generalize (w.alloc (.cells (dtc x) 34)) = W1 at *
 have HDB := lh hDB
 clear hDB
 cases t
 ·go_wp2_with (first
   | ((with_reducible refine at_load 34 2 ?_); refine wpList_load_mid rfl 34 (.tmp 2) rfl _ _ rfl _ _ (HDB.out.via belr).range Tryz.underlying34 rfl (by kernel_rfl) ?_)
   | (go_at_call 11; (with_reducible refine (HSM.out _ belr).mono ?_); rintro e w2 ⟨rfl, hbw2⟩))
  go_ret
  exact ⟨rfl, bel⟩
 ·go_wp2_with (first
   | ((with_reducible refine at_load 34 2 ?_); refine wpList_load_mid rfl 34 (.tmp 2) rfl _ _ rfl _ _ (HDB.out.via belr).range Tryz.underlying34 rfl (by kernel_rfl) ?_)
   | ((with_reducible refine at_loadg 34 2 ?_); refine wpList_load_gdF (by rfl) 34 (.tmp 2) rfl _ _ rfl _ _ (HDB.out.via belr).range Tryz.underlying34 rfl (by kernel_rfl) ?_)
   | ((with_reducible refine at_loadw 34 2 ?_); refine wp_load_mid 34 (.tmp 2) rfl _ _ rfl _ _ (HDB.out.via belr).range Tryz.underlying34 rfl (by kernel_rfl) ?_)
   | (go_at_call 11; (with_reducible refine (HSM.out _ belr).mono ?_); rintro e w2 ⟨rfl, hbw2⟩)
   | (go_at_call 43; (with_reducible refine (HGV.out _ belr).mono ?_); rintro e w3 ⟨rfl, hbw3⟩))
  go_ret
  exact ⟨ret_b (by simp), bel⟩
section
variable {x : Dt} {ds : List Dm} {w : World}
theorem any_ready (h : DtOk w x ds) (d : Int) : ∀ W, Below w.heap.size w W -> Calls Tryz.prog 25 #[dtV x, .int .i64 d] W fun e w' => e = .returned (.bool (S.small25 x ds && (S.given27 x ds d == 0))) /\ Below W.heap.size W w' := fun W hw =>
 ready_any x d _ _ W (fun V hV => small25_any x ds w.heap.size V (hw.trans (hV.mono hw.size)).size (h.at_.at_ (Nat.le_refl _) (hw.trans (hV.mono hw.size))) (h.dems.at_ (Nat.le_refl _) (hw.trans (hV.mono hw.size)))) (fun V hV => any_rgiven27 h d V (hw.trans (hV.mono hw.size)))
theorem good_demAt (h : DtOk w x ds) (hlk : S.look x (S.dems ds) = true) {k : Nat} {dm : Dm} (hk : ds[k]? = some dm) (p : Int) :
 ∀ W, Below w.heap.size w W -> Calls Tryz.prog 29 #[dmV dm, .int .i64 p] W fun e w' => e = .returned (.tuple #[.int .i64 (S.valueOf p dm.st), .int .i64 0]) /\ Below W.heap.size W w' := fun W hw => by
 have hD := h.dems.at_ (Nat.le_refl _) hw
 have hst := hD.each dm (List.mem_of_getElem? hk)
 have := (dem_steps hlk hk).2
 have hl := hst.len
 exact demAt_any dm p w.heap.size W hw.size hst (hD.name dm (List.mem_of_getElem? hk)) (by omega) (dems_at (look_ok hlk).dems hk)
end
end Go.Proofs.YtmfpbafpnoomeaaGreat
