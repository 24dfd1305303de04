/- Lemmas. -/
import Derived.Deep.Cut
import Derived.Test.YtmfpbafpnoomeaaGreatMP
import Derived.Test.YtmfpbafpnoomeaaGreatMM
set_option linter.unusedVariables false
set_option linter.unusedSimpArgs false
namespace Go.Proofs.YtmfpbafpnoomeaaGreat
open Go.RowKit
namespace S
def nextF (js : List Jn) : Int -> Option Int := js.foldl (fun f j i => if i = j.first then some j.second else f i) (fun _ => none)
def secF (js : List Jn) : Int -> Bool := js.foldl (fun f j i => i == j.second || f i) (fun _ => false)
def rest (f : Int -> Option Int) : Nat -> Option Int -> List Int
 | _, none => []
 | 0, some _ => []
 | k + 1, some i => i :: rest f k (f i)
def ends (f : Int -> Option Int) : Nat -> Option Int -> Prop
 | _, none => True
 | 0, some _ => False
 | k + 1, some i => ends f k (f i)
def chainOf (f : Int -> Option Int) (n : Nat) (i : Int) : List Int := i :: rest f n (f i)
def chainsTo (js : List Jn) (n k : Nat) : List (List Int) := ((List.range k).filter (fun i => !secF js (i : Nat))).map fun i => chainOf (nextF js) n (i : Nat)
def chains (js : List Jn) (n : Nat) : List (List Int) := chainsTo js n n
end S
theorem nextF_snoc (js : List Jn) (j : Jn) : S.nextF (js ++ [j]) = fun i => if i = j.first then some j.second else S.nextF js i := by
 unfold S.nextF
 rw [List.foldl_append]
 rfl
theorem secF_snoc (js : List Jn) (j : Jn) : S.secF (js ++ [j]) = fun i => i == j.second || S.secF js i := by
 unfold S.secF
 rw [List.foldl_append]
 rfl
theorem chainsTo_yes {js : List Jn} {n k : Nat} (h : S.secF js (k : Int) = false) : S.chainsTo js n (k + 1) = S.chainsTo js n k ++ [S.chainOf (S.nextF js) n (k : Int)] := by
 unfold S.chainsTo
 rw [List.range_succ, List.filter_append, List.map_append]
 simp [h]
theorem chainsTo_no {js : List Jn} {n k : Nat} (h : S.secF js (k : Int) = true) : S.chainsTo js n (k + 1) = S.chainsTo js n k := by
 unfold S.chainsTo
 rw [List.range_succ, List.filter_append, List.map_append]
 simp [h]
theorem snoc_ind {α : Type} {P : List α -> Prop} (h0 : P []) (h1 : ∀ l a, P l -> P (l ++ [a])) : ∀ l, P l := by
 have : ∀ l : List α, P l.reverse := by
  intro l
  induction l with
  | nil => simpa using h0
  | cons a l ih => simpa using h1 _ a ih
 intro l
 simpa using this l.reverse
theorem nextF_mem : ∀ {js : List Jn} {i k : Int}, S.nextF js i = some k -> (⟨i, k⟩ : Jn) ∈ js := by
 intro js
 induction js using snoc_ind with
 | h0 => intro i k h; cases h
 | h1 l a ih =>
  intro i k h
  rw [nextF_snoc] at h
  simp only [] at h
  by_cases he : i = a.first
  ·rw [if_pos he] at h
   simp only [Option.some.injEq] at h
   subst he h
   exact List.mem_append.2 (.inr (by simp))
  ·rw [if_neg he] at h
   exact List.mem_append.2 (.inl (ih h))
structure LapsGood (js : List Jn) (n : Nat) (rank : Int -> Nat) : Prop where
 inr : ∀ j, j ∈ js -> (0 <= j.first /\ j.first < n) /\ (0 <= j.second /\ j.second < n) /\ rank j.second < rank j.first
 top : ∀ i : Int, rank i <= n
 firsts : (js.map Jn.first).Nodup
 seconds : (js.map Jn.second).Nodup
variable {js : List Jn} {n : Nat} {rank : Int -> Nat}
theorem LapsGood.next (h : LapsGood js n rank) {i k : Int} (hk : S.nextF js i = some k) : (0 <= i /\ i < n) /\ (0 <= k /\ k < n) /\ rank k < rank i := h.inr _ (nextF_mem hk)
theorem LapsGood.ends (h : LapsGood js n rank) : ∀ (k : Nat) (o : Option Int), (∀ i, o = some i -> rank i < k) -> S.ends (S.nextF js) k o := by
 intro k
 induction k with
 | zero =>
  intro o ho
  cases o with
  | none => trivial
  | some i => exact absurd (ho i rfl) (by omega)
 | succ k ih =>
  intro o ho
  cases o with
  | none => trivial
  | some i =>
   refine ih _ (fun k' hk' => ?_)
   have h1 := (h.next hk').2.2
   have h2 := ho i rfl
   omega
theorem LapsGood.ends_n (h : LapsGood js n rank) (i : Int) : S.ends (S.nextF js) n (S.nextF js i) := h.ends n _ (fun k hk => by
 have h1 := (h.next hk).2.2
 have h2 := h.top i
 omega)
theorem rest_from {f : Int -> Option Int} : ∀ {k : Nat} {o : Option Int} {b : Int}, b ∈ S.rest f k o -> o = some b ∨ ∃ p, p ∈ S.rest f k o /\ f p = some b := by
 intro k
 induction k with
 | zero => intro o b h; cases o <;> cases h
 | succ k ih =>
  intro o b h
  cases o with
  | none => cases h
  | some i =>
   rcases List.mem_cons.1 h with rfl | h
   ·exact .inl rfl
   ·rcases ih h with h1 | ⟨p, h1, h2⟩
    ·exact .inr ⟨i, List.mem_cons_self, h1⟩
    ·exact .inr ⟨p, List.mem_cons_of_mem _ h1, h2⟩
theorem chain_from {f : Int -> Option Int} {n : Nat} {i b : Int} (h : b ∈ S.chainOf f n i) : b = i ∨ ∃ p, p ∈ S.chainOf f n i /\ f p = some b := by
 rcases List.mem_cons.1 h with h | h
 ·exact .inl h
 ·rcases rest_from h with h1 | ⟨p, h1, h2⟩
  ·exact .inr ⟨i, List.mem_cons_self, h1⟩
  ·exact .inr ⟨p, List.mem_cons_of_mem _ h1, h2⟩
theorem LapsGood.mem_range (h : LapsGood js n rank) {i b : Int} (hi : 0 <= i /\ i < n) (hb : b ∈ S.chainOf (S.nextF js) n i) : 0 <= b /\ b < n := by
 rcases chain_from hb with rfl | ⟨p, _, hp⟩
 ·exact hi
 ·exact (h.next hp).2.1
def S.rankOf (L : List Mn) (i : Int) : Nat := match L[i.toNat]? with | some a => L.countP (fun m => decide (a.leg.lo.x < m.leg.lo.x)) | none => 0
theorem countP_lt {α : Type} {p q : α -> Bool} : ∀ {l : List α}, (∀ a, a ∈ l -> p a = true -> q a = true) -> ∀ {a}, a ∈ l -> q a = true -> p a = false -> l.countP p < l.countP q := by
 intro l
 induction l with
 | nil => intro _ a ha; cases ha
 | cons b l ih =>
  intro h a ha hq hp
  have hle : l.countP p <= l.countP q := List.countP_mono_left (fun c hc => h c (List.mem_cons_of_mem _ hc))
  have hb := h b List.mem_cons_self
  rw [List.countP_cons, List.countP_cons]
  rcases List.mem_cons.1 ha with rfl | ha
  ·simp [hp, hq]
   omega
  ·have h2 := ih (fun c hc => h c (List.mem_cons_of_mem _ hc)) ha hq hp
   cases hpb : p b
   ·simp
    split <;> omega
   ·simp [hb hpb]
    exact h2
theorem rank_lt {L : List Mn} {j : Jn} (h : S.jointOk L j = true) : S.rankOf L j.second < S.rankOf L j.first := by
 unfold S.jointOk at h
 rw [Bool.and_eq_true] at h
 obtain ⟨_, h⟩ := h
 unfold S.rankOf
 split at h
 ·rename_i a b ha hb
  rw [ha, hb]
  simp only [S.jointOn, Bool.and_eq_true, decide_eq_true_eq] at h
  have hx := h.1.1.2
  refine countP_lt (fun m _ hm => ?_) (List.mem_of_getElem? hb) ?_ ?_
  ·simp only [decide_eq_true_eq] at hm ⊢
   omega
  ·simpa using hx
  ·simp
 ·cases h
theorem rank_top (L : List Mn) (i : Int) : S.rankOf L i <= L.length := by
 unfold S.rankOf
 split
 ·exact List.countP_le_length
 ·omega
theorem lapsOk_out {L : List Mn} : ∀ {js : List Jn} {f s : Int -> Bool}, S.lapsOk L f s js = true -> (∀ j, j ∈ js -> S.jointOk L j = true /\ f j.first = false /\ s j.second = false) /\ (js.map Jn.first).Nodup /\ (js.map Jn.second).Nodup := by
 intro js
 induction js with
 | nil => intro f s _; exact ⟨fun j hj => (List.not_mem_nil hj).elim, List.nodup_nil, List.nodup_nil⟩
 | cons a js ih =>
  intro f s h
  simp only [S.lapsOk, Bool.and_eq_true, Bool.not_eq_true'] at h
  obtain ⟨⟨⟨h1, h2⟩, h3⟩, h4⟩ := h
  obtain ⟨g1, g2, g3⟩ := ih h4
  refine ⟨fun j hj => ?_, ?_, ?_⟩
  ·rcases List.mem_cons.1 hj with rfl | hj
   ·exact ⟨h1, h2, h3⟩
   ·obtain ⟨k1, k2, k3⟩ := g1 j hj
    simp only [Bool.or_eq_false_iff] at k2 k3
    exact ⟨k1, k2.2, k3.2⟩
  ·rw [List.map_cons, List.nodup_cons]
   refine ⟨fun hm => ?_, g2⟩
   obtain ⟨j, hj, he⟩ := List.mem_map.1 hm
   have := (g1 j hj).2.1
   simp [he] at this
  ·rw [List.map_cons, List.nodup_cons]
   refine ⟨fun hm => ?_, g3⟩
   obtain ⟨j, hj, he⟩ := List.mem_map.1 hm
   have := (g1 j hj).2.2
   simp [he] at this
theorem laps_good {L : List Mn} {js : List Jn} {f s : Int -> Bool} (h : S.lapsOk L f s js = true) : LapsGood js L.length (S.rankOf L) := by
 obtain ⟨h1, h2, h3⟩ := lapsOk_out h
 refine ⟨fun j hj => ?_, fun i => rank_top L i, h2, h3⟩
 have hj1 := (h1 j hj).1
 have hin : S.jointIn L j = true := by
  unfold S.jointOk at hj1
  rw [Bool.and_eq_true] at hj1
  exact hj1.1
 simp only [S.jointIn, Bool.and_eq_true, decide_eq_true_eq] at hin
 exact ⟨by omega, by omega, rank_lt hj1⟩
structure Stp where
 fro : Int
 val : Int
abbrev stC (s : Stp) : List Value := [.int .i64 s.fro, .int .i64 s.val]
theorem stC_len (s : Stp) : (stC s).length = 2 := rfl
structure StepsAt (w : World) (B : Nat) (A : Option Addr) (n : Nat) (l : List Stp) : Prop where
 len : l.length = n
 max : n <= 9223372036854775807
 cells : Cells w B A (l.flatMap stC)
theorem StepsAt.below {w w' : World} {B : Nat} {A : Option Addr} {n : Nat} {l : List Stp} (h : StepsAt w B A n l) (hb : Below B w w') : StepsAt w' B A n l := ⟨h.len, h.max, h.cells.below hb⟩
structure Dm where
 name : ByteArray
 zone : Bx
 st : List Stp
 A : Option Addr
 n : Nat
 c : Nat
abbrev dmC (d : Dm) : List Value := [.string d.name, .int .i64 d.zone.lo.x, .int .i64 d.zone.lo.y, .int .i64 d.zone.lo.z, .int .i64 d.zone.hi.x, .int .i64 d.zone.hi.y, .int .i64 d.zone.hi.z, .slice d.A d.n d.c]
abbrev dmV (d : Dm) : Value := .agg #[.string d.name, .int .i64 d.zone.lo.x, .int .i64 d.zone.lo.y, .int .i64 d.zone.lo.z, .int .i64 d.zone.hi.x, .int .i64 d.zone.hi.y, .int .i64 d.zone.hi.z, .slice d.A d.n d.c]
theorem dmC_len (d : Dm) : (dmC d).length = 8 := rfl
structure DemsAt (w : World) (B : Nat) (A : Option Addr) (n : Nat) (l : List Dm) : Prop where
 len : l.length = n
 max : n <= 9223372036854775807
 cells : Cells w B A (l.flatMap dmC)
 each : ∀ d, d ∈ l -> StepsAt w B d.A d.n d.st
 name : ∀ d, d ∈ l -> d.name.size <= 9223372036854775807
theorem DemsAt.below {w w' : World} {B : Nat} {A : Option Addr} {n : Nat} {l : List Dm} (h : DemsAt w B A n l) (hb : Below B w w') : DemsAt w' B A n l := ⟨h.len, h.max, h.cells.below hb, fun d hd => (h.each d hd).below hb, h.name⟩
theorem DemsAt.at_ {w w' : World} {B : Nat} {A : Option Addr} {n : Nat} {l : List Dm} (h : DemsAt w B A n l) (hB : B <= w.heap.size) (hb : Below w.heap.size w w') : DemsAt w' B A n l := h.below (hb.mono hB)
namespace S
def stepAt (l : List Stp) (i : Nat) : Bool := match l[i]? with
 | some s => place s.fro && decide (0 <= s.val) && decide (s.val <= 1099511627776) && (match i with | 0 => true | j + 1 => match l[j]? with | some p => decide (p.fro < s.fro) | none => true)
 | none => true
def steps (l : List Stp) : Bool := decide (l.length <= 200) && (List.range l.length).all (stepAt l)
def demRight (d : Dm) : Bool := isName d.name && boxOk d.zone && steps d.st
def isDem (m : ByteArray) (d : Dm) : Bool := d.name.toList == m.toList
def demAt (l : List Dm) (i : Nat) : Bool := match l[i]? with | some d => demRight d && !anyb (l.take i) (isDem d.name) | none => true
def dems (l : List Dm) : Bool := decide (l.length <= 20) && (List.range l.length).all (demAt l)
end S
theorem dsize {B : Nat} {w w' : World} (hB : B <= w.heap.size) (hb : Below w.heap.size w w') : B <= w'.heap.size := Nat.le_trans hB hb.size
theorem rng_no {n k : Nat} {p : Nat -> Bool} {b : Bool} (hk : k < n) (h : p k = false) : (b && (List.range n).all p) = false := by
 have : (List.range n).all p = false := by
  rw [List.all_eq_false]
  exact ⟨k, List.mem_range.2 hk, by simp [h]⟩
 rw [this]
 simp
theorem rng_yes {n : Nat} {p : Nat -> Bool} {b : Bool} (hb : b = true) (h : ∀ j, j < n -> p j = true) : (b && (List.range n).all p) = true := by
 rw [hb, Bool.true_and, List.all_eq_true]
 exact fun j hj => h j (List.mem_range.1 hj)
theorem stplace_any (n : Int) (w : World) : Calls Tryz.prog 103 #[.int .i64 n] w fun e w' => e = .returned (.bool (S.place n)) /\ w = w' := by
 have H := lh (show S.place n = (decide (-1048576 <= n) && decide (n <= 1048576)) from rfl)
 go_enter Tryz.func103, Tryz.ntmps103
 go_wp2
 all_goals (go_ret; refine ⟨ret_b ?_, rfl⟩; rw [H.out, Bool.eq_iff_iff]; simp; omega)
set_option maxHeartbeats 1000000 in
theorem steps_any (l : List Stp) (A : Option Addr) (n c : Nat) (B : Nat) (w : World) (hB : B <= w.heap.size) (hA : StepsAt w B A n l) :
 Calls Tryz.prog 76 #[.slice A n c] w fun e w' => e = .returned (.bool (S.steps l)) /\ Below w.heap.size w w' := by
 have HA := lh hA
 have HPL := lh (fun n w => stplace_any n w)
 have hmx := hA.max
 have hL := hA.len
 clear hA
 by_cases h200 : 200 < n
 ·have HS := lh (show S.steps l = false from by unfold S.steps; rw [hL]; simp; omega)
  clear hL
  go_enter Tryz.func76, Tryz.ntmps76
  go_wp2
  go_ret
  exact ⟨ret_b HS.out.symm, bel⟩
 clear hL
 go_enter Tryz.func76, Tryz.ntmps76
 go_wp2
 go_loopw [10] (fun i wr => ∃ k : Nat, k <= n /\ i = .int .i64 k /\ (∀ j, j < k -> S.stepAt l j = true) /\ Below w.heap.size w wr) (fun i _ => n - (intOf i).toNat)
 case atStart => exact ⟨0, Nat.zero_le _, rfl, fun j hj => absurd hj (by omega), Below.refl _ _⟩
 case round =>
  obtain ⟨k, hk, rfl, hno, hbr⟩ := hrel
  have HNO := lh hno
  clear hno
  by_cases hlt : k < n
  ·have hkx : k < l.length := by have := HA.out.len; omega
   have hs' := HA.out.cells.below (hbr.mono hB)
   obtain ⟨b, o, rfl, hbB, _⟩ := hs'.at_ (by rw [flat_len stC 2 stC_len]; omega)
   have hbw : b < wr.heap.size := by have := hbr.size; omega
   have c0 := hs'.row0 stC_len hkx rfl
   have c1 := hs'.rowj stC_len hkx 1 rfl
   have HNS := lh (fun h => show S.steps l = false from rng_no (p := S.stepAt l) (k := k) hkx h)
   have HGO := lh (fun (h : S.stepAt l k = true) => show ∀ j, j < k + 1 -> S.stepAt l j = true from fun j hj => by
    by_cases hjk : j = k
    ·subst hjk; exact h
    ·exact HNO.out j (by omega))
   have hge : l[k]? = some l[k] := List.getElem?_eq_getElem hkx
   cases k with
   | zero =>
    have HAT := lh (show S.stepAt l 0 = (S.place l[0].fro && decide (0 <= l[0].val) && decide (l[0].val <= 1099511627776) && true) by unfold S.stepAt; rw [hge]; rfl)
    have HP0 := lh (HPL.out l[0].fro)
    rw [Nat.zero_mul, Nat.add_zero] at c0 c1
    generalize S.place l[0].fro = t0 at *
    generalize l[0] = s at *
    clear hs' hge
    have hcs : t0 = false ∨ (t0 = true /\ s.val < 0) ∨ (t0 = true /\ ¬ s.val < 0 /\ 1099511627776 < s.val) ∨ (t0 = true /\ ¬ s.val < 0 /\ ¬ 1099511627776 < s.val) := by
     cases t0 <;> simp <;> omega
    rcases hcs with rfl | ⟨rfl, h1⟩ | ⟨rfl, h1, h2⟩ | ⟨rfl, h1, h2⟩
    rotate_right
    ·have HG := lh (HGO.out (by rw [HAT.out]; simp; omega))
     go_upto_region 6 with fail
     refine wp_region_grow (by kernel_rfl) (by kernel_rfl) ?_
     repeat (go_big_quiet_step ((go_at_call 103; exact grow_of_eq (HP0.out _))))
     all_goals (refine wpQuiet_nil ?_; intro wg hbwg; obtain ⟨hcwg, hfwg⟩ := bcell hbwg)
     go_wp2
     go_roundw
     case rel => exact ⟨0 + 1, by omega, by go_num, HG.out, bel⟩
     case measure => simp [intOf]; omega
    all_goals (
     have HG := lh (HNS.out (by rw [HAT.out]; simp; try omega))
     go_upto_region 6 with fail
     refine wp_region_grow (by kernel_rfl) (by kernel_rfl) ?_
     repeat (go_big_quiet_step ((go_at_call 103; exact grow_of_eq (HP0.out _))))
     all_goals (refine wpQuiet_nil ?_; intro wg hbwg; obtain ⟨hcwg, hfwg⟩ := bcell hbwg)
     go_wp2
     go_ret
     exact ⟨ret_b HG.out.symm, bel⟩)
   | succ j =>
    have hjx : j < l.length := by omega
    have d0 := hs'.row0 stC_len hjx rfl
    have HAT := lh (show S.stepAt l (j + 1) = (S.place l[j + 1].fro && decide (0 <= l[j + 1].val) && decide (l[j + 1].val <= 1099511627776) && decide (l[j].fro < l[j + 1].fro)) by unfold S.stepAt; rw [hge]; simp only []; rw [List.getElem?_eq_getElem hjx])
    have HP0 := lh (HPL.out l[j + 1].fro)
    generalize S.place l[j + 1].fro = t0 at *
    generalize l[j + 1] = s at *
    generalize l[j] = p at *
    clear hs' hge
    have hk0 : (0 : Int) < ((j + 1 : Nat) : Int) := by omega
    have e1 : IntKind.i64.wrap (((j + 1 : Nat) : Int) - 1) = (j : Nat) := by rw [IntWalk.i64_in _ (by omega)]; omega
    have hjn : (j : Int) < n := by omega
    have hcs : t0 = false ∨ (t0 = true /\ s.val < 0) ∨ (t0 = true /\ ¬ s.val < 0 /\ 1099511627776 < s.val) ∨ (t0 = true /\ ¬ s.val < 0 /\ ¬ 1099511627776 < s.val /\ s.fro <= p.fro) ∨ (t0 = true /\ ¬ s.val < 0 /\ ¬ 1099511627776 < s.val /\ ¬ s.fro <= p.fro) := by
     cases t0 <;> simp <;> omega
    rcases hcs with rfl | ⟨rfl, h1⟩ | ⟨rfl, h1, h2⟩ | ⟨rfl, h1, h2, h3⟩ | ⟨rfl, h1, h2, h3⟩
    rotate_right
    ·have HG := lh (HGO.out (by rw [HAT.out]; simp; omega))
     go_upto_region 6 with fail
     refine wp_region_grow (by kernel_rfl) (by kernel_rfl) ?_
     repeat (go_big_quiet_step ((go_at_call 103; exact grow_of_eq (HP0.out _))))
     all_goals (refine wpQuiet_nil ?_; intro wg hbwg; obtain ⟨hcwg, hfwg⟩ := bcell hbwg)
     go_wp2
     go_roundw
     case rel => exact ⟨j + 1 + 1, by omega, by go_num, HG.out, bel⟩
     case measure => simp [intOf]; omega
    all_goals (
     have HG := lh (HNS.out (by rw [HAT.out]; simp; try omega))
     go_upto_region 6 with fail
     refine wp_region_grow (by kernel_rfl) (by kernel_rfl) ?_
     repeat (go_big_quiet_step ((go_at_call 103; exact grow_of_eq (HP0.out _))))
     all_goals (refine wpQuiet_nil ?_; intro wg hbwg; obtain ⟨hcwg, hfwg⟩ := bcell hbwg)
     go_wp2
     go_ret
     exact ⟨ret_b HG.out.symm, bel⟩)
  ·have HG := lh (show S.steps l = true from rng_yes (p := S.stepAt l) (by have := HA.out.len; simp; omega) (fun j hj => HNO.out j (by have := HA.out.len; omega)))
   go_wp2
   go_ret
   exact ⟨ret_b HG.out.symm, bel⟩
theorem dright_any (d : Dm) (B : Nat) (w : World) (hB : B <= w.heap.size) (hA : StepsAt w B d.A d.n d.st) (hm : d.name.size <= 9223372036854775807) :
 Calls Tryz.prog 58 #[dmV d] w fun e w' => e = .returned (.bool (S.demRight d)) /\ Below w.heap.size w w' := by
 have HN := lh (fun w => isname_any d.name w hm)
 have HB := lh (fun w => bvalid_any d.zone w)
 have HS := lh (fun (W : World) (hw : B <= W.heap.size) (hh : StepsAt W B d.A d.n d.st) => steps_any d.st d.A d.n d.c B W hw hh)
 have HE := lh (show S.demRight d = (S.isName d.name && S.boxOk d.zone && S.steps d.st) from rfl)
 have HA := lh hA
 clear hA hm
 unfold dmV
 unfold boxV at HB
 generalize S.isName d.name = t0 at *
 generalize S.boxOk d.zone = t1 at *
 generalize S.steps d.st = t2 at *
 have hcs : t0 = false ∨ (t0 = true /\ t1 = false) ∨ (t0 = true /\ t1 = true) := by cases t0 <;> cases t1 <;> simp
 rcases hcs with rfl | ⟨rfl, rfl⟩ | ⟨rfl, rfl⟩
 all_goals (
  go_enter Tryz.func58, Tryz.ntmps58
  go_wp2_with (first
   | (go_at_call 93; (with_reducible refine (HN.out _).mono ?_); rintro e w' ⟨rfl, rfl⟩)
   | (go_at_call 94; (with_reducible refine (HB.out _).mono ?_); rintro e w1 ⟨rfl, hbw1⟩; obtain ⟨hcw1, hfw1⟩ := bcell hbw1; have hzw1_0 : w.heap.size < w1.heap.size := lt_via hbw1 sz)
   | (go_at_call 76; (with_reducible refine (HS.out _ (dsize hB bel) (HA.out.below (Below.mono bel hB))).mono ?_); rintro e w2 ⟨rfl, hbw2⟩; obtain ⟨hcw2, hfw2⟩ := bcell hbw2; have hzw2_0 : w.heap.size < w2.heap.size := lt_via hbw2 sz))
  go_ret
  exact ⟨ret_b (by rw [HE.out]; simp), bel⟩)
def AsksD (w : World) (F : Nat) (fst cap : Array Value) (p : Dm -> Bool) : Prop :=
 ∀ (x : Dm) (w' : World), Below w.heap.size w w' -> Calls Tryz.prog F (fst.push (dmV x) ++ cap) w' fun e w'' => e = .returned (.bool (p x)) /\ Below w'.heap.size w' w''
theorem indexfD_any (F : Nat) (fst cap : Array Value) (p : Dm -> Bool) (A : Option Addr) (n c : Nat) (xs : List Dm) (B : Nat) (w : World) (hn : xs.length = n) (hm : n <= 9223372036854775807) (hB : B <= w.heap.size)
 (hs : Cells w B A (xs.flatMap dmC)) (hF : ∀ args w, Sem.run Tryz.prog (callFunc F args) w = .ok (.enter F args) w) (hf : AsksD w F fst cap p) :
 Calls Tryz.prog 210 #[.slice A n c, .func (.func F) fst cap] w fun e w' => e = .returned (.int .i64 (idxf xs p)) /\ Below w.heap.size w w' := by
 have HN := lh hn
 clear hn
 go_enter Tryz.func210, Tryz.ntmps210
 go_wp2
 go_loopw [8] (fun i wr => ∃ k : Nat, k <= n /\ i = .int .i64 k /\ (∀ j (h : j < xs.length), j < k -> p xs[j] = false) /\ Below w.heap.size w wr) (fun i _ => n - (intOf i).toNat)
 case atStart => exact ⟨0, Nat.zero_le _, rfl, fun j _ hj => absurd hj (by omega), Below.refl _ _⟩
 case round =>
  obtain ⟨k, hk, rfl, hno, hbr⟩ := hrel
  have HNO := lh hno
  clear hno
  by_cases hlt : k < n
  ·have hkx : k < xs.length := by have := HN.out; omega
   have hs' := hs.below (hbr.mono hB)
   obtain ⟨b, o, rfl, _, _⟩ := hs'.at_ (by rw [flat_len dmC 8 dmC_len]; omega)
   have c0 := hs'.row0 dmC_len hkx rfl
   have c1 := hs'.rowj dmC_len hkx 1 rfl
   have c2 := hs'.rowj dmC_len hkx 2 rfl
   have c3 := hs'.rowj dmC_len hkx 3 rfl
   have c4 := hs'.rowj dmC_len hkx 4 rfl
   have c5 := hs'.rowj dmC_len hkx 5 rfl
   have c6 := hs'.rowj dmC_len hkx 6 rfl
   have c7 := hs'.rowj dmC_len hkx 7 rfl
   by_cases hx : p xs[k] = true
   ·go_wp2_with (refine (hf _ _ hbr).mono ?_; rintro e w1 ⟨rfl, hb1⟩)
    go_ret
    exact ⟨ret_i (idxf_hit hkx hx HNO.out).symm, hbr.trans (hb1.mono hbr.size)⟩
   ·have hx' : p xs[k] = false := by simpa using hx
    clear hx
    go_wp2_with (refine (hf _ _ hbr).mono ?_; rintro e w1 ⟨rfl, hb1⟩)
    go_roundw
    case rel =>
     refine ⟨k + 1, by omega, by go_num, fun j hj hjk => ?_, hbr.trans (hb1.mono hbr.size)⟩
     by_cases hjk' : j = k
     ·subst hjk'; exact hx'
     ·exact HNO.out j hj (by omega)
    case measure => simp [intOf]; omega
  ·go_wp2
   go_ret
   exact ⟨ret_i (idxf_miss (fun j hj => HNO.out j hj (by have := HN.out; omega))).symm, hbr⟩
theorem containsfD_any (F : Nat) (fst cap : Array Value) (p : Dm -> Bool) (A : Option Addr) (n c : Nat) (xs : List Dm) (B : Nat) (w : World) (hn : xs.length = n) (hm : n <= 9223372036854775807) (hB : B <= w.heap.size)
 (hs : Cells w B A (xs.flatMap dmC)) (hF : ∀ args w, Sem.run Tryz.prog (callFunc F args) w = .ok (.enter F args) w) (hf : AsksD w F fst cap p) :
 Calls Tryz.prog 158 #[.slice A n c, .func (.func F) fst cap] w fun e w' => e = .returned (.bool (anyb xs p)) /\ Below w.heap.size w w' := by
 have HN := lh hn
 have HF := lh hF
 have he : decide (0 <= idxf xs p) = anyb xs p := idxf_ge xs p
 clear hn hF
 go_enter Tryz.func158, Tryz.ntmps158
 go_wp2_with (go_at_call 210; (with_reducible refine (indexfD_any F fst cap p _ _ _ xs B _ HN.out hm hB hs HF.out hf).mono ?_); rintro e w1 ⟨rfl, hbw1⟩; obtain ⟨hcw1, hfw1⟩ := bcell hbw1)
 go_ret
 exact ⟨rfl, bel⟩
theorem dname_any (m : ByteArray) (d : Dm) (g : Nat) (w : World) (hc : w.cell? ⟨g, 0, none⟩ = some (.string m)) (hg : g < w.heap.size) :
 Calls Tryz.prog 159 #[dmV d, .pointer (some ⟨g, 0, none⟩)] w fun e w' => e = .returned (.bool (S.isDem m d)) /\ Below w.heap.size w w' := by
 unfold dmV
 go_enter Tryz.func159, Tryz.ntmps159
 go_wp2
 go_ret
 exact ⟨rfl, bel⟩
set_option maxHeartbeats 1000000 in
theorem dvalid_any (l : List Dm) (A : Option Addr) (n c : Nat) (B : Nat) (w : World) (hB : B <= w.heap.size) (hc : n <= c) (hA : DemsAt w B A n l) :
 Calls Tryz.prog 113 #[.slice A n c] w fun e w' => e = .returned (.bool (S.dems l)) /\ Below w.heap.size w w' := by
 have HA := lh hA
 have hmx := hA.max
 have hL := hA.len
 clear hA
 by_cases h20 : 20 < n
 ·have HS := lh (show S.dems l = false from by unfold S.dems; rw [hL]; simp; omega)
  clear hL
  go_enter Tryz.func113, Tryz.ntmps113
  go_wp2
  go_ret
  exact ⟨ret_b HS.out.symm, bel⟩
 clear hL
 go_enter Tryz.func113, Tryz.ntmps113
 go_wp2
 go_loopw [10] (fun i wr => ∃ k : Nat, k <= n /\ i = .int .i64 k /\ (∀ j, j < k -> S.demAt l j = true) /\ Below w.heap.size w wr) (fun i _ => n - (intOf i).toNat)
 case atStart => exact ⟨0, Nat.zero_le _, rfl, fun j hj => absurd hj (by omega), Below.refl _ _⟩
 case round =>
  obtain ⟨k, hk, rfl, hno, hbr⟩ := hrel
  have HNO := lh hno
  clear hno
  by_cases hlt : k < n
  ·have hkx : k < l.length := by have := HA.out.len; omega
   have hwr : B <= wr.heap.size := by have := hbr.size; omega
   have hA' := HA.out.at_ hB hbr
   have HA' := lh hA'
   have hs' := hA'.cells
   have HE := lh (hA'.each l[k] (List.getElem_mem hkx))
   have HM := lh (hA'.name l[k] (List.getElem_mem hkx))
   obtain ⟨b, o, hAe, hbb, _⟩ := hs'.at_ (by rw [flat_len dmC 8 dmC_len]; omega)
   subst hAe
   have c0 := hs'.row0 dmC_len hkx rfl
   have c1 := hs'.rowj dmC_len hkx 1 rfl
   have c2 := hs'.rowj dmC_len hkx 2 rfl
   have c3 := hs'.rowj dmC_len hkx 3 rfl
   have c4 := hs'.rowj dmC_len hkx 4 rfl
   have c5 := hs'.rowj dmC_len hkx 5 rfl
   have c6 := hs'.rowj dmC_len hkx 6 rfl
   have c7 := hs'.rowj dmC_len hkx 7 rfl
   have HNS := lh (fun h => show S.dems l = false from rng_no (p := S.demAt l) (k := k) hkx h)
   have HGO := lh (fun (h : S.demAt l k = true) => show ∀ j, j < k + 1 -> S.demAt l j = true from fun j hj => by
    by_cases hjk : j = k
    ·subst hjk; exact h
    ·exact HNO.out j (by omega))
   have HAT := lh (show S.demAt l k = (S.demRight l[k] && !anyb (l.take k) (S.isDem l[k].name)) by unfold S.demAt; rw [List.getElem?_eq_getElem hkx])
   have HRX := lh (fun (W : World) (hw : B <= W.heap.size) (hh : StepsAt W B l[k].A l[k].n l[k].st) => dright_any l[k] B W hw hh HM.out)
   have HF := lh Tryz.call159
   have HCX := lh (fun (W : World) (hw : B <= W.heap.size) (hh : Below wr.heap.size wr W) (hcc : W.cell? ⟨wr.heap.size, 0, none⟩ = some (.string l[k].name)) (hgg : wr.heap.size < W.heap.size) =>
    containsfD_any 159 #[] #[.pointer (some ⟨wr.heap.size, 0, none⟩)] (S.isDem l[k].name) (some ⟨b, o, none⟩) k c (l.take k) B W (by simp; omega) (by omega) hw ((HA'.out.cells.below (hh.mono hwr)).upto k) HF.out
     (fun x w' hb => dname_any l[k].name x wr.heap.size w' ((hb.cell (p := ⟨wr.heap.size, 0, none⟩) hgg).trans hcc) (Nat.lt_of_lt_of_le hgg hb.size)))
   have hkc : k <= c := by omega
   have hki : (k : Int) < n := by omega
   clear hA' hs'
   unfold dmV at HRX
   generalize anyb (l.take k) (S.isDem l[k].name) = t1 at *
   generalize S.demRight l[k] = t0 at *
   generalize l[k] = d at *
   cases t0
   ·have HG := lh (HNS.out (by rw [HAT.out]; rfl))
    go_wp2_with (first
     | (go_at_call 58; (with_reducible refine (HRX.out _ (by simp; omega) (HE.out.below ((Below.refl B wr).alloc hwr _))).mono ?_); rintro e w1 ⟨rfl, hbw1⟩; obtain ⟨hcw1, hfw1⟩ := bcell hbw1; have hyw1_0 : wr.heap.size < w1.heap.size := lt_via hbw1 sz))
    go_ret
    exact ⟨ret_b HG.out.symm, bel⟩
   ·cases t1
    ·have HG := lh (HGO.out (by rw [HAT.out]; rfl))
     go_wp2_with (first
      | (go_at_call 58; (with_reducible refine (HRX.out _ (by simp; omega) (HE.out.below ((Below.refl B wr).alloc hwr _))).mono ?_); rintro e w1 ⟨rfl, hbw1⟩; obtain ⟨hcw1, hfw1⟩ := bcell hbw1; have hyw1_0 : wr.heap.size < w1.heap.size := lt_via hbw1 sz)
      | (go_at_call 158; (with_reducible refine (HCX.out _ (by omega) bel ((hbw1.cell (p := ⟨wr.heap.size, 0, none⟩) (by simp)).trans (by simp)) (by omega)).mono ?_); rintro e w2 ⟨rfl, hbw2⟩; obtain ⟨hcw2, hfw2⟩ := bcell hbw2; have hyw2_0 : wr.heap.size < w2.heap.size := lt_via hbw2 sz))
     go_roundw
     case rel => exact ⟨k + 1, by omega, by go_num, HG.out, bel⟩
     case measure => simp [intOf]; omega
    ·have HG := lh (HNS.out (by rw [HAT.out]; rfl))
     go_wp2_with (first
      | (go_at_call 58; (with_reducible refine (HRX.out _ (by simp; omega) (HE.out.below ((Below.refl B wr).alloc hwr _))).mono ?_); rintro e w1 ⟨rfl, hbw1⟩; obtain ⟨hcw1, hfw1⟩ := bcell hbw1; have hyw1_0 : wr.heap.size < w1.heap.size := lt_via hbw1 sz)
      | (go_at_call 158; (with_reducible refine (HCX.out _ (by omega) bel ((hbw1.cell (p := ⟨wr.heap.size, 0, none⟩) (by simp)).trans (by simp)) (by omega)).mono ?_); rintro e w2 ⟨rfl, hbw2⟩; obtain ⟨hcw2, hfw2⟩ := bcell hbw2; have hyw2_0 : wr.heap.size < w2.heap.size := lt_via hbw2 sz))
     go_ret
     exact ⟨ret_b HG.out.symm, bel⟩
  ·have HG := lh (show S.dems l = true from rng_yes (p := S.demAt l) (by have := HA.out.len; simp; omega) (fun j hj => HNO.out j (by have := HA.out.len; omega)))
   go_wp2
   go_ret
   exact ⟨ret_b HG.out.symm, hbr⟩
set_option maxRecDepth 20000 in
set_option maxHeartbeats 4000000 in
theorem look_late (x : Dt) (td : Bool) (B : Nat) (w : World) (hB : B <= w.heap.size) (hA : DtAt w B x)
 (hD : ∀ W, Below w.heap.size w W -> Calls Tryz.prog 113 #[.slice x.dA x.dn x.dc] W fun e w' => e = .returned (.bool td) /\ Below W.heap.size W w') (h1 : S.member x.m = true) (h2 : S.laid (bars x.bs) x.rs = true) (h3 : td = true) (h4 : S.rule x.rule = true) (h5 : x.jn <= 1000) (h6 : S.lapsOk (S.mains (bars x.bs) x.rs) (fun _ => false) (fun _ => false) x.js = false) :
 Calls Tryz.prog 84 #[dtV x] w (GivesLook false 0 [] w) := by
 subst h3
 have HA := lh hA
 have HM := lh (fun (W : World) (hw : B <= W.heap.size) (hh : SolAt W B x.mA x.mn x.hA x.hn x.m.boxes x.m.holes) => h1 ▸ smember_any x.m x.mA x.mn x.mc x.hA x.hn x.hc B W hw hh hA.name)
 have HL := lh (fun (W : World) (hw : B <= W.heap.size) (hh : BarsAt W B x.bA x.bn x.bs) (hr : RunsAt W B x.rA x.rn x.rs) => h2 ▸ laid_any x.bs x.rs x.bA x.bn x.bc x.rA x.rn x.rc B W hw hh hr)
 have HD := lh hD
 have HR := lh (fun W => h4 ▸ avalid_any x.rule W)
 have HX := lh (fun (W : World) (hw : B <= W.heap.size) (hh : DtAt W B x) => mains_any x B W hw hh h2)
 have hml : ((S.mains (bars x.bs) x.rs).length : Int) <= 2000 := by
  simp only [S.laid, Bool.and_eq_true] at h2
  exact mains_len h2.2 (by omega)
 have H6 := lh h6
 have h5i : ¬ 1000 < x.jn := by omega
 have h5j : ¬ ((1000 : Int) < x.jn) := by omega
 have hjl := hA.jlen
 clear hA hD h1 h2 h4 h5 h6
 unfold memV at HM
 unfold ruleV at HR
 unfold dtV at HX
 generalize S.mains (bars x.bs) x.rs = L at *
 unfold dtV
 generalize hjA : x.jA = jA
 have HjA := lh hjA
 rw [hjA] at HX
 clear hjA
 have hmk : ∀ W, (Instr.makeMap 192 none).run Tryz.prog W = .ok (.map (some W.heap.size)) (W.alloc (.map #[] 0)) := fun _ => by kernel_rfl
 go_enter Tryz.func84, Tryz.ntmps84
 go_upto_region 3 with (first
  | (go_at_call 111; (with_reducible refine (HM.out _ (size_via hB bel) (HA.out.sol.at_ hB bel)).mono ?_); rintro e w1 ⟨rfl, hbw1⟩; obtain ⟨hcw1, hfw1⟩ := bcell hbw1; have hzw1_0 : w.heap.size < w1.heap.size := lt_via hbw1 sz)
  | (go_at_call 112; (with_reducible refine (HL.out _ (size_via hB bel) (HA.out.bars.at_ hB bel) (HA.out.runs.at_ hB bel)).mono ?_); rintro e w2 ⟨rfl, hbw2⟩; obtain ⟨hcw2, hfw2⟩ := bcell hbw2; have hzw2_0 : w.heap.size < w2.heap.size := lt_via hbw2 sz)
  | (go_at_call 113; (with_reducible refine (HD.out _ bel).mono ?_); rintro e w3 ⟨rfl, hbw3⟩; obtain ⟨hcw3, hfw3⟩ := bcell hbw3; have hzw3_0 : w.heap.size < w3.heap.size := lt_via hbw3 sz)
  | (go_at_call 114; (with_reducible refine (HR.out _).mono ?_); rintro e w4 ⟨rfl, hbw4⟩; obtain ⟨hcw4, hfw4⟩ := bcell hbw4; have hzw4_0 : w.heap.size < w4.heap.size := lt_via hbw4 sz))
 have hDB := Blk.via (Blk.via (Blk.via (Blk.via (Blk.new w 34 #[.string x.m.name, .slice x.mA x.mn x.mc, .slice x.hA x.hn x.hc, .int .i64 x.m.cover, .int .i64 x.m.aggr, .int .i64 x.m.poker, .slice x.bA x.bn x.bc, .slice x.rA x.rn x.rc, .slice jA x.jn x.jc, .slice x.dA x.dn x.dc, .int .i64 x.rule.num, .int .i64 x.rule.den, .int .i64 x.rule.pnum, .int .i64 x.rule.pden, .int .i64 x.rule.bnum, .int .i64 x.rule.bden, .int .i64 x.rule.lnum, .int .i64 x.rule.lden, .int .i64 x.rule.least]) hbw1) hbw2) hbw3) hbw4
 have hbw : Below w.heap.size w w4 := bel
 clear hcw1 hfw1 hcw2 hfw2 hcw3 hfw3 hcw4 hfw4 HM HL HD HR
 clear hbw1 hbw2 hbw3 hbw4
 have d8 := hDB.cell 8
 simp only [ga1, ga2, ga3] at d8
 have hRG := hDB.range
 go_wp2_with (first
  | (refine wpList_load_mid rfl 34 (.tmp 1) rfl _ _ rfl _ _ hRG Tryz.underlying34 rfl (by kernel_rfl) ?_)
  | (go_at_call 115; (with_reducible refine (HX.out _ (size_via hB bel) (HA.out.at_ hB bel)).mono ?_); rintro e w5 ⟨A5, c5, rfl, how5, hbw5⟩; obtain ⟨hcw5, hfw5⟩ := bcell hbw5; have hzw5_0 : w.heap.size < w5.heap.size := lt_via hbw5 sz))
 have hb6 : Below w4.heap.size w4 ((w5.alloc (.map #[] 0)).alloc (.map #[] 0)) := ba_alloc (ba_alloc hbw5 _) _
 have hS1 : SetAt ((w5.alloc (.map #[] 0)).alloc (.map #[] 0)) w5.heap.size 0 (fun _ => false) := (SetAt.new w5).alloc _
 have hS2 : SetAt ((w5.alloc (.map #[] 0)).alloc (.map #[] 0)) (w5.heap.size + 1) 0 (fun _ => false) := by simpa using SetAt.new (w5.alloc (.map #[] 0))
 have how6 := own_kept (w' := (w5.alloc (.map #[] 0)).alloc (.map #[] 0)) how5 (fun k hk => by
  have := (how5.lt k hk).2
  rw [Below.heap_alloc _ _ k (by simp; omega), Below.heap_alloc _ _ k this])
 have hs6 : ((w5.alloc (.map #[] 0)).alloc (.map #[] 0)).heap.size = w5.heap.size + 2 := by simp
 have hA5 : ∀ g, (Value.slice A5 L.length c5).ownBlock = some g -> w4.heap.size <= g /\ g < w5.heap.size := fun g hg => how5.lt g hg
 have hD6 := hDB.via hb6
 have h48 : w4.heap.size <= w5.heap.size := hbw5.size
 have d8' := hD6.cell 8
 simp only [ga1, ga2, ga3] at d8'
 have hltD := hD6.lt
 clear hcw5 hfw5 hmk hRG d8 hDB how5
 generalize (w5.alloc (.map #[] 0)).alloc (.map #[] 0) = w6 at *
 have hbw6 : Below w.heap.size w w6 := hbw.trans (hb6.mono hbw.size)
 have HA6 := lh (HA.out.at_ hB hbw6)
 have hCL := (own_cells how6 (by unfold maxLen; omega)).1
 go_wp2
 go_loopw [46] (fun i wr => ∃ (k : Nat) (f s : Int -> Bool), k <= x.jn /\ i = .int .i64 k /\ SetAt wr w5.heap.size k f /\ SetAt wr (w5.heap.size + 1) k s /\ S.lapsOk L f s (x.js.drop k) = false /\ Exc [w5.heap.size, w5.heap.size + 1] w6 wr) (fun i _ => x.jn - (intOf i).toNat)
 case atStart => exact ⟨0, _, _, Nat.zero_le _, rfl, hS1, hS2, H6.out, Exc.refl _ _⟩
 case round =>
  obtain ⟨k, f, s, hk, rfl, hF, hG, hok, hX⟩ := hrel
  have hbX : Below w5.heap.size w6 wr := hX.below (by omega) (by intro g hg; simp at hg; omega)
  have hbr : Below w.heap.size w wr := hbw6.trans (hbX.mono (by have := hbw.size; omega))
  have hsr := hX.size
  by_cases hlt : k < x.jn
  ·have hkx : k < x.js.length := by omega
   have hki : (k : Int) < x.jn := by omega
   have HKR := lh (show k + 1 <= x.jn by omega)
   have hJc := (HA.out.at_ hB hbr).joints
   rw [HjA.out] at hJc
   obtain ⟨bJ, oJ, hje, hbJ, _⟩ := hJc.at_ (by rw [flat_len jnC 2 jnC_len]; omega)
   subst hje
   have c0 := hJc.row0 jnC_len hkx rfl
   have c1 := hJc.rowj jnC_len hkx 1 rfl
   rw [List.drop_eq_getElem_cons hkx] at hok
   simp only [S.lapsOk] at hok
   have hbJl : bJ < wr.heap.size := by omega
   have hCr : Cells wr w6.heap.size A5 (L.flatMap mnC) := by
    have hh := own_kept (w' := wr) how6 (fun g hg => hX.block g (by have := hA5 g hg; omega) (by have := hA5 g hg; simp; omega))
    have hc := (own_cells hh (by unfold maxLen; omega)).1
    rcases hCL with h | ⟨b', o', he, hlt', _⟩
    ·exact .inl h
    ·rcases hc with h | ⟨b2, o2, he2, _, hc2⟩
     ·exact .inl h
     ·rw [he] at he2
      injection he2 with he2
      injection he2 with e1 e2
      subst e1 e2
      exact .inr ⟨_, _, he, hlt', hc2⟩
   have HJ := lh (fun (W : World) (B' : Nat) (hw : B' <= W.heap.size) (hh : Cells W B' A5 (L.flatMap mnC)) => joint_any L x.js[k] A5 L.length c5 B' W rfl (by omega) hw hh)
   unfold jnV at HJ
   clear hJc
   cases ho1 : S.jointOk L x.js[k] with
   | false =>
    rw [ho1] at HJ
    clear ho1 hok
    generalize x.js[k] = j at *
    go_wp2_with (first
     | ((go_at_call 116; (with_reducible refine (HJ.out _ w6.heap.size (by simp; omega) (hCr.alloc hsr _)).mono ?_); rintro e w7 ⟨rfl, hbw7⟩; obtain ⟨hcw7, hfw7⟩ := bcell hbw7; have hzw7_0 : w.heap.size < w7.heap.size := lt_via hbw7 sz; have hyw7_0 : wr.heap.size < w7.heap.size := lt_via hbw7 sz)))
    go_ret2
    exact ⟨none, 0, rfl, World.ownsRow_nil _ _ _ _, hbr.trans (Below.mono bel hbr.size)⟩
   | true =>
    have hin : S.jointIn L x.js[k] = true := by
     unfold S.jointOk at ho1
     rw [Bool.and_eq_true] at ho1
     exact ho1.1
    simp only [S.jointIn, Bool.and_eq_true, decide_eq_true_eq] at hin
    have hw1 : Wf64 x.js[k].first := by unfold Wf64; omega
    have hw2 : Wf64 x.js[k].second := by unfold Wf64; omega
    rw [ho1] at HJ hok
    rw [Bool.true_and] at hok
    clear ho1 hin
    cases ho2 : f x.js[k].first with
    | true =>
     clear hok
     generalize x.js[k] = j at *
     go_wp2_with (first
      | ((go_at_call 116; (with_reducible refine (HJ.out _ w6.heap.size (by simp; omega) (hCr.alloc hsr _)).mono ?_); rintro e w7 ⟨rfl, hbw7⟩; obtain ⟨hcw7, hfw7⟩ := bcell hbw7; have hzw7_0 : w.heap.size < w7.heap.size := lt_via hbw7 sz; have hyw7_0 : wr.heap.size < w7.heap.size := lt_via hbw7 sz); have hF7 := (hF.alloc (.cells #[.int .i64 j.first, .int .i64 j.second] 168)).via hbw7; have hl1 := hF7.look hw1; rw [ho2] at hl1))
     go_ret2
     exact ⟨none, 0, rfl, World.ownsRow_nil _ _ _ _, hbr.trans (Below.mono bel hbr.size)⟩
    | false =>
     rw [ho2, Bool.not_false, Bool.true_and] at hok
     cases ho3 : s x.js[k].second with
     | true =>
      clear hok
      generalize x.js[k] = j at *
      go_wp2_with (first
       | ((go_at_call 116; (with_reducible refine (HJ.out _ w6.heap.size (by simp; omega) (hCr.alloc hsr _)).mono ?_); rintro e w7 ⟨rfl, hbw7⟩; obtain ⟨hcw7, hfw7⟩ := bcell hbw7; have hzw7_0 : w.heap.size < w7.heap.size := lt_via hbw7 sz; have hyw7_0 : wr.heap.size < w7.heap.size := lt_via hbw7 sz); have hF7 := (hF.alloc (.cells #[.int .i64 j.first, .int .i64 j.second] 168)).via hbw7; have hG7 := (hG.alloc (.cells #[.int .i64 j.first, .int .i64 j.second] 168)).via hbw7; have hl1 := hF7.look hw1; have hl2 := hG7.look hw2; rw [ho2] at hl1; rw [ho3] at hl2))
      go_ret2
      exact ⟨none, 0, rfl, World.ownsRow_nil _ _ _ _, hbr.trans (Below.mono bel hbr.size)⟩
     | false =>
      rw [ho3, Bool.not_false, Bool.true_and] at hok
      have HO4 := lh hok
      clear hok
      generalize x.js[k] = j at *
      go_upto_region 10 with (first
       | ((go_at_call 116; (with_reducible refine (HJ.out _ w6.heap.size (by simp; omega) (hCr.alloc hsr _)).mono ?_); rintro e w7 ⟨rfl, hbw7⟩; obtain ⟨hcw7, hfw7⟩ := bcell hbw7; have hzw7_0 : w.heap.size < w7.heap.size := lt_via hbw7 sz; have hyw7_0 : wr.heap.size < w7.heap.size := lt_via hbw7 sz); have hF7 := (hF.alloc (.cells #[.int .i64 j.first, .int .i64 j.second] 168)).via hbw7; have hG7 := (hG.alloc (.cells #[.int .i64 j.first, .int .i64 j.second] 168)).via hbw7; have hl1 := hF7.look hw1; have hl2 := hG7.look hw2; rw [ho2] at hl1; rw [ho3] at hl2))
      have hJb := (Blk.new wr 168 #[.int .i64 j.first, .int .i64 j.second]).via hbw7
      have hm1 : w5.heap.size < wr.heap.size := by omega
      have hFd : SetAt w7.drew w5.heap.size k f := hF7.kept rfl
      have hGd : SetAt w7.drew (w5.heap.size + 1) k s := hG7.kept rfl
      have hJd : Blk w7.drew wr.heap.size 168 #[.int .i64 j.first, .int .i64 j.second] := hJb
      obtain ⟨wA, hu1, hFA, hgA⟩ := hFd.put (by unfold maxLen; omega) hw1
      have hGA := hGd.kept (hgA.block _ hGd.lt (by simp))
      have hJA := grown_blk hgA hJd (by omega)
      obtain ⟨wB, hu2, hGB, hgB⟩ := hGA.put (by unfold maxLen; omega) hw2
      have hFB := hFA.kept (hgB.block _ hFA.lt (by simp))
      have hJB := grown_blk hgB hJA (by omega)
      have hXB : Exc [w5.heap.size, w5.heap.size + 1] w6 wB := ((Exc.via hbw7 (hX.alloc _)).drew.grown hgA (fun g hg => .inl (by injection hg with hg; simp [hg]))).grown hgB (fun g hg => .inl (by injection hg with hg; simp [hg]))
      have k7 : w7.cell? ⟨wr.heap.size, 0, none⟩ = some (.int .i64 j.first) /\ w7.cell? ⟨wr.heap.size, 1, none⟩ = some (.int .i64 j.second) := ⟨hJb.cell 0, hJb.cell 1⟩
      have kD : w7.drew.cell? ⟨wr.heap.size, 0, none⟩ = some (.int .i64 j.first) /\ w7.drew.cell? ⟨wr.heap.size, 1, none⟩ = some (.int .i64 j.second) := ⟨hJd.cell 0, hJd.cell 1⟩
      have kA : wA.cell? ⟨wr.heap.size, 0, none⟩ = some (.int .i64 j.first) /\ wA.cell? ⟨wr.heap.size, 1, none⟩ = some (.int .i64 j.second) := ⟨hJA.cell 0, hJA.cell 1⟩
      have kB : wB.cell? ⟨wr.heap.size, 0, none⟩ = some (.int .i64 j.first) /\ wB.cell? ⟨wr.heap.size, 1, none⟩ = some (.int .i64 j.second) := ⟨hJB.cell 0, hJB.cell 1⟩
      clear hF7 hG7 hl1 hl2 hcw7 hfw7 c0 c1
      go_region_held3 (fun W' => W'.cell? ⟨wr.heap.size, 0, none⟩ = some (.int .i64 j.first) /\ W'.cell? ⟨wr.heap.size, 1, none⟩ = some (.int .i64 j.second)) (first | exact k7 | exact kD | exact kA | exact kB) (fail)
      all_goals (
       go_wp2
       go_roundw
       case rel => exact ⟨k + 1, _, _, HKR.out, by go_num, hFB, hGB, HO4.out, hXB⟩
       case measure => have := HKR.out; simp [intOf]; omega)
  ·exfalso
   have : k = x.js.length := by omega
   subst this
   rw [List.drop_length] at hok
   cases hok
set_option maxRecDepth 20000 in
set_option maxHeartbeats 4000000 in
theorem look_no (x : Dt) (td : Bool) (B : Nat) (w : World) (hB : B <= w.heap.size) (hA : DtAt w B x)
 (hD : ∀ W, Below w.heap.size w W -> Calls Tryz.prog 113 #[.slice x.dA x.dn x.dc] W fun e w' => e = .returned (.bool td) /\ Below W.heap.size W w') (h : S.look x td = false) :
 Calls Tryz.prog 84 #[dtV x] w (GivesLook false 0 [] w) := by
 have HA := lh hA
 have HM := lh (fun (W : World) (hw : B <= W.heap.size) (hh : SolAt W B x.mA x.mn x.hA x.hn x.m.boxes x.m.holes) => smember_any x.m x.mA x.mn x.mc x.hA x.hn x.hc B W hw hh hA.name)
 have HL := lh (fun (W : World) (hw : B <= W.heap.size) (hh : BarsAt W B x.bA x.bn x.bs) (hr : RunsAt W B x.rA x.rn x.rs) => laid_any x.bs x.rs x.bA x.bn x.bc x.rA x.rn x.rc B W hw hh hr)
 have HD := lh hD
 have HR := lh (fun W => avalid_any x.rule W)
 have hlate := look_late x td B w hB hA hD
 cases h1 : S.member x.m with
 | true =>
  cases h2 : S.laid (bars x.bs) x.rs with
  | true =>
   cases td with
   | true =>
    cases h4 : S.rule x.rule with
    | true =>
     by_cases h5 : x.jn <= 1000
     ·refine hlate h1 h2 rfl h4 h5 ?_
      simpa [S.look, h1, h2, h4, h5] using h
     ·rw [h1] at HM
      rw [h2] at HL
      rw [h4] at HR
      have h5i : 1000 < x.jn := by omega
      have h5j : (1000 : Int) < x.jn := by omega
      clear hlate hA hD h h1 h2 h4 h5
      unfold memV at HM
      unfold ruleV at HR
      unfold dtV
      go_enter Tryz.func84, Tryz.ntmps84
      go_wp2_with (first
       | (go_at_call 111; (with_reducible refine (HM.out _ (size_via hB bel) (HA.out.sol.at_ hB bel)).mono ?_); rintro e w1 ⟨rfl, hbw1⟩; obtain ⟨hcw1, hfw1⟩ := bcell hbw1; have hzw1_0 : w.heap.size < w1.heap.size := lt_via hbw1 sz)
       | (go_at_call 112; (with_reducible refine (HL.out _ (size_via hB bel) (HA.out.bars.at_ hB bel) (HA.out.runs.at_ hB bel)).mono ?_); rintro e w2 ⟨rfl, hbw2⟩; obtain ⟨hcw2, hfw2⟩ := bcell hbw2; have hzw2_0 : w.heap.size < w2.heap.size := lt_via hbw2 sz)
       | (go_at_call 113; (with_reducible refine (HD.out _ bel).mono ?_); rintro e w3 ⟨rfl, hbw3⟩; obtain ⟨hcw3, hfw3⟩ := bcell hbw3; have hzw3_0 : w.heap.size < w3.heap.size := lt_via hbw3 sz)
       | (go_at_call 114; (with_reducible refine (HR.out _).mono ?_); rintro e w4 ⟨rfl, hbw4⟩; obtain ⟨hcw4, hfw4⟩ := bcell hbw4; have hzw4_0 : w.heap.size < w4.heap.size := lt_via hbw4 sz))
      go_ret2
      exact ⟨none, 0, rfl, World.ownsRow_nil _ _ _ _, bel⟩
    | false =>
     rw [h1] at HM
     rw [h2] at HL
     rw [h4] at HR
     clear hlate hA hD h h1 h2 h4
     unfold memV at HM
     unfold ruleV at HR
     unfold dtV
     go_enter Tryz.func84, Tryz.ntmps84
     go_wp2_with (first
      | (go_at_call 111; (with_reducible refine (HM.out _ (size_via hB bel) (HA.out.sol.at_ hB bel)).mono ?_); rintro e w1 ⟨rfl, hbw1⟩; obtain ⟨hcw1, hfw1⟩ := bcell hbw1; have hzw1_0 : w.heap.size < w1.heap.size := lt_via hbw1 sz)
      | (go_at_call 112; (with_reducible refine (HL.out _ (size_via hB bel) (HA.out.bars.at_ hB bel) (HA.out.runs.at_ hB bel)).mono ?_); rintro e w2 ⟨rfl, hbw2⟩; obtain ⟨hcw2, hfw2⟩ := bcell hbw2; have hzw2_0 : w.heap.size < w2.heap.size := lt_via hbw2 sz)
      | (go_at_call 113; (with_reducible refine (HD.out _ bel).mono ?_); rintro e w3 ⟨rfl, hbw3⟩; obtain ⟨hcw3, hfw3⟩ := bcell hbw3; have hzw3_0 : w.heap.size < w3.heap.size := lt_via hbw3 sz)
      | (go_at_call 114; (with_reducible refine (HR.out _).mono ?_); rintro e w4 ⟨rfl, hbw4⟩; obtain ⟨hcw4, hfw4⟩ := bcell hbw4; have hzw4_0 : w.heap.size < w4.heap.size := lt_via hbw4 sz))
     go_ret2
     exact ⟨none, 0, rfl, World.ownsRow_nil _ _ _ _, bel⟩
   | false =>
    rw [h1] at HM
    rw [h2] at HL
    clear hlate hA hD h h1 h2
    unfold memV at HM
    unfold dtV
    go_enter Tryz.func84, Tryz.ntmps84
    go_wp2_with (first
     | (go_at_call 111; (with_reducible refine (HM.out _ (size_via hB bel) (HA.out.sol.at_ hB bel)).mono ?_); rintro e w1 ⟨rfl, hbw1⟩; obtain ⟨hcw1, hfw1⟩ := bcell hbw1; have hzw1_0 : w.heap.size < w1.heap.size := lt_via hbw1 sz)
     | (go_at_call 112; (with_reducible refine (HL.out _ (size_via hB bel) (HA.out.bars.at_ hB bel) (HA.out.runs.at_ hB bel)).mono ?_); rintro e w2 ⟨rfl, hbw2⟩; obtain ⟨hcw2, hfw2⟩ := bcell hbw2; have hzw2_0 : w.heap.size < w2.heap.size := lt_via hbw2 sz)
     | (go_at_call 113; (with_reducible refine (HD.out _ bel).mono ?_); rintro e w3 ⟨rfl, hbw3⟩; obtain ⟨hcw3, hfw3⟩ := bcell hbw3; have hzw3_0 : w.heap.size < w3.heap.size := lt_via hbw3 sz))
    go_ret2
    exact ⟨none, 0, rfl, World.ownsRow_nil _ _ _ _, bel⟩
  | false =>
   rw [h1] at HM
   rw [h2] at HL
   clear hlate hA hD h h1 h2
   unfold memV at HM
   unfold dtV
   go_enter Tryz.func84, Tryz.ntmps84
   go_wp2_with (first
    | (go_at_call 111; (with_reducible refine (HM.out _ (size_via hB bel) (HA.out.sol.at_ hB bel)).mono ?_); rintro e w1 ⟨rfl, hbw1⟩; obtain ⟨hcw1, hfw1⟩ := bcell hbw1; have hzw1_0 : w.heap.size < w1.heap.size := lt_via hbw1 sz)
    | (go_at_call 112; (with_reducible refine (HL.out _ (size_via hB bel) (HA.out.bars.at_ hB bel) (HA.out.runs.at_ hB bel)).mono ?_); rintro e w2 ⟨rfl, hbw2⟩; obtain ⟨hcw2, hfw2⟩ := bcell hbw2; have hzw2_0 : w.heap.size < w2.heap.size := lt_via hbw2 sz))
   go_ret2
   exact ⟨none, 0, rfl, World.ownsRow_nil _ _ _ _, bel⟩
 | false =>
  rw [h1] at HM
  clear hlate hA hD h h1
  unfold memV at HM
  unfold dtV
  go_enter Tryz.func84, Tryz.ntmps84
  go_wp2_with (first
   | (go_at_call 111; (with_reducible refine (HM.out _ (size_via hB bel) (HA.out.sol.at_ hB bel)).mono ?_); rintro e w1 ⟨rfl, hbw1⟩; obtain ⟨hcw1, hfw1⟩ := bcell hbw1; have hzw1_0 : w.heap.size < w1.heap.size := lt_via hbw1 sz))
  go_ret2
  exact ⟨none, 0, rfl, World.ownsRow_nil _ _ _ _, bel⟩
namespace S
def small17 (a b : Nat) : Bool := (decide (a <= 4) || decide (20 < a)) && decide (a <= 25) && (decide (b <= 4) || decide (20 < b)) && decide (b <= 25)
def lensBad (n : Nat) : Bool := (decide (6 < n) && decide (n <= 60)) || decide (63 < n)
def runBad (r : Rn) : Bool := decide (60 < r.mark.size) || (decide (16 < r.count) && decide (r.count <= 2000))
def few (r : Rn) : Int := if 0 < r.count /\ r.count <= 16 then r.count else 0
def fewSum (rs : List Rn) : Int := rs.foldl (fun s r => s + few r) 0
def small16 (bs : List Bar) (rs : List Rn) : Bool := !lensBad bs.length && !lensBad rs.length && bs.all short && !rs.any runBad && (decide (fewSum rs <= 16) || decide (6 < rs.length))
def demBad (d : Dm) : Bool := decide (60 < d.name.size) || (decide (8 < d.st.length) && decide (d.st.length <= 200)) || decide (205 < d.st.length)
def small23 (l : List Dm) : Bool := !((decide (4 < l.length) && decide (l.length <= 20)) || decide (25 < l.length)) && !l.any demBad
def small25 (x : Dt) (ds : List Dm) : Bool := decide (x.m.name.size <= 60) && small17 x.mn x.hn && small16 (bars x.bs) x.rs && small23 ds && (decide (x.jn <= 16) || (decide (1000 < x.jn) && decide (x.jn <= 1005)))
end S
set_option maxHeartbeats 2000000 in
theorem small17_any (A : Option Addr) (n c : Nat) (A' : Option Addr) (n' c' : Nat) (w : World) (hn : n <= 9223372036854775807) (hn' : n' <= 9223372036854775807) :
 Calls Tryz.prog 39 #[.agg #[.slice A n c, .slice A' n' c'], .int .i64 4] w fun e w' => e = .returned (.bool (S.small17 n n')) /\ Below w.heap.size w w' := by
 have H := lh (show S.small17 n n' = ((decide (n <= 4) || decide (20 < n)) && decide (n <= 25) && (decide (n' <= 4) || decide (20 < n')) && decide (n' <= 25)) from rfl)
 have h1 : ((n : Int) <= 4 /\ n <= 4) ∨ (¬ ((n : Int) <= 4) /\ ¬ ((20 : Int) < n) /\ ¬ n <= 4 /\ ¬ 20 < n) ∨ (¬ ((n : Int) <= 4) /\ (20 : Int) < n /\ (n : Int) <= 25 /\ 20 < n /\ n <= 25) ∨ (¬ ((n : Int) <= 4) /\ (20 : Int) < n /\ ¬ ((n : Int) <= 25) /\ ¬ n <= 25) := by omega
 have h2 : ((n' : Int) <= 4 /\ n' <= 4) ∨ (¬ ((n' : Int) <= 4) /\ ¬ ((20 : Int) < n') /\ ¬ n' <= 4 /\ ¬ 20 < n') ∨ (¬ ((n' : Int) <= 4) /\ (20 : Int) < n' /\ (n' : Int) <= 25 /\ 20 < n' /\ n' <= 25) ∨ (¬ ((n' : Int) <= 4) /\ (20 : Int) < n' /\ ¬ ((n' : Int) <= 25) /\ ¬ n' <= 25) := by omega
 rcases h1 with ⟨a1, a2⟩ | ⟨a1, a2, a3, a4⟩ | ⟨a1, a2, a3, a4, a5⟩ | ⟨a1, a2, a3, a4⟩ <;> rcases h2 with ⟨b1, b2⟩ | ⟨b1, b2, b3, b4⟩ | ⟨b1, b2, b3, b4, b5⟩ | ⟨b1, b2, b3, b4⟩
 all_goals (
  go_enter Tryz.func39, Tryz.ntmps39
  go_wp2
  go_quiet (fail)
  go_wp2
  go_ret
  exact ⟨ret_b (by rw [H.out]; first | rfl | (simp; done) | (simp; omega) | (rw [Bool.eq_iff_iff]; simp; omega) | omega), bel⟩)
theorem fewSum_snoc (rs : List Rn) (r : Rn) : S.fewSum (rs ++ [r]) = S.fewSum rs + S.few r := by unfold S.fewSum; rw [List.foldl_append]; rfl
theorem few_le (r : Rn) : 0 <= S.few r /\ S.few r <= 16 := by unfold S.few; split <;> omega
theorem small16_no {bs : List Bar} {rs : List Rn} (h : S.lensBad bs.length = true ∨ S.lensBad rs.length = true ∨ bs.all S.short = false ∨ rs.any S.runBad = true) : S.small16 bs rs = false := by
 unfold S.small16
 rcases h with h | h | h | h <;> simp only [h, Bool.not_true, Bool.false_and, Bool.and_false]
theorem all_at_no {α : Type} {p : α -> Bool} {l : List α} {k : Nat} (hk : k < l.length) (h : p l[k] = false) : l.all p = false := by
 rw [List.all_eq_false]
 exact ⟨_, List.getElem_mem hk, by simp [h]⟩
theorem any_at_yes {α : Type} {p : α -> Bool} {l : List α} {k : Nat} (hk : k < l.length) (h : p l[k] = true) : l.any p = true := by
 rw [List.any_eq_true]
 exact ⟨_, List.getElem_mem hk, h⟩
theorem all_at_yes {α : Type} {p : α -> Bool} {l : List α} (h : ∀ k (hk : k < l.length), p l[k] = true) : l.all p = true := by
 rw [List.all_eq_true]
 intro x hx
 obtain ⟨k, hk, rfl⟩ := List.mem_iff_getElem.1 hx
 exact h k hk
theorem any_at_no {α : Type} {p : α -> Bool} {l : List α} (h : ∀ k (hk : k < l.length), p l[k] = false) : l.any p = false := by
 rw [List.any_eq_false]
 intro x hx
 obtain ⟨k, hk, rfl⟩ := List.mem_iff_getElem.1 hx
 simp [h k hk]
set_option maxRecDepth 8000 in
set_option maxHeartbeats 2000000 in
theorem small16_any (l : List BarR) (rs : List Rn) (A : Option Addr) (n c : Nat) (A' : Option Addr) (n' c' : Nat) (B : Nat) (w : World) (hB : B <= w.heap.size) (hA : BarsAt w B A n l) (hR : RunsAt w B A' n' rs) :
 Calls Tryz.prog 40 #[.slice A n c, .slice A' n' c', .int .i64 6, .int .i64 16] w fun e w' => e = .returned (.bool (S.small16 (bars l) rs)) /\ Below w.heap.size w w' := by
 have HA := lh hA
 have HRN := lh hR
 have hmx := hA.max
 have hmx' := hR.max
 have hbl : (bars l).length = n := by rw [List.length_map]; exact hA.len
 have hrl := hR.len
 have HNO := lh (fun h => small16_no (bs := bars l) (rs := rs) h)
 rw [hbl, hrl] at HNO
 have HLB := lh (fun n : Nat => show S.lensBad n = ((decide (6 < n) && decide (n <= 60)) || decide (63 < n)) from rfl)
 have hc1 : (¬ ((6 : Int) < n) /\ ¬ ((63 : Int) < n)) ∨ ((6 : Int) < n /\ (n : Int) <= 60) ∨ ((6 : Int) < n /\ ¬ ((n : Int) <= 60) /\ ¬ ((63 : Int) < n)) ∨ ((6 : Int) < n /\ ¬ ((n : Int) <= 60) /\ (63 : Int) < n) := by omega
 have hc2 : (¬ ((6 : Int) < n') /\ ¬ ((63 : Int) < n')) ∨ ((6 : Int) < n' /\ (n' : Int) <= 60) ∨ ((6 : Int) < n' /\ ¬ ((n' : Int) <= 60) /\ ¬ ((63 : Int) < n')) ∨ ((6 : Int) < n' /\ ¬ ((n' : Int) <= 60) /\ (63 : Int) < n') := by omega
 clear hA hR
 by_cases hbad : S.lensBad n = true ∨ S.lensBad n' = true
 ·have HF := lh (HNO.out (by rcases hbad with h | h; exact .inl h; exact .inr (.inl h)))
  rw [HLB.out, HLB.out] at hbad
  simp only [Bool.or_eq_true, Bool.and_eq_true, decide_eq_true_eq] at hbad
  rcases hc1 with ⟨a1, a2⟩ | ⟨a1, a2⟩ | ⟨a1, a2, a3⟩ | ⟨a1, a2, a3⟩
  all_goals rcases hc2 with ⟨b1, b2⟩ | ⟨b1, b2⟩ | ⟨b1, b2, b3⟩ | ⟨b1, b2, b3⟩
  all_goals first
   | (exfalso; omega)
   | (go_enter Tryz.func40, Tryz.ntmps40
      go_wp2
      go_ret
      exact ⟨ret_b HF.out.symm, bel⟩)
 have hok : ¬ S.lensBad n = true /\ ¬ S.lensBad n' = true := ⟨fun h => hbad (.inl h), fun h => hbad (.inr h)⟩
 have HOK := lh hok
 obtain ⟨hk1, hk2⟩ := hok
 rw [HLB.out] at hk1 hk2
 simp only [Bool.or_eq_true, Bool.and_eq_true, decide_eq_true_eq] at hk1 hk2
 have hn63 : n' <= 63 := by omega
 have hd1 : (¬ ((6 : Int) < n) /\ ¬ ((63 : Int) < n)) ∨ ((6 : Int) < n /\ ¬ ((n : Int) <= 60) /\ ¬ ((63 : Int) < n)) := by omega
 have hd2 : (¬ ((6 : Int) < n') /\ ¬ ((63 : Int) < n')) ∨ ((6 : Int) < n' /\ ¬ ((n' : Int) <= 60) /\ ¬ ((63 : Int) < n')) := by omega
 have HS := lh (show (bars l).all S.short = true -> rs.any S.runBad = false -> S.small16 (bars l) rs = (decide (S.fewSum rs <= 16) || decide (6 < n')) from fun h1 h2 => by
  unfold S.small16
  rw [hbl, hrl, h1, h2, Bool.eq_false_iff.2 HOK.out.1, Bool.eq_false_iff.2 HOK.out.2]
  rfl)
 clear hbad hk1 hk2 hc1 hc2
 have hbl' : l.length = n := HA.out.len
 have h16 : ((16 : Int) <= 16) := by omega
 rcases hd1 with ⟨a1, a2⟩ | ⟨a1, a2, a3⟩ <;> rcases hd2 with ⟨b1, b2⟩ | ⟨b1, b2, b3⟩
 all_goals (
  go_enter Tryz.func40, Tryz.ntmps40
  go_wp2
  go_loopw [9] (fun i wr => ∃ k : Nat, k <= n /\ i = .int .i64 k /\ (∀ j (h : j < l.length), j < k -> S.short l[j].b = true) /\ Below w.heap.size w wr) (fun i _ => n - (intOf i).toNat)
  case atStart => exact ⟨0, Nat.zero_le _, rfl, fun j _ hj => absurd hj (by omega), Below.refl _ _⟩
  case round =>
   obtain ⟨k, hk, rfl, hno, hbr⟩ := hrel
   have HNO1 := lh hno
   clear hno
   by_cases hlt : k < n
   ·have hkx : k < l.length := by omega
    have hki : (k : Int) < n := by omega
    have hA' := HA.out.at_ hB hbr
    have hs' := hA'.cells
    have hE := hA'.each l[k] (List.getElem_mem hkx)
    obtain ⟨b, o, rfl, hbB, _⟩ := hs'.at_ (by rw [flat_len barC 5 barC_len]; omega)
    have c0 := hs'.row0 barC_len hkx rfl
    have c1 := hs'.rowj barC_len hkx 1 rfl
    have c2 := hs'.rowj barC_len hkx 2 rfl
    have c3 := hs'.rowj barC_len hkx 3 rfl
    have c4 := hs'.rowj barC_len hkx 4 rfl
    have HSH := lh (fun W => short_any l[k].b l[k].A l[k].n l[k].c W hE.len hE.max hE.mark)
    have HBD := lh (fun (h : S.short l[k].b = false) => HNO.out (.inr (.inr (.inl (all_at_no (l := bars l) (k := k) (by simpa using hkx) (by simpa using h))))))
    have HGO := lh (fun (h : S.short l[k].b = true) (j : Nat) (hj : j < l.length) (hjk : j < k + 1) => show S.short l[j].b = true from by
     by_cases hjk' : j = k
     ·subst hjk'; exact h
     ·exact HNO1.out j hj (by omega))
    clear hA' hs' hE
    unfold barV at HSH
    generalize S.short l[k].b = t at *
    generalize l[k] = r at *
    cases t
    ·have HB := lh (HBD.out rfl)
     go_wp2_with (first
      | (go_at_call 68; (with_reducible refine (HSH.out _).mono ?_); rintro e w1 ⟨rfl, hbw1⟩; obtain ⟨hcw1, hfw1⟩ := bcell hbw1))
     go_ret
     exact ⟨ret_b HB.out.symm, hbr.trans (hbw1.mono hbr.size)⟩
    ·have HG := lh (HGO.out rfl)
     go_wp2_with (first
      | (go_at_call 68; (with_reducible refine (HSH.out _).mono ?_); rintro e w1 ⟨rfl, hbw1⟩; obtain ⟨hcw1, hfw1⟩ := bcell hbw1))
     go_roundw
     case rel => exact ⟨k + 1, by omega, by go_num, HG.out, hbr.trans (hbw1.mono hbr.size)⟩
     case measure => simp [intOf]; omega
   ·have HSA := lh (HS.out (all_at_yes (fun j hj => by simpa using HNO1.out j (by simpa using hj) (by have := HA.out.len; simp at hj; omega))))
    have hki : ¬ ((k : Int) < n) := by omega
    clear hlt hk HNO1
    go_wp2
    generalize wr = w4 at *
    go_loopw [10, 11] (fun s i wq => ∃ k : Nat, k <= n' /\ i = .int .i64 k /\ s = .int .i64 (S.fewSum (rs.take k)) /\ (0 <= S.fewSum (rs.take k) /\ S.fewSum (rs.take k) <= 16 * k) /\ (∀ j (h : j < rs.length), j < k -> S.runBad rs[j] = false) /\ Below w4.heap.size w4 wq) (fun _ i _ => n' - (intOf i).toNat)
    case atStart => exact ⟨0, Nat.zero_le _, rfl, rfl, ⟨Int.le_refl _, Int.le_refl _⟩, fun j _ hj => absurd hj (by omega), Below.refl _ _⟩
    case round =>
     obtain ⟨q, hq, rfl, rfl, hsum, hno, hbq⟩ := hrel
     have HNO2 := lh hno
     have hbw : Below w.heap.size w wr := hbr.trans (hbq.mono hbr.size)
     clear hno
     by_cases hlt : q < n'
     ·have hqx : q < rs.length := by omega
      have hqi : (q : Int) < n' := by omega
      have hs' := (HRN.out.at_ hB hbw).cells
      obtain ⟨b, o, rfl, hbB, _⟩ := hs'.at_ (by rw [flat_len rnC 10 rnC_len]; omega)
      have c0 := hs'.row0 rnC_len hqx rfl
      have c9 := hs'.rowj rnC_len hqx 9 rfl
      have HBD := lh (fun (h : S.runBad rs[q] = true) => HNO.out (.inr (.inr (.inr (any_at_yes hqx h)))))
      have HGO := lh (fun (h : S.runBad rs[q] = false) (j : Nat) (hj : j < rs.length) (hjk : j < q + 1) => show S.runBad rs[j] = false from by
       by_cases hjk' : j = q
       ·subst hjk'; exact h
       ·exact HNO2.out j hj (by omega))
      have HSN := lh (show S.fewSum (rs.take (q + 1)) = S.fewSum (rs.take q) + S.few rs[q] by rw [List.take_succ_eq_append_getElem hqx, fewSum_snoc])
      have HBE := lh (show S.runBad rs[q] = (decide (60 < rs[q].mark.size) || (decide (16 < rs[q].count) && decide (rs[q].count <= 2000))) from rfl)
      have HFE := lh (show S.few rs[q] = if 0 < rs[q].count /\ rs[q].count <= 16 then rs[q].count else 0 from rfl)
      have HFL := lh (few_le rs[q])
      have HQ := lh (show q + 1 <= n' by omega)
      clear hs'
      generalize S.fewSum (rs.take q) = sm at *
      generalize S.runBad rs[q] = tb at *
      generalize S.few rs[q] = fw at *
      generalize rs[q] = r at *
      by_cases hm : (60 : Int) < r.mark.size
      ·have HB := lh (HBD.out (by rw [HBE.out]; simp; omega))
       go_wp2
       go_ret
       exact ⟨ret_b HB.out.symm, hbw⟩
      have hcs : (16 < r.count /\ r.count <= 2000) ∨ (16 < r.count /\ ¬ r.count <= 2000 /\ 0 < r.count /\ ¬ r.count <= 16) ∨ (¬ 16 < r.count /\ 0 < r.count /\ r.count <= 16) ∨ (¬ 16 < r.count /\ ¬ 0 < r.count) := by omega
      rcases hcs with ⟨d1, d2⟩ | ⟨d1, d2, d3, d4⟩ | ⟨d1, d3, d4⟩ | ⟨d1, d3⟩
      ·have HB := lh (HBD.out (by rw [HBE.out]; simp; omega))
       go_wp2
       go_ret
       exact ⟨ret_b HB.out.symm, hbw⟩
      ·have HG := lh (HGO.out (by rw [HBE.out]; simp; omega))
       have HE := lh (HSN.out.trans (by rw [HFE.out, if_neg (by omega), Int.add_zero]))
       go_wp2
       go_roundw
       case rel => exact ⟨q + 1, HQ.out, by go_num, by rw [HE.out], by rw [HE.out]; omega, HG.out, hbq⟩
       case measure => have := HQ.out; simp [intOf]; omega
      ·have HG := lh (HGO.out (by rw [HBE.out]; simp; omega))
       have HE := lh (HSN.out.trans (by rw [HFE.out, if_pos (by omega)]))
       have e1 : IntKind.i64.wrap (sm + r.count) = sm + r.count := IntWalk.i64_in _ (by omega)
       go_wp2
       go_roundw
       case rel => exact ⟨q + 1, HQ.out, by go_num, by rw [HE.out], by rw [HE.out]; omega, HG.out, hbq⟩
       case measure => have := HQ.out; simp [intOf]; omega
      ·have HG := lh (HGO.out (by rw [HBE.out]; simp; omega))
       have HE := lh (HSN.out.trans (by rw [HFE.out, if_neg (by omega), Int.add_zero]))
       go_wp2
       go_roundw
       case rel => exact ⟨q + 1, HQ.out, by go_num, by rw [HE.out], by rw [HE.out]; omega, HG.out, hbq⟩
       case measure => have := HQ.out; simp [intOf]; omega
     ·have HE := lh (HSA.out (any_at_no (fun j hj => HNO2.out j hj (by have := HRN.out.len; omega))))
      have hqe : q = n' := by omega
      have HTK := lh (show rs.take q = rs from List.take_of_length_le (by omega))
      rw [HTK.out] at hsum ⊢
      generalize S.fewSum rs = sm at *
      have hqi : ¬ ((q : Int) < n') := by omega
      by_cases hs16 : sm <= 16
      ·go_wp2
       go_ret
       exact ⟨ret_b (by rw [HE.out]; first | rfl | (simp; done) | (simp; omega) | (rw [Bool.eq_iff_iff]; simp; omega) | omega), hbw⟩
      ·go_wp2
       go_ret
       exact ⟨ret_b (by rw [HE.out]; first | rfl | (simp; done) | (simp; omega) | (rw [Bool.eq_iff_iff]; simp; omega) | omega), hbw⟩)
set_option maxRecDepth 8000 in
set_option maxHeartbeats 2000000 in
theorem small23_any (l : List Dm) (A : Option Addr) (n c : Nat) (B : Nat) (w : World) (hB : B <= w.heap.size) (hA : DemsAt w B A n l) :
 Calls Tryz.prog 41 #[.slice A n c, .int .i64 4] w fun e w' => e = .returned (.bool (S.small23 l)) /\ Below w.heap.size w w' := by
 have HA := lh hA
 have hmx := hA.max
 have hl := hA.len
 have HBE := lh (show S.small23 l = (!((decide (4 < n) && decide (n <= 20)) || decide (25 < n)) && !l.any S.demBad) by unfold S.small23; rw [hl])
 clear hA
 have hc1 : (¬ ((4 : Int) < n) /\ ¬ ((25 : Int) < n)) ∨ ((4 : Int) < n /\ (n : Int) <= 20) ∨ ((4 : Int) < n /\ ¬ ((n : Int) <= 20) /\ ¬ ((25 : Int) < n)) ∨ ((4 : Int) < n /\ ¬ ((n : Int) <= 20) /\ (25 : Int) < n) := by omega
 rcases hc1 with ⟨a1, a2⟩ | ⟨a1, a2⟩ | ⟨a1, a2, a3⟩ | ⟨a1, a2, a3⟩
 rotate_left
 ·have HF := lh (show S.small23 l = false by rw [HBE.out]; simp; omega)
  go_enter Tryz.func41, Tryz.ntmps41
  go_wp2
  go_ret
  exact ⟨ret_b HF.out.symm, bel⟩
 rotate_left
 ·have HF := lh (show S.small23 l = false by rw [HBE.out]; simp; omega)
  go_enter Tryz.func41, Tryz.ntmps41
  go_wp2
  go_ret
  exact ⟨ret_b HF.out.symm, bel⟩
 all_goals (
  have HE := lh (show S.small23 l = !l.any S.demBad by rw [HBE.out]; simp; omega)
  clear HBE
  go_enter Tryz.func41, Tryz.ntmps41
  go_wp2
  go_loopw [5] (fun i wr => ∃ k : Nat, k <= n /\ i = .int .i64 k /\ (∀ j (h : j < l.length), j < k -> S.demBad l[j] = false) /\ Below w.heap.size w wr) (fun i _ => n - (intOf i).toNat)
  case atStart => exact ⟨0, Nat.zero_le _, rfl, fun j _ hj => absurd hj (by omega), Below.refl _ _⟩
  case round =>
   obtain ⟨k, hk, rfl, hno, hbr⟩ := hrel
   have HNO1 := lh hno
   clear hno
   by_cases hlt : k < n
   ·have hkx : k < l.length := by omega
    have hki : (k : Int) < n := by omega
    have hA' := HA.out.at_ hB hbr
    have hs' := hA'.cells
    have hst := hA'.each l[k] (List.getElem_mem hkx)
    have hstl := hst.len
    have hstm := hst.max
    obtain ⟨b, o, rfl, hbB, _⟩ := hs'.at_ (by rw [flat_len dmC 8 dmC_len]; omega)
    have c0 := hs'.row0 dmC_len hkx rfl
    have c7 := hs'.rowj dmC_len hkx 7 rfl
    have HBD := lh (fun (h : S.demBad l[k] = true) => show S.small23 l = false by rw [HE.out, any_at_yes hkx h]; rfl)
    have HGO := lh (fun (h : S.demBad l[k] = false) (j : Nat) (hj : j < l.length) (hjk : j < k + 1) => show S.demBad l[j] = false from by
     by_cases hjk' : j = k
     ·subst hjk'; exact h
     ·exact HNO1.out j hj (by omega))
    have HDB := lh (show S.demBad l[k] = (decide (60 < l[k].name.size) || (decide (8 < l[k].n) && decide (l[k].n <= 200)) || decide (205 < l[k].n)) by unfold S.demBad; rw [hstl])
    clear hA' hs' hst hstl
    generalize S.demBad l[k] = tb at *
    generalize l[k] = d at *
    by_cases hm : (60 : Int) < d.name.size
    ·have HB := lh (HBD.out (by rw [HDB.out]; simp; omega))
     go_wp2
     go_ret
     exact ⟨ret_b HB.out.symm, hbr⟩
    have hcs : (¬ ((8 : Int) < d.n) /\ ¬ ((205 : Int) < d.n)) ∨ ((8 : Int) < d.n /\ (d.n : Int) <= 200) ∨ ((8 : Int) < d.n /\ ¬ ((d.n : Int) <= 200) /\ (205 : Int) < d.n) ∨ ((8 : Int) < d.n /\ ¬ ((d.n : Int) <= 200) /\ ¬ ((205 : Int) < d.n)) := by omega
    rcases hcs with ⟨d1, d2⟩ | ⟨d1, d2⟩ | ⟨d1, d2, d3⟩ | ⟨d1, d2, d3⟩
    rotate_left
    ·have HB := lh (HBD.out (by rw [HDB.out]; simp; omega))
     go_wp2
     go_ret
     exact ⟨ret_b HB.out.symm, hbr⟩
    ·have HB := lh (HBD.out (by rw [HDB.out]; simp; omega))
     go_wp2
     go_ret
     exact ⟨ret_b HB.out.symm, hbr⟩
    all_goals (
     have HG := lh (HGO.out (by rw [HDB.out]; simp; omega))
     go_wp2
     go_roundw
     case rel => exact ⟨k + 1, by omega, by go_num, HG.out, hbr⟩
     case measure => simp [intOf]; omega)
   ·have HF := lh (show S.small23 l = true by rw [HE.out, any_at_no (fun j hj => HNO1.out j hj (by have := HA.out.len; omega))]; rfl)
    go_wp2
    go_ret
    exact ⟨ret_b HF.out.symm, hbr⟩)
set_option maxRecDepth 8000 in
set_option maxHeartbeats 2000000 in
theorem small25_any (x : Dt) (ds : List Dm) (B : Nat) (w : World) (hB : B <= w.heap.size) (hA : DtAt w B x) (hD : DemsAt w B x.dA x.dn ds) :
 Calls Tryz.prog 11 #[dtV x] w fun e w' => e = .returned (.bool (S.small25 x ds)) /\ Below w.heap.size w w' := by
 have HA := lh hA
 have HD := lh hD
 have H17 := lh (fun W => small17_any x.mA x.mn x.mc x.hA x.hn x.hc W hA.sol.max hA.sol.max')
 have H16 := lh (fun (W : World) (hw : B <= W.heap.size) (hh : BarsAt W B x.bA x.bn x.bs) (hr : RunsAt W B x.rA x.rn x.rs) => small16_any x.bs x.rs x.bA x.bn x.bc x.rA x.rn x.rc B W hw hh hr)
 have H23 := lh (fun (W : World) (hw : B <= W.heap.size) (hh : DemsAt W B x.dA x.dn ds) => small23_any ds x.dA x.dn x.dc B W hw hh)
 have HE := lh (show S.small25 x ds = (decide (x.m.name.size <= 60) && S.small17 x.mn x.hn && S.small16 (bars x.bs) x.rs && S.small23 ds && (decide (x.jn <= 16) || (decide (1000 < x.jn) && decide (x.jn <= 1005)))) from rfl)
 have hjm := hA.jmax
 have hnm := hA.name
 clear hA hD
 unfold dtV
 generalize S.small17 x.mn x.hn = t1 at *
 generalize S.small16 (bars x.bs) x.rs = t2 at *
 generalize S.small23 ds = t3 at *
 have hcs : (60 : Int) < x.m.name.size ∨ (¬ (60 : Int) < x.m.name.size /\ t1 = false) ∨ (¬ (60 : Int) < x.m.name.size /\ t1 = true /\ t2 = false) ∨ (¬ (60 : Int) < x.m.name.size /\ t1 = true /\ t2 = true /\ t3 = false) ∨ (¬ (60 : Int) < x.m.name.size /\ t1 = true /\ t2 = true /\ t3 = true /\ (x.jn : Int) <= 16) ∨ (¬ (60 : Int) < x.m.name.size /\ t1 = true /\ t2 = true /\ t3 = true /\ ¬ (x.jn : Int) <= 16 /\ ¬ (1000 : Int) < x.jn) ∨ (¬ (60 : Int) < x.m.name.size /\ t1 = true /\ t2 = true /\ t3 = true /\ ¬ (x.jn : Int) <= 16 /\ (1000 : Int) < x.jn /\ (x.jn : Int) <= 1005) ∨ (¬ (60 : Int) < x.m.name.size /\ t1 = true /\ t2 = true /\ t3 = true /\ ¬ (x.jn : Int) <= 16 /\ (1000 : Int) < x.jn /\ ¬ (x.jn : Int) <= 1005) := by
  cases t1 <;> cases t2 <;> cases t3 <;> simp <;> omega
 rcases hcs with h1 | ⟨h1, rfl⟩ | ⟨h1, rfl, rfl⟩ | ⟨h1, rfl, rfl, rfl⟩ | ⟨h1, rfl, rfl, rfl, h2⟩ | ⟨h1, rfl, rfl, rfl, h2, h3⟩ | ⟨h1, rfl, rfl, rfl, h2, h3, h4⟩ | ⟨h1, rfl, rfl, rfl, h2, h3, h4⟩
 all_goals (
  go_enter Tryz.func11, Tryz.ntmps11
  go_wp2_with (first
   | (go_at_call 39; (with_reducible refine (H17.out _).mono ?_); rintro e w1 ⟨rfl, hbw1⟩; obtain ⟨hcw1, hfw1⟩ := bcell hbw1; have hzw1_0 : w.heap.size < w1.heap.size := lt_via hbw1 sz)
   | (go_at_call 40; (with_reducible refine (H16.out _ (dsize hB bel) (HA.out.bars.at_ hB bel) (HA.out.runs.at_ hB bel)).mono ?_); rintro e w2 ⟨rfl, hbw2⟩; obtain ⟨hcw2, hfw2⟩ := bcell hbw2; have hzw2_0 : w.heap.size < w2.heap.size := lt_via hbw2 sz)
   | (go_at_call 41; (with_reducible refine (H23.out _ (dsize hB bel) (HD.out.at_ hB bel)).mono ?_); rintro e w3 ⟨rfl, hbw3⟩; obtain ⟨hcw3, hfw3⟩ := bcell hbw3; have hzw3_0 : w.heap.size < w3.heap.size := lt_via hbw3 sz))
  go_ret
  exact ⟨ret_b (by rw [HE.out]; first | rfl | (simp; done) | (simp; omega) | (rw [Bool.eq_iff_iff]; simp; omega) | omega), bel⟩)
structure Chn where
 A : Option Addr
 c : Nat
 l : List Int
abbrev chV (r : Chn) : Value := .slice r.A r.l.length r.c
def lenV : Value -> Nat | .slice _ n _ => n | _ => 0
structure ChsAt (w : World) (base : Nat) (v : Value) (rs : List Chn) : Prop where
 own : w.ownsRow base 108 1 v rs.length (rs.map chV)
 each : ∀ r, r ∈ rs -> ∃ g, r.A = some ⟨g, 0, none⟩ /\ base <= g /\ v.ownBlock ≠ some g /\ w.ownsRow base 3 1 (chV r) r.l.length (i64s r.l)
def GivesChs (L : List (List Int)) (w : World) (e : Ending) (w' : World) : Prop :=
 ∃ (A : Option Addr) (c : Nat) (rs : List Chn), e = .returned (.slice A rs.length c) /\ rs.map (·.l) = L /\ rs.length <= c /\ Cells w' w'.heap.size A (rs.map chV) /\ (∀ r, r ∈ rs -> Cells w' w'.heap.size r.A (i64s r.l) /\ r.l.length <= r.c) /\ Below w.heap.size w w'
theorem chains_le (js : List Jn) (n k : Nat) : (S.chainsTo js n k).length <= k := by
 unfold S.chainsTo
 rw [List.length_map]
 have := List.length_filter_le (fun i : Nat => !S.secF js (i : Nat)) (List.range k)
 simpa using this
theorem rest_some {f : Int -> Option Int} {m : Nat} {i : Int} (h : S.ends f m (some i)) : ∃ k, m = k + 1 /\ S.ends f k (f i) /\ S.rest f m (some i) = i :: S.rest f k (f i) := by
 cases m with
 | zero => exact h.elim
 | succ k => exact ⟨k, rfl, h, rfl⟩
theorem rest_none (f : Int -> Option Int) (m : Nat) : S.rest f m none = [] := by cases m <;> rfl
theorem rest_le (f : Int -> Option Int) : ∀ (m : Nat) (o : Option Int), (S.rest f m o).length <= m := by
 intro m
 induction m with
 | zero => intro o; cases o <;> exact Nat.le_refl _
 | succ m ih =>
  intro o
  cases o with
  | none => exact Nat.zero_le _
  | some i => exact Nat.succ_le_succ (ih (f i))
theorem chainOf_le (f : Int -> Option Int) (n : Nat) (i : Int) : (S.chainOf f n i).length <= n + 1 := Nat.succ_le_succ (rest_le f n (f i))
theorem i64s_snoc (xs : List Int) (i : Int) : i64s (xs ++ [i]) = i64s xs ++ [.int .i64 i] := by simp
theorem ChsAt.push {w w2 : World} {base : Nat} {v v2 : Value} {rs : List Chn} {r : Chn} (h : ChsAt w base v rs) (hr : ∃ g, r.A = some ⟨g, 0, none⟩ /\ base <= g /\ v.ownBlock ≠ some g /\ w.ownsRow base 3 1 (chV r) r.l.length (i64s r.l))
 (hown : w2.ownsRow base 108 1 v2 (rs.length + 1) (rs.map chV ++ [chV r])) (hk : ∀ k, k < w.heap.size -> v.ownBlock ≠ some k -> w2.heap[k]? = w.heap[k]?) (hv : ∀ k, v2.ownBlock = some k -> some k = v.ownBlock ∨ w.heap.size <= k) : ChsAt w2 base v2 (rs ++ [r]) := by
 refine ⟨by simpa using hown, fun q hq => ?_⟩
 have hq2 : ∃ g, q.A = some ⟨g, 0, none⟩ /\ base <= g /\ v.ownBlock ≠ some g /\ w.ownsRow base 3 1 (chV q) q.l.length (i64s q.l) := by
  rcases List.mem_append.1 hq with hq | hq
  ·exact h.each q hq
  ·rw [List.mem_singleton] at hq
   subst hq
   exact hr
 obtain ⟨g, h1, h2, h3, h4⟩ := hq2
 have hob : (chV q).ownBlock = some g := by
  show (Value.slice q.A q.l.length q.c).ownBlock = some g
  rw [h1]
  rfl
 have hlt := (h4.lt g hob).2
 refine ⟨g, h1, h2, fun he => ?_, own_kept h4 (fun k hkk => ?_)⟩
 ·rcases hv g he with h5 | h5
  ·exact h3 h5.symm
  ·omega
 ·rw [hob] at hkk
  injection hkk with hkk
  subst hkk
  exact hk g hlt h3
theorem ChsAt.kept {w w2 : World} {base : Nat} {v : Value} {rs : List Chn} (h : ChsAt w base v rs) (hb : Below w.heap.size w w2) : ChsAt w2 base v rs :=
 ⟨own_kept h.own (fun k hk => hb.block k (h.own.lt k hk).2), fun r hr => by
   obtain ⟨g, h1, h2, h3, h4⟩ := h.each r hr
   exact ⟨g, h1, h2, h3, own_kept h4 (fun k hk => hb.block k (h4.lt k hk).2)⟩⟩
set_option maxRecDepth 20000 in
set_option maxHeartbeats 4000000 in
theorem chains_any (x : Dt) (n : Nat) (rank : Int -> Nat) (B : Nat) (w : World) (hB : B <= w.heap.size) (hA : DtAt w B x) (hg : LapsGood x.js n rank) (hn : n <= 2000) (hj : x.jn <= 1000) :
 Calls Tryz.prog 231 #[dtV x, .int .i64 n] w (GivesChs (S.chains x.js n) w) := by
 have HA := lh hA
 have HG := lh hg
 have hjl := hA.jlen
 have HNX := lh (fun (i k : Int) (h : S.nextF x.js i = some k) => (hg.next h).2.1)
 have HEN := lh (fun i => hg.ends_n i)
 have HTK := lh (show x.js.take x.jn = x.js from List.take_of_length_le (by omega))
 unfold dtV
 clear hA hg
 generalize hjA : x.jA = jA
 have HjA := lh hjA
 clear hjA
 have hmk1 : ∀ W, (Instr.makeMap 192 none).run Tryz.prog W = .ok (.map (some W.heap.size)) (W.alloc (.map #[] 0)) := fun _ => by kernel_rfl
 have hmk2 : ∀ W, (Instr.makeMap 307 none).run Tryz.prog W = .ok (.map (some W.heap.size)) (W.alloc (.map #[] 0)) := fun _ => by kernel_rfl
 go_enter Tryz.func231, Tryz.ntmps231
 go_wp2
 have hN : NextAt (((w.alloc (.cells #[.string x.m.name, .slice x.mA x.mn x.mc, .slice x.hA x.hn x.hc, .int .i64 x.m.cover, .int .i64 x.m.aggr, .int .i64 x.m.poker, .slice x.bA x.bn x.bc, .slice x.rA x.rn x.rc, .slice jA x.jn x.jc, .slice x.dA x.dn x.dc, .int .i64 x.rule.num, .int .i64 x.rule.den, .int .i64 x.rule.pnum, .int .i64 x.rule.pden, .int .i64 x.rule.bnum, .int .i64 x.rule.bden, .int .i64 x.rule.lnum, .int .i64 x.rule.lden, .int .i64 x.rule.least] 34)).alloc (.map #[] 0)).alloc (.map #[] 0)) (w.heap.size + 1) 0 (fun _ => none) := by
  have := (NextAt.new (w.alloc (.cells #[.string x.m.name, .slice x.mA x.mn x.mc, .slice x.hA x.hn x.hc, .int .i64 x.m.cover, .int .i64 x.m.aggr, .int .i64 x.m.poker, .slice x.bA x.bn x.bc, .slice x.rA x.rn x.rc, .slice jA x.jn x.jc, .slice x.dA x.dn x.dc, .int .i64 x.rule.num, .int .i64 x.rule.den, .int .i64 x.rule.pnum, .int .i64 x.rule.pden, .int .i64 x.rule.bnum, .int .i64 x.rule.bden, .int .i64 x.rule.lnum, .int .i64 x.rule.lden, .int .i64 x.rule.least] 34))).alloc (.map #[] 0)
  simpa using this
 have hS : SetAt (((w.alloc (.cells #[.string x.m.name, .slice x.mA x.mn x.mc, .slice x.hA x.hn x.hc, .int .i64 x.m.cover, .int .i64 x.m.aggr, .int .i64 x.m.poker, .slice x.bA x.bn x.bc, .slice x.rA x.rn x.rc, .slice jA x.jn x.jc, .slice x.dA x.dn x.dc, .int .i64 x.rule.num, .int .i64 x.rule.den, .int .i64 x.rule.pnum, .int .i64 x.rule.pden, .int .i64 x.rule.bnum, .int .i64 x.rule.bden, .int .i64 x.rule.lnum, .int .i64 x.rule.lden, .int .i64 x.rule.least] 34)).alloc (.map #[] 0)).alloc (.map #[] 0)) (w.heap.size + 1 + 1) 0 (fun _ => false) := by
  have := SetAt.new ((w.alloc (.cells #[.string x.m.name, .slice x.mA x.mn x.mc, .slice x.hA x.hn x.hc, .int .i64 x.m.cover, .int .i64 x.m.aggr, .int .i64 x.m.poker, .slice x.bA x.bn x.bc, .slice x.rA x.rn x.rc, .slice jA x.jn x.jc, .slice x.dA x.dn x.dc, .int .i64 x.rule.num, .int .i64 x.rule.den, .int .i64 x.rule.pnum, .int .i64 x.rule.pden, .int .i64 x.rule.bnum, .int .i64 x.rule.bden, .int .i64 x.rule.lnum, .int .i64 x.rule.lden, .int .i64 x.rule.least] 34)).alloc (.map #[] 0))
  simpa using this
 have hb3 : Below w.heap.size w (((w.alloc (.cells #[.string x.m.name, .slice x.mA x.mn x.mc, .slice x.hA x.hn x.hc, .int .i64 x.m.cover, .int .i64 x.m.aggr, .int .i64 x.m.poker, .slice x.bA x.bn x.bc, .slice x.rA x.rn x.rc, .slice jA x.jn x.jc, .slice x.dA x.dn x.dc, .int .i64 x.rule.num, .int .i64 x.rule.den, .int .i64 x.rule.pnum, .int .i64 x.rule.pden, .int .i64 x.rule.bnum, .int .i64 x.rule.bden, .int .i64 x.rule.lnum, .int .i64 x.rule.lden, .int .i64 x.rule.least] 34)).alloc (.map #[] 0)).alloc (.map #[] 0)) := ba_alloc (ba_alloc (ba_alloc (Below.refl _ _) _) _) _
 have hs3 : (((w.alloc (.cells #[.string x.m.name, .slice x.mA x.mn x.mc, .slice x.hA x.hn x.hc, .int .i64 x.m.cover, .int .i64 x.m.aggr, .int .i64 x.m.poker, .slice x.bA x.bn x.bc, .slice x.rA x.rn x.rc, .slice jA x.jn x.jc, .slice x.dA x.dn x.dc, .int .i64 x.rule.num, .int .i64 x.rule.den, .int .i64 x.rule.pnum, .int .i64 x.rule.pden, .int .i64 x.rule.bnum, .int .i64 x.rule.bden, .int .i64 x.rule.lnum, .int .i64 x.rule.lden, .int .i64 x.rule.least] 34)).alloc (.map #[] 0)).alloc (.map #[] 0)).heap.size = w.heap.size + 3 := by simp
 clear hmk1 hmk2
 generalize (((w.alloc (.cells #[.string x.m.name, .slice x.mA x.mn x.mc, .slice x.hA x.hn x.hc, .int .i64 x.m.cover, .int .i64 x.m.aggr, .int .i64 x.m.poker, .slice x.bA x.bn x.bc, .slice x.rA x.rn x.rc, .slice jA x.jn x.jc, .slice x.dA x.dn x.dc, .int .i64 x.rule.num, .int .i64 x.rule.den, .int .i64 x.rule.pnum, .int .i64 x.rule.pden, .int .i64 x.rule.bnum, .int .i64 x.rule.bden, .int .i64 x.rule.lnum, .int .i64 x.rule.lden, .int .i64 x.rule.least] 34)).alloc (.map #[] 0)).alloc (.map #[] 0)) = w3 at *
 have hs31 : w3.heap.size <= w.heap.size + 3 := by omega
 have hs32 : w.heap.size + 3 <= w3.heap.size := by omega
 clear hs3
 go_loopw [19] (fun i wr => ∃ k : Nat, k <= x.jn /\ i = .int .i64 k /\ NextAt wr (w.heap.size + 1) k (S.nextF (x.js.take k)) /\ SetAt wr (w.heap.size + 1 + 1) k (S.secF (x.js.take k)) /\ Exc [w.heap.size + 1, w.heap.size + 1 + 1] w3 wr) (fun i _ => x.jn - (intOf i).toNat)
 case atStart => exact ⟨0, Nat.zero_le _, rfl, hN, hS, Exc.refl _ _⟩
 case round =>
  obtain ⟨k, hk, rfl, hF, hG, hX⟩ := hrel
  have hbr : Below w.heap.size w wr := hb3.trans (hX.below (by omega) (by intro g hg; simp at hg; omega))
  have hsr := hX.size
  by_cases hlt : k < x.jn
  ·have hkx : k < x.js.length := by omega
   have hki : (k : Int) < x.jn := by omega
   have HKR := lh (show k + 1 <= x.jn by omega)
   have hJc := (HA.out.at_ hB hbr).joints
   rw [HjA.out] at hJc
   obtain ⟨bJ, oJ, hje, hbJ, _⟩ := hJc.at_ (by rw [flat_len jnC 2 jnC_len]; omega)
   subst hje
   have c0 := hJc.row0 jnC_len hkx rfl
   have c1 := hJc.rowj jnC_len hkx 1 rfl
   have hin := HG.out.inr x.js[k] (List.getElem_mem hkx)
   have hw1 : Wf64 x.js[k].first := by unfold Wf64; omega
   have hw2 : Wf64 x.js[k].second := by unfold Wf64; omega
   have HN1 := lh (show S.nextF (x.js.take (k + 1)) = fun i => if i = x.js[k].first then some x.js[k].second else S.nextF (x.js.take k) i by rw [List.take_succ_eq_append_getElem hkx, nextF_snoc])
   have HS1 := lh (show S.secF (x.js.take (k + 1)) = fun i => i == x.js[k].second || S.secF (x.js.take k) i by rw [List.take_succ_eq_append_getElem hkx, secF_snoc])
   have hbJl : bJ < wr.heap.size := by omega
   clear hin hJc
   generalize x.js[k] = j at *
   go_upto_region 5 with fail
   have hJ4 := Blk.new wr 168 #[.int .i64 j.first, .int .i64 j.second]
   have hNd : NextAt (wr.alloc (.cells #[.int .i64 j.first, .int .i64 j.second] 168)).drew (w.heap.size + 1) k (S.nextF (x.js.take k)) := (hF.alloc _).kept rfl
   have hSd : SetAt (wr.alloc (.cells #[.int .i64 j.first, .int .i64 j.second] 168)).drew (w.heap.size + 1 + 1) k (S.secF (x.js.take k)) := (hG.alloc _).kept rfl
   have hJd : Blk (wr.alloc (.cells #[.int .i64 j.first, .int .i64 j.second] 168)).drew wr.heap.size 168 #[.int .i64 j.first, .int .i64 j.second] := hJ4
   obtain ⟨wA, hu1, hNA, hgA⟩ := hNd.put (k := j.first) (v := j.second) (by unfold maxLen; omega) hw1 hw2
   have hSA := hSd.kept (hgA.block _ hSd.lt (by simp))
   have hJA := grown_blk hgA hJd (by omega)
   obtain ⟨wB, hu2, hSB, hgB⟩ := hSA.put (k := j.second) (by unfold maxLen; omega) hw2
   have hNB := hNA.kept (hgB.block _ hNA.lt (by simp))
   have hJB := grown_blk hgB hJA (by omega)
   have hXB : Exc [w.heap.size + 1, w.heap.size + 1 + 1] w3 wB := (((hX.alloc _).drew).grown hgA (fun g hg => .inl (by injection hg with hg; simp [hg]))).grown hgB (fun g hg => .inl (by injection hg with hg; simp [hg]))
   have k7 : (wr.alloc (.cells #[.int .i64 j.first, .int .i64 j.second] 168)).cell? ⟨wr.heap.size, 0, none⟩ = some (.int .i64 j.first) /\ (wr.alloc (.cells #[.int .i64 j.first, .int .i64 j.second] 168)).cell? ⟨wr.heap.size, 1, none⟩ = some (.int .i64 j.second) := ⟨hJ4.cell 0, hJ4.cell 1⟩
   have kD : (wr.alloc (.cells #[.int .i64 j.first, .int .i64 j.second] 168)).drew.cell? ⟨wr.heap.size, 0, none⟩ = some (.int .i64 j.first) /\ (wr.alloc (.cells #[.int .i64 j.first, .int .i64 j.second] 168)).drew.cell? ⟨wr.heap.size, 1, none⟩ = some (.int .i64 j.second) := ⟨hJd.cell 0, hJd.cell 1⟩
   have kA : wA.cell? ⟨wr.heap.size, 0, none⟩ = some (.int .i64 j.first) /\ wA.cell? ⟨wr.heap.size, 1, none⟩ = some (.int .i64 j.second) := ⟨hJA.cell 0, hJA.cell 1⟩
   have kB : wB.cell? ⟨wr.heap.size, 0, none⟩ = some (.int .i64 j.first) /\ wB.cell? ⟨wr.heap.size, 1, none⟩ = some (.int .i64 j.second) := ⟨hJB.cell 0, hJB.cell 1⟩
   rw [<- HN1.out] at hNB
   rw [<- HS1.out] at hSB
   clear hJ4 c0 c1
   go_region_held3 (fun W' => W'.cell? ⟨wr.heap.size, 0, none⟩ = some (.int .i64 j.first) /\ W'.cell? ⟨wr.heap.size, 1, none⟩ = some (.int .i64 j.second)) (first | exact k7 | exact kD | exact kA | exact kB) (fail)
   all_goals (
    go_wp2
    go_roundw
    case rel => exact ⟨k + 1, HKR.out, by go_num, hNB, hSB, hXB⟩
    case measure => have := HKR.out; simp [intOf]; omega)
  ·obtain rfl : k = x.jn := by omega
   rw [HTK.out] at hF hG
   clear hlt hk hN hS
   go_wp2
   have hsz4 : w.heap.size + 3 <= wr.heap.size := by omega
   clear hX hb3
   generalize wr = w4 at *
   go_loopw [33, 9] (fun i v wq => ∃ (q : Nat) (rs : List Chn), q <= n /\ i = .int .i64 q /\ rs.map (·.l) = S.chainsTo x.js n q /\ ChsAt wq w4.heap.size v rs /\ Below w4.heap.size w4 wq) (fun i _ _ => n - (intOf i).toNat)
   case atStart => exact ⟨0, [], Nat.zero_le _, rfl, rfl, ⟨World.ownsRow_nil _ _ _ _, fun r hr => by cases hr⟩, Below.refl _ _⟩
   case round =>
    generalize wr = wq at *
    obtain ⟨q, rs, hq, rfl, hrs, hC, hbq⟩ := hrel
    have hrl : rs.length <= q := by
     have := chains_le x.js n q
     rw [<- hrs] at this
     simpa using this
    have hsq := hbq.size
    have hbwq : Below w.heap.size w wq := hbr.trans (hbq.mono hbr.size)
    by_cases hlt2 : q < n
    ·have hqi : (q : Int) < n := by omega
     have hFq := hF.kept (hbq.block _ hF.lt)
     have hGq := hG.kept (hbq.block _ hG.lt)
     have hwq : Wf64 (q : Int) := by unfold Wf64; omega
     have hl1 := hGq.look hwq
     have HQ := lh (show q + 1 <= n by omega)
     cases hsec : S.secF x.js (q : Int) with
     | true =>
      rw [hsec] at hl1
      go_wp2
      go_roundw
      case rel => exact ⟨q + 1, rs, HQ.out, by go_num, by rw [chainsTo_no hsec]; exact hrs, hC, hbq⟩
      case measure => have := HQ.out; simp [intOf]; omega
     | false =>
      rw [hsec] at hl1
      have HRS := lh hrs
      have HC := lh hC
      clear hrs hC hq
      go_upto_region 13 with fail
      have hFC := hFq.alloc (.cells #[.int .i64 q] 3)
      have hRC : Row (wq.alloc (.cells #[.int .i64 q] 3)) (wq.alloc (.cells #[.int .i64 q] 3)) (some wq.heap.size) w4.heap.size 3 1 (.slice (some ⟨wq.heap.size, 0, none⟩) 1 1) 1 [.int .i64 q] := by
       refine ⟨?_, fun k hk => .inl (by simpa [Value.ownBlock] using hk.symm)⟩
       exact World.ownsRow_lit (base := w4.heap.size) (e := 3) (size := 1) wq #[.int .i64 q] 1 (by omega) (by unfold maxLen; omega) rfl
      have hbC : Below wq.heap.size wq (wq.alloc (.cells #[.int .i64 q] 3)) := ba_alloc (Below.refl _ _) _
      have hsC : wq.heap.size + 1 <= (wq.alloc (.cells #[.int .i64 q] 3)).heap.size := by simp
      have hsC2 : (wq.alloc (.cells #[.int .i64 q] 3)).heap.size <= wq.heap.size + 1 := by simp
      clear hl1
      generalize (wq.alloc (.cells #[.int .i64 q] 3)) = wC at *
      have hl2 := hFC.look hwq
      have HE0 := lh (HEN.out q)
      have HI0 := lh (fun i (h : S.nextF x.js q = some i) => HNX.out q i h)
      generalize hof : S.nextF x.js (q : Int) = o0 at *
      have HOF := lh hof
      clear hof
      go_wp2
      have HFC := lh hFC
      have HNF := lh (show w.heap.size + 1 < wq.heap.size by omega)
      clear hFC hFq hGq hF hG hl2
      go_loopw [12, 13, 11] (fun s12 s13 s11 wx => ∃ (m : Nat) (o : Option Int) (xs : List Int) (A : Option Addr) (c : Nat), s12 = .int .i64 (o.getD 0) /\ s13 = .bool o.isSome /\ s11 = .slice A xs.length c /\ xs ++ S.rest (S.nextF x.js) m o = S.chainOf (S.nextF x.js) n q /\ S.ends (S.nextF x.js) m o /\ m + xs.length = n + 1 /\ 0 < xs.length /\ (∀ i, o = some i -> 0 <= i /\ i < n) /\ Row wC wx (some wq.heap.size) w4.heap.size 3 1 (.slice A xs.length c) xs.length (i64s xs) /\ Exc [wq.heap.size] wC wx) (fun _ _ s _ => n + 1 - lenV s)
      case atStart =>
       refine ⟨n, o0, [(q : Int)], some ⟨wq.heap.size, 0, none⟩, 1, rfl, rfl, rfl, ?_, HE0.out, by simp, by simp, HI0.out, hRC, Exc.refl _ _⟩
       rw [<- HOF.out]
       rfl
      case round =>
       generalize wr = wx at *
       obtain ⟨m, o, xs, A, c, rfl, rfl, rfl, hrest, hends, hm, hxp, ho, hR, hX⟩ := hrel
       have hsX := hX.size
       cases o with
       | some i =>
        obtain ⟨m', rfl, hends', hrest'⟩ := rest_some hends
        rw [hrest'] at hrest
        have hin := ho i rfl
        have hwi : Wf64 i := by unfold Wf64; omega
        have HR := lh hR
        have HXX := lh hX
        have HRE := lh hrest
        have HEE := lh hends'
        have HO2 := lh (fun k (h : S.nextF x.js i = some k) => HNX.out i k h)
        have HM := lh hm
        clear hR hX hrest hends hends' ho hrest' hm
        go_wp2_with (at_builtin; refine wpList_push rfl (.tmp 54) (.tmp 56) _ rfl elemInt (HR.out.alloc _) (HXX.out.alloc _) (by simp) (by omega) rfl wx.heap.size 1 1 [.int .i64 i] rfl rfl ?_ (by simp [Value.oneCell']) (by have := HM.out; unfold maxLen; omega) (by have := HM.out; omega) ?_; (· intro j u hu; exact one_new _ _ _ _ j u hu); intro v1 wD hRD hXD hOD; obtain ⟨A5, c5, rfl, _, _, hCD⟩ := own_form hRD.own (by have := HM.out; unfold maxLen; omega); have hlD := (HFC.out.kept (hXD.block _ HFC.out.lt (by have := HNF.out; simp; omega))).look hwi)
        go_roundw
        case rel =>
         refine ⟨m', S.nextF x.js i, xs ++ [i], A5, c5, rfl, rfl, by simp, ?_, HEE.out, by have := HM.out; simp; omega, by simp, HO2.out, ?_, hXD⟩
         ·rw [List.append_assoc]; exact HRE.out
         ·rw [i64s_snoc, List.length_append]; exact hRD
        case measure => have := HM.out; simp [lenV]; omega
       | none =>
        rw [rest_none, List.append_nil] at hrest
        have hbx : Below wq.heap.size wq wx := hbC.trans (hX.below (by omega) (by intro g hg; simp at hg; omega))
        have hCx := HC.out.kept hbx
        have hsx := hbx.size
        have hnew : ∃ g, A = some ⟨g, 0, none⟩ /\ w4.heap.size <= g /\ u9.ownBlock ≠ some g /\ wx.ownsRow w4.heap.size 3 1 (.slice A xs.length c) xs.length (i64s xs) := by
         have ho := hR.own
         rcases ho.2 with ⟨_, h0⟩ | ⟨g, cap, cur, hv, hbg, _⟩
         ·omega
         ·injection hv with hA1 _ hc1
          refine ⟨g, hA1, hbg, fun he => ?_, ho⟩
          have h1 := (HC.out.own.lt g he).2
          rcases hR.place g (by rw [hA1]; rfl) with h2 | h2
          ·injection h2 with h2
           omega
          ·omega
        have HNW := lh hnew
        have HCX := lh hCx
        have HRE := lh hrest
        have hbwx : Below w4.heap.size w4 wx := hbq.trans (hbx.mono hsq)
        clear hnew hCx hrest hR hX ho hends
        go_wp2_with (at_builtin; refine wpList_push rfl (.tmp 58) (.tmp 60) _ rfl elemRow ((show Row wx wx u9.ownBlock w4.heap.size 108 1 u9 rs.length (rs.map chV) from ⟨HCX.out.own, fun k hk => .inl hk.symm⟩).alloc _) ((Exc.refl u9.ownBlock.toList wx).alloc _) (by intro k hk; simp [hk]) (by omega) rfl wx.heap.size 1 1 [.slice A xs.length c] rfl rfl ?_ (by simp [Value.oneCell']) (by unfold maxLen; omega) (by omega) ?_; (· intro j u hu; exact one_new _ _ _ _ j u hu); intro v2 wE hRE hXE hOE)
        have hpush := ChsAt.push (r := ⟨A, c, xs⟩) (w2 := wE) (v2 := v2) HCX.out HNW.out hRE.own (fun k hk hne => (hOE k (by simp; omega) hne).trans (Below.heap_alloc _ _ k hk)) (fun k hk => hRE.place k hk)
        have hbE : Below w4.heap.size w4 wE := hbwx.trans (hXE.below (by omega) (fun g hg => (HCX.out.own.lt g (by simpa using hg)).1))
        go_roundw
        case rel => exact ⟨q + 1, rs ++ [⟨A, c, xs⟩], HQ.out, by go_num, by rw [chainsTo_yes hsec, List.map_append, HRS.out, <- HRE.out]; rfl, hpush, hbE⟩
        case measure => have := HQ.out; simp [intOf]; omega
    ·obtain rfl : q = n := by omega
     obtain ⟨A5, c5, rfl, hnc5, _, hC5⟩ := own_form hC.own (by unfold maxLen; omega)
     go_wp2
     go_ret
     refine ⟨A5, c5, rs, rfl, hrs, hnc5, hC5, fun r hr => ?_, hbwq⟩
     obtain ⟨g, h1, h2, h3, h4⟩ := hC.each r hr
     have hl : r.l ∈ S.chainsTo x.js q q := by rw [<- hrs]; exact List.mem_map_of_mem hr
     have hll : r.l.length <= q + 1 := by
      unfold S.chainsTo at hl
      obtain ⟨i, _, hi⟩ := List.mem_map.1 hl
      rw [<- hi]
      exact chainOf_le _ _ _
     have := own_cells h4 (by unfold maxLen; omega)
     exact ⟨this.1, this.2.1⟩
structure DtOk (w : World) (x : Dt) (ds : List Dm) : Prop where
 at_ : DtAt w w.heap.size x
 dems : DemsAt w w.heap.size x.dA x.dn ds
 cap : x.dn <= x.dc
end Go.Proofs.YtmfpbafpnoomeaaGreat
