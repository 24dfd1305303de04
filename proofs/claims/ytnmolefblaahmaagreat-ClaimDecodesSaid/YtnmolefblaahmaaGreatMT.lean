/- The plain law of chains: each bar is in just one, and a chain has one bar more than laps (no program in sight). Steps and demands in memory; contracts: steps.Valid, demand.Valid. Contract: lap.look of -/
import Derived.Deep.Cut
import Derived.Test.YtnmolefblaahmaaGreatMR
set_option linter.unusedVariables false
set_option linter.unusedSimpArgs false
namespace Go.Proofs.YtnmolefblaahmaaGreat
open Go.RowKit
namespace S
def nextF (js : List Jn) : Int → Option Int := js.foldl (fun f j i => if i = j.first then some j.second else f i) (fun _ => none)
def secF (js : List Jn) : Int → Bool := js.foldl (fun f j i => i == j.second || f i) (fun _ => false)
def rest (f : Int → Option Int) : Nat → Option Int → List Int
 | _, none => []
 | 0, some _ => []
 | k + 1, some i => i :: rest f k (f i)
def chainOf (f : Int → Option Int) (n : Nat) (i : Int) : List Int := i :: rest f n (f i)
def chainsTo (js : List Jn) (n k : Nat) : List (List Int) := ((List.range k).filter (fun i => !secF js (i : Nat))).map fun i => chainOf (nextF js) n (i : Nat)
def chains (js : List Jn) (n : Nat) : List (List Int) := chainsTo js n n
end S
theorem nextF_snoc (js : List Jn) (j : Jn) : S.nextF (js ++ [j]) = fun i => if i = j.first then some j.second else S.nextF js i := by
 unfold S.nextF
 rw [List.foldl_append]
 rfl
theorem snoc_ind {α : Type} {P : List α → Prop} (h0 : P []) (h1 : ∀ l a, P l → P (l ++ [a])) : ∀ l, P l := by
 have : ∀ l : List α, P l.reverse := by
  intro l
  induction l with
  | nil => simpa using h0
  | cons a l ih => simpa using h1 _ a ih
 intro l
 simpa using this l.reverse
theorem nextF_mem : ∀ {js : List Jn} {i k : Int}, S.nextF js i = some k → (⟨i, k⟩ : Jn) ∈ js := by
 intro js
 induction js using snoc_ind with
 | h0 => intro i k h; cases h
 | h1 l a ih =>
  intro i k h
  rw [nextF_snoc] at h
  simp only [] at h
  by_cases he : i = a.first
  ·rw [if_pos he] at h
   simp only [Option.some.injEq] at h
   subst he h
   exact List.mem_append.2 (.inr (by simp))
  ·rw [if_neg he] at h
   exact List.mem_append.2 (.inl (ih h))
structure LapsGood (js : List Jn) (n : Nat) (rank : Int → Nat) : Prop where
 inr : ∀ j, j ∈ js → (0 ≤ j.first ∧ j.first < n) ∧ (0 ≤ j.second ∧ j.second < n) ∧ rank j.second < rank j.first
 top : ∀ i : Int, rank i ≤ n
 firsts : (js.map Jn.first).Nodup
 seconds : (js.map Jn.second).Nodup
variable {js : List Jn} {n : Nat} {rank : Int → Nat}
theorem LapsGood.next (h : LapsGood js n rank) {i k : Int} (hk : S.nextF js i = some k) : (0 ≤ i ∧ i < n) ∧ (0 ≤ k ∧ k < n) ∧ rank k < rank i := h.inr _ (nextF_mem hk)
theorem LapsGood.inj (h : LapsGood js n rank) {i j k : Int} (hi : S.nextF js i = some k) (hj : S.nextF js j = some k) : i = j := by
 have h1 := nextF_mem hi
 have h2 := nextF_mem hj
 have key : ∀ {l : List Jn} {a b : Jn}, (l.map Jn.second).Nodup → a ∈ l → b ∈ l → a.second = b.second → a = b := by
  intro l
  induction l with
  | nil => intro a b _ h; cases h
  | cons c l ih =>
   intro a b hn ha hb he
   rw [List.map_cons, List.nodup_cons] at hn
   rcases List.mem_cons.1 ha with h1 | ha <;> rcases List.mem_cons.1 hb with h2 | hb
   ·exact h1.trans h2.symm
   ·exact (hn.1 (List.mem_map.2 ⟨_, hb, by rw [← he, h1]⟩)).elim
   ·exact (hn.1 (List.mem_map.2 ⟨_, ha, by rw [he, h2]⟩)).elim
   ·exact ih hn.2 ha hb he
 have := key h.seconds h1 h2 rfl
 injection this
theorem rest_from {f : Int → Option Int} : ∀ {k : Nat} {o : Option Int} {b : Int}, b ∈ S.rest f k o → o = some b ∨ ∃ p, p ∈ S.rest f k o ∧ f p = some b := by
 intro k
 induction k with
 | zero => intro o b h; cases o <;> cases h
 | succ k ih =>
  intro o b h
  cases o with
  | none => cases h
  | some i =>
   rcases List.mem_cons.1 h with rfl | h
   ·exact .inl rfl
   ·rcases ih h with h1 | ⟨p, h1, h2⟩
    ·exact .inr ⟨i, List.mem_cons_self, h1⟩
    ·exact .inr ⟨p, List.mem_cons_of_mem _ h1, h2⟩
theorem chain_from {f : Int → Option Int} {n : Nat} {i b : Int} (h : b ∈ S.chainOf f n i) : b = i ∨ ∃ p, p ∈ S.chainOf f n i ∧ f p = some b := by
 rcases List.mem_cons.1 h with h | h
 ·exact .inl h
 ·rcases rest_from h with h1 | ⟨p, h1, h2⟩
  ·exact .inr ⟨i, List.mem_cons_self, h1⟩
  ·exact .inr ⟨p, List.mem_cons_of_mem _ h1, h2⟩
theorem LapsGood.mem_range (h : LapsGood js n rank) {i b : Int} (hi : 0 ≤ i ∧ i < n) (hb : b ∈ S.chainOf (S.nextF js) n i) : 0 ≤ b ∧ b < n := by
 rcases chain_from hb with rfl | ⟨p, _, hp⟩
 ·exact hi
 ·exact (h.next hp).2.1
structure ChainsGood (js : List Jn) (n : Nat) (c : List (List Int)) : Prop where
 len : c.length + js.length = n
 head : ∀ (k : Nat) (l : List Int), c[k]? = some l → ∃ i t, l = i :: t ∧ 0 ≤ i
 up : ∀ (k k' : Nat) (i i' : Int) (t t' : List Int), k' < k → c[k]? = some (i :: t) → c[k']? = some (i' :: t') → i' < i
 range : ∀ l, l ∈ c → ∀ b, b ∈ l → 0 ≤ b ∧ b < n
 nodup : c.flatten.Nodup
 all : ∀ b : Int, 0 ≤ b → b < n → b ∈ c.flatten
 link : ∀ l, l ∈ c → ∀ (i : Nat) (a b : Int), l[i]? = some a → l[i + 1]? = some b → (⟨a, b⟩ : Jn) ∈ js
def S.rankOf (L : List Mn) (i : Int) : Nat := match L[i.toNat]? with | some a => L.countP (fun m => decide (a.leg.lo.x < m.leg.lo.x)) | none => 0
structure Stp where
 fro : Int
 val : Int
abbrev stC (s : Stp) : List Value := [.int .i64 s.fro, .int .i64 s.val]
theorem stC_len (s : Stp) : (stC s).length = 2 := rfl
structure StepsAt (w : World) (B : Nat) (A : Option Addr) (n : Nat) (l : List Stp) : Prop where
 len : l.length = n
 max : n ≤ 9223372036854775807
 cells : Cells w B A (l.flatMap stC)
theorem StepsAt.below {w w' : World} {B : Nat} {A : Option Addr} {n : Nat} {l : List Stp} (h : StepsAt w B A n l) (hb : Below B w w') : StepsAt w' B A n l := ⟨h.len, h.max, h.cells.below hb⟩
structure Dm where
 name : ByteArray
 zone : Bx
 st : List Stp
 A : Option Addr
 n : Nat
 c : Nat
abbrev dmC (d : Dm) : List Value := [.string d.name, .int .i64 d.zone.lo.x, .int .i64 d.zone.lo.y, .int .i64 d.zone.lo.z, .int .i64 d.zone.hi.x, .int .i64 d.zone.hi.y, .int .i64 d.zone.hi.z, .slice d.A d.n d.c]
abbrev dmV (d : Dm) : Value := .agg #[.string d.name, .int .i64 d.zone.lo.x, .int .i64 d.zone.lo.y, .int .i64 d.zone.lo.z, .int .i64 d.zone.hi.x, .int .i64 d.zone.hi.y, .int .i64 d.zone.hi.z, .slice d.A d.n d.c]
theorem dmC_len (d : Dm) : (dmC d).length = 8 := rfl
structure DemsAt (w : World) (B : Nat) (A : Option Addr) (n : Nat) (l : List Dm) : Prop where
 len : l.length = n
 max : n ≤ 9223372036854775807
 cells : Cells w B A (l.flatMap dmC)
 each : ∀ d, d ∈ l → StepsAt w B d.A d.n d.st
 name : ∀ d, d ∈ l → d.name.size ≤ 9223372036854775807
theorem DemsAt.below {w w' : World} {B : Nat} {A : Option Addr} {n : Nat} {l : List Dm} (h : DemsAt w B A n l) (hb : Below B w w') : DemsAt w' B A n l := ⟨h.len, h.max, h.cells.below hb, fun d hd => (h.each d hd).below hb, h.name⟩
theorem DemsAt.at_ {w w' : World} {B : Nat} {A : Option Addr} {n : Nat} {l : List Dm} (h : DemsAt w B A n l) (hB : B ≤ w.heap.size) (hb : Below w.heap.size w w') : DemsAt w' B A n l := h.below (hb.mono hB)
namespace S
def stepAt (l : List Stp) (i : Nat) : Bool := match l[i]? with
 | some s => place s.fro && decide (0 ≤ s.val) && decide (s.val ≤ 1099511627776) && (match i with | 0 => true | j + 1 => match l[j]? with | some p => decide (p.fro < s.fro) | none => true)
 | none => true
def steps (l : List Stp) : Bool := decide (l.length ≤ 200) && (List.range l.length).all (stepAt l)
def demRight (d : Dm) : Bool := isName d.name && boxOk d.zone && steps d.st
def isDem (m : ByteArray) (d : Dm) : Bool := d.name.toList == m.toList
def demAt (l : List Dm) (i : Nat) : Bool := match l[i]? with | some d => demRight d && !anyb (l.take i) (isDem d.name) | none => true
def dems (l : List Dm) : Bool := decide (l.length ≤ 20) && (List.range l.length).all (demAt l)
end S
theorem dsize {B : Nat} {w w' : World} (hB : B ≤ w.heap.size) (hb : Below w.heap.size w w') : B ≤ w'.heap.size := Nat.le_trans hB hb.size
theorem rng_no {n k : Nat} {p : Nat → Bool} {b : Bool} (hk : k < n) (h : p k = false) : (b && (List.range n).all p) = false := by
 have : (List.range n).all p = false := by
  rw [List.all_eq_false]
  exact ⟨k, List.mem_range.2 hk, by simp [h]⟩
 rw [this]
 simp
theorem rng_yes {n : Nat} {p : Nat → Bool} {b : Bool} (hb : b = true) (h : ∀ j, j < n → p j = true) : (b && (List.range n).all p) = true := by
 rw [hb, Bool.true_and, List.all_eq_true]
 exact fun j hj => h j (List.mem_range.1 hj)
theorem stplace_any (n : Int) (w : World) : Calls Tryz.prog 123 #[.int .i64 n] w fun e w' => e = .returned (.bool (S.place n)) ∧ w = w' := by
 have H := Lib.hid (show S.place n = (decide (-1048576 ≤ n) && decide (n ≤ 1048576)) from rfl)
 go_enter Tryz.func123, Tryz.ntmps123
 go_wp2
 all_goals (go_ret; refine ⟨ret_b ?_, rfl⟩; rw [H.out, Bool.eq_iff_iff]; simp; omega)
set_option maxHeartbeats 1000000 in
theorem steps_any (l : List Stp) (A : Option Addr) (n c : Nat) (B : Nat) (w : World) (hB : B ≤ w.heap.size) (hA : StepsAt w B A n l) :
 Calls Tryz.prog 82 #[.slice A n c] w fun e w' => e = .returned (.bool (S.steps l)) ∧ Below w.heap.size w w' := by
 have HA := Lib.hid hA
 have HPL := Lib.hid (fun n w => stplace_any n w)
 have hmx := hA.max
 have hL := hA.len
 clear hA
 by_cases h200 : 200 < n
 ·have HS := Lib.hid (show S.steps l = false from by unfold S.steps; rw [hL]; simp; omega)
  clear hL
  go_enter Tryz.func82, Tryz.ntmps82
  go_wp2
  go_ret
  exact ⟨ret_b HS.out.symm, bel⟩
 clear hL
 go_enter Tryz.func82, Tryz.ntmps82
 go_wp2
 go_loopw [10] (fun i wr => ∃ k : Nat, k ≤ n ∧ i = .int .i64 k ∧ (∀ j, j < k → S.stepAt l j = true) ∧ Below w.heap.size w wr) (fun i _ => n - (intOf i).toNat)
 case atStart => exact ⟨0, Nat.zero_le _, rfl, fun j hj => absurd hj (by omega), Below.refl _ _⟩
 case round =>
  obtain ⟨k, hk, rfl, hno, hbr⟩ := hrel
  have HNO := Lib.hid hno
  clear hno
  by_cases hlt : k < n
  ·have hkx : k < l.length := by have := HA.out.len; omega
   have hs' := HA.out.cells.below (hbr.mono hB)
   obtain ⟨b, o, rfl, hbB, _⟩ := hs'.at_ (by rw [flat_len stC 2 stC_len]; omega)
   have hbw : b < wr.heap.size := by have := hbr.size; omega
   have c0 := hs'.row0 stC_len hkx rfl
   have c1 := hs'.rowj stC_len hkx 1 rfl
   have HNS := Lib.hid (fun h => show S.steps l = false from rng_no (p := S.stepAt l) (k := k) hkx h)
   have HGO := Lib.hid (fun (h : S.stepAt l k = true) => show ∀ j, j < k + 1 → S.stepAt l j = true from fun j hj => by
    by_cases hjk : j = k
    ·subst hjk; exact h
    ·exact HNO.out j (by omega))
   have hge : l[k]? = some l[k] := List.getElem?_eq_getElem hkx
   cases k with
   | zero =>
    have HAT := Lib.hid (show S.stepAt l 0 = (S.place l[0].fro && decide (0 ≤ l[0].val) && decide (l[0].val ≤ 1099511627776) && true) by unfold S.stepAt; rw [hge]; rfl)
    have HP0 := Lib.hid (HPL.out l[0].fro)
    rw [Nat.zero_mul, Nat.add_zero] at c0 c1
    generalize S.place l[0].fro = t0 at *
    generalize l[0] = s at *
    clear hs' hge
    have hcs : t0 = false ∨ (t0 = true ∧ s.val < 0) ∨ (t0 = true ∧ ¬ s.val < 0 ∧ 1099511627776 < s.val) ∨ (t0 = true ∧ ¬ s.val < 0 ∧ ¬ 1099511627776 < s.val) := by
     cases t0 <;> simp <;> omega
    rcases hcs with rfl | ⟨rfl, h1⟩ | ⟨rfl, h1, h2⟩ | ⟨rfl, h1, h2⟩
    rotate_right
    ·have HG := Lib.hid (HGO.out (by rw [HAT.out]; simp; omega))
     go_upto_region 6 with fail
     refine wp_region_grow (by kernel_rfl) (by kernel_rfl) ?_
     repeat (go_big_quiet_step ((go_at_call 123; exact grow_of_eq (HP0.out _))))
     all_goals (refine wpQuiet_nil ?_; intro wg hbwg; obtain ⟨hcwg, hfwg⟩ := bcell hbwg)
     go_wp2
     go_roundw
     case rel => exact ⟨0 + 1, by omega, by go_num, HG.out, bel⟩
     case measure => simp [intOf]; omega
    all_goals (
     have HG := Lib.hid (HNS.out (by rw [HAT.out]; simp; try omega))
     go_upto_region 6 with fail
     refine wp_region_grow (by kernel_rfl) (by kernel_rfl) ?_
     repeat (go_big_quiet_step ((go_at_call 123; exact grow_of_eq (HP0.out _))))
     all_goals (refine wpQuiet_nil ?_; intro wg hbwg; obtain ⟨hcwg, hfwg⟩ := bcell hbwg)
     go_wp2
     go_ret
     exact ⟨ret_b HG.out.symm, bel⟩)
   | succ j =>
    have hjx : j < l.length := by omega
    have d0 := hs'.row0 stC_len hjx rfl
    have HAT := Lib.hid (show S.stepAt l (j + 1) = (S.place l[j + 1].fro && decide (0 ≤ l[j + 1].val) && decide (l[j + 1].val ≤ 1099511627776) && decide (l[j].fro < l[j + 1].fro)) by unfold S.stepAt; rw [hge]; simp only []; rw [List.getElem?_eq_getElem hjx])
    have HP0 := Lib.hid (HPL.out l[j + 1].fro)
    generalize S.place l[j + 1].fro = t0 at *
    generalize l[j + 1] = s at *
    generalize l[j] = p at *
    clear hs' hge
    have hk0 : (0 : Int) < ((j + 1 : Nat) : Int) := by omega
    have e1 : IntKind.i64.wrap (((j + 1 : Nat) : Int) - 1) = (j : Nat) := by rw [IntWalk.i64_in _ (by omega)]; omega
    have hjn : (j : Int) < n := by omega
    have hcs : t0 = false ∨ (t0 = true ∧ s.val < 0) ∨ (t0 = true ∧ ¬ s.val < 0 ∧ 1099511627776 < s.val) ∨ (t0 = true ∧ ¬ s.val < 0 ∧ ¬ 1099511627776 < s.val ∧ s.fro ≤ p.fro) ∨ (t0 = true ∧ ¬ s.val < 0 ∧ ¬ 1099511627776 < s.val ∧ ¬ s.fro ≤ p.fro) := by
     cases t0 <;> simp <;> omega
    rcases hcs with rfl | ⟨rfl, h1⟩ | ⟨rfl, h1, h2⟩ | ⟨rfl, h1, h2, h3⟩ | ⟨rfl, h1, h2, h3⟩
    rotate_right
    ·have HG := Lib.hid (HGO.out (by rw [HAT.out]; simp; omega))
     go_upto_region 6 with fail
     refine wp_region_grow (by kernel_rfl) (by kernel_rfl) ?_
     repeat (go_big_quiet_step ((go_at_call 123; exact grow_of_eq (HP0.out _))))
     all_goals (refine wpQuiet_nil ?_; intro wg hbwg; obtain ⟨hcwg, hfwg⟩ := bcell hbwg)
     go_wp2
     go_roundw
     case rel => exact ⟨j + 1 + 1, by omega, by go_num, HG.out, bel⟩
     case measure => simp [intOf]; omega
    all_goals (
     have HG := Lib.hid (HNS.out (by rw [HAT.out]; simp; try omega))
     go_upto_region 6 with fail
     refine wp_region_grow (by kernel_rfl) (by kernel_rfl) ?_
     repeat (go_big_quiet_step ((go_at_call 123; exact grow_of_eq (HP0.out _))))
     all_goals (refine wpQuiet_nil ?_; intro wg hbwg; obtain ⟨hcwg, hfwg⟩ := bcell hbwg)
     go_wp2
     go_ret
     exact ⟨ret_b HG.out.symm, bel⟩)
  ·have HG := Lib.hid (show S.steps l = true from rng_yes (p := S.stepAt l) (by have := HA.out.len; simp; omega) (fun j hj => HNO.out j (by have := HA.out.len; omega)))
   go_wp2
   go_ret
   exact ⟨ret_b HG.out.symm, bel⟩
theorem dright_any (d : Dm) (B : Nat) (w : World) (hB : B ≤ w.heap.size) (hA : StepsAt w B d.A d.n d.st) (hm : d.name.size ≤ 9223372036854775807) :
 Calls Tryz.prog 159 #[dmV d] w fun e w' => e = .returned (.bool (S.demRight d)) ∧ Below w.heap.size w w' := by
 have HN := Lib.hid (fun w => isname_any d.name w hm)
 have HB := Lib.hid (fun w => bvalid_any d.zone w)
 have HS := Lib.hid (fun (W : World) (hw : B ≤ W.heap.size) (hh : StepsAt W B d.A d.n d.st) => steps_any d.st d.A d.n d.c B W hw hh)
 have HE := Lib.hid (show S.demRight d = (S.isName d.name && S.boxOk d.zone && S.steps d.st) from rfl)
 have HA := Lib.hid hA
 clear hA hm
 unfold dmV
 unfold boxV at HB
 generalize S.isName d.name = t0 at *
 generalize S.boxOk d.zone = t1 at *
 generalize S.steps d.st = t2 at *
 have hcs : t0 = false ∨ (t0 = true ∧ t1 = false) ∨ (t0 = true ∧ t1 = true) := by cases t0 <;> cases t1 <;> simp
 rcases hcs with rfl | ⟨rfl, rfl⟩ | ⟨rfl, rfl⟩
 all_goals (
  go_enter Tryz.func159, Tryz.ntmps159
  go_wp2_with (first
   | (go_at_call 157; (with_reducible refine (HN.out _).mono ?_); rintro e w' ⟨rfl, rfl⟩)
   | (go_at_call 144; (with_reducible refine (HB.out _).mono ?_); rintro e w1 ⟨rfl, hbw1⟩; obtain ⟨hcw1, hfw1⟩ := bcell hbw1; have hzw1_0 : w.heap.size < w1.heap.size := lt_via hbw1 sz)
   | (go_at_call 82; (with_reducible refine (HS.out _ (dsize hB bel) (HA.out.below (Below.mono bel hB))).mono ?_); rintro e w2 ⟨rfl, hbw2⟩; obtain ⟨hcw2, hfw2⟩ := bcell hbw2; have hzw2_0 : w.heap.size < w2.heap.size := lt_via hbw2 sz))
  go_ret
  exact ⟨ret_b (by rw [HE.out]; simp), bel⟩)
def AsksD (w : World) (F : Nat) (fst cap : Array Value) (p : Dm → Bool) : Prop :=
 ∀ (x : Dm) (w' : World), Below w.heap.size w w' → Calls Tryz.prog F (fst.push (dmV x) ++ cap) w' fun e w'' => e = .returned (.bool (p x)) ∧ Below w'.heap.size w' w''
theorem indexfD_any (F : Nat) (fst cap : Array Value) (p : Dm → Bool) (A : Option Addr) (n c : Nat) (xs : List Dm) (B : Nat) (w : World) (hn : xs.length = n) (hm : n ≤ 9223372036854775807) (hB : B ≤ w.heap.size)
 (hs : Cells w B A (xs.flatMap dmC)) (hF : ∀ args w, Sem.run Tryz.prog (callFunc F args) w = .ok (.enter F args) w) (hf : AsksD w F fst cap p) :
 Calls Tryz.prog 219 #[.slice A n c, .func (.func F) fst cap] w fun e w' => e = .returned (.int .i64 (idxf xs p)) ∧ Below w.heap.size w w' := by
 have HN := Lib.hid hn
 clear hn
 go_enter Tryz.func219, Tryz.ntmps219
 go_wp2
 go_loopw [8] (fun i wr => ∃ k : Nat, k ≤ n ∧ i = .int .i64 k ∧ (∀ j (h : j < xs.length), j < k → p xs[j] = false) ∧ Below w.heap.size w wr) (fun i _ => n - (intOf i).toNat)
 case atStart => exact ⟨0, Nat.zero_le _, rfl, fun j _ hj => absurd hj (by omega), Below.refl _ _⟩
 case round =>
  obtain ⟨k, hk, rfl, hno, hbr⟩ := hrel
  have HNO := Lib.hid hno
  clear hno
  by_cases hlt : k < n
  ·have hkx : k < xs.length := by have := HN.out; omega
   have hs' := hs.below (hbr.mono hB)
   obtain ⟨b, o, rfl, _, _⟩ := hs'.at_ (by rw [flat_len dmC 8 dmC_len]; omega)
   have c0 := hs'.row0 dmC_len hkx rfl
   have c1 := hs'.rowj dmC_len hkx 1 rfl
   have c2 := hs'.rowj dmC_len hkx 2 rfl
   have c3 := hs'.rowj dmC_len hkx 3 rfl
   have c4 := hs'.rowj dmC_len hkx 4 rfl
   have c5 := hs'.rowj dmC_len hkx 5 rfl
   have c6 := hs'.rowj dmC_len hkx 6 rfl
   have c7 := hs'.rowj dmC_len hkx 7 rfl
   by_cases hx : p xs[k] = true
   ·go_wp2_with (refine (hf _ _ hbr).mono ?_; rintro e w1 ⟨rfl, hb1⟩)
    go_ret
    exact ⟨ret_i (idxf_hit hkx hx HNO.out).symm, hbr.trans (hb1.mono hbr.size)⟩
   ·have hx' : p xs[k] = false := by simpa using hx
    clear hx
    go_wp2_with (refine (hf _ _ hbr).mono ?_; rintro e w1 ⟨rfl, hb1⟩)
    go_roundw
    case rel =>
     refine ⟨k + 1, by omega, by go_num, fun j hj hjk => ?_, hbr.trans (hb1.mono hbr.size)⟩
     by_cases hjk' : j = k
     ·subst hjk'; exact hx'
     ·exact HNO.out j hj (by omega)
    case measure => simp [intOf]; omega
  ·go_wp2
   go_ret
   exact ⟨ret_i (idxf_miss (fun j hj => HNO.out j hj (by have := HN.out; omega))).symm, hbr⟩
theorem containsfD_any (F : Nat) (fst cap : Array Value) (p : Dm → Bool) (A : Option Addr) (n c : Nat) (xs : List Dm) (B : Nat) (w : World) (hn : xs.length = n) (hm : n ≤ 9223372036854775807) (hB : B ≤ w.heap.size)
 (hs : Cells w B A (xs.flatMap dmC)) (hF : ∀ args w, Sem.run Tryz.prog (callFunc F args) w = .ok (.enter F args) w) (hf : AsksD w F fst cap p) :
 Calls Tryz.prog 160 #[.slice A n c, .func (.func F) fst cap] w fun e w' => e = .returned (.bool (anyb xs p)) ∧ Below w.heap.size w w' := by
 have HN := Lib.hid hn
 have HF := Lib.hid hF
 have he : decide (0 ≤ idxf xs p) = anyb xs p := idxf_ge xs p
 clear hn hF
 go_enter Tryz.func160, Tryz.ntmps160
 go_wp2_with (go_at_call 219; (with_reducible refine (indexfD_any F fst cap p _ _ _ xs B _ HN.out hm hB hs HF.out hf).mono ?_); rintro e w1 ⟨rfl, hbw1⟩; obtain ⟨hcw1, hfw1⟩ := bcell hbw1)
 go_ret
 exact ⟨rfl, bel⟩
theorem dname_any (m : ByteArray) (d : Dm) (g : Nat) (w : World) (hc : w.cell? ⟨g, 0, none⟩ = some (.string m)) (hg : g < w.heap.size) :
 Calls Tryz.prog 161 #[dmV d, .pointer (some ⟨g, 0, none⟩)] w fun e w' => e = .returned (.bool (S.isDem m d)) ∧ Below w.heap.size w w' := by
 unfold dmV
 go_enter Tryz.func161, Tryz.ntmps161
 go_wp2
 go_ret
 exact ⟨rfl, bel⟩
set_option maxHeartbeats 1000000 in
theorem dvalid_any (l : List Dm) (A : Option Addr) (n c : Nat) (B : Nat) (w : World) (hB : B ≤ w.heap.size) (hc : n ≤ c) (hA : DemsAt w B A n l) :
 Calls Tryz.prog 107 #[.slice A n c] w fun e w' => e = .returned (.bool (S.dems l)) ∧ Below w.heap.size w w' := by
 have HA := Lib.hid hA
 have hmx := hA.max
 have hL := hA.len
 clear hA
 by_cases h20 : 20 < n
 ·have HS := Lib.hid (show S.dems l = false from by unfold S.dems; rw [hL]; simp; omega)
  clear hL
  go_enter Tryz.func107, Tryz.ntmps107
  go_wp2
  go_ret
  exact ⟨ret_b HS.out.symm, bel⟩
 clear hL
 go_enter Tryz.func107, Tryz.ntmps107
 go_wp2
 go_loopw [10] (fun i wr => ∃ k : Nat, k ≤ n ∧ i = .int .i64 k ∧ (∀ j, j < k → S.demAt l j = true) ∧ Below w.heap.size w wr) (fun i _ => n - (intOf i).toNat)
 case atStart => exact ⟨0, Nat.zero_le _, rfl, fun j hj => absurd hj (by omega), Below.refl _ _⟩
 case round =>
  obtain ⟨k, hk, rfl, hno, hbr⟩ := hrel
  have HNO := Lib.hid hno
  clear hno
  by_cases hlt : k < n
  ·have hkx : k < l.length := by have := HA.out.len; omega
   have hwr : B ≤ wr.heap.size := by have := hbr.size; omega
   have hA' := HA.out.at_ hB hbr
   have HA' := Lib.hid hA'
   have hs' := hA'.cells
   have HE := Lib.hid (hA'.each l[k] (List.getElem_mem hkx))
   have HM := Lib.hid (hA'.name l[k] (List.getElem_mem hkx))
   obtain ⟨b, o, hAe, hbb, _⟩ := hs'.at_ (by rw [flat_len dmC 8 dmC_len]; omega)
   subst hAe
   have c0 := hs'.row0 dmC_len hkx rfl
   have c1 := hs'.rowj dmC_len hkx 1 rfl
   have c2 := hs'.rowj dmC_len hkx 2 rfl
   have c3 := hs'.rowj dmC_len hkx 3 rfl
   have c4 := hs'.rowj dmC_len hkx 4 rfl
   have c5 := hs'.rowj dmC_len hkx 5 rfl
   have c6 := hs'.rowj dmC_len hkx 6 rfl
   have c7 := hs'.rowj dmC_len hkx 7 rfl
   have HNS := Lib.hid (fun h => show S.dems l = false from rng_no (p := S.demAt l) (k := k) hkx h)
   have HGO := Lib.hid (fun (h : S.demAt l k = true) => show ∀ j, j < k + 1 → S.demAt l j = true from fun j hj => by
    by_cases hjk : j = k
    ·subst hjk; exact h
    ·exact HNO.out j (by omega))
   have HAT := Lib.hid (show S.demAt l k = (S.demRight l[k] && !anyb (l.take k) (S.isDem l[k].name)) by unfold S.demAt; rw [List.getElem?_eq_getElem hkx])
   have HRX := Lib.hid (fun (W : World) (hw : B ≤ W.heap.size) (hh : StepsAt W B l[k].A l[k].n l[k].st) => dright_any l[k] B W hw hh HM.out)
   have HF := Lib.hid Tryz.call161
   have HCX := Lib.hid (fun (W : World) (hw : B ≤ W.heap.size) (hh : Below wr.heap.size wr W) (hcc : W.cell? ⟨wr.heap.size, 0, none⟩ = some (.string l[k].name)) (hgg : wr.heap.size < W.heap.size) =>
    containsfD_any 161 #[] #[.pointer (some ⟨wr.heap.size, 0, none⟩)] (S.isDem l[k].name) (some ⟨b, o, none⟩) k c (l.take k) B W (by simp; omega) (by omega) hw ((HA'.out.cells.below (hh.mono hwr)).upto k) HF.out
     (fun x w' hb => dname_any l[k].name x wr.heap.size w' ((hb.cell (p := ⟨wr.heap.size, 0, none⟩) hgg).trans hcc) (Nat.lt_of_lt_of_le hgg hb.size)))
   have hkc : k ≤ c := by omega
   have hki : (k : Int) < n := by omega
   clear hA' hs'
   unfold dmV at HRX
   generalize anyb (l.take k) (S.isDem l[k].name) = t1 at *
   generalize S.demRight l[k] = t0 at *
   generalize l[k] = d at *
   cases t0
   ·have HG := Lib.hid (HNS.out (by rw [HAT.out]; rfl))
    go_wp2_with (first
     | (go_at_call 159; (with_reducible refine (HRX.out _ (by simp; omega) (HE.out.below ((Below.refl B wr).alloc hwr _))).mono ?_); rintro e w1 ⟨rfl, hbw1⟩; obtain ⟨hcw1, hfw1⟩ := bcell hbw1; have hyw1_0 : wr.heap.size < w1.heap.size := lt_via hbw1 sz))
    go_ret
    exact ⟨ret_b HG.out.symm, bel⟩
   ·cases t1
    ·have HG := Lib.hid (HGO.out (by rw [HAT.out]; rfl))
     go_wp2_with (first
      | (go_at_call 159; (with_reducible refine (HRX.out _ (by simp; omega) (HE.out.below ((Below.refl B wr).alloc hwr _))).mono ?_); rintro e w1 ⟨rfl, hbw1⟩; obtain ⟨hcw1, hfw1⟩ := bcell hbw1; have hyw1_0 : wr.heap.size < w1.heap.size := lt_via hbw1 sz)
      | (go_at_call 160; (with_reducible refine (HCX.out _ (by omega) bel ((hbw1.cell (p := ⟨wr.heap.size, 0, none⟩) (by simp)).trans (by simp)) (by omega)).mono ?_); rintro e w2 ⟨rfl, hbw2⟩; obtain ⟨hcw2, hfw2⟩ := bcell hbw2; have hyw2_0 : wr.heap.size < w2.heap.size := lt_via hbw2 sz))
     go_roundw
     case rel => exact ⟨k + 1, by omega, by go_num, HG.out, bel⟩
     case measure => simp [intOf]; omega
    ·have HG := Lib.hid (HNS.out (by rw [HAT.out]; rfl))
     go_wp2_with (first
      | (go_at_call 159; (with_reducible refine (HRX.out _ (by simp; omega) (HE.out.below ((Below.refl B wr).alloc hwr _))).mono ?_); rintro e w1 ⟨rfl, hbw1⟩; obtain ⟨hcw1, hfw1⟩ := bcell hbw1; have hyw1_0 : wr.heap.size < w1.heap.size := lt_via hbw1 sz)
      | (go_at_call 160; (with_reducible refine (HCX.out _ (by omega) bel ((hbw1.cell (p := ⟨wr.heap.size, 0, none⟩) (by simp)).trans (by simp)) (by omega)).mono ?_); rintro e w2 ⟨rfl, hbw2⟩; obtain ⟨hcw2, hfw2⟩ := bcell hbw2; have hyw2_0 : wr.heap.size < w2.heap.size := lt_via hbw2 sz))
     go_ret
     exact ⟨ret_b HG.out.symm, bel⟩
  ·have HG := Lib.hid (show S.dems l = true from rng_yes (p := S.demAt l) (by have := HA.out.len; simp; omega) (fun j hj => HNO.out j (by have := HA.out.len; omega)))
   go_wp2
   go_ret
   exact ⟨ret_b HG.out.symm, hbr⟩
namespace S
def few (r : Rn) : Int := if 0 < r.count ∧ r.count ≤ 16 then r.count else 0
end S
structure Chn where
 A : Option Addr
 c : Nat
 l : List Int
abbrev chV (r : Chn) : Value := .slice r.A r.l.length r.c
structure ChsAt (w : World) (base : Nat) (v : Value) (rs : List Chn) : Prop where
 own : w.ownsRow base 114 1 v rs.length (rs.map chV)
 each : ∀ r, r ∈ rs → ∃ g, r.A = some ⟨g, 0, none⟩ ∧ base ≤ g ∧ v.ownBlock ≠ some g ∧ w.ownsRow base 3 1 (chV r) r.l.length (i64s r.l)
theorem ChsAt.kept {w w2 : World} {base : Nat} {v : Value} {rs : List Chn} (h : ChsAt w base v rs) (hb : Below w.heap.size w w2) : ChsAt w2 base v rs :=
 ⟨own_kept h.own (fun k hk => hb.block k (h.own.lt k hk).2), fun r hr => by
   obtain ⟨g, h1, h2, h3, h4⟩ := h.each r hr
   exact ⟨g, h1, h2, h3, own_kept h4 (fun k hk => hb.block k (h4.lt k hk).2)⟩⟩
structure DtOk (w : World) (x : Dt) (ds : List Dm) : Prop where
 at_ : DtAt w w.heap.size x
 dems : DemsAt w w.heap.size x.dA x.dn ds
 cap : x.dn ≤ x.dc
end Go.Proofs.YtnmolefblaahmaaGreat
