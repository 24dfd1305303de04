/- Plain words used by all walks of this seat: a slice's cells in memory, and what keeps them. No condition. Contracts: what a name is (decimal and its reference). Sizes of bars, as plain functions (no p -/
import Derived.WalkKit
import Derived.ProofKit
import Derived.Lib.Hide
import Derived.BigQuiet
import Derived.Handy
import Derived.Test.YtnmolefblaahmaaGreatRows
set_option linter.unusedVariables false
set_option linter.unusedSimpArgs false
namespace Go.Proofs.YtnmolefblaahmaaGreat
open Go.RowKit

theorem ret_i {k : IntKind} {a b : Int} (h : a = b) : Ending.returned (.int k a) = .returned (.int k b) := by rw [h]
theorem ret_b {a b : Bool} (h : a = b) : Ending.returned (.bool a) = .returned (.bool b) := by rw [h]

def Cells (w : World) (B : Nat) (A : Option Addr) (cs : List Value) : Prop :=
 cs = [] ∨ ∃ b o, A = some ⟨b, o, none⟩ ∧ b < B ∧ ∀ j v, cs[j]? = some v → w.cell? ⟨b, o + j, none⟩ = some v

theorem Cells.nil {w : World} {B : Nat} {A : Option Addr} : Cells w B A [] := .inl rfl
theorem Cells.at_ {w : World} {B : Nat} {A : Option Addr} {cs : List Value} (h : Cells w B A cs) (hn : 0 < cs.length) :
 ∃ b o, A = some ⟨b, o, none⟩ ∧ b < B ∧ ∀ j v, cs[j]? = some v → w.cell? ⟨b, o + j, none⟩ = some v := by
 rcases h with rfl | h
 ·simp at hn
 ·exact h
theorem Cells.get {w : World} {B b o : Nat} {cs : List Value} (h : Cells w B (some ⟨b, o, none⟩) cs) {k : Nat} {v : Value} (hv : cs[k]? = some v) : w.cell? ⟨b, o + k, none⟩ = some v := by
 rcases h with rfl | ⟨b', o', hA, _, hc⟩
 ·simp at hv
 ·injection hA with hA
  injection hA with h1 h2
  subst h1 h2
  exact hc k v hv
theorem Cells.below {w w' : World} {B : Nat} {A : Option Addr} {cs : List Value} (h : Cells w B A cs) (hb : Below B w w') : Cells w' B A cs := by
 rcases h with h | ⟨b, o, hA, hlt, hc⟩
 ·exact .inl h
 ·exact .inr ⟨b, o, hA, hlt, fun j v hv => (hb.cell (p := ⟨b, o + j, none⟩) hlt).trans (hc j v hv)⟩
theorem Cells.mono {w : World} {B B' : Nat} {A : Option Addr} {cs : List Value} (h : Cells w B A cs) (hB : B ≤ B') : Cells w B' A cs := by
 rcases h with h | ⟨b, o, hA, hlt, hc⟩
 ·exact .inl h
 ·exact .inr ⟨b, o, hA, Nat.lt_of_lt_of_le hlt hB, hc⟩
theorem Cells.alloc {w : World} {B : Nat} {A : Option Addr} {cs : List Value} (h : Cells w B A cs) (hB : B ≤ w.heap.size) (o : Obj) : Cells (w.alloc o) B A cs :=
 h.below ((Below.refl _ _).alloc hB o)
theorem Cells.drew {w : World} {B : Nat} {A : Option Addr} {cs : List Value} (h : Cells w B A cs) : Cells w.drew B A cs := h
theorem Cells.new (w : World) (cs : Array Value) (t : TypeId) (fr : Nat × Nat) : Cells (w.alloc (.cells cs t fr)) (w.heap.size + 1) (some ⟨w.heap.size, 0, none⟩) cs.toList := by
 refine .inr ⟨_, _, rfl, Nat.lt_succ_self _, fun j v hv => ?_⟩
 rw [Nat.zero_add]
 have : (w.alloc (.cells cs t fr)).heap[w.heap.size]? = some (.cells cs t fr) := heap_alloc_new w _
 unfold World.cell?
 rw [this]
 simpa using hv

theorem bcell {W w1 : World} (hb : Below W.heap.size W w1) : (∀ b o, b < W.heap.size → w1.cell? ⟨b, o, none⟩ = W.cell? ⟨b, o, none⟩) ∧ (∀ b o, b < W.heap.size → w1.frozen? ⟨b, o, none⟩ = W.frozen? ⟨b, o, none⟩) :=
 ⟨fun b o h => hb.cell (p := ⟨b, o, none⟩) h, fun b o h => hb.frozen (p := ⟨b, o, none⟩) h⟩

theorem via {B : Nat} {w W w1 : World} (h : Below W.heap.size W w1) (h0 : Below B w W) (hB : B ≤ w.heap.size) : Below B w w1 := h0.trans (h.mono (Nat.le_trans hB h0.size))

theorem lt_via {n : Nat} {W w1 : World} (h : Below W.heap.size W w1) (h0 : n < W.heap.size) : n < w1.heap.size := Nat.lt_of_lt_of_le h0 h.size
theorem ba_alloc {w w1 : World} (h : Below w.heap.size w w1) (o : Obj) : Below w.heap.size w (w1.alloc o) := h.alloc h.size o
theorem ba_drew {w w1 : World} (h : Below w.heap.size w w1) : Below w.heap.size w w1.drew := h.drew
theorem ba_drewN {w w1 : World} (h : Below w.heap.size w w1) (n : Nat) : Below w.heap.size w (w1.drewN n) := ⟨h.os, h.tape, h.output, h.size, h.block⟩
theorem ba_via {w W w1 : World} (h : Below W.heap.size W w1) (h0 : Below w.heap.size w W) : Below w.heap.size w w1 := h0.trans (h.mono h0.size)
theorem ba_set {w w1 : World} (h : Below w.heap.size w w1) {p : Addr} (hp : w.heap.size ≤ p.block) (u : Value) : Below w.heap.size w (w1.setCell p u) := h.setCell hp u

abbrev i64s (xs : List Int) : List Value := xs.map (Value.int .i64)
theorem i64s_get {xs : List Int} {k : Nat} (h : k < xs.length) : (i64s xs)[k]? = some (.int .i64 xs[k]) := by simp [h]

open Classical in
noncomputable def grow (w g : World) : World := if Below w.heap.size w g then g else w
theorem grow_below (w g : World) : Below w.heap.size w (grow w g) := by
 unfold grow
 split
 ·assumption
 ·exact Below.refl _ _
theorem grow_eq {w g : World} (h : Below w.heap.size w g) : grow w g = g := by unfold grow; rw [if_pos h]
@[go_sem] theorem grow_cell (w g : World) (p : Addr) (h : p.block < w.heap.size) : (grow w g).cell? p = w.cell? p := (grow_below w g).cell h
@[go_sem] theorem grow_frozen (w g : World) (p : Addr) (h : p.block < w.heap.size) : (grow w g).frozen? p = w.frozen? p := (grow_below w g).frozen h
theorem wp_region_grow {P : Program} {id : Nat} {Q : Exit → Act → World → Prop} {a : Act} {w : World} {l : List Oper} (hm : P.follows .mixedOrders = true) (hB : Region.lexB .any l.toArray = true)
 (h : wpQuiet P l.toArray (fun w' => ∃ g, w' = grow w g) (fun a' => ∀ w', Below w.heap.size w w' → Q .normal a' w') l a) : (Code.region id l.toArray true).wp P Q a w := by
 refine wp_region_quiet (C := fun w' => ∃ g, w' = grow w g) hm hB ⟨w.drew, (grow_eq (Below.drew (Below.refl _ _))).symm⟩ ?_
 have hl : ∀ (l0 : List Oper) (a0 : Act), wpQuiet P l.toArray (fun w' => ∃ g, w' = grow w g) (fun a' => ∀ w', Below w.heap.size w w' → Q .normal a' w') l0 a0 →
  wpQuiet P l.toArray (fun w' => ∃ g, w' = grow w g) (fun a' => ∀ w', (∃ g, w' = grow w g) → Q .normal a' w') l0 a0 := by
  intro l0
  induction l0 with
  | nil => intro a0 h0 w' ⟨g, hg⟩; exact h0 w' (hg ▸ grow_below w g)
  | cons o rest ih =>
   intro a0 h0
   unfold wpQuiet at h0 ⊢
   split
   ·rename_i hw
    rw [if_pos hw] at h0
    exact Oper.quiet_mono (fun a' => ih a') h0
   ·rename_i hw
    rw [if_neg hw] at h0
    exact ih _ h0
 simpa using hl _ _ h
theorem grow_of {P : Program} {f : FuncId} {args : Array Value} {w g : World} {v : Value}
 (h : Calls P f args (grow w g) fun e w' => e = .returned v ∧ Below (grow w g).heap.size (grow w g) w') : Calls P f args (grow w g) fun e w' => e = .returned v ∧ ∃ g', w' = grow w g' :=
 h.mono fun _ w' ⟨he, hb⟩ => ⟨he, w', (grow_eq (via hb (grow_below w g) (Nat.le_refl _))).symm⟩
theorem grow_of_eq {P : Program} {f : FuncId} {args : Array Value} {w g : World} {v : Value}
 (h : Calls P f args (grow w g) fun e w' => e = .returned v ∧ grow w g = w') : Calls P f args (grow w g) fun e w' => e = .returned v ∧ ∃ g', w' = grow w g' :=
 h.mono fun _ w' ⟨he, hb⟩ => ⟨he, g, hb.symm⟩
theorem bel {B : Nat} {w W : World} (h : Below B w W := by repeat (first | exact Below.refl _ _ | assumption | refine ba_alloc ?_ _ | refine ba_drew ?_ | refine ba_drewN ?_ _ | refine ba_via (by assumption) ?_ | (refine ba_set ?_ ?_ _; rotate_left; (first | omega | (simp; omega) | simp)))) : Below B w W := h
theorem belr {B : Nat} {w W : World} (h : Below B w W := by repeat (with_reducible first | exact Below.refl _ _ | assumption | refine ba_alloc ?_ _ | refine ba_drew ?_ | refine ba_drewN ?_ _ | refine ba_via (by assumption) ?_ | (refine ba_set ?_ ?_ _; rotate_left; (first | omega | (simp; omega) | simp)))) : Below B w W := h
theorem sz {p : Prop} (h : p := by first | omega | (simp; done) | (simp; omega)) : p := h
namespace S
def letter (c : Int) : Bool := decide (97 ≤ c) && decide (c ≤ 122) || decide (65 ≤ c) && decide (c ≤ 90)
def digit (c : Int) : Bool := decide (48 ≤ c) && decide (c ≤ 57)
def wordc (c : Int) : Bool := letter c || digit c || c == 95
def wordl : List UInt8 → Nat
 | [] => 0
 | c :: l => if wordc c.toNat then wordl l + 1 else 0
def isName (s : ByteArray) : Bool := !(s.size == 0) && decide (s.size ≤ 20) && letter ((s.data.toList.headD 0).toNat) && wordl s.data.toList == s.size
end S
theorem letter_any (c : Int) (w : World) (h0 : 0 ≤ c) (h1 : c ≤ 255) : Calls Tryz.prog 214 #[.int .u8 c] w fun e w' => e = .returned (.bool (S.letter c)) ∧ w = w' := by
 have H := Lib.hid (show S.letter c = (decide (97 ≤ c) && decide (c ≤ 122) || decide (65 ≤ c) && decide (c ≤ 90)) from rfl)
 go_enter Tryz.func214, Tryz.ntmps214
 go_wp2
 all_goals (go_ret; exact ⟨ret_b (by rw [H.out, Bool.eq_iff_iff]; simp; omega), rfl⟩)
theorem digit_any (c : Int) (w : World) (h0 : 0 ≤ c) (h1 : c ≤ 255) : Calls Tryz.prog 254 #[.int .u8 c] w fun e w' => e = .returned (.bool (S.digit c)) ∧ w = w' := by
 have H := Lib.hid (show S.digit c = (decide (48 ≤ c) && decide (c ≤ 57)) from rfl)
 go_enter Tryz.func254, Tryz.ntmps254
 go_wp2
 all_goals (go_ret; exact ⟨ret_b (by rw [H.out, Bool.eq_iff_iff]; simp; omega), rfl⟩)
theorem wordl_stop {l : List UInt8} {k : Nat} (h : ∀ j c, j < k → l[j]? = some c → S.wordc c.toNat = true) (hk : k ≤ l.length) (hs : k = l.length ∨ ∃ c, l[k]? = some c ∧ S.wordc c.toNat = false) : S.wordl l = k := by
 induction l generalizing k with
 | nil => simp at hk; subst hk; rfl
 | cons x l ih =>
  cases k with
  | zero =>
   rcases hs with hs | ⟨c, hc, hf⟩
   ·simp at hs
   ·simp at hc; subst hc; simp [S.wordl, hf]
  | succ k =>
   have hx := h 0 x (by omega) rfl
   have := ih (k := k) (fun j c hj hc => h (j + 1) c (by omega) (by simpa using hc)) (by simpa using hk) (by simpa using hs)
   simp [S.wordl, hx, this]
theorem byte_bd (c : UInt8) : (0 : Int) ≤ (c.toNat : Int) ∧ (c.toNat : Int) ≤ 255 := by have := c.toNat_lt; omega
theorem wordl_more {l : List UInt8} {k : Nat} {c : UInt8} (h : ∀ j c, j < k → l[j]? = some c → S.wordc c.toNat = true) (hc : l[k]? = some c) (hw : S.wordc c.toNat = true) :
 ∀ j c, j < k + 1 → l[j]? = some c → S.wordc c.toNat = true := fun j c' hj hc' => by
 by_cases hjk : j = k
 ·subst hjk
  rw [hc] at hc'
  injection hc' with hc'
  exact hc' ▸ hw
 ·exact h j c' (by omega) hc'
set_option maxHeartbeats 1000000 in
theorem word_any (s : ByteArray) (w : World) (hs : s.size ≤ 9223372036854775807) : Calls Tryz.prog 215 #[.string s] w fun e w' => e = .returned (.int .i64 (S.wordl s.data.toList : Nat)) ∧ w = w' := by
 go_enter Tryz.func215, Tryz.ntmps215
 go_wp2
 go_loop [3] (fun i => ∃ k : Nat, k ≤ s.size ∧ i = .int .i64 k ∧ Hid (∀ j c, j < k → s.data.toList[j]? = some c → S.wordc c.toNat = true)) (fun i => s.size - (intOf i).toNat)
 case atStart => exact ⟨0, Nat.zero_le _, rfl, Lib.hid fun j c hj => absurd hj (by omega)⟩
 case round =>
  obtain ⟨k, hk, rfl, HNO⟩ := hrel
  by_cases hlt : k < s.size
  ·have hb := byte_bd s[k]
   have hget : s.data.toList[k]? = some s[k] := by simp [hlt]; rfl
   have HG := Lib.hid hget
   clear hget
   cases hl : S.letter s[k].toNat <;> cases hd : S.digit s[k].toNat <;> cases hu : ((s[k].toNat : Int) == 95)
   all_goals
    go_wp2_with (first
     | (go_at_call 214; (with_reducible refine (letter_any _ _ hb.1 hb.2).mono ?_); rintro e w' ⟨rfl, rfl⟩)
     | (go_at_call 254; (with_reducible refine (digit_any _ _ hb.1 hb.2).mono ?_); rintro e w' ⟨rfl, rfl⟩))
    first
     | (go_ret
        exact ⟨ret_i (by rw [wordl_stop (k := k) HNO.out (by simp; omega) (.inr ⟨_, HG.out, by simp [S.wordc, hl, hd, hu]⟩)]), rfl⟩)
     | (go_round
        case rel => exact ⟨k + 1, by omega, by go_num, Lib.hid (wordl_more HNO.out HG.out (by simp [S.wordc, hl, hd, hu]))⟩
        case measure => simp [intOf]; omega)
  ·go_wp2
   go_ret
   exact ⟨ret_i (by rw [wordl_stop (k := k) HNO.out (by simp; omega) (.inl (by simp; omega))]), rfl⟩
theorem wordl_le (l : List UInt8) : S.wordl l ≤ l.length := by
 induction l with
 | nil => simp [S.wordl]
 | cons c l ih => unfold S.wordl; split <;> simp <;> omega
set_option maxHeartbeats 1000000 in
theorem isname_any (s : ByteArray) (w : World) (hs : s.size ≤ 9223372036854775807) : Calls Tryz.prog 157 #[.string s] w fun e w' => e = .returned (.bool (S.isName s)) ∧ w = w' := by
 have H := Lib.hid (show S.isName s = (!(s.size == 0) && decide (s.size ≤ 20) && S.letter ((s.data.toList.headD 0).toNat) && S.wordl s.data.toList == s.size) from rfl)
 have hwl := wordl_le s.data.toList
 rw [show s.data.toList.length = s.size from rfl] at hwl
 by_cases h0 : s.size = 0
 ·have he : s.toList = [] := by rw [Go.ByteArray.toList_eq]; exact List.eq_nil_of_length_eq_zero h0
  have he2 : s.toList.isEmpty = true := by rw [he]; rfl
  have hz : ((s.size : Int) == 0) = true := beq_iff_eq.2 (by omega)
  have H0 := Lib.hid h0
  clear h0
  go_enter Tryz.func157, Tryz.ntmps157
  go_wp2
  go_ret
  exact ⟨ret_b (by rw [H.out, H0.out]; simp), rfl⟩
 ·have hlt : 0 < s.size := by omega
  have he2 : s.toList.isEmpty = false := by
   rw [Go.ByteArray.toList_eq]
   cases hl : s.data.toList with
   | nil => exact absurd (congrArg List.length hl) h0
   | cons x l => rfl
  have hz : ((s.size : Int) == 0) = false := beq_eq_false_iff_ne.2 (by omega)
  have hb := byte_bd s[0]
  have hh : s.data.toList.headD 0 = s[0] := by
   have hg : s.data.toList[0]? = some s[0] := by simp [hlt]; rfl
   cases hl : s.data.toList with
   | nil => rw [hl] at hg; simp at hg
   | cons x l => rw [hl] at hg; simp at hg; simpa using hg
  have HH := Lib.hid hh
  have H0 := Lib.hid h0
  clear h0 hh
  by_cases h20 : s.size ≤ 20
  ·have h20' : decide ((s.size : Int) ≤ 20) = true := by simp; omega
   have h20'' : decide ((20 : Int) < s.size) = false := by simp; omega
   cases hl : S.letter s[0].toNat
   ·go_enter Tryz.func157, Tryz.ntmps157
    go_wp2_with (go_at_call 214; (with_reducible refine (letter_any _ _ hb.1 hb.2).mono ?_); rintro e w' ⟨rfl, rfl⟩)
    go_ret
    exact ⟨ret_b (by rw [H.out, HH.out, hl]; simp), rfl⟩
   ·cases hw : (S.wordl s.data.toList == s.size)
    ·have hw2 : (((S.wordl s.data.toList : Nat) : Int) == (s.size : Int)) = false := by simp at hw ⊢; omega
     go_enter Tryz.func157, Tryz.ntmps157
     go_wp2_with (first
      | (go_at_call 214; (with_reducible refine (letter_any _ _ hb.1 hb.2).mono ?_); rintro e w' ⟨rfl, rfl⟩)
      | (go_at_call 215; (with_reducible refine (word_any s _ hs).mono ?_); rintro e w' ⟨rfl, rfl⟩))
     go_ret
     exact ⟨ret_b (by rw [H.out, HH.out, hl, hw]; simp), rfl⟩
    ·have hw2 : (((S.wordl s.data.toList : Nat) : Int) == (s.size : Int)) = true := by simp at hw ⊢; omega
     go_enter Tryz.func157, Tryz.ntmps157
     go_wp2_with (first
      | (go_at_call 214; (with_reducible refine (letter_any _ _ hb.1 hb.2).mono ?_); rintro e w' ⟨rfl, rfl⟩)
      | (go_at_call 215; (with_reducible refine (word_any s _ hs).mono ?_); rintro e w' ⟨rfl, rfl⟩))
     go_ret
     exact ⟨ret_b (by rw [H.out, HH.out, hl, hw]; simp [H0.out, h20]), rfl⟩
  ·have h20' : decide ((s.size : Int) ≤ 20) = false := by simp; omega
   have h20'' : decide ((20 : Int) < s.size) = true := by simp; omega
   go_enter Tryz.func157, Tryz.ntmps157
   go_wp2
   go_ret
   exact ⟨ret_b (by rw [H.out]; simp [h20]), rfl⟩
end Go.Proofs.YtnmolefblaahmaaGreat
namespace Go.Proofs.YtnmolefblaahmaaGreat
namespace S
def sizes : List Int := [6, 8, 10, 12, 16, 20, 25, 32, 40]
def has (xs : List Int) (x : Int) : Bool := xs.contains x
def size (d : Int) : Bool := has sizes d
end S
end Go.Proofs.YtnmolefblaahmaaGreat
