/- Lemmas. -/
import Derived.WalkKit
import Derived.ProofKit
import Derived.Lib.Hide
import Derived.BigQuiet
import Derived.Handy
import Derived.Test.YtmfpbafpnoomeaaGreatRows
set_option linter.unusedVariables false
set_option linter.unusedSimpArgs false
namespace Go.Proofs.YtmfpbafpnoomeaaGreat
open Go.RowKit

theorem ret_i {k : IntKind} {a b : Int} (h : a = b) : Ending.returned (.int k a) = .returned (.int k b) := by rw [h]
theorem ret_b {a b : Bool} (h : a = b) : Ending.returned (.bool a) = .returned (.bool b) := by rw [h]

def Cells (w : World) (B : Nat) (A : Option Addr) (cs : List Value) : Prop :=
 cs = [] ∨ ∃ b o, A = some ⟨b, o, none⟩ /\ b < B /\ ∀ j v, cs[j]? = some v -> w.cell? ⟨b, o + j, none⟩ = some v

theorem Cells.nil {w : World} {B : Nat} {A : Option Addr} : Cells w B A [] := .inl rfl
theorem Cells.at_ {w : World} {B : Nat} {A : Option Addr} {cs : List Value} (h : Cells w B A cs) (hn : 0 < cs.length) :
 ∃ b o, A = some ⟨b, o, none⟩ /\ b < B /\ ∀ j v, cs[j]? = some v -> w.cell? ⟨b, o + j, none⟩ = some v := by
 rcases h with rfl | h
 ·simp at hn
 ·exact h
theorem Cells.get {w : World} {B b o : Nat} {cs : List Value} (h : Cells w B (some ⟨b, o, none⟩) cs) {k : Nat} {v : Value} (hv : cs[k]? = some v) : w.cell? ⟨b, o + k, none⟩ = some v := by
 rcases h with rfl | ⟨b', o', hA, _, hc⟩
 ·simp at hv
 ·injection hA with hA
  injection hA with h1 h2
  subst h1 h2
  exact hc k v hv
theorem Cells.below {w w' : World} {B : Nat} {A : Option Addr} {cs : List Value} (h : Cells w B A cs) (hb : Below B w w') : Cells w' B A cs := by
 rcases h with h | ⟨b, o, hA, hlt, hc⟩
 ·exact .inl h
 ·exact .inr ⟨b, o, hA, hlt, fun j v hv => (hb.cell (p := ⟨b, o + j, none⟩) hlt).trans (hc j v hv)⟩
theorem Cells.mono {w : World} {B B' : Nat} {A : Option Addr} {cs : List Value} (h : Cells w B A cs) (hB : B <= B') : Cells w B' A cs := by
 rcases h with h | ⟨b, o, hA, hlt, hc⟩
 ·exact .inl h
 ·exact .inr ⟨b, o, hA, Nat.lt_of_lt_of_le hlt hB, hc⟩
theorem Cells.alloc {w : World} {B : Nat} {A : Option Addr} {cs : List Value} (h : Cells w B A cs) (hB : B <= w.heap.size) (o : Obj) : Cells (w.alloc o) B A cs :=
 h.below ((Below.refl _ _).alloc hB o)
theorem Cells.drew {w : World} {B : Nat} {A : Option Addr} {cs : List Value} (h : Cells w B A cs) : Cells w.drew B A cs := h
theorem Cells.new (w : World) (cs : Array Value) (t : TypeId) (fr : Nat × Nat) : Cells (w.alloc (.cells cs t fr)) (w.heap.size + 1) (some ⟨w.heap.size, 0, none⟩) cs.toList := by
 refine .inr ⟨_, _, rfl, Nat.lt_succ_self _, fun j v hv => ?_⟩
 rw [Nat.zero_add]
 have : (w.alloc (.cells cs t fr)).heap[w.heap.size]? = some (.cells cs t fr) := heap_alloc_new w _
 unfold World.cell?
 rw [this]
 simpa using hv

theorem bcell {W w1 : World} (hb : Below W.heap.size W w1) : (∀ b o, b < W.heap.size -> w1.cell? ⟨b, o, none⟩ = W.cell? ⟨b, o, none⟩) /\ (∀ b o, b < W.heap.size -> w1.frozen? ⟨b, o, none⟩ = W.frozen? ⟨b, o, none⟩) :=
 ⟨fun b o h => hb.cell (p := ⟨b, o, none⟩) h, fun b o h => hb.frozen (p := ⟨b, o, none⟩) h⟩

theorem via {B : Nat} {w W w1 : World} (h : Below W.heap.size W w1) (h0 : Below B w W) (hB : B <= w.heap.size) : Below B w w1 := h0.trans (h.mono (Nat.le_trans hB h0.size))

theorem lt_via {n : Nat} {W w1 : World} (h : Below W.heap.size W w1) (h0 : n < W.heap.size) : n < w1.heap.size := Nat.lt_of_lt_of_le h0 h.size
theorem ba_alloc {w w1 : World} (h : Below w.heap.size w w1) (o : Obj) : Below w.heap.size w (w1.alloc o) := h.alloc h.size o
theorem ba_drew {w w1 : World} (h : Below w.heap.size w w1) : Below w.heap.size w w1.drew := h.drew
theorem ba_drewN {w w1 : World} (h : Below w.heap.size w w1) (n : Nat) : Below w.heap.size w (w1.drewN n) := ⟨h.os, h.tape, h.output, h.size, h.block⟩
theorem ba_via {w W w1 : World} (h : Below W.heap.size W w1) (h0 : Below w.heap.size w W) : Below w.heap.size w w1 := h0.trans (h.mono h0.size)
theorem ba_set {w w1 : World} (h : Below w.heap.size w w1) {p : Addr} (hp : w.heap.size <= p.block) (u : Value) : Below w.heap.size w (w1.setCell p u) := h.setCell hp u

abbrev i64s (xs : List Int) : List Value := xs.map (Value.int .i64)
theorem i64s_get {xs : List Int} {k : Nat} (h : k < xs.length) : (i64s xs)[k]? = some (.int .i64 xs[k]) := by simp [h]

open Classical in
noncomputable def grow (w g : World) : World := if Below w.heap.size w g then g else w
theorem grow_below (w g : World) : Below w.heap.size w (grow w g) := by
 unfold grow
 split
 ·assumption
 ·exact Below.refl _ _
theorem grow_eq {w g : World} (h : Below w.heap.size w g) : grow w g = g := by unfold grow; rw [if_pos h]
@[go_sem] theorem grow_cell (w g : World) (p : Addr) (h : p.block < w.heap.size) : (grow w g).cell? p = w.cell? p := (grow_below w g).cell h
@[go_sem] theorem grow_frozen (w g : World) (p : Addr) (h : p.block < w.heap.size) : (grow w g).frozen? p = w.frozen? p := (grow_below w g).frozen h
theorem wp_region_grow {P : Program} {id : Nat} {Q : Exit -> Act -> World -> Prop} {a : Act} {w : World} {l : List Oper} (hm : P.follows .mixedOrders = true) (hB : Region.lexB .any l.toArray = true)
 (h : wpQuiet P l.toArray (fun w' => ∃ g, w' = grow w g) (fun a' => ∀ w', Below w.heap.size w w' -> Q .normal a' w') l a) : (Code.region id l.toArray true).wp P Q a w := by
 refine wp_region_quiet (C := fun w' => ∃ g, w' = grow w g) hm hB ⟨w.drew, (grow_eq (Below.drew (Below.refl _ _))).symm⟩ ?_
 have hl : ∀ (l0 : List Oper) (a0 : Act), wpQuiet P l.toArray (fun w' => ∃ g, w' = grow w g) (fun a' => ∀ w', Below w.heap.size w w' -> Q .normal a' w') l0 a0 ->
  wpQuiet P l.toArray (fun w' => ∃ g, w' = grow w g) (fun a' => ∀ w', (∃ g, w' = grow w g) -> Q .normal a' w') l0 a0 := by
  intro l0
  induction l0 with
  | nil => intro a0 h0 w' ⟨g, hg⟩; exact h0 w' (hg ▸ grow_below w g)
  | cons o rest ih =>
   intro a0 h0
   unfold wpQuiet at h0 ⊢
   split
   ·rename_i hw
    rw [if_pos hw] at h0
    exact Oper.quiet_mono (fun a' => ih a') h0
   ·rename_i hw
    rw [if_neg hw] at h0
    exact ih _ h0
 simpa using hl _ _ h
theorem grow_of {P : Program} {f : FuncId} {args : Array Value} {w g : World} {v : Value}
 (h : Calls P f args (grow w g) fun e w' => e = .returned v /\ Below (grow w g).heap.size (grow w g) w') : Calls P f args (grow w g) fun e w' => e = .returned v /\ ∃ g', w' = grow w g' :=
 h.mono fun _ w' ⟨he, hb⟩ => ⟨he, w', (grow_eq (via hb (grow_below w g) (Nat.le_refl _))).symm⟩
theorem grow_of_eq {P : Program} {f : FuncId} {args : Array Value} {w g : World} {v : Value}
 (h : Calls P f args (grow w g) fun e w' => e = .returned v /\ grow w g = w') : Calls P f args (grow w g) fun e w' => e = .returned v /\ ∃ g', w' = grow w g' :=
 h.mono fun _ w' ⟨he, hb⟩ => ⟨he, g, hb.symm⟩
theorem bel {B : Nat} {w W : World} (h : Below B w W := by repeat (first | exact Below.refl _ _ | assumption | refine ba_alloc ?_ _ | refine ba_drew ?_ | refine ba_drewN ?_ _ | refine ba_via (by assumption) ?_ | (refine ba_set ?_ ?_ _; rotate_left; (first | omega | (simp; omega) | simp)))) : Below B w W := h
theorem belr {B : Nat} {w W : World} (h : Below B w W := by repeat (with_reducible first | exact Below.refl _ _ | assumption | refine ba_alloc ?_ _ | refine ba_drew ?_ | refine ba_drewN ?_ _ | refine ba_via (by assumption) ?_ | (refine ba_set ?_ ?_ _; rotate_left; (first | omega | (simp; omega) | simp)))) : Below B w W := h
theorem sz {p : Prop} (h : p := by first | omega | (simp; done) | (simp; omega)) : p := h
theorem lh {p : Prop} (h : p) : Hid p := Lib.hid h
theorem ga1 {α : Type} {xs : List α} {i : Nat} : xs.toArray[i]? = xs[i]? := List.getElem?_toArray
theorem ga2 {α : Type} {a : α} {l : List α} : (a :: l)[0]? = some a := rfl
theorem ga3 {α : Type} {a : α} {l : List α} {i : Nat} : (a :: l)[i + 1]? = l[i]? := rfl
theorem gt1 {α : Type} {i : Nat} {a : α} {l : List α} : (a :: l).take (i + 1) = a :: l.take i := rfl
theorem gt2 {α : Type} {l : List α} : l.take 0 = [] := rfl
theorem gt3 {α : Type} {i : Nat} {a : α} {l : List α} : (a :: l).drop (i + 1) = l.drop i := rfl
theorem gt4 {α : Type} {l : List α} : l.drop 0 = l := rfl
theorem vint {k : IntKind} {a b : Int} (h : a = b) : Value.int k a = Value.int k b := by rw [h]
theorem ret_2 {k j : IntKind} {a b c d : Int} (h : a = b) (h' : c = d) : Ending.returned (.tuple #[.int k a, .int j c]) = .returned (.tuple #[.int k b, .int j d]) := by rw [h, h']
theorem flat_len {α β : Type} (enc : α -> List β) (m : Nat) (h : ∀ a, (enc a).length = m) (l : List α) : (l.flatMap enc).length = l.length * m := by
 induction l with
 | nil => simp
 | cons a l ih => simp [List.flatMap_cons, h, ih, Nat.add_mul, Nat.add_comm]
theorem flat_get {α β : Type} (enc : α -> List β) (m : Nat) (h : ∀ a, (enc a).length = m) (l : List α) (k : Nat) (hk : k < l.length) (j : Nat) (hj : j < m) :
 (l.flatMap enc)[k * m + j]? = (enc l[k])[j]? := by
 induction l generalizing k with
 | nil => simp at hk
 | cons a l ih =>
  rw [List.flatMap_cons]
  cases k with
  | zero =>
   rw [Nat.zero_mul, Nat.zero_add, List.getElem?_append_left (by rw [h]; exact hj)]
   rfl
  | succ k =>
   have e : (k + 1) * m + j = m + (k * m + j) := by rw [Nat.add_mul, Nat.one_mul]; omega
   rw [e, List.getElem?_append_right (by rw [h]; omega), h, Nat.add_sub_cancel_left]
   have := ih k (by simpa using hk)
   simpa using this
theorem Cells.newRow (w : World) (cs : Array Value) (t : TypeId) (fr : Nat × Nat) : Cells (w.alloc (.cells cs t fr)) (w.alloc (.cells cs t fr)).heap.size (some ⟨w.heap.size, 0, none⟩) cs.toList := by
 have := Cells.new w cs t fr
 rwa [show w.heap.size + 1 = (w.alloc (.cells cs t fr)).heap.size by simp] at this
theorem Cells.row {α : Type} {w : World} {B b o : Nat} {enc : α -> List Value} {m : Nat} {l : List α} (h : Cells w B (some ⟨b, o, none⟩) (l.flatMap enc)) (hm : ∀ a, (enc a).length = m) {k : Nat} (hk : k < l.length)
 {j : Nat} {v : Value} (hv : (enc l[k])[j]? = some v) : w.cell? ⟨b, o + (k * m + j), none⟩ = some v := by
 have hj : j < m := by
  rcases Nat.lt_or_ge j m with h1 | h1
  ·exact h1
  ·rw [List.getElem?_eq_none (by rw [hm]; exact h1)] at hv; cases hv
 exact h.get (by rw [flat_get enc m hm l k hk j hj]; exact hv)
theorem Cells.row0 {α : Type} {w : World} {B b o : Nat} {enc : α -> List Value} {m : Nat} {l : List α} (h : Cells w B (some ⟨b, o, none⟩) (l.flatMap enc)) (hm : ∀ a, (enc a).length = m) {k : Nat} (hk : k < l.length)
 {v : Value} (hv : (enc l[k])[0]? = some v) : w.cell? ⟨b, o + k * m, none⟩ = some v := h.row hm hk hv
theorem Cells.rowj {α : Type} {w : World} {B b o : Nat} {enc : α -> List Value} {m : Nat} {l : List α} (h : Cells w B (some ⟨b, o, none⟩) (l.flatMap enc)) (hm : ∀ a, (enc a).length = m) {k : Nat} (hk : k < l.length)
 (j : Nat) {v : Value} (hv : (enc l[k])[j]? = some v) : w.cell? ⟨b, o + k * m + j, none⟩ = some v := by
 have := h.row hm hk hv
 rwa [<- Nat.add_assoc] at this
namespace S
def letter (c : Int) : Bool := decide (97 <= c) && decide (c <= 122) || decide (65 <= c) && decide (c <= 90)
def digit (c : Int) : Bool := decide (48 <= c) && decide (c <= 57)
def wordc (c : Int) : Bool := letter c || digit c || c == 95
def wordl : List UInt8 -> Nat
 | [] => 0
 | c :: l => if wordc c.toNat then wordl l + 1 else 0
def isName (s : ByteArray) : Bool := !(s.size == 0) && decide (s.size <= 20) && letter ((s.data.toList.headD 0).toNat) && wordl s.data.toList == s.size
end S
theorem letter_any (c : Int) (w : World) (h0 : 0 <= c) (h1 : c <= 255) : Calls Tryz.prog 132 #[.int .u8 c] w fun e w' => e = .returned (.bool (S.letter c)) /\ w = w' := by
 have H := lh (show S.letter c = (decide (97 <= c) && decide (c <= 122) || decide (65 <= c) && decide (c <= 90)) from rfl)
 go_enter Tryz.func132, Tryz.ntmps132
 go_wp2
 all_goals (go_ret; exact ⟨ret_b (by rw [H.out, Bool.eq_iff_iff]; simp; omega), rfl⟩)
theorem digit_any (c : Int) (w : World) (h0 : 0 <= c) (h1 : c <= 255) : Calls Tryz.prog 185 #[.int .u8 c] w fun e w' => e = .returned (.bool (S.digit c)) /\ w = w' := by
 have H := lh (show S.digit c = (decide (48 <= c) && decide (c <= 57)) from rfl)
 go_enter Tryz.func185, Tryz.ntmps185
 go_wp2
 all_goals (go_ret; exact ⟨ret_b (by rw [H.out, Bool.eq_iff_iff]; simp; omega), rfl⟩)
theorem wordl_stop {l : List UInt8} {k : Nat} (h : ∀ j c, j < k -> l[j]? = some c -> S.wordc c.toNat = true) (hk : k <= l.length) (hs : k = l.length ∨ ∃ c, l[k]? = some c /\ S.wordc c.toNat = false) : S.wordl l = k := by
 induction l generalizing k with
 | nil => simp at hk; subst hk; rfl
 | cons x l ih =>
  cases k with
  | zero =>
   rcases hs with hs | ⟨c, hc, hf⟩
   ·simp at hs
   ·simp at hc; subst hc; simp [S.wordl, hf]
  | succ k =>
   have hx := h 0 x (by omega) rfl
   have := ih (k := k) (fun j c hj hc => h (j + 1) c (by omega) (by simpa using hc)) (by simpa using hk) (by simpa using hs)
   simp [S.wordl, hx, this]
theorem byte_bd (c : UInt8) : (0 : Int) <= (c.toNat : Int) /\ (c.toNat : Int) <= 255 := by have := c.toNat_lt; omega
theorem wordl_more {l : List UInt8} {k : Nat} {c : UInt8} (h : ∀ j c, j < k -> l[j]? = some c -> S.wordc c.toNat = true) (hc : l[k]? = some c) (hw : S.wordc c.toNat = true) :
 ∀ j c, j < k + 1 -> l[j]? = some c -> S.wordc c.toNat = true := fun j c' hj hc' => by
 by_cases hjk : j = k
 ·subst hjk
  rw [hc] at hc'
  injection hc' with hc'
  exact hc' ▸ hw
 ·exact h j c' (by omega) hc'
set_option maxHeartbeats 1000000 in
theorem word_any (s : ByteArray) (w : World) (hs : s.size <= 9223372036854775807) : Calls Tryz.prog 133 #[.string s] w fun e w' => e = .returned (.int .i64 (S.wordl s.data.toList : Nat)) /\ w = w' := by
 go_enter Tryz.func133, Tryz.ntmps133
 go_wp2
 go_loop [3] (fun i => ∃ k : Nat, k <= s.size /\ i = .int .i64 k /\ Hid (∀ j c, j < k -> s.data.toList[j]? = some c -> S.wordc c.toNat = true)) (fun i => s.size - (intOf i).toNat)
 case atStart => exact ⟨0, Nat.zero_le _, rfl, lh fun j c hj => absurd hj (by omega)⟩
 case round =>
  obtain ⟨k, hk, rfl, HNO⟩ := hrel
  by_cases hlt : k < s.size
  ·have hb := byte_bd s[k]
   have hget : s.data.toList[k]? = some s[k] := by simp [hlt]; rfl
   have HG := lh hget
   clear hget
   cases hl : S.letter s[k].toNat <;> cases hd : S.digit s[k].toNat <;> cases hu : ((s[k].toNat : Int) == 95)
   all_goals
    go_wp2_with (first
     | (go_at_call 132; (with_reducible refine (letter_any _ _ hb.1 hb.2).mono ?_); rintro e w' ⟨rfl, rfl⟩)
     | (go_at_call 185; (with_reducible refine (digit_any _ _ hb.1 hb.2).mono ?_); rintro e w' ⟨rfl, rfl⟩))
    first
     | (go_ret
        exact ⟨ret_i (by rw [wordl_stop (k := k) HNO.out (by simp; omega) (.inr ⟨_, HG.out, by simp [S.wordc, hl, hd, hu]⟩)]), rfl⟩)
     | (go_round
        case rel => exact ⟨k + 1, by omega, by go_num, lh (wordl_more HNO.out HG.out (by simp [S.wordc, hl, hd, hu]))⟩
        case measure => simp [intOf]; omega)
  ·go_wp2
   go_ret
   exact ⟨ret_i (by rw [wordl_stop (k := k) HNO.out (by simp; omega) (.inl (by simp; omega))]), rfl⟩
theorem wordl_le (l : List UInt8) : S.wordl l <= l.length := by
 induction l with
 | nil => simp [S.wordl]
 | cons c l ih => unfold S.wordl; split <;> simp <;> omega
set_option maxHeartbeats 1000000 in
theorem isname_any (s : ByteArray) (w : World) (hs : s.size <= 9223372036854775807) : Calls Tryz.prog 93 #[.string s] w fun e w' => e = .returned (.bool (S.isName s)) /\ w = w' := by
 have H := lh (show S.isName s = (!(s.size == 0) && decide (s.size <= 20) && S.letter ((s.data.toList.headD 0).toNat) && S.wordl s.data.toList == s.size) from rfl)
 have hwl := wordl_le s.data.toList
 rw [show s.data.toList.length = s.size from rfl] at hwl
 by_cases h0 : s.size = 0
 ·have he : s.toList = [] := by rw [Go.ByteArray.toList_eq]; exact List.eq_nil_of_length_eq_zero h0
  have he2 : s.toList.isEmpty = true := by rw [he]; rfl
  have hz : ((s.size : Int) == 0) = true := beq_iff_eq.2 (by omega)
  have H0 := lh h0
  clear h0
  go_enter Tryz.func93, Tryz.ntmps93
  go_wp2
  go_ret
  exact ⟨ret_b (by rw [H.out, H0.out]; simp), rfl⟩
 ·have hlt : 0 < s.size := by omega
  have he2 : s.toList.isEmpty = false := by
   rw [Go.ByteArray.toList_eq]
   cases hl : s.data.toList with
   | nil => exact absurd (congrArg List.length hl) h0
   | cons x l => rfl
  have hz : ((s.size : Int) == 0) = false := beq_eq_false_iff_ne.2 (by omega)
  have hb := byte_bd s[0]
  have hh : s.data.toList.headD 0 = s[0] := by
   have hg : s.data.toList[0]? = some s[0] := by simp [hlt]; rfl
   cases hl : s.data.toList with
   | nil => rw [hl] at hg; simp at hg
   | cons x l => rw [hl] at hg; simp at hg; simpa using hg
  have HH := lh hh
  have H0 := lh h0
  clear h0 hh
  by_cases h20 : s.size <= 20
  ·have h20' : decide ((s.size : Int) <= 20) = true := by simp; omega
   have h20'' : decide ((20 : Int) < s.size) = false := by simp; omega
   cases hl : S.letter s[0].toNat
   ·go_enter Tryz.func93, Tryz.ntmps93
    go_wp2_with (go_at_call 132; (with_reducible refine (letter_any _ _ hb.1 hb.2).mono ?_); rintro e w' ⟨rfl, rfl⟩)
    go_ret
    exact ⟨ret_b (by rw [H.out, HH.out, hl]; simp), rfl⟩
   ·cases hw : (S.wordl s.data.toList == s.size)
    ·have hw2 : (((S.wordl s.data.toList : Nat) : Int) == (s.size : Int)) = false := by simp at hw ⊢; omega
     go_enter Tryz.func93, Tryz.ntmps93
     go_wp2_with (first
      | (go_at_call 132; (with_reducible refine (letter_any _ _ hb.1 hb.2).mono ?_); rintro e w' ⟨rfl, rfl⟩)
      | (go_at_call 133; (with_reducible refine (word_any s _ hs).mono ?_); rintro e w' ⟨rfl, rfl⟩))
     go_ret
     exact ⟨ret_b (by rw [H.out, HH.out, hl, hw]; simp), rfl⟩
    ·have hw2 : (((S.wordl s.data.toList : Nat) : Int) == (s.size : Int)) = true := by simp at hw ⊢; omega
     go_enter Tryz.func93, Tryz.ntmps93
     go_wp2_with (first
      | (go_at_call 132; (with_reducible refine (letter_any _ _ hb.1 hb.2).mono ?_); rintro e w' ⟨rfl, rfl⟩)
      | (go_at_call 133; (with_reducible refine (word_any s _ hs).mono ?_); rintro e w' ⟨rfl, rfl⟩))
     go_ret
     exact ⟨ret_b (by rw [H.out, HH.out, hl, hw]; simp [H0.out, h20]), rfl⟩
  ·have h20' : decide ((s.size : Int) <= 20) = false := by simp; omega
   have h20'' : decide ((20 : Int) < s.size) = true := by simp; omega
   go_enter Tryz.func93, Tryz.ntmps93
   go_wp2
   go_ret
   exact ⟨ret_b (by rw [H.out]; simp [h20]), rfl⟩
end Go.Proofs.YtmfpbafpnoomeaaGreat
namespace Go.Proofs.YtmfpbafpnoomeaaGreat
namespace S
def sizes : List Int := [6, 8, 10, 12, 16, 20, 25, 32, 40]
def has (xs : List Int) (x : Int) : Bool := xs.contains x
def size (d : Int) : Bool := has sizes d
end S
theorem has_of {xs : List Int} {x : Int} {k : Nat} (hk : k < xs.length) (h : xs[k] = x) : S.has xs x = true := by
 have : x ∈ xs := h ▸ List.getElem_mem hk
 simp [S.has, this]
theorem has_not {xs : List Int} {x : Int} (h : ∀ j, j < xs.length -> xs[j]? ≠ some x) : S.has xs x = false := by
 have : x ∉ xs := fun hx => by
  obtain ⟨j, hj, rfl⟩ := List.mem_iff_getElem.1 hx
  exact h j hj (List.getElem?_eq_getElem hj)
 simp [S.has, this]
theorem size_bd {d : Int} (h : S.size d = true) : 6 <= d /\ d <= 40 := by
 simp [S.size, S.has, S.sizes] at h
 omega
end Go.Proofs.YtmfpbafpnoomeaaGreat
namespace Go.Proofs.YtmfpbafpnoomeaaGreat
open Go.RowKit

theorem sizes_any (w : World) :
 Calls Tryz.prog 267 #[] w fun e w' => e = .returned (.slice (some ⟨w.heap.size, 0, none⟩) 9 9) /\ w.alloc (.cells (i64s S.sizes).toArray 3) = w' := by
 go_enter Tryz.func267, Tryz.ntmps267
 go_wp2
 go_ret
 exact ⟨rfl, rfl⟩
theorem rsizes_any (w : World) :
 Calls Tryz.prog 252 #[] w fun e w' => e = .returned (.slice (some ⟨w.heap.size, 0, none⟩) 9 9) /\ w.alloc (.cells (i64s S.sizes).toArray 3) = w' := by
 go_enter Tryz.func252, Tryz.ntmps252
 go_wp2
 go_ret
 exact ⟨rfl, rfl⟩

def idx (xs : List Int) (x : Int) : Int := match xs.findIdx? (· == x) with | some k => k | none => -1
theorem idx_hit {xs : List Int} {x : Int} {k : Nat} (hk : k < xs.length) (hx : xs[k] = x) (hno : ∀ j, j < k -> xs[j]? ≠ some x) : idx xs x = k := by
 have : xs.findIdx? (· == x) = some k := by
  rw [List.findIdx?_eq_some_iff_getElem]
  refine ⟨hk, by simp [hx], fun j hj => ?_⟩
  have := hno j hj
  have hl : j < xs.length := by omega
  rw [List.getElem?_eq_getElem hl] at this
  simpa using this
 simp [idx, this]
theorem idx_miss {xs : List Int} {x : Int} (hno : ∀ j, j < xs.length -> xs[j]? ≠ some x) : idx xs x = -1 := by
 have : xs.findIdx? (· == x) = none := by
  rw [List.findIdx?_eq_none_iff]
  intro y hy
  obtain ⟨j, hj, rfl⟩ := List.mem_iff_getElem.1 hy
  have := hno j hj
  rw [List.getElem?_eq_getElem hj] at this
  simpa using this
 simp [idx, this]
theorem index_any (A : Option Addr) (n c : Nat) (x : Int) (xs : List Int) (B : Nat) (w : World) (hn : xs.length = n) (hm : n <= 9223372036854775807) (hs : Cells w B A (i64s xs)) :
 Calls Tryz.prog 272 #[.slice A n c, .int .i64 x] w fun e w' => e = .returned (.int .i64 (idx xs x)) /\ w = w' := by
 have HN := lh hn
 clear hn
 go_enter Tryz.func272, Tryz.ntmps272
 go_wp2
 go_loop [8] (fun i => ∃ k : Nat, k <= n /\ i = .int .i64 k /\ ∀ j, j < k -> xs[j]? ≠ some x) (fun i => n - (intOf i).toNat)
 case atStart => exact ⟨0, Nat.zero_le _, rfl, fun j hj => absurd hj (by omega)⟩
 case round =>
  obtain ⟨k, hk, rfl, hno⟩ := hrel
  have HNO := lh hno
  clear hno
  by_cases hlt : k < n
  ·have hkx : k < xs.length := by have := HN.out; omega
   obtain ⟨b, o, rfl, _, hc⟩ := hs.at_ (by simp; omega)
   have hck := hc k _ (i64s_get hkx)
   clear hc
   by_cases hx : xs[k] = x
   ·have hb : (x == xs[k]) = true := by simp [hx]
    go_wp2
    go_ret
    exact ⟨ret_i (idx_hit hkx hx HNO.out).symm, rfl⟩
   ·have hb : (x == xs[k]) = false := by simp; exact fun h => hx h.symm
    have HX := lh hx
    clear hx
    go_wp2
    go_round
    case rel =>
     refine ⟨k + 1, by omega, by go_num, fun j hj => ?_⟩
     by_cases hjk : j = k
     ·subst hjk; rw [List.getElem?_eq_getElem hkx]; simpa using HX.out
     ·exact HNO.out j (by omega)
    case measure => simp [intOf]; omega
  ·go_wp2
   go_ret
   exact ⟨ret_i (idx_miss (fun j hj => HNO.out j (by have := HN.out; omega))).symm, rfl⟩
theorem idx_ge (xs : List Int) (x : Int) : decide (0 <= idx xs x) = S.has xs x := by
 unfold idx S.has
 split
 ·rename_i k hk
  have : x ∈ xs := by
   obtain ⟨h1, h2, _⟩ := List.findIdx?_eq_some_iff_getElem.1 hk
   simp at h2
   exact h2 ▸ List.getElem_mem h1
  simp [this]
 ·rename_i hk
  rw [List.findIdx?_eq_none_iff] at hk
  have : x ∉ xs := fun h => by have := hk x h; simp at this
  simp [this]
theorem contains_any (A : Option Addr) (n c : Nat) (x : Int) (xs : List Int) (B : Nat) (w : World) (hn : xs.length = n) (hm : n <= 9223372036854775807) (hs : Cells w B A (i64s xs)) :
 Calls Tryz.prog 266 #[.slice A n c, .int .i64 x] w fun e w' => e = .returned (.bool (S.has xs x)) /\ w = w' := by
 have HN := lh hn
 clear hn
 have e := idx_ge xs x
 go_enter Tryz.func266, Tryz.ntmps266
 go_wp2_with (go_at_call 272; refine (index_any _ _ _ x xs B _ HN.out hm hs).mono ?_; rintro e w' ⟨rfl, rfl⟩)
 go_ret
 exact ⟨rfl, rfl⟩
theorem ssize_any (d : Int) (w : World) :
 Calls Tryz.prog 247 #[.int .i64 d] w fun e w' => e = .returned (.bool (S.size d)) /\ Below w.heap.size w w' := by
 have hs := Cells.new w (i64s S.sizes).toArray 3 (0, 0)
 go_enter Tryz.func247, Tryz.ntmps247
 go_wp2_with (first
  | (go_at_call 267; refine (sizes_any _).mono ?_; rintro e w' ⟨rfl, rfl⟩)
  | (go_at_call 266; refine (contains_any _ 9 _ d S.sizes _ _ rfl (by omega) (by simpa using hs)).mono ?_; rintro e w' ⟨rfl, rfl⟩))
 go_ret
 exact ⟨rfl, by go_grown⟩
theorem rsize_any (d : Int) (w : World) :
 Calls Tryz.prog 216 #[.int .i64 d] w fun e w' => e = .returned (.bool (S.size d)) /\ Below w.heap.size w w' := by
 have hs : Cells (w.alloc (.cells (i64s S.sizes).toArray 3)) (w.heap.size + 1) (some ⟨w.heap.size, 0, none⟩) (i64s S.sizes) := by simpa using Cells.new w (i64s S.sizes).toArray 3 (0, 0)
 have hl : S.sizes.length = 9 := rfl
 go_enter Tryz.func216, Tryz.ntmps216
 go_wp2_with (go_at_call 252; refine (rsizes_any _).mono ?_; rintro e w' ⟨rfl, rfl⟩)
 go_loop [4] (fun i => ∃ k : Nat, k <= 9 /\ i = .int .i64 k /\ ∀ j, j < k -> S.sizes[j]? ≠ some d) (fun i => 9 - (intOf i).toNat)
 case atStart => exact ⟨0, Nat.zero_le _, rfl, fun j hj => absurd hj (by omega)⟩
 case round =>
  obtain ⟨k, hk, rfl, hno⟩ := hrel
  have HNO := lh hno
  clear hno
  by_cases hlt : k < 9
  ·have hkx : k < S.sizes.length := by omega
   have hck := hs.get (i64s_get hkx)
   rw [Nat.zero_add] at hck
   by_cases hx : S.sizes[k] = d
   ·have hb : (S.sizes[k] == d) = true := by simp [hx]
    have HX := lh hx
    clear hx
    go_wp2
    go_ret
    exact ⟨ret_b (has_of hkx HX.out).symm, by go_grown⟩
   ·have hb : (S.sizes[k] == d) = false := by simpa using hx
    have HX := lh hx
    clear hx
    go_wp2
    go_round
    case rel =>
     refine ⟨k + 1, by omega, by go_num, fun j hj => ?_⟩
     by_cases hjk : j = k
     ·subst hjk; rw [List.getElem?_eq_getElem hkx]; simpa using HX.out
     ·exact HNO.out j (by omega)
    case measure => simp [intOf]; omega
  ·go_wp2
   go_ret
   exact ⟨ret_b (has_not (xs := S.sizes) (fun j hj => HNO.out j (by omega))).symm, by go_grown⟩
end Go.Proofs.YtmfpbafpnoomeaaGreat
namespace Go.Proofs.YtmfpbafpnoomeaaGreat
structure Bar where
 mark : ByteArray
 size : Int
 count : Int
 code : Int
 dims : List Int
namespace S
def legsOf (code : Int) : List (Nat × Nat) :=
 if code = 0 then [(0, 120)] else if code = 11 then [(0, 120), (1, 121)] else if code = 21 then [(0, 89), (1, 120), (2, 121)]
 else if code = 26 then [(0, 120), (1, 121), (2, 120)] else if code = 31 then [(0, 120), (1, 121), (2, 122)]
 else if code = 41 then [(0, 120), (1, 121), (2, 120), (3, 89), (4, 120)]
 else if code = 51 then [(2, 89), (0, 120), (1, 121), (0, 88), (1, 89), (2, 120)]
 else if code = 98 then [(0, 122), (1, 89), (2, 120), (1, 121), (0, 122)] else []
def dimsOf (code : Int) : Int :=
 if code = 0 then 1 else if code = 11 then 2 else if code = 21 then 3 else if code = 26 then 3 else if code = 31 then 3 else if code = 41 then 5 else if code = 51 then 3 else if code = 98 then 3 else 0
def dimsErr (code : Int) : Int := if dimsOf code = 0 then 11 else 0
def maxd (l : List (Nat × Nat)) : Int := l.foldl (fun m x => max m (x.1 : Int)) (-1)
def sum (l : List Int) : Int := l.foldl (· + ·) 0
def dimsOk (l : List Int) : Bool := l.all (fun n => decide (1 <= n)) && decide (sum l <= 262144)
def barHead (b : Bar) : Bool := !(dimsOf b.code == 0) && isName b.mark && size b.size && decide (1 <= b.count) && decide (b.count <= 1000) && ((b.dims.length : Int) == dimsOf b.code)
def bar (b : Bar) : Bool := barHead b && dimsOk b.dims
end S
theorem maxd_legs (code : Int) : S.maxd (S.legsOf code) + 1 = S.dimsOf code := by
 unfold S.legsOf S.dimsOf
 repeat' (split <;> try rfl)
theorem maxd_snoc (l : List (Nat × Nat)) (x : Nat × Nat) : S.maxd (l ++ [x]) = max (S.maxd l) (x.1 : Int) := by simp [S.maxd, List.foldl_append]
theorem maxd_bd (l : List (Nat × Nat)) : -1 <= S.maxd l := by
 have h : ∀ (l : List (Nat × Nat)) (m : Int), m <= l.foldl (fun m x => max m (x.1 : Int)) m := by
  intro l
  induction l with
  | nil => intro m; exact Int.le_refl _
  | cons x l ih => intro m; exact Int.le_trans (Int.le_max_left _ _) (ih _)
 exact h l (-1)
theorem dimsOf_bd (code : Int) : 0 <= S.dimsOf code /\ S.dimsOf code <= 5 := by
 unfold S.dimsOf
 repeat' (split <;> try omega)
theorem legs_len (code : Int) : (S.legsOf code).length <= 6 := by
 unfold S.legsOf
 repeat' (split <;> try decide)
theorem legs_dim (code : Int) {k : Nat} (hk : k < (S.legsOf code).length) : ((S.legsOf code)[k].1 : Int) < S.dimsOf code := by
 have h : ∀ x, x ∈ S.legsOf code -> (x.1 : Int) < S.dimsOf code := by
  unfold S.legsOf S.dimsOf
  repeat' (split <;> try decide)
 exact h _ (List.getElem_mem hk)
theorem sum_snoc (l : List Int) (x : Int) : S.sum (l ++ [x]) = S.sum l + x := by simp [S.sum, List.foldl_append]
end Go.Proofs.YtmfpbafpnoomeaaGreat
