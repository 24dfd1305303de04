/- Plain: the sizes of bars; the box of coordinates. Contracts: steel.Area and the reference's; (supply.rod).leg; cmp.Compare, slices.MinFunc over rods. Contracts: demand.In of a right demand and a main leg; supply.value. Contracts: the closures of supply.suppliers and supply.at. The ends of a laid bar that has a main leg: anchor.Ends and the reference's Ends. Contracts: supply.chains$1, slices.MinFunc over the bars of a chain. Contract: laid.Count of a valid detail. Contract: supply.rods of a valid detail. Contracts: lap.Valid, lap.Chains, lap.Check without laps. Blocks of seven cells. Contract: slices.Equal over integers (out of the text of slices.Equal over points). Contract: lap.Length. As XMix, where one operation makes a variable of its own (an alloc that waits for nothing). Chains of the program as data; what supply.chains gives. How anchorage lengths are ordered (no program in sight). -/
import Derived.Test.YtffkmgjmlahfpaaGreatRBoxA
import Derived.Test.YtffkmgjmlahfpaaGreatShapeA
import Derived.Test.YtffkmgjmlahfpaaGreatZG
import Derived.Test.YtffkmgjmlahfpaaGreatChL
import Derived.Test.YtffkmgjmlahfpaaGreatZC
import Derived.Test.YtffkmgjmlahfpaaGreatLook
import Derived.Test.YtffkmgjmlahfpaaGreatZF
import Derived.Test.YtffkmgjmlahfpaaGreatJoint
import Derived.Test.YtffkmgjmlahfpaaGreatLeafI
import Derived.Test.YtffkmgjmlahfpaaGreatFlat
import Derived.Test.YtffkmgjmlahfpaaGreatAnchL
import Derived.Test.YtffkmgjmlahfpaaGreatStag
import Derived.Test.YtffkmgjmlahfpaaGreatSpec
set_option linter.unusedVariables false
set_option linter.unusedSimpArgs false
namespace Go.Proofs.YtffkmgjmlahfpaaGreat
open Go.RowKit
theorem size_cases {d : Int} (h : S.size d = true) : d = 6 ∨ d = 8 ∨ d = 10 ∨ d = 12 ∨ d = 16 ∨ d = 20 ∨ d = 25 ∨ d = 32 ∨ d = 40 := by
  simpa [S.size, S.has, S.sizes] using h
theorem boxOk_x {b : Bx} (h : S.boxOk b = true) : -1048576 ≤ b.lo.x ∧ b.lo.x ≤ b.hi.x ∧ b.hi.x ≤ 1048576 := by
  simp only [S.boxOk, S.okAx, Bool.and_eq_true, decide_eq_true_eq] at h
  omega
end Go.Proofs.YtffkmgjmlahfpaaGreat
set_option linter.unusedVariables false
set_option linter.unusedSimpArgs false
namespace Go.Proofs.YtffkmgjmlahfpaaGreat
open Go.RowKit
def S.steelArea (d : Int) : Int := (7854 * d * d + 50) / 100
/-- What a function value without arguments answers: v, and memory of its own at most. -/
def Tells (w : World) (F : Nat) (fst cap : Array Value) (v : Int) : Prop :=
  ∀ (w' : World), Below w.heap.size w w' → Calls Tryz.prog F (fst ++ cap) w' fun e w'' => e = .returned (.int .i64 v) ∧ Below w'.heap.size w' w''
theorem steel_sized (F : Nat) (fst cap : Array Value) (d v : Int) (w : World) (h : S.size d = true) (hF : ∀ args w, Sem.run Tryz.prog (callFunc F args) w = .ok (.enter F args) w) (hf : Tells w F fst cap v) :
    Calls Tryz.prog 99 #[.int .i64 d, .func (.func F) fst cap] w fun e w' => e = .returned (.tuple #[.int .i64 v, .int .i64 0]) ∧ Below w.heap.size w w' := by
  go_enter Tryz.func99, Tryz.ntmps99
  go_wp2_with (first
    | (go_at_call 160; (with_reducible refine (ssize_any d _).mono ?_); rintro e w1 ⟨rfl, hbw1⟩; obtain ⟨hcw1, hfw1⟩ := bcell hbw1)
    | (refine (hf _ hbw1).mono ?_; rintro e w2 ⟨rfl, hbw2⟩))
  go_ret2
  exact ⟨rfl, (by repeat (first | exact Below.refl _ _ | assumption | refine ba_alloc ?_ _ | refine ba_drew ?_ | refine ba_drewN ?_ _ | refine ba_via (by assumption) ?_ | (refine ba_set ?_ ?_ _; rotate_left; (first | omega | (simp; omega) | simp))))⟩
theorem sarea_any (d : Int) (w : World) (h : S.size d = true) :
    Calls Tryz.prog 101 #[.int .i64 d] w fun e w' => e = .returned (.int .i64 (S.steelArea d)) ∧ w = w' := by
  rcases size_cases h with rfl | rfl | rfl | rfl | rfl | rfl | rfl | rfl | rfl
  all_goals (
    go_enter Tryz.func101, Tryz.ntmps101
    go_wp2
    go_ret
    exact ⟨rfl, rfl⟩)
theorem sarea1_any (d : Int) (g : Nat) (w : World) (hc : w.cell? ⟨g, 0, none⟩ = some (.int .i64 d)) (h : S.size d = true) :
    Calls Tryz.prog 100 #[.pointer (some ⟨g, 0, none⟩)] w fun e w' => e = .returned (.int .i64 (S.steelArea d)) ∧ Below w.heap.size w w' := by
  go_enter Tryz.func100, Tryz.ntmps100
  go_wp2_with (go_at_call 101; (with_reducible refine (sarea_any d _ h).mono ?_); rintro e w' ⟨rfl, rfl⟩)
  go_ret
  exact ⟨rfl, Below.refl _ _⟩
theorem steelArea_any (d : Int) (w : World) (h : S.size d = true) :
    Calls Tryz.prog 46 #[.int .i64 d] w fun e w' => e = .returned (.tuple #[.int .i64 (S.steelArea d), .int .i64 0]) ∧ Below w.heap.size w w' := by
  have hf : Tells (w.alloc (.cells #[.int .i64 d] 3)) 100 #[] #[.pointer (some ⟨w.heap.size, 0, none⟩)] (S.steelArea d) := fun w' hb =>
    sarea1_any d w.heap.size w' ((hb.cell (p := ⟨w.heap.size, 0, none⟩) (by simp)).trans (by simp)) h
  go_enter Tryz.func46, Tryz.ntmps46
  go_wp2_with (go_at_call 99; (with_reducible refine (steel_sized _ _ _ d (S.steelArea d) _ h Tryz.call100 hf).mono ?_); rintro e w1 ⟨rfl, hbw1⟩; obtain ⟨hcw1, hfw1⟩ := bcell hbw1; have hzw1_0 : w.heap.size < w1.heap.size := lt_via hbw1 (by first | omega | (simp; done) | (simp; omega)))
  go_ret2
  exact ⟨rfl, (by repeat (first | exact Below.refl _ _ | assumption | refine ba_alloc ?_ _ | refine ba_drew ?_ | refine ba_drewN ?_ _ | refine ba_via (by assumption) ?_ | (refine ba_set ?_ ?_ _; rotate_left; (first | omega | (simp; omega) | simp))))⟩
theorem rsteelArea_any (d : Int) (w : World) (h : S.size d = true) :
    Calls Tryz.prog 98 #[.int .i64 d] w fun e w' => e = .returned (.int .i64 (S.steelArea d)) ∧ w = w' := by
  rcases size_cases h with rfl | rfl | rfl | rfl | rfl | rfl | rfl | rfl | rfl
  all_goals (
    go_enter Tryz.func98, Tryz.ntmps98
    go_wp2
    go_ret
    exact ⟨rfl, rfl⟩)
/-- The main leg of a laid bar that has one. -/
abbrev rodV (r : Rod) : Value := .agg #[.string r.bar.b.mark, .int .i64 r.bar.b.size, .int .i64 r.bar.b.count, .int .i64 r.bar.b.code, .slice r.bar.A r.bar.n r.bar.c, .slice r.A r.legs.length r.c, .int .i64 r.main]
theorem rleg_any (r : Rod) (k : Nat) (b : Bx) (B : Nat) (w : World) (hB : B ≤ w.heap.size) (hk : r.legs[k]? = some b) (hm : r.main = k) (hs : Cells w B r.A (r.legs.flatMap boxC)) :
    Calls Tryz.prog 90 #[rodV r] w fun e w' => e = .returned (boxV b) ∧ Below w.heap.size w w' := by
  unfold rodV boxV
  rw [hm]
  clear hm
  obtain ⟨hkx, hkb⟩ := List.getElem?_eq_some_iff.1 hk
  obtain ⟨g, o, hA, hg, hx⟩ := hs.at_ (by rw [flat_len boxC 6 boxC_len]; omega)
  clear hx
  rw [hA] at hs ⊢
  obtain ⟨c0, c1, c2, c3, c4, c5⟩ := hs.boxes hk
  have hkl : (k : Int) < r.legs.length := by omega
  clear hs hk hkb hkx hA
  have hgl : g < w.heap.size := by omega
  have hgl1 : g < w.heap.size + 1 := by omega
  go_enter Tryz.func90, Tryz.ntmps90
  go_wp2
  exact bodyPost_ret (v := .agg #[.int .i64 b.lo.x, .int .i64 b.lo.y, .int .i64 b.lo.z, .int .i64 b.hi.x, .int .i64 b.hi.y, .int .i64 b.hi.z]) (by simp [results, Tryz.results90, go_sem, *]) rfl ⟨rfl, (by repeat (first | exact Below.refl _ _ | assumption | refine ba_alloc ?_ _ | refine ba_drew ?_ | refine ba_drewN ?_ _ | refine ba_via (by assumption) ?_ | (refine ba_set ?_ ?_ _; rotate_left; (first | omega | (simp; omega) | simp))))⟩
def cmpI (a b : Int) : Int := if a < b then -1 else if b < a then 1 else 0
theorem cmpI_neg (a b : Int) : decide (cmpI a b < 0) = decide (a < b) := by
  unfold cmpI
  split
  · rename_i h; simp [h]
  · rename_i h
    split <;> simp [h]
theorem isNaN_any (a : Int) (w : World) :
    Calls Tryz.prog 214 #[.int .i64 a] w fun e w' => e = .returned (.bool false) ∧ w = w' := by
  go_enter Tryz.func214, Tryz.ntmps214
  go_wp2
  go_ret
  exact ⟨rfl, rfl⟩
theorem cmp_any (a b : Int) (w : World) :
    Calls Tryz.prog 154 #[.int .i64 a, .int .i64 b] w fun e w' => e = .returned (.int .i64 (cmpI a b)) ∧ Below w.heap.size w w' := by
  have H := Lib.hid (show cmpI a b = (if a < b then -1 else if b < a then 1 else 0) from rfl)
  by_cases h1 : a < b
  · go_enter Tryz.func154, Tryz.ntmps154
    go_wp2_with (first | (go_at_call 214; (with_reducible refine (isNaN_any _ _).mono ?_); rintro e w' ⟨rfl, rfl⟩))
    go_ret
    exact ⟨ret_i (by rw [H.out, if_pos (by omega)]), Below.refl _ _⟩
  · by_cases h2 : b < a
    · go_enter Tryz.func154, Tryz.ntmps154
      go_wp2_with (first | (go_at_call 214; (with_reducible refine (isNaN_any _ _).mono ?_); rintro e w' ⟨rfl, rfl⟩))
      go_ret
      exact ⟨ret_i (by rw [H.out, if_neg (by omega), if_pos (by omega)]), Below.refl _ _⟩
    · go_enter Tryz.func154, Tryz.ntmps154
      go_wp2_with (first | (go_at_call 214; (with_reducible refine (isNaN_any _ _).mono ?_); rintro e w' ⟨rfl, rfl⟩))
      go_ret
      exact ⟨ret_i (by rw [H.out, if_neg (by omega), if_neg (by omega)]), Below.refl _ _⟩
end Go.Proofs.YtffkmgjmlahfpaaGreat
set_option linter.unusedVariables false
set_option linter.unusedSimpArgs false
namespace Go.Proofs.YtffkmgjmlahfpaaGreat
open Go.RowKit
def S.inside (a b : Bx) : Bool := (decide (b.lo.y ≤ a.lo.y) && decide (a.hi.y ≤ b.hi.y)) && (decide (b.lo.z ≤ a.lo.z) && decide (a.hi.z ≤ b.hi.z))
theorem dwithin_any (lo hi f t : Int) (w : World) :
    Calls Tryz.prog 168 #[.int .i64 lo, .int .i64 hi, .int .i64 f, .int .i64 t] w fun e w' => e = .returned (.bool (decide (f ≤ lo) && decide (hi ≤ t))) ∧ w = w' := by
  by_cases h : f ≤ lo
  · go_enter Tryz.func168, Tryz.ntmps168
    go_wp2
    go_ret
    exact ⟨ret_b (by simp [h]), rfl⟩
  · go_enter Tryz.func168, Tryz.ntmps168
    go_wp2
    go_ret
    exact ⟨ret_b (by rw [decide_eq_false (by omega)]; rfl), rfl⟩
theorem dinside_any (a b : Bx) (w : World) :
    Calls Tryz.prog 108 #[boxV a, boxV b] w fun e w' => e = .returned (.bool (S.inside a b)) ∧ Below w.heap.size w w' := by
  have H := Lib.hid (show S.inside a b = ((decide (b.lo.y ≤ a.lo.y) && decide (a.hi.y ≤ b.hi.y)) && (decide (b.lo.z ≤ a.lo.z) && decide (a.hi.z ≤ b.hi.z))) from rfl)
  have H1 := Lib.hid (fun w => dwithin_any a.lo.y a.hi.y b.lo.y b.hi.y w)
  have H2 := Lib.hid (fun w => dwithin_any a.lo.z a.hi.z b.lo.z b.hi.z w)
  unfold boxV
  generalize (decide (b.lo.y ≤ a.lo.y) && decide (a.hi.y ≤ b.hi.y)) = t1 at *
  generalize (decide (b.lo.z ≤ a.lo.z) && decide (a.hi.z ≤ b.hi.z)) = t2 at *
  cases t1
  all_goals (
    go_enter Tryz.func108, Tryz.ntmps108
    go_wp2_with (first
      | (go_at_call 168; (with_reducible refine (H1.out _).mono ?_); rintro e w' ⟨rfl, rfl⟩)
      | (go_at_call 168; (with_reducible refine (H2.out _).mono ?_); rintro e w' ⟨rfl, rfl⟩))
    go_ret
    exact ⟨ret_b (by rw [H.out]; simp), (by repeat (first | exact Below.refl _ _ | assumption | refine ba_alloc ?_ _ | refine ba_drew ?_ | refine ba_drewN ?_ _ | refine ba_via (by assumption) ?_ | (refine ba_set ?_ ?_ _; rotate_left; (first | omega | (simp; omega) | simp))))⟩)
theorem demIn_any (d : Dm) (x1 x2 y z : Int) (B : Nat) (w : World) (hB : B ≤ w.heap.size) (hA : StepsAt w B d.A d.n d.st) (hm : d.name.size ≤ 9223372036854775807) (hd : S.demRight d = true) (hl : S.boxOk ⟨⟨x1, y, z⟩, ⟨x2, y, z⟩⟩ = true) :
    Calls Tryz.prog 52 #[dmV d, .agg #[.int .i64 x1, .int .i64 y, .int .i64 z, .int .i64 x2, .int .i64 y, .int .i64 z]] w fun e w' => e = .returned (.tuple #[.bool (S.inside ⟨⟨x1, y, z⟩, ⟨x2, y, z⟩⟩ d.zone), .int .i64 0]) ∧ Below w.heap.size w w' := by
  have HR := Lib.hid (fun (W : World) (hw : B ≤ W.heap.size) (hh : StepsAt W B d.A d.n d.st) => hd ▸ dright_any d B W hw hh hm)
  have HV := Lib.hid (fun w => hl ▸ bvalid_any ⟨⟨x1, y, z⟩, ⟨x2, y, z⟩⟩ w)
  have HI := Lib.hid (fun w => dinside_any ⟨⟨x1, y, z⟩, ⟨x2, y, z⟩⟩ d.zone w)
  have HA := Lib.hid hA
  clear hA hm hd hl
  generalize S.inside ⟨⟨x1, y, z⟩, ⟨x2, y, z⟩⟩ d.zone = t at *
  unfold dmV at HR ⊢
  unfold boxV at HV HI
  simp only [] at HV HI
  go_enter Tryz.func52, Tryz.ntmps52
  go_wp2_with (first
    | (go_at_call 106; (with_reducible refine (HR.out _ (dsize hB (by repeat (first | exact Below.refl _ _ | assumption | refine ba_alloc ?_ _ | refine ba_drew ?_ | refine ba_drewN ?_ _ | refine ba_via (by assumption) ?_ | (refine ba_set ?_ ?_ _; rotate_left; (first | omega | (simp; omega) | simp))))) (HA.out.below (Below.mono (by repeat (first | exact Below.refl _ _ | assumption | refine ba_alloc ?_ _ | refine ba_drew ?_ | refine ba_drewN ?_ _ | refine ba_via (by assumption) ?_ | (refine ba_set ?_ ?_ _; rotate_left; (first | omega | (simp; omega) | simp)))) hB))).mono ?_); rintro e w1 ⟨rfl, hbw1⟩; obtain ⟨hcw1, hfw1⟩ := bcell hbw1; have hzw1_0 : w.heap.size < w1.heap.size := lt_via hbw1 (by first | omega | (simp; done) | (simp; omega)); have hzw1_1 : w.heap.size + 1 < w1.heap.size := lt_via hbw1 (by first | omega | (simp; done) | (simp; omega)))
    | (go_at_call 107; (with_reducible refine (HV.out _).mono ?_); rintro e w2 ⟨rfl, hbw2⟩; obtain ⟨hcw2, hfw2⟩ := bcell hbw2; have hzw2_0 : w.heap.size < w2.heap.size := lt_via hbw2 (by first | omega | (simp; done) | (simp; omega)); have hzw2_1 : w.heap.size + 1 < w2.heap.size := lt_via hbw2 (by first | omega | (simp; done) | (simp; omega)))
    | (go_at_call 108; (with_reducible refine (HI.out _).mono ?_); rintro e w3 ⟨rfl, hbw3⟩; obtain ⟨hcw3, hfw3⟩ := bcell hbw3; have hzw3_0 : w.heap.size < w3.heap.size := lt_via hbw3 (by first | omega | (simp; done) | (simp; omega)); have hzw3_1 : w.heap.size + 1 < w3.heap.size := lt_via hbw3 (by first | omega | (simp; done) | (simp; omega))))
  go_ret2
  exact ⟨rfl, (by repeat (first | exact Below.refl _ _ | assumption | refine ba_alloc ?_ _ | refine ba_drew ?_ | refine ba_drewN ?_ _ | refine ba_via (by assumption) ?_ | (refine ba_set ?_ ?_ _; rotate_left; (first | omega | (simp; omega) | simp))))⟩
/-- A chain: its bars and where they lie, its anchored span, whether it has one, its area. -/
structure SCh where
  A : Option Addr
  c : Nat
  l : List Int
  lo : Int
  hi : Int
  is : Bool
  area : Int
abbrev schC (r : SCh) : List Value := [.slice r.A r.l.length r.c, .int .i64 r.lo, .int .i64 r.hi, .bool r.is, .int .i64 r.area]
theorem schC_len (r : SCh) : (schC r).length = 5 := rfl
def S.atPl (p : Int) (r : SCh) : Bool := decide (r.lo ≤ p) && decide (p < r.hi)
def S.valueAt (p : Int) (l : List SCh) : Int := l.foldl (fun n r => if S.atPl p r then n + r.area else n) 0
theorem value_next (p : Int) {l : List SCh} {k : Nat} (h : k < l.length) : S.valueAt p (l.take (k + 1)) = if S.atPl p l[k] then S.valueAt p (l.take k) + l[k].area else S.valueAt p (l.take k) := by
  have e : l.take (k + 1) = l.take k ++ [l[k]] := by rw [List.take_add_one, List.getElem?_eq_getElem h]; rfl
  unfold S.valueAt
  rw [e, List.foldl_append]
  rfl
theorem value_bd (p : Int) {l : List SCh} (h : ∀ r, r ∈ l → 0 ≤ r.area ∧ r.area ≤ 1000000) : 0 ≤ S.valueAt p l ∧ S.valueAt p l ≤ 1000000 * (l.length : Int) := by
  suffices hs : ∀ (l : List SCh) (n : Int), (∀ r, r ∈ l → 0 ≤ r.area ∧ r.area ≤ 1000000) → 0 ≤ n → n ≤ l.foldl (fun n r => if S.atPl p r then n + r.area else n) n ∧ l.foldl (fun n r => if S.atPl p r then n + r.area else n) n ≤ n + 1000000 * (l.length : Int) by
    have := hs l 0 h (Int.le_refl _)
    unfold S.valueAt
    omega
  intro l
  induction l with
  | nil => intro n _ _; simp
  | cons r t ih =>
    intro n h hn
    have h1 := h r (by simp)
    simp only [List.foldl_cons, List.length_cons]
    split
    · have := ih (n + r.area) (fun q hq => h q (by simp [hq])) (by omega)
      omega
    · have := ih n (fun q hq => h q (by simp [hq])) hn
      omega
set_option maxHeartbeats 1000000 in
theorem value_any (l : List SCh) (A : Option Addr) (n c : Nat) (p : Int) (B : Nat) (w : World) (hB : B ≤ w.heap.size) (hn : l.length = n) (hm : n ≤ 2000) (hs : Cells w B A (l.flatMap schC)) (ha : ∀ r, r ∈ l → 0 ≤ r.area ∧ r.area ≤ 1000000) :
    Calls Tryz.prog 82 #[.slice A n c, .int .i64 p] w fun e w' => e = .returned (.int .i64 (S.valueAt p l)) ∧ Below w.heap.size w w' := by
  have HN := Lib.hid hn
  have HA := Lib.hid ha
  clear hn ha
  go_enter Tryz.func82, Tryz.ntmps82
  go_wp2
  go_loopw [5, 10] (fun v i wr => ∃ k : Nat, k ≤ n ∧ i = .int .i64 k ∧ ∃ u : Int, v = .int .i64 u ∧ Hid (u = S.valueAt p (l.take k)) ∧ Below w.heap.size w wr) (fun _ i _ => n - (intOf i).toNat)
  case atStart => exact ⟨0, Nat.zero_le _, rfl, 0, rfl, Lib.hid rfl, Below.refl _ _⟩
  case round =>
    obtain ⟨k, hk, rfl, u, rfl, hu, hbr⟩ := hrel
    by_cases hlt : k < n
    · have hkx : k < l.length := by have := HN.out; omega
      have hs' := hs.below (hbr.mono hB)
      obtain ⟨b, o, rfl, hbB, hx⟩ := hs'.at_ (by rw [flat_len schC 5 schC_len]; omega)
      clear hx
      have c0 := hs'.row0 schC_len hkx rfl
      have c1 := hs'.rowj schC_len hkx 1 rfl
      have c2 := hs'.rowj schC_len hkx 2 rfl
      have c3 := hs'.rowj schC_len hkx 3 rfl
      have c4 := hs'.rowj schC_len hkx 4 rfl
      clear hs'
      have hbl : b < wr.heap.size := by have := hbr.size; omega
      have hki : (k : Int) < n := by omega
      have hub := value_bd p (l := l.take k) (fun r hr => HA.out r (List.mem_of_mem_take hr))
      rw [← hu.out, List.length_take] at hub
      have hab := HA.out l[k] (List.getElem_mem hkx)
      have HV := Lib.hid (value_next p hkx)
      rw [← hu.out] at HV
      generalize l[k] = r at *
      have hu1 : 0 ≤ u := hub.1
      have hu2 : u ≤ 2000000000 := by omega
      have ha1 := hab.1
      have ha2 := hab.2
      clear hub hab
      have HP := Lib.hid (show S.atPl p r = (decide (r.lo ≤ p) && decide (p < r.hi)) from rfl)
      by_cases h1 : r.lo ≤ p
      · by_cases h2 : p < r.hi
        · have HV2 := Lib.hid (HV.out.trans (if_pos (by rw [HP.out]; simp [h1, h2])))
          go_wp2
          go_roundw
          case rel => exact ⟨k + 1, by omega, by go_num, u + r.area, rfl, Lib.hid HV2.out.symm, (by repeat (first | exact Below.refl _ _ | assumption | refine ba_alloc ?_ _ | refine ba_drew ?_ | refine ba_drewN ?_ _ | refine ba_via (by assumption) ?_ | (refine ba_set ?_ ?_ _; rotate_left; (first | omega | (simp; omega) | simp))))⟩
          case measure => simp [intOf]; omega
        · have HV2 := Lib.hid (HV.out.trans (if_neg (by rw [HP.out]; simp; omega)))
          go_wp2
          go_roundw
          case rel => exact ⟨k + 1, by omega, by go_num, u, rfl, Lib.hid HV2.out.symm, (by repeat (first | exact Below.refl _ _ | assumption | refine ba_alloc ?_ _ | refine ba_drew ?_ | refine ba_drewN ?_ _ | refine ba_via (by assumption) ?_ | (refine ba_set ?_ ?_ _; rotate_left; (first | omega | (simp; omega) | simp))))⟩
          case measure => simp [intOf]; omega
      · have HV2 := Lib.hid (HV.out.trans (if_neg (by rw [HP.out]; simp; omega)))
        go_wp2
        go_roundw
        case rel => exact ⟨k + 1, by omega, by go_num, u, rfl, Lib.hid HV2.out.symm, (by repeat (first | exact Below.refl _ _ | assumption | refine ba_alloc ?_ _ | refine ba_drew ?_ | refine ba_drewN ?_ _ | refine ba_via (by assumption) ?_ | (refine ba_set ?_ ?_ _; rotate_left; (first | omega | (simp; omega) | simp))))⟩
        case measure => simp [intOf]; omega
    · have HE := Lib.hid (show u = S.valueAt p l by rw [hu.out, List.take_of_length_le (by have := HN.out; omega)])
      clear hu
      go_wp2
      go_ret
      exact ⟨ret_i HE.out, hbr⟩
end Go.Proofs.YtffkmgjmlahfpaaGreat
set_option linter.unusedVariables false
set_option linter.unusedSimpArgs false
namespace Go.Proofs.YtffkmgjmlahfpaaGreat
open Go.RowKit
/-- A laid bar has no main leg in a zone. -/
def S.outside (r : Rod) (z : Bx) : Bool := if r.main < 0 then true else !S.inside (r.legs.getD r.main.toNat S.zbox) z
set_option maxHeartbeats 2000000 in
theorem outside_any (rs : List Rod) (ds : List Dm) (i k : Nat) (r : Rod) (d : Dm) (g1 g2 g3 : Nat) (A : Option Addr) (n c : Nat) (dA : Option Addr) (dn dc : Nat) (B : Nat) (w : World) (hB : B ≤ w.heap.size) (hn : rs.length = n) (hi : rs[i]? = some r) (hk : ds[k]? = some d)
    (h1 : w.cell? ⟨g1, 0, none⟩ = some (.slice A n c)) (h2 : w.cell? ⟨g2, 9, none⟩ = some (.slice dA dn dc)) (h3 : w.cell? ⟨g3, 0, none⟩ = some (.int .i64 k)) (hl1 : g1 < w.heap.size) (hl2 : g2 < w.heap.size) (hl3 : g3 < w.heap.size)
    (hs : Cells w B A (rs.flatMap rodC)) (hd : DemsAt w B dA dn ds) (hleg : Cells w B r.A (r.legs.flatMap boxC)) (hr : S.demRight d = true) (hrod : r.main = idxf r.legs S.isMainB) (hok : ∀ b, b ∈ r.legs → S.boxOk b = true) :
    Calls Tryz.prog 140 #[.int .i64 i, .pointer (some ⟨g1, 0, none⟩), .pointer (some ⟨g2, 0, none⟩), .pointer (some ⟨g3, 0, none⟩)] w fun e w' => e = .returned (.bool (S.outside r d.zone)) ∧ Below w.heap.size w w' := by
  have HE := Lib.hid (show S.outside r d.zone = if r.main < 0 then true else !S.inside (r.legs.getD r.main.toNat S.zbox) d.zone from rfl)
  obtain ⟨hix, hir⟩ := List.getElem?_eq_some_iff.1 hi
  obtain ⟨hkx, hkd⟩ := List.getElem?_eq_some_iff.1 hk
  have hsd := hd.each d (by rw [← hkd]; exact List.getElem_mem hkx)
  have hnd := hd.name d (by rw [← hkd]; exact List.getElem_mem hkx)
  have hdl := hd.len
  have hdc := hd.cells
  obtain ⟨b1, o1, hA, hb1, hx⟩ := hs.at_ (by rw [flat_len rodC 7 rodC_len]; omega)
  clear hx
  obtain ⟨b2, o2, hA2, hb2, hx⟩ := hdc.at_ (by rw [flat_len dmC 8 dmC_len]; omega)
  clear hx
  rw [hA] at hs h1
  rw [hA2] at hdc h2
  have r0 := hs.row0 rodC_len hix rfl
  have r1 := hs.rowj rodC_len hix 1 rfl
  have r2 := hs.rowj rodC_len hix 2 rfl
  have r3 := hs.rowj rodC_len hix 3 rfl
  have r4 := hs.rowj rodC_len hix 4 rfl
  have r5 := hs.rowj rodC_len hix 5 rfl
  have r6 := hs.rowj rodC_len hix 6 rfl
  rw [hir] at r0 r1 r2 r3 r4 r5 r6
  have d0 := hdc.row0 dmC_len hkx rfl
  have d1 := hdc.rowj dmC_len hkx 1 rfl
  have d2 := hdc.rowj dmC_len hkx 2 rfl
  have d3 := hdc.rowj dmC_len hkx 3 rfl
  have d4 := hdc.rowj dmC_len hkx 4 rfl
  have d5 := hdc.rowj dmC_len hkx 5 rfl
  have d6 := hdc.rowj dmC_len hkx 6 rfl
  have d7 := hdc.rowj dmC_len hkx 7 rfl
  rw [hkd] at d0 d1 d2 d3 d4 d5 d6 d7
  have hin : (i : Int) < n := by omega
  have hkn : (k : Int) < dn := by omega
  have hb1l : b1 < w.heap.size := by omega
  have hb2l : b2 < w.heap.size := by omega
  clear hs hdc hd hi hk hir hkd hix hkx hA hA2 hn hdl
  by_cases hm : r.main < 0
  · have HE2 := Lib.hid (HE.out.trans (if_pos hm))
    clear hrod
    generalize r.main = mm at *
    go_enter Tryz.func140, Tryz.ntmps140
    go_wp2
    go_ret
    exact ⟨ret_b HE2.out.symm, (by repeat (first | exact Below.refl _ _ | assumption | refine ba_alloc ?_ _ | refine ba_drew ?_ | refine ba_drewN ?_ _ | refine ba_via (by assumption) ?_ | (refine ba_set ?_ ?_ _; rotate_left; (first | omega | (simp; omega) | simp))))⟩
  · obtain ⟨q, hq, hqe, hqm⟩ := idxf_some (xs := r.legs) (p := S.isMainB) (by rw [← hrod]; omega)
    have hbk := hok _ (List.getElem_mem hq)
    have HE2 := Lib.hid (show S.outside r d.zone = !S.inside r.legs[q] d.zone by rw [HE.out, if_neg hm, hrod, hqe]; simp [List.getD_eq_getElem?_getD, hq])
    have hm2 : r.main = (q : Int) := by rw [hrod, hqe]
    have HLG := Lib.hid (fun (W : World) (hw : Below w.heap.size w W) => rleg_any r q r.legs[q] B W (dsize hB hw) (List.getElem?_eq_getElem hq) hm2 (hleg.below (hw.mono hB)))
    obtain ⟨e1, e2, e3⟩ := isMainB_iff.1 hqm
    clear hrod hm hqe hqm hok hleg HE
    generalize hlq : r.legs[q] = L at *
    obtain ⟨⟨x1, y, z⟩, ⟨x2, y2, z2⟩⟩ := L
    simp only [] at e1 e2 e3
    subst e2 e3
    have HDI := Lib.hid (fun (W : World) (hw : Below w.heap.size w W) => demIn_any d x1 x2 y z B W (dsize hB hw) (hsd.below (hw.mono hB)) hnd hr hbk)
    generalize S.inside ⟨⟨x1, y, z⟩, ⟨x2, y, z⟩⟩ d.zone = t at *
    have hq0 : ¬ ((q : Int) < 0) := by omega
    unfold rodV boxV at HLG
    unfold dmV at HDI
    simp only [hm2] at HLG r6
    clear hlq hm2 hsd hnd hr hbk hq e1
    generalize r.legs.length = ln at *
    go_enter Tryz.func140, Tryz.ntmps140
    go_upto_region 3 with fail
    refine wp_region_mix 4 [9, 0] (by kernel_rfl) (by kernel_rfl) (of_decide_eq_true (by kernel_rfl)) ?_
    try simp only [wpSegs, List.take_succ_cons, List.take_zero, List.drop_succ_cons, List.drop_zero, List.take_nil, List.drop_nil]
    repeat (go_big_quiet_step (fail))
    refine wpQuiet_nil ?_
    show wpList _ _ _ _ _ _
    go_wp2_with ((go_at_call 90; (with_reducible refine (HLG.out _ (by repeat (with_reducible first | exact Below.refl _ _ | assumption | refine ba_alloc ?_ _ | refine ba_drew ?_ | refine ba_drewN ?_ _ | refine ba_via (by assumption) ?_ | (refine ba_set ?_ ?_ _; rotate_left; (first | omega | (simp; omega) | simp))))).mono ?_); rintro e w1 ⟨rfl, hbw1⟩))
    refine seg_next (grow_to (by repeat (with_reducible first | exact Below.refl _ _ | assumption | refine ba_alloc ?_ _ | refine ba_drew ?_ | refine ba_drewN ?_ _ | refine ba_via (by assumption) ?_ | (refine ba_set ?_ ?_ _; rotate_left; (first | omega | (simp; omega) | simp))))) ?_
    try simp only [wpSegs, List.take_succ_cons, List.take_zero, List.drop_succ_cons, List.drop_zero, List.take_nil, List.drop_nil]
    repeat (go_big_quiet_step (fail))
    refine wpQuiet_nil ?_
    show wpList _ _ _ _ _ _
    go_wp2_with ((go_at_call 52; (with_reducible refine (HDI.out _ (by repeat (with_reducible first | exact Below.refl _ _ | assumption | refine ba_alloc ?_ _ | refine ba_drew ?_ | refine ba_drewN ?_ _ | refine ba_via (by assumption) ?_ | (refine ba_set ?_ ?_ _; rotate_left; (first | omega | (simp; omega) | simp))))).mono ?_); rintro e w2 ⟨rfl, hbw2⟩))
    refine seg_next (grow_to (by repeat (with_reducible first | exact Below.refl _ _ | assumption | refine ba_alloc ?_ _ | refine ba_drew ?_ | refine ba_drewN ?_ _ | refine ba_via (by assumption) ?_ | (refine ba_set ?_ ?_ _; rotate_left; (first | omega | (simp; omega) | simp))))) ?_
    try simp only [wpSegs, List.take_succ_cons, List.take_zero, List.drop_succ_cons, List.drop_zero, List.take_nil, List.drop_nil]
    repeat (go_big_quiet_step (fail))
    refine wpQuiet_nil ?_
    show wpList _ _ _ _ _ _
    go_wp2
    go_ret
    exact ⟨ret_b (by rw [HE2.out]), (by repeat (first | exact Below.refl _ _ | assumption | refine ba_alloc ?_ _ | refine ba_drew ?_ | refine ba_drewN ?_ _ | refine ba_via (by assumption) ?_ | (refine ba_set ?_ ?_ _; rotate_left; (first | omega | (simp; omega) | simp))))⟩
/-- A chain does not reach over a place. -/
theorem notat_any (r : SCh) (p : Int) (g : Nat) (w : World) (hc : w.cell? ⟨g, 0, none⟩ = some (.int .i64 p)) (hg : g < w.heap.size) :
    Calls Tryz.prog 138 #[.agg #[.slice r.A r.l.length r.c, .int .i64 r.lo, .int .i64 r.hi, .bool r.is, .int .i64 r.area], .pointer (some ⟨g, 0, none⟩)] w fun e w' => e = .returned (.bool (!S.atPl p r)) ∧ Below w.heap.size w w' := by
  have HE := Lib.hid (show S.atPl p r = (decide (r.lo ≤ p) && decide (p < r.hi)) from rfl)
  by_cases h1 : p < r.lo
  · go_enter Tryz.func138, Tryz.ntmps138
    go_wp2
    go_ret
    exact ⟨ret_b (by rw [HE.out, decide_eq_false (by omega)]; rfl), (by repeat (first | exact Below.refl _ _ | assumption | refine ba_alloc ?_ _ | refine ba_drew ?_ | refine ba_drewN ?_ _ | refine ba_via (by assumption) ?_ | (refine ba_set ?_ ?_ _; rotate_left; (first | omega | (simp; omega) | simp))))⟩
  · by_cases h2 : r.hi ≤ p
    · go_enter Tryz.func138, Tryz.ntmps138
      go_wp2
      go_ret
      exact ⟨ret_b (by rw [HE.out, decide_eq_true (by omega), decide_eq_false (by omega)]; rfl), (by repeat (first | exact Below.refl _ _ | assumption | refine ba_alloc ?_ _ | refine ba_drew ?_ | refine ba_drewN ?_ _ | refine ba_via (by assumption) ?_ | (refine ba_set ?_ ?_ _; rotate_left; (first | omega | (simp; omega) | simp))))⟩
    · go_enter Tryz.func138, Tryz.ntmps138
      go_wp2
      go_ret
      exact ⟨ret_b (by rw [HE.out, decide_eq_true (by omega), decide_eq_true (by omega)]; rfl), (by repeat (first | exact Below.refl _ _ | assumption | refine ba_alloc ?_ _ | refine ba_drew ?_ | refine ba_drewN ?_ _ | refine ba_via (by assumption) ?_ | (refine ba_set ?_ ?_ _; rotate_left; (first | omega | (simp; omega) | simp))))⟩
end Go.Proofs.YtffkmgjmlahfpaaGreat
set_option linter.unusedVariables false
set_option linter.unusedSimpArgs false
namespace Go.Proofs.YtffkmgjmlahfpaaGreat
open Go.RowKit
theorem okAx_join {a b c d : Int} (h1 : -1048576 ≤ a ∧ a ≤ 1048576) (h2 : -1048576 ≤ b ∧ b ≤ 1048576) : S.okAx (if b < a then b else a) (if a < b then b else a) = true := by
  simp only [S.okAx, Bool.and_eq_true, decide_eq_true_eq]
  split <;> split <;> omega
theorem legB_in {p q : Pt} (hp : S.near1 p 1048576 = true) (hq : S.near1 q 1048576 = true) : S.boxOk (S.legB p q) = true := by
  obtain ⟨px, py, pz⟩ := near1_out hp
  obtain ⟨qx, qy, qz⟩ := near1_out hq
  show (S.okAx (if q.x < p.x then q.x else p.x) (if p.x < q.x then q.x else p.x) && S.okAx (if q.y < p.y then q.y else p.y) (if p.y < q.y then q.y else p.y) && S.okAx (if q.z < p.z then q.z else p.z) (if p.z < q.z then q.z else p.z)) = true
  rw [okAx_join (c := 0) (d := 0) px qx, okAx_join (c := 0) (d := 0) py qy, okAx_join (c := 0) (d := 0) pz qz]
  rfl
structure RodFit (x : Dt) (r : Rod) : Prop where
  legs : ∀ b, b ∈ r.legs → S.boxOk b = true
  len : r.legs.length = (S.legsOf r.bar.b.code).length
  bar : S.bar r.bar.b = true
  mem : r.bar ∈ x.bs
  main : r.main = idxf r.legs S.isMainB
theorem rod_fit {x : Dt} {i : Nat} {r : Rod} (h : RodOk x i r) (hl : S.laid (bars x.bs) x.rs = true) : RodFit x r := by
  obtain ⟨k, j, k0, hL, he⟩ := h.ex
  have hnear : S.near (S.laidPath r.bar.b (x.rs[k]'hL.st.lt) j) 1048576 = true := by
    have hr := hl
    simp only [S.laid, Bool.and_eq_true] at hr
    exact laid_near hL.st.ok (runs_in hr.2 (List.getElem_mem hL.st.lt)) hL.st.inr
  have hll := laidPath_len r.bar.b (x.rs[k]'hL.st.lt) j
  refine ⟨fun b hb => ?_, ?_, hL.st.ok.bar, List.mem_of_getElem? hL.get, h.main⟩
  · rw [he] at hb
    unfold S.legsL S.legsTo at hb
    obtain ⟨q, hq, rfl⟩ := List.mem_map.1 hb
    rw [List.mem_range] at hq
    refine legB_in ?_ ?_
    · have := near_in hnear (show q < _ by omega)
      simpa [S.ptD, List.getElem?_eq_getElem (show q < (S.laidPath r.bar.b (x.rs[k]'hL.st.lt) j).length by omega)] using this
    · have := near_in hnear (show q + 1 < _ by omega)
      simpa [S.ptD, List.getElem?_eq_getElem (show q + 1 < (S.laidPath r.bar.b (x.rs[k]'hL.st.lt) j).length by omega)] using this
  · rw [he, S.legsL, legsTo_len, hll]
    rfl
theorem rod_given {x : Dt} {r : Rod} (h : RodFit x r) (hr : S.rule x.rule = true) (hm : S.member x.m = true) (h0 : 0 ≤ r.main) : S.given x.rule x.m r.bar.b r.legs = 0 := by
  have h1 : S.heads x.rule x.m r.bar.b = true := by unfold S.heads; rw [hr, hm, h.bar]; rfl
  have h2 : anyb r.legs S.boxNot = false := anyb_not (p := S.boxNot) fun q hq => by
    show (!S.boxOk r.legs[q]) = false
    rw [h.legs _ (List.getElem_mem hq)]
    rfl
  unfold S.given
  rw [if_neg (by rw [h1]; simp), if_neg (by rw [h2]; simp), if_pos h.len, if_neg (by rw [← h.main]; omega)]
def S.legOf (r : Rod) : Bx := r.legs.getD r.main.toNat S.zbox
def S.lowOf (x : Dt) (r : Rod) : Int := S.endLen x.rule x.m r.bar.b r.legs r.main.toNat (S.legOf r).lo
def S.upOf (x : Dt) (r : Rod) : Int := S.endLen x.rule x.m r.bar.b r.legs r.main.toNat (S.legOf r).hi
theorem ends_rod (x : Dt) (r : Rod) (B : Nat) (w : World) (hB : B ≤ w.heap.size) (hA : DtAt w B x) (hleg : Cells w B r.A (r.legs.flatMap boxC)) (h : RodFit x r) (hr : S.rule x.rule = true) (hm : S.member x.m = true) (h0 : 0 ≤ r.main) :
    Calls Tryz.prog 155 #[ruleV x.rule, memV x.m x.mA x.mn x.mc x.hA x.hn x.hc, barV r.bar.b r.bar.A r.bar.n r.bar.c, .slice r.A r.legs.length r.c] w fun e w' => e = .returned (.tuple #[.int .i64 (S.lowOf x r), .int .i64 (S.upOf x r), .int .i64 0]) ∧ Below w.heap.size w w' := by
  obtain ⟨q, hq, hqe, _⟩ := idxf_some (xs := r.legs) (p := S.isMainB) (by rw [← h.main]; exact h0)
  have hl6 := legs_len r.bar.b.code
  have hE : EndsAt w B x.mA x.mn x.hA x.hn x.m r.bar.A r.bar.n r.bar.b r.A r.legs.length r.legs := ⟨hA.sol, hA.bars.each _ h.mem, hleg, rfl, by have := h.len; omega, hA.name⟩
  have := aends_yes x.rule x.m x.mA x.mn x.mc x.hA x.hn x.hc r.bar.b r.bar.A r.bar.n r.bar.c r.A r.legs.length r.c r.legs B w hB hE (rod_given h hr hm h0) q hq hqe
  have e : r.main.toNat = q := by rw [h.main, hqe]; rfl
  unfold S.lowOf S.upOf S.legOf
  rw [e]
  exact this
theorem rends_rod (x : Dt) (r : Rod) (A : Option Addr) (c : Nat) (B : Nat) (w : World) (hB : B ≤ w.heap.size) (hA : DtAt w B x) (hleg : Cells w B A (r.legs.flatMap boxC)) (h : RodFit x r) (hr : S.rule x.rule = true) (hm : S.member x.m = true) (h0 : 0 ≤ r.main) :
    Calls Tryz.prog 159 #[ruleV x.rule, memV x.m x.mA x.mn x.mc x.hA x.hn x.hc, barV r.bar.b r.bar.A r.bar.n r.bar.c, .slice A r.legs.length c] w fun e w' => e = .returned (.tuple #[.int .i64 (S.lowOf x r), .int .i64 (S.upOf x r)]) ∧ Below w.heap.size w w' := by
  obtain ⟨q, hq, hqe, _⟩ := idxf_some (xs := r.legs) (p := S.isMainB) (by rw [← h.main]; exact h0)
  have hl6 := legs_len r.bar.b.code
  have hE : EndsAt w B x.mA x.mn x.hA x.hn x.m r.bar.A r.bar.n r.bar.b A r.legs.length r.legs := ⟨hA.sol, hA.bars.each _ h.mem, hleg, rfl, by have := h.len; omega, hA.name⟩
  have := rends_yes x.rule x.m x.mA x.mn x.mc x.hA x.hn x.hc r.bar.b r.bar.A r.bar.n r.bar.c A r.legs.length c r.legs B w hB hE (rod_given h hr hm h0) q hq hqe
  have e : r.main.toNat = q := by rw [h.main, hqe]; rfl
  unfold S.lowOf S.upOf S.legOf
  rw [e]
  exact this
end Go.Proofs.YtffkmgjmlahfpaaGreat
set_option linter.unusedVariables false
set_option linter.unusedSimpArgs false
namespace Go.Proofs.YtffkmgjmlahfpaaGreat
open Go.RowKit
set_option maxHeartbeats 1000000 in
theorem rcmp_any (rs : List Rod) (a b : Nat) (p q : Rod) (g : Nat) (A : Option Addr) (n c : Nat) (B : Nat) (w : World) (hB : B ≤ w.heap.size) (hn : rs.length = n) (ha : rs[a]? = some p) (hb : rs[b]? = some q)
    (hg : w.cell? ⟨g, 0, none⟩ = some (.slice A n c)) (hgl : g < w.heap.size) (hs : Cells w B A (rs.flatMap rodC)) :
    Calls Tryz.prog 153 #[.int .i64 a, .int .i64 b, .pointer (some ⟨g, 0, none⟩)] w fun e w' => e = .returned (.int .i64 (cmpI p.bar.b.size q.bar.b.size)) ∧ Below w.heap.size w w' := by
  obtain ⟨hax, hpa⟩ := List.getElem?_eq_some_iff.1 ha
  obtain ⟨hbx, hqb⟩ := List.getElem?_eq_some_iff.1 hb
  obtain ⟨g2, o, hA, hg2, hx⟩ := hs.at_ (by rw [flat_len rodC 7 rodC_len]; omega)
  clear hx
  rw [hA] at hs hg
  have c1 := hs.rowj rodC_len hax 1 rfl
  have c2 := hs.rowj rodC_len hbx 1 rfl
  rw [hpa] at c1
  rw [hqb] at c2
  have han : (a : Int) < n := by omega
  have hbn : (b : Int) < n := by omega
  have hg2l : g2 < w.heap.size := by omega
  clear hs ha hb hpa hqb hax hbx hA hn
  go_enter Tryz.func153, Tryz.ntmps153
  go_upto_region 1 with fail
  refine wp_region_mix 0 [12] (by kernel_rfl) (by kernel_rfl) (of_decide_eq_true (by kernel_rfl)) ?_
  try simp only [wpSegs, List.take_succ_cons, List.take_zero, List.drop_succ_cons, List.drop_zero, List.take_nil, List.drop_nil]
  repeat (go_big_quiet_step (fail))
  refine wpQuiet_nil ?_
  show wpList _ _ _ _ _ _
  go_wp2_with ((go_at_call 154; (with_reducible refine (cmp_any _ _ _).mono ?_); rintro e w1 ⟨rfl, hbw1⟩))
  refine seg_next (grow_to (by repeat (with_reducible first | exact Below.refl _ _ | assumption | refine ba_alloc ?_ _ | refine ba_drew ?_ | refine ba_drewN ?_ _ | refine ba_via (by assumption) ?_ | (refine ba_set ?_ ?_ _; rotate_left; (first | omega | (simp; omega) | simp))))) ?_
  try simp only [wpSegs, List.take_succ_cons, List.take_zero, List.drop_succ_cons, List.drop_zero, List.take_nil, List.drop_nil]
  repeat (go_big_quiet_step (fail))
  refine wpQuiet_nil ?_
  show wpList _ _ _ _ _ _
  go_wp2
  go_ret
  exact ⟨rfl, (by repeat (first | exact Below.refl _ _ | assumption | refine ba_alloc ?_ _ | refine ba_drew ?_ | refine ba_drewN ?_ _ | refine ba_via (by assumption) ?_ | (refine ba_set ?_ ?_ _; rotate_left; (first | omega | (simp; omega) | simp))))⟩
/-- The first of those with the least key. -/
def minBy (K : Int → Int) (xs : List Int) : Int := xs.tail.foldl (fun m a => if K a < K m then a else m) (xs.headD 0)
theorem minBy_one (K : Int → Int) {xs : List Int} (h : 0 < xs.length) : minBy K (xs.take 1) = xs[0] := by
  cases xs with
  | nil => simp at h
  | cons x l => simp [minBy]
theorem minBy_next (K : Int → Int) {xs : List Int} {k : Nat} (h : k < xs.length) (h0 : 0 < k) : minBy K (xs.take (k + 1)) = if K xs[k] < K (minBy K (xs.take k)) then xs[k] else minBy K (xs.take k) := by
  have e : xs.take (k + 1) = xs.take k ++ [xs[k]] := by rw [List.take_add_one, List.getElem?_eq_getElem h]; rfl
  have hne : xs.take k ≠ [] := by
    intro h2
    have h3 : (xs.take k).length = 0 := by rw [h2]; rfl
    rw [List.length_take] at h3
    omega
  rw [e]
  generalize xs.take k = t at *
  cases t with
  | nil => exact absurd rfl hne
  | cons x l => simp [minBy, List.foldl_append]
theorem minBy_mem (K : Int → Int) {xs : List Int} {k : Nat} (h0 : 0 < k) (hk : k ≤ xs.length) : minBy K (xs.take k) ∈ xs := by
  induction k with
  | zero => omega
  | succ k ih =>
    by_cases h : k = 0
    · subst h
      rw [minBy_one K (by omega)]
      exact List.getElem_mem _
    · rw [minBy_next K (by omega) (by omega)]
      split
      · exact List.getElem_mem _
      · exact ih (by omega) (by omega)
set_option maxHeartbeats 1000000 in
theorem minf_any (K : Int → Int) (A : Option Addr) (n c : Nat) (xs : List Int) (g : Nat) (B : Nat) (w : World) (hn : xs.length = n) (h0 : 0 < n) (hm : n ≤ 1000000) (hB : B ≤ w.heap.size) (hs : Cells w B A (i64s xs))
    (hf : ∀ (a b : Int) (w' : World), a ∈ xs → b ∈ xs → Below w.heap.size w w' → Calls Tryz.prog 153 #[.int .i64 a, .int .i64 b, .pointer (some ⟨g, 0, none⟩)] w' fun e w'' => e = .returned (.int .i64 (cmpI (K a) (K b))) ∧ Below w'.heap.size w' w'') :
    Calls Tryz.prog 152 #[.slice A n c, .func (.func 153) #[] #[.pointer (some ⟨g, 0, none⟩)]] w fun e w' => e = .returned (.int .i64 (minBy K xs)) ∧ Below w.heap.size w w' := by
  have HN := Lib.hid hn
  have HF := Lib.hid hf
  have hF := Tryz.call153
  obtain ⟨b, o, hA, hbB, hx⟩ := hs.at_ (by simp; omega)
  clear hx hn hf
  subst hA
  have hbl : b < w.heap.size := by omega
  have H1 := Lib.hid (minBy_one K (xs := xs) (by have := HN.out; omega))
  have c0 := hs.get (i64s_get (xs := xs) (k := 0) (by have := HN.out; omega))
  generalize hx0 : xs[0]'(by have := HN.out; omega) = x0 at *
  clear hx0
  simp only [Nat.add_zero] at c0
  go_enter Tryz.func152, Tryz.ntmps152
  go_wp2
  go_loopw [5, 6] (fun m i wr => ∃ k : Nat, 1 ≤ k ∧ k ≤ n ∧ i = .int .i64 k ∧ ∃ v : Int, m = .int .i64 v ∧ Hid (v = minBy K (xs.take k)) ∧ Below w.heap.size w wr) (fun _ i _ => n - (intOf i).toNat)
  case atStart => exact ⟨1, Nat.le_refl _, h0, rfl, x0, rfl, Lib.hid H1.out.symm, Below.refl _ _⟩
  case round =>
    obtain ⟨k, hk1, hk, rfl, v, rfl, hv, hbr⟩ := hrel
    by_cases hlt : k < n
    · have hkx : k < xs.length := by have := HN.out; omega
      have hs' := hs.below (hbr.mono hB)
      have hck := hs'.get (i64s_get hkx)
      have hvm : v ∈ xs := by rw [hv.out]; exact minBy_mem K hk1 (by omega)
      have HN1 := Lib.hid (minBy_next K hkx hk1)
      have HFk := Lib.hid (fun (W : World) (hw : Below w.heap.size w W) => HF.out xs[k] v W (List.getElem_mem _) hvm hw)
      rw [← hv.out] at HN1
      generalize xs[k] = xk at *
      have hbl2 : b < wr.heap.size := by have := hbr.size; omega
      have hkn : (k : Int) < n := by omega
      have HCN := Lib.hid (cmpI_neg (K xk) (K v))
      clear hvm
      cases hc : decide (K xk < K v)
      · have hc2 : decide (cmpI (K xk) (K v) < 0) = false := HCN.out.trans hc
        have hc3 := Lib.hid hc
        clear hc
        go_wp2_with (first | (refine (HFk.out _ hbr).mono ?_; rintro e w1 ⟨rfl, hb1⟩))
        go_roundw
        case rel => exact ⟨k + 1, by omega, by omega, by go_num, v, rfl, Lib.hid (by rw [HN1.out, if_neg (of_decide_eq_false hc3.out)]), hbr.trans (hb1.mono hbr.size)⟩
        case measure => simp [intOf]; omega
      · have hc2 : decide (cmpI (K xk) (K v) < 0) = true := HCN.out.trans hc
        have hc3 := Lib.hid hc
        clear hc
        go_wp2_with (first | (refine (HFk.out _ hbr).mono ?_; rintro e w1 ⟨rfl, hb1⟩; have hck1 := (hb1.cell (p := ⟨b, o + k, none⟩) hbl2).trans hck))
        go_roundw
        case rel => exact ⟨k + 1, by omega, by omega, by go_num, xk, rfl, Lib.hid (by rw [HN1.out, if_pos (of_decide_eq_true hc3.out)]), hbr.trans (hb1.mono hbr.size)⟩
        case measure => simp [intOf]; omega
    · have HE := Lib.hid (show v = minBy K xs by rw [hv.out, List.take_of_length_le (by have := HN.out; omega)])
      clear hv
      go_wp2
      go_ret
      exact ⟨ret_i HE.out, hbr⟩
end Go.Proofs.YtffkmgjmlahfpaaGreat
set_option linter.unusedVariables false
set_option linter.unusedSimpArgs false
namespace Go.Proofs.YtffkmgjmlahfpaaGreat
open Go.RowKit
set_option maxHeartbeats 2000000 in
theorem count_yes (x : Dt) (B : Nat) (w : World) (hB : B ≤ w.heap.size) (hA : DtAt w B x) (h : S.laid (bars x.bs) x.rs = true) :
    Calls Tryz.prog 145 #[.slice x.bA x.bn x.bc, .slice x.rA x.rn x.rc] w fun e w' => e = .returned (.tuple #[.int .i64 (S.mains (bars x.bs) x.rs).length, .int .i64 0]) ∧ Below w.heap.size w w' := by
  have HA := Lib.hid hA
  have HF := Lib.hid (fun (k : Nat) (hk : k < x.rs.length) => run_facts (x := x) (B := B) (w := w) h hk)
  have HL := Lib.hid (fun (W : World) (hw : B ≤ W.heap.size) (hh : BarsAt W B x.bA x.bn x.bs) (hr : RunsAt W B x.rA x.rn x.rs) => h ▸ laid_any x.bs x.rs x.bA x.bn x.bc x.rA x.rn x.rc B W hw hh hr)
  have hrl := hA.runs.len
  have hrm := hA.runs.max
  clear hA h
  generalize hrA : x.rA = rA at *
  have HrA := Lib.hid hrA
  clear hrA
  go_enter Tryz.func145, Tryz.ntmps145
  go_wp2_with (first
    | (go_at_call 120; (with_reducible refine (HL.out _ hB HA.out.bars (HrA.out ▸ HA.out.runs)).mono ?_); rintro e w1 ⟨rfl, hbw1⟩; obtain ⟨hcw1, hfw1⟩ := bcell hbw1))
  go_loopw [15, 6] (fun i s wr => ∃ k : Nat, k ≤ x.rn ∧ i = .int .i64 k ∧ s = .int .i64 (S.mains (bars x.bs) (x.rs.take k)).length ∧ Below w.heap.size w wr) (fun i _ _ => x.rn - (intOf i).toNat)
  case atStart => exact ⟨0, Nat.zero_le _, rfl, by simp [S.mains], hbw1⟩
  case round =>
    obtain ⟨k, hk, rfl, rfl, hbr⟩ := hrel
    by_cases hlt : k < x.rn
    · have hkx : k < x.rs.length := by omega
      have hki : (k : Int) < x.rn := by omega
      have hs' := (HA.out.at_ hB hbr).runs.cells
      rw [HrA.out] at hs'
      obtain ⟨b, o, hAe, hbB, _⟩ := hs'.at_ (by rw [flat_len rnC 10 rnC_len]; omega)
      subst hAe
      have c0 := hs'.row0 rnC_len hkx rfl
      have c1 := hs'.rowj rnC_len hkx 1 rfl
      have c2 := hs'.rowj rnC_len hkx 2 rfl
      have c3 := hs'.rowj rnC_len hkx 3 rfl
      have c4 := hs'.rowj rnC_len hkx 4 rfl
      have c5 := hs'.rowj rnC_len hkx 5 rfl
      have c6 := hs'.rowj rnC_len hkx 6 rfl
      have c7 := hs'.rowj rnC_len hkx 7 rfl
      have c8 := hs'.rowj rnC_len hkx 8 rfl
      have c9 := hs'.rowj rnC_len hkx 9 rfl
      obtain ⟨k0, br, _, hok, _, _, hle⟩ := HF.out k hkx
      have hcnt := hok.count
      have hsn := mains_snoc (bars x.bs) x.rs hkx hok.at_
      have hln : ((S.mains (bars x.bs) (x.rs.take (k + 1))).length : Int) = (S.mains (bars x.bs) (x.rs.take k)).length + x.rs[k].count := by
        rw [hsn, List.length_append, mainsOf_len]
        omega
      have HLN := Lib.hid hln
      clear hs' hok hsn hln
      generalize (S.mains (bars x.bs) (x.rs.take k)).length = sm at *
      generalize x.rs[k] = r at *
      have e1 : IntKind.i64.wrap ((sm : Int) + r.count) = sm + r.count := IntWalk.i64_in _ (by omega)
      go_wp2
      go_roundw
      case rel => exact ⟨k + 1, by omega, by go_num, by rw [HLN.out], (by repeat (first | exact Below.refl _ _ | assumption | refine ba_alloc ?_ _ | refine ba_drew ?_ | refine ba_drewN ?_ _ | refine ba_via (by assumption) ?_ | (refine ba_set ?_ ?_ _; rotate_left; (first | omega | (simp; omega) | simp))))⟩
      case measure => simp [intOf]; omega
    · have hke : k = x.rn := by omega
      have HTK := Lib.hid (show x.rs.take k = x.rs from List.take_of_length_le (by omega))
      rw [HTK.out]
      go_wp2
      go_ret2
      exact ⟨rfl, hbr⟩
end Go.Proofs.YtffkmgjmlahfpaaGreat
set_option linter.unusedVariables false
set_option linter.unusedSimpArgs false
namespace Go.Proofs.YtffkmgjmlahfpaaGreat
open Go.RowKit
set_option maxRecDepth 20000 in
set_option maxHeartbeats 8000000 in
theorem rods_any (x : Dt) (B : Nat) (w : World) (hB : B ≤ w.heap.size) (hA : DtAt w B x) (h : S.laid (bars x.bs) x.rs = true) (hn2 : (S.mains (bars x.bs) x.rs).length ≤ 2000) :
    Calls Tryz.prog 92 #[dtV x] w (GivesRods x (S.mains (bars x.bs) x.rs).length w) := by
  have HCN := Lib.hid (fun (W : World) (hw : Below w.heap.size w W) => count_yes x B W (size_via hB hw) (hA.at_ hB hw) h)
  have HMK := Lib.hid (fun (W : World) (hw : Below w.heap.size w W) (i k j k0 : Nat) (r : BarR) (hL : Lies x.bs x.rs i k j k0 r) => laidMark_any x i B W (size_via hB hw) (hA.at_ hB hw) h hL)
  have HLG := Lib.hid (fun (W : World) (hw : Below w.heap.size w W) (i k j k0 : Nat) (r : BarR) (hL : Lies x.bs x.rs i k j k0 r) => llegs_any x i B W (size_via hB hw) (hA.at_ hB hw) h hL _ rfl)
  have HLI := Lib.hid (fun (i : Nat) (hi : i < (S.mains (bars x.bs) x.rs).length) => lies_of h hi)
  have HBS := Lib.hid hA.bars
  clear hA h
  generalize (S.mains (bars x.bs) x.rs).length = n at *
  unfold dtV
  have hDB := Blk.new w 34 #[.string x.m.name, .slice x.mA x.mn x.mc, .slice x.hA x.hn x.hc, .int .i64 x.m.cover, .int .i64 x.m.aggr, .int .i64 x.m.poker, .slice x.bA x.bn x.bc, .slice x.rA x.rn x.rc, .slice x.jA x.jn x.jc, .slice x.dA x.dn x.dc, .int .i64 x.rule.num, .int .i64 x.rule.den, .int .i64 x.rule.pnum, .int .i64 x.rule.pden, .int .i64 x.rule.bnum, .int .i64 x.rule.bden, .int .i64 x.rule.lnum, .int .i64 x.rule.lden, .int .i64 x.rule.least]
  have hW1 : Below w.heap.size w (w.alloc (.cells #[.string x.m.name, .slice x.mA x.mn x.mc, .slice x.hA x.hn x.hc, .int .i64 x.m.cover, .int .i64 x.m.aggr, .int .i64 x.m.poker, .slice x.bA x.bn x.bc, .slice x.rA x.rn x.rc, .slice x.jA x.jn x.jc, .slice x.dA x.dn x.dc, .int .i64 x.rule.num, .int .i64 x.rule.den, .int .i64 x.rule.pnum, .int .i64 x.rule.pden, .int .i64 x.rule.bnum, .int .i64 x.rule.bden, .int .i64 x.rule.lnum, .int .i64 x.rule.lden, .int .i64 x.rule.least] 34)) := ba_alloc (Below.refl _ _) _
  go_enter Tryz.func92, Tryz.ntmps92
  go_upto_region 1 with fail
  generalize (w.alloc (.cells #[.string x.m.name, .slice x.mA x.mn x.mc, .slice x.hA x.hn x.hc, .int .i64 x.m.cover, .int .i64 x.m.aggr, .int .i64 x.m.poker, .slice x.bA x.bn x.bc, .slice x.rA x.rn x.rc, .slice x.jA x.jn x.jc, .slice x.dA x.dn x.dc, .int .i64 x.rule.num, .int .i64 x.rule.den, .int .i64 x.rule.pnum, .int .i64 x.rule.pden, .int .i64 x.rule.bnum, .int .i64 x.rule.bden, .int .i64 x.rule.lnum, .int .i64 x.rule.lden, .int .i64 x.rule.least] 34)) = W1 at *
  have HDB := Lib.hid hDB
  generalize x.bA = bA at *
  have d6 := hDB.cell 6
  have d7 := hDB.cell 7
  have hDl := hDB.lt
  simp only [List.getElem?_toArray, List.getElem?_cons_zero, List.getElem?_cons_succ] at d6 d7
  clear hDB
  go_wp2_with (first
    | (go_at_call 145; (with_reducible refine (HCN.out _ (by repeat (with_reducible first | exact Below.refl _ _ | assumption | refine ba_alloc ?_ _ | refine ba_drew ?_ | refine ba_drewN ?_ _ | refine ba_via (by assumption) ?_ | (refine ba_set ?_ ?_ _; rotate_left; (first | omega | (simp; omega) | simp))))).mono ?_); rintro e w1 ⟨rfl, hbw1⟩))
  have hb1 : Below w.heap.size w w1 := ba_via hbw1 hW1
  have HD1 := Lib.hid (HDB.out.via hbw1)
  have hs1 := hb1.size
  clear HDB d6 d7 hDl hbw1 HCN
  go_loopw [6, 23] (fun v s wr => ∃ (q : Nat) (rs : List Rod), q ≤ n ∧ s = .int .i64 q ∧ Hid (rs.length = q) ∧ Hid (∀ (i : Nat) (hi : i < rs.length), RodOk x i rs[i]) ∧ RodsAt wr w1.heap.size v rs ∧ Below w1.heap.size w1 wr) (fun _ s _ => n - (intOf s).toNat)
  case atStart => exact ⟨0, [], Nat.zero_le _, rfl, Lib.hid rfl, Lib.hid fun i hi => absurd hi (by simp), ⟨World.ownsRow_nil _ _ _ _, fun r hr => by cases hr⟩, Below.refl _ _⟩
  case round =>
    obtain ⟨q, rs, hq, rfl, hrl, hok, hR, hbr⟩ := hrel
    have hbwr : Below w.heap.size w wr := ba_via hbr hb1
    have hsr := hbr.size
    by_cases hlt : q < n
    · have hqi : (q : Int) < n := by omega
      obtain ⟨k, j, k0, r, hL⟩ := HLI.out q hlt
      have hDr := HD1.out.via hbr
      have d6 := hDr.cell 6
      have d7 := hDr.cell 7
      have hDl := hDr.lt
      simp only [List.getElem?_toArray, List.getElem?_cons_zero, List.getElem?_cons_succ] at d6 d7
      have HMQ := Lib.hid (fun (W : World) (hw : Below wr.heap.size wr W) => HMK.out W (ba_via hw hbwr) q k j k0 r hL)
      have HLQ := Lib.hid (fun (W : World) (hw : Below wr.heap.size wr W) => HLG.out W (ba_via hw hbwr) q k j k0 r hL)
      have HLL := Lib.hid hL
      have hl1 := (legs_sum hL.st.ok.bar).2
      have hl6 := legs_len r.b.code
      have hix := hL.st.ok.index
      have hget := hL.get
      obtain ⟨hk0, hk0b⟩ := List.getElem?_eq_some_iff.1 hget
      have hk0n : k0 < x.bn := by have := HBS.out.len; omega
      have hlen : (S.legsL (S.laidPath r.b (x.rs[k]'hL.st.lt) j)).length = (S.legsOf r.b.code).length := by rw [S.legsL, legsTo_len, laidPath_len]; rfl
      have HLN := Lib.hid hlen
      have HR := Lib.hid hR
      clear hlen hR hq hget
      generalize hlg : S.legsL (S.laidPath r.b (x.rs[k]'hL.st.lt) j) = lg at *
      have HLGE := Lib.hid hlg
      generalize hmk : (x.rs[k]'hL.st.lt).mark = mk at *
      clear hlg hmk
      go_upto_region 9 with (first
        | (go_at_call 146; (with_reducible refine (HMQ.out _ (by repeat (with_reducible first | exact Below.refl _ _ | assumption | refine ba_alloc ?_ _ | refine ba_drew ?_ | refine ba_drewN ?_ _ | refine ba_via (by assumption) ?_ | (refine ba_set ?_ ?_ _; rotate_left; (first | omega | (simp; omega) | simp))))).mono ?_); rintro e w2 ⟨rfl, hbw2⟩))
      have hS8 := Blk.new w2 9 #[.string mk]
      have hb8 : Below wr.heap.size wr (w2.alloc (.cells #[.string mk] 9)) := ba_alloc hbw2 _
      generalize (w2.alloc (.cells #[.string mk] 9)) = W8 at *
      have hg8 := hbw2.size
      generalize w2.heap.size = g8 at *
      clear hbw2 d6 d7 hDl
      go_upto_region 12 with fail
      have hb10 : Below wr.heap.size wr (W8.alloc (.cells #[.string ⟨#[]⟩, .int .i64 0, .int .i64 0, .int .i64 0, .slice none 0 0, .slice none 0 0, .int .i64 0] 160)) := ba_alloc hb8 _
      have hT10 := Blk.new W8 160 #[.string ⟨#[]⟩, .int .i64 0, .int .i64 0, .int .i64 0, .slice none 0 0, .slice none 0 0, .int .i64 0]
      have hS10 := hS8.alloc (.cells #[.string ⟨#[]⟩, .int .i64 0, .int .i64 0, .int .i64 0, .slice none 0 0, .slice none 0 0, .int .i64 0] 160)
      have hg10 := hb8.size
      generalize (W8.alloc (.cells #[.string ⟨#[]⟩, .int .i64 0, .int .i64 0, .int .i64 0, .slice none 0 0, .slice none 0 0, .int .i64 0] 160)) = W10 at *
      have hlt8 := hS8.lt
      generalize W8.heap.size = g10 at *
      have hD10 := hDr.via hb10
      have hlD := hDr.lt
      have d6 := hD10.cell 6
      have d7 := hD10.cell 7
      have hDl := hD10.lt
      simp only [List.getElem?_toArray, List.getElem?_cons_zero, List.getElem?_cons_succ] at d6 d7
      clear hb8 hS8
      go_upto_region 13 with (first
        | (go_at_call 147; (with_reducible refine (HLQ.out _ (by repeat (with_reducible first | exact Below.refl _ _ | assumption | refine ba_alloc ?_ _ | refine ba_drew ?_ | refine ba_drewN ?_ _ | refine ba_via (by assumption) ?_ | (refine ba_set ?_ ?_ _; rotate_left; (first | omega | (simp; omega) | simp))))).mono ?_); rintro e w3 ⟨A3, c3, rfl, how3, hbw3⟩; have hT3 := hT10.via hbw3; have t5 := hT3.cell 5; have f5 := hT3.frozen 5; have lt3 := hT3.lt; simp only [List.getElem?_toArray, List.getElem?_cons_zero, List.getElem?_cons_succ] at t5))
      obtain ⟨g3, cur3, t3, fr3, rfl, hg3, hh3, hc3⟩ := Blk.of_own how3 (by omega) (by unfold maxLen; omega)
      have hs10 := hT10.lt
      have hT12 := hT3.set 5 (.slice (some ⟨g3, 0, none⟩) (S.legsOf r.b.code).length c3)
      have hD12 := (hD10.via hbw3).far (p := ⟨g10, 5, none⟩) (by simp; omega) (.slice (some ⟨g3, 0, none⟩) (S.legsOf r.b.code).length c3)
      have hS12 := (hS10.via hbw3).far (p := ⟨g10, 5, none⟩) (by simp; omega) (.slice (some ⟨g3, 0, none⟩) (S.legsOf r.b.code).length c3)
      have hh12 : (w3.setCell ⟨g10, 5, none⟩ (.slice (some ⟨g3, 0, none⟩) (S.legsOf r.b.code).length c3)).heap[g3]? = some (.cells cur3 t3 fr3) := (Below.heap_setCell w3 _ _ g3 (by simp; omega)).trans hh3
      have hb12 : Below wr.heap.size wr (w3.setCell ⟨g10, 5, none⟩ (.slice (some ⟨g3, 0, none⟩) (S.legsOf r.b.code).length c3)) := ba_set (ba_via hbw3 hb10) hg10 _
      simp only [List.setIfInBounds_toArray, List.set_cons_zero, List.set_cons_succ] at hT12
      clear hT3 t5 f5 lt3 hbw3 hT10 hS10 hD10 d6 d7 hDl hh3 how3 hb10
      generalize (w3.setCell ⟨g10, 5, none⟩ (.slice (some ⟨g3, 0, none⟩) (S.legsOf r.b.code).length c3)) = W12 at *
      clear w3
      have HHC := Lib.hid hc3
      clear hc3
      have hbw12 : Below w.heap.size w W12 := ba_via hb12 hbwr
      have hs12 := hb12.size
      have hBC := HBS.out.cells.below (hbw12.mono hB)
      have HIX := Lib.hid (fun (W : World) (hw : Below W12.heap.size W12 W) => show Calls Tryz.prog 148 #[.slice bA x.bn x.bc, .func (.func 149) #[] #[.pointer (some ⟨g8, 0, none⟩)]] W fun e w' => e = .returned (.int .i64 k0) ∧ Below W.heap.size W w' from by
        have e : idxf x.bs (fun y => S.isMark mk y.b) = (k0 : Int) := by
          rw [← hix]
          exact (idxf_map _ _ _).symm
        rw [← e]
        exact indexfR_any 149 #[] #[.pointer (some ⟨g8, 0, none⟩)] (fun y => S.isMark mk y.b) bA x.bn x.bc x.bs B W HBS.out.len HBS.out.max (by have := hw.size; omega) (hBC.below (hw.mono (by omega))) Tryz.call149
          (fun y V hV => rmark_any mk y g8 V (((hS12.via hw).via hV).cell 0) ((hS12.via hw).via hV).lt))
      obtain ⟨bB, oB, hBe, hbB, hxx⟩ := hBC.at_ (by rw [flat_len barC 5 barC_len]; omega)
      clear hxx
      subst hBe
      have b0 := hBC.row0 barC_len hk0 rfl
      have b1 := hBC.rowj barC_len hk0 1 rfl
      have b2 := hBC.rowj barC_len hk0 2 rfl
      have b3 := hBC.rowj barC_len hk0 3 rfl
      have b4 := hBC.rowj barC_len hk0 4 rfl
      rw [hk0b] at b0 b1 b2 b3 b4
      have hbBl : bB < W12.heap.size := by omega
      have hk0i : (k0 : Int) < x.bn := by omega
      have d6 := hD12.cell 6
      have hDl := hD12.lt
      simp only [List.getElem?_toArray, List.getElem?_cons_zero, List.getElem?_cons_succ] at d6
      have hTl := hT12.lt
      clear hBC hix hk0b
      go_upto_region 15 with fail
      refine wp_region_mix 3 [4, 0] (by kernel_rfl) (by kernel_rfl) (of_decide_eq_true (by kernel_rfl)) ?_
      try simp only [wpSegs, List.take_succ_cons, List.take_zero, List.drop_succ_cons, List.drop_zero, List.take_nil, List.drop_nil]
      repeat (go_big_quiet_step (fail))
      refine wpQuiet_nil ?_
      show wpList _ _ _ _ _ _
      go_wp2_with (fail)
      refine seg_next (grow_to (by repeat (with_reducible first | exact Below.refl _ _ | assumption | refine ba_alloc ?_ _ | refine ba_drew ?_ | refine ba_drewN ?_ _ | refine ba_via (by assumption) ?_ | (refine ba_set ?_ ?_ _; rotate_left; (first | omega | (simp; omega) | simp))))) ?_
      try simp only [wpSegs, List.take_succ_cons, List.take_zero, List.drop_succ_cons, List.drop_zero, List.take_nil, List.drop_nil]
      repeat (go_big_quiet_step (fail))
      refine wpQuiet_nil ?_
      show wpList _ _ _ _ _ _
      go_wp2_with ((go_at_call 148; (with_reducible refine (HIX.out _ (by repeat (with_reducible first | exact Below.refl _ _ | assumption | refine ba_alloc ?_ _ | refine ba_drew ?_ | refine ba_drewN ?_ _ | refine ba_via (by assumption) ?_ | (refine ba_set ?_ ?_ _; rotate_left; (first | omega | (simp; omega) | simp))))).mono ?_); rintro e w4 ⟨rfl, hbw4⟩))
      refine seg_next (grow_to (by repeat (with_reducible first | exact Below.refl _ _ | assumption | refine ba_alloc ?_ _ | refine ba_drew ?_ | refine ba_drewN ?_ _ | refine ba_via (by assumption) ?_ | (refine ba_set ?_ ?_ _; rotate_left; (first | omega | (simp; omega) | simp))))) ?_
      try simp only [wpSegs, List.take_succ_cons, List.take_zero, List.drop_succ_cons, List.drop_zero, List.take_nil, List.drop_nil]
      repeat (go_big_quiet_step (fail))
      refine wpQuiet_nil ?_
      show wpList _ _ _ _ _ _
      have hb4 : Below W12.heap.size W12 w4 := (by repeat (with_reducible first | exact Below.refl _ _ | assumption | refine ba_alloc ?_ _ | refine ba_drew ?_ | refine ba_drewN ?_ _ | refine ba_via (by assumption) ?_ | (refine ba_set ?_ ?_ _; rotate_left; (first | omega | (simp; omega) | simp))))
      have hT4 := hT12.via hb4
      have t0 := hT4.cell 0
      have t1 := hT4.cell 1
      have t2 := hT4.cell 2
      have t3' := hT4.cell 3
      have t4 := hT4.cell 4
      have f0 := hT4.frozen 0
      have f1 := hT4.frozen 1
      have f2 := hT4.frozen 2
      have f3 := hT4.frozen 3
      have f4 := hT4.frozen 4
      have tl := hT4.lt
      simp only [List.getElem?_toArray, List.getElem?_cons_zero, List.getElem?_cons_succ] at t0 t1 t2 t3' t4
      clear b0 b1 b2 b3 b4 d6
      go_upto_region 16 with fail
      have hT15 := ((((hT4.set 0 (.string r.b.mark)).set 1 (.int .i64 r.b.size)).set 2 (.int .i64 r.b.count)).set 3 (.int .i64 r.b.code)).set 4 (.slice r.A r.n r.c)
      have hh4 : w4.heap[g3]? = some (.cells cur3 t3 fr3) := (hb4.block g3 (Array.getElem?_eq_some_iff.1 hh12).1).trans hh12
      have hh15 : (((((w4.setCell ⟨g10, 0, none⟩ (.string r.b.mark)).setCell ⟨g10, 1, none⟩ (.int .i64 r.b.size)).setCell ⟨g10, 2, none⟩ (.int .i64 r.b.count)).setCell ⟨g10, 3, none⟩ (.int .i64 r.b.code)).setCell ⟨g10, 4, none⟩ (.slice r.A r.n r.c)).heap[g3]? = some (.cells cur3 t3 fr3) := (Below.heap_setCell _ _ _ g3 (by simp; omega)).trans ((Below.heap_setCell _ _ _ g3 (by simp; omega)).trans ((Below.heap_setCell _ _ _ g3 (by simp; omega)).trans ((Below.heap_setCell _ _ _ g3 (by simp; omega)).trans ((Below.heap_setCell _ _ _ g3 (by simp; omega)).trans hh4))))
      have hb15 : Below wr.heap.size wr (((((w4.setCell ⟨g10, 0, none⟩ (.string r.b.mark)).setCell ⟨g10, 1, none⟩ (.int .i64 r.b.size)).setCell ⟨g10, 2, none⟩ (.int .i64 r.b.count)).setCell ⟨g10, 3, none⟩ (.int .i64 r.b.code)).setCell ⟨g10, 4, none⟩ (.slice r.A r.n r.c)) := ba_set (ba_set (ba_set (ba_set (ba_set (ba_via hb4 hb12) hg10 _) hg10 _) hg10 _) hg10 _) hg10 _
      simp only [List.setIfInBounds_toArray, List.set_cons_zero, List.set_cons_succ] at hT15
      clear t0 t1 t2 t3' t4 f0 f1 f2 f3 f4 tl hT4 hT12 hh12 hh4 hS12 hD12 hb12 hb4 hbw4
      generalize (((((w4.setCell ⟨g10, 0, none⟩ (.string r.b.mark)).setCell ⟨g10, 1, none⟩ (.int .i64 r.b.size)).setCell ⟨g10, 2, none⟩ (.int .i64 r.b.count)).setCell ⟨g10, 3, none⟩ (.int .i64 r.b.code)).setCell ⟨g10, 4, none⟩ (.slice r.A r.n r.c)) = W15 at *
      clear w4
      have hl15 := (Array.getElem?_eq_some_iff.1 hh15).1
      have HIB := Lib.hid (show Calls Tryz.prog 150 #[.slice (some ⟨g3, 0, none⟩) (S.legsOf r.b.code).length c3, .func (.func 151) #[] #[]] W15 fun e w' => e = .returned (.int .i64 (idxf lg S.isMainB)) ∧ Below W15.heap.size W15 w' from
        indexfB_any 151 #[] #[] S.isMainB (some ⟨g3, 0, none⟩) (S.legsOf r.b.code).length c3 lg W15.heap.size W15 HLN.out (by omega) (Nat.le_refl _) (.inr ⟨g3, 0, rfl, hl15, fun j' v hv => by rw [Nat.zero_add]; exact (cell_of_row W15 g3 j' cur3 t3 fr3 hh15).trans (HHC.out j' v hv)⟩) Tryz.call151 (fun y V _ => rmain2_any y V))
      generalize hmi : idxf lg S.isMainB = mi at *
      have HMI := Lib.hid hmi
      clear hmi
      have t5 := hT15.cell 5
      have tl := hT15.lt
      simp only [List.getElem?_toArray, List.getElem?_cons_zero, List.getElem?_cons_succ] at t5
      go_upto_region 17 with (first
        | (go_at_call 150; (with_reducible refine HIB.out.mono ?_); rintro e w5 ⟨rfl, hbw5⟩; have hT5 := hT15.via hbw5; have t6 := hT5.cell 6; have f6 := hT5.frozen 6; have tl5 := hT5.lt; simp only [List.getElem?_toArray, List.getElem?_cons_zero, List.getElem?_cons_succ] at t6))
      have hT16 := hT5.set 6 (.int .i64 mi)
      have hh16 : (w5.setCell ⟨g10, 6, none⟩ (.int .i64 mi)).heap[g3]? = some (.cells cur3 t3 fr3) := (Below.heap_setCell _ _ _ g3 (by simp; omega)).trans ((hbw5.block g3 hl15).trans hh15)
      have hb16 : Below wr.heap.size wr (w5.setCell ⟨g10, 6, none⟩ (.int .i64 mi)) := ba_set (ba_via hbw5 hb15) hg10 _
      simp only [List.setIfInBounds_toArray, List.set_cons_zero, List.set_cons_succ] at hT16
      clear t5 tl t6 f6 tl5 hT5 hT15 hh15 hb15 hbw5 HIB hl15
      generalize (w5.setCell ⟨g10, 6, none⟩ (.int .i64 mi)) = W16 at *
      clear w5
      have t0 := hT16.cell 0
      have t1 := hT16.cell 1
      have t2 := hT16.cell 2
      have t3' := hT16.cell 3
      have t4 := hT16.cell 4
      have t5 := hT16.cell 5
      have t6 := hT16.cell 6
      have tl := hT16.lt
      simp only [List.getElem?_toArray, List.getElem?_cons_zero, List.getElem?_cons_succ] at t0 t1 t2 t3' t4 t5 t6
      have HRK := Lib.hid (HR.out.kept hb16)
      have hrb : rs.length ≤ 2000 := by have := hrl.out; omega
      have hbE1 : w1.heap.size ≤ W16.heap.size := by have := hb16.size; omega
      go_wp2_with (at_builtin; refine wpList_push rfl (.tmp 65) (.tmp 67) _ rfl elemRod ((show Row W16 W16 u6.ownBlock w1.heap.size 160 7 u6 rs.length (rs.flatMap rodC) from ⟨HRK.out.own, fun k hk => .inl hk.symm⟩).alloc _) ((Exc.refl u6.ownBlock.toList W16).alloc _) (by intro k hk; simp [hk]) hbE1 rfl W16.heap.size 1 1 [.string r.b.mark, .int .i64 r.b.size, .int .i64 r.b.count, .int .i64 r.b.code, .slice r.A r.n r.c, .slice (some ⟨g3, 0, none⟩) (S.legsOf r.b.code).length c3, .int .i64 mi] rfl rfl ?_ (by simp [Value.oneCell']) (by unfold maxLen; omega) (by omega) ?_; (· intro j u hu; have := (Cells.newRow W16 #[.string r.b.mark, .int .i64 r.b.size, .int .i64 r.b.count, .int .i64 r.b.code, .slice r.A r.n r.c, .slice (some ⟨g3, 0, none⟩) (S.legsOf r.b.code).length c3, .int .i64 mi] 160 (0, 0)).get (k := j) (v := u) hu; simpa using this); intro v2 wE hRE hXE hOE)
      have hlegs : LegsAt W16 w1.heap.size u6 ⟨r, lg, some ⟨g3, 0, none⟩, c3, mi⟩ :=
        ⟨g3, cur3, t3, fr3, rfl, by omega, fun he => by have := (HR.out.own.lt g3 he).2; omega, hh16, HHC.out⟩
      have hown := hRE.own
      rw [show ([.string r.b.mark, .int .i64 r.b.size, .int .i64 r.b.count, .int .i64 r.b.code, .slice r.A r.n r.c, .slice (some ⟨g3, 0, none⟩) (S.legsOf r.b.code).length c3, .int .i64 mi] : List Value) = rodC ⟨r, lg, some ⟨g3, 0, none⟩, c3, mi⟩ from by rw [← HLN.out]] at hown
      have hpush := RodsAt.push (r := ⟨r, lg, some ⟨g3, 0, none⟩, c3, mi⟩) (w2 := wE) (v2 := v2) HRK.out hlegs hown (fun k hk hne => (hOE k (by simp; omega) hne).trans (Below.heap_alloc _ _ k hk)) (fun k hk => hRE.place k hk)
      have hb1E : Below w1.heap.size w1 wE := (hbr.trans (hb16.mono hsr)).trans (hXE.below (by omega) (fun g hg => (HRK.out.own.lt g (by simpa using hg)).1))
      go_roundw
      case rel =>
        refine ⟨q + 1, rs ++ [⟨r, lg, some ⟨g3, 0, none⟩, c3, mi⟩], by omega, by go_num, Lib.hid (by have := hrl.out; simp; omega), Lib.hid fun i hi => ?_, hpush, hb1E⟩
        by_cases hiq : i < rs.length
        · rw [List.getElem_append_left hiq]
          exact hok.out i hiq
        · have hi2 : i = rs.length := by simp at hi; omega
          subst hi2
          rw [List.getElem_append_right (Nat.le_refl _)]
          simp only [Nat.sub_self, List.getElem_cons_zero]
          refine ⟨⟨k, j, k0, ?_⟩, HMI.out.symm⟩
          have hrq := hrl.out
          exact ⟨by rw [hrq]; exact HLL.out, HLGE.out.symm⟩
      case measure => simp [intOf]; omega
    · have hqn : q = n := by omega
      have hrb := hrl.out
      obtain ⟨A5, c5, rfl, hnc5, _, hC5⟩ := own_form hR.own (by unfold maxLen; omega)
      have HQN := Lib.hid hqn
      clear hqn hrb
      have hqi : ¬ ((q : Int) < n) := by omega
      have HRL := hrl
      go_wp2
      go_ret2
      exact ⟨A5, c5, rs, rfl, by rw [HRL.out, HQN.out], hok.out, ⟨own_mono hR.own (by omega), fun r hr => by
        obtain ⟨g, cur, t, fr, h1, h2, h3⟩ := hR.each r hr
        exact ⟨g, cur, t, fr, h1, by omega, h3⟩⟩, hbwr⟩
end Go.Proofs.YtffkmgjmlahfpaaGreat
set_option linter.unusedVariables false
set_option linter.unusedSimpArgs false
namespace Go.Proofs.YtffkmgjmlahfpaaGreat
open Go.RowKit
set_option maxRecDepth 20000 in
set_option maxHeartbeats 2000000 in
theorem lvalid_any (x : Dt) (t : Bool) (B : Nat) (n : Nat) (xs : List Value) (w : World) (hB : B ≤ w.heap.size)
    (hL : ∀ W, Below w.heap.size w W → Calls Tryz.prog 65 #[dtV x] W (GivesLook t n xs W)) :
    Calls Tryz.prog 87 #[dtV x] w fun e w' => e = .returned (.bool t) ∧ Below w.heap.size w w' := by
  have HL := Lib.hid hL
  clear hL
  unfold dtV at HL
  unfold dtV
  have hDB := (Blk.new w 34 #[.string x.m.name, .slice x.mA x.mn x.mc, .slice x.hA x.hn x.hc, .int .i64 x.m.cover, .int .i64 x.m.aggr, .int .i64 x.m.poker, .slice x.bA x.bn x.bc, .slice x.rA x.rn x.rc, .slice x.jA x.jn x.jc, .slice x.dA x.dn x.dc, .int .i64 x.rule.num, .int .i64 x.rule.den, .int .i64 x.rule.pnum, .int .i64 x.rule.pden, .int .i64 x.rule.bnum, .int .i64 x.rule.bden, .int .i64 x.rule.lnum, .int .i64 x.rule.lden, .int .i64 x.rule.least])
  have hRG := hDB.range
  go_enter Tryz.func87, Tryz.ntmps87
  go_wp2_with (first
    | (refine wpList_load_mid rfl 34 (.tmp 1) rfl _ _ rfl _ _ hRG Tryz.underlying34 rfl (by kernel_rfl) ?_)
    | (go_at_call 65; (with_reducible refine (HL.out _ (by repeat (first | exact Below.refl _ _ | assumption | refine ba_alloc ?_ _ | refine ba_drew ?_ | refine ba_drewN ?_ _ | refine ba_via (by assumption) ?_ | (refine ba_set ?_ ?_ _; rotate_left; (first | omega | (simp; omega) | simp))))).mono ?_); rintro e w1 ⟨A1, c1', rfl, how1, hbw1⟩))
  go_ret
  exact ⟨rfl, (by repeat (first | exact Below.refl _ _ | assumption | refine ba_alloc ?_ _ | refine ba_drew ?_ | refine ba_drewN ?_ _ | refine ba_via (by assumption) ?_ | (refine ba_set ?_ ?_ _; rotate_left; (first | omega | (simp; omega) | simp))))⟩
/-- A call hands back chains and no error. -/
def GivesChE (L : List (List Int)) (w : World) (e : Ending) (w' : World) : Prop :=
  ∃ (A : Option Addr) (c : Nat) (rs : List Chn), e = .returned (.tuple #[.slice A rs.length c, .int .i64 0]) ∧ rs.map (·.l) = L ∧ rs.length ≤ c ∧ Cells w' w'.heap.size A (rs.map chV) ∧ (∀ r, r ∈ rs → Cells w' w'.heap.size r.A (i64s r.l) ∧ r.l.length ≤ r.c) ∧ Below w.heap.size w w'
set_option maxRecDepth 20000 in
set_option maxHeartbeats 2000000 in
theorem lchains_yes (x : Dt) (B : Nat) (n : Nat) (xs : List Value) (L : List (List Int)) (w : World) (hB : B ≤ w.heap.size) (hn : n ≤ 2000)
    (hL : ∀ W, Below w.heap.size w W → Calls Tryz.prog 65 #[dtV x] W (GivesLook true n xs W)) (hC : ∀ W, Below w.heap.size w W → Calls Tryz.prog 69 #[dtV x, .int .i64 n] W (GivesChs L W)) :
    Calls Tryz.prog 18 #[dtV x] w (GivesChE L w) := by
  have HL := Lib.hid hL
  have HC := Lib.hid hC
  clear hL hC
  unfold dtV at HL HC
  unfold dtV
  have hDB := (Blk.new w 34 #[.string x.m.name, .slice x.mA x.mn x.mc, .slice x.hA x.hn x.hc, .int .i64 x.m.cover, .int .i64 x.m.aggr, .int .i64 x.m.poker, .slice x.bA x.bn x.bc, .slice x.rA x.rn x.rc, .slice x.jA x.jn x.jc, .slice x.dA x.dn x.dc, .int .i64 x.rule.num, .int .i64 x.rule.den, .int .i64 x.rule.pnum, .int .i64 x.rule.pden, .int .i64 x.rule.bnum, .int .i64 x.rule.bden, .int .i64 x.rule.lnum, .int .i64 x.rule.lden, .int .i64 x.rule.least])
  have hRG := hDB.range
  go_enter Tryz.func18, Tryz.ntmps18
  go_wp2_with (first
    | (refine wpList_load_mid rfl 34 (.tmp 1) rfl _ _ rfl _ _ hRG Tryz.underlying34 rfl (by kernel_rfl) ?_)
    | (refine wpList_load_mid rfl 34 (.tmp 1) rfl _ _ rfl _ _ hRG1 Tryz.underlying34 rfl (by kernel_rfl) ?_)
    | (go_at_call 65; (with_reducible refine (HL.out _ (by repeat (first | exact Below.refl _ _ | assumption | refine ba_alloc ?_ _ | refine ba_drew ?_ | refine ba_drewN ?_ _ | refine ba_via (by assumption) ?_ | (refine ba_set ?_ ?_ _; rotate_left; (first | omega | (simp; omega) | simp))))).mono ?_); rintro e w1 ⟨A1, c1', rfl, how1, hbw1⟩; have hRG1 := (hDB.via hbw1).range)
    | (go_at_call 69; (with_reducible refine (HC.out _ (by repeat (first | exact Below.refl _ _ | assumption | refine ba_alloc ?_ _ | refine ba_drew ?_ | refine ba_drewN ?_ _ | refine ba_via (by assumption) ?_ | (refine ba_set ?_ ?_ _; rotate_left; (first | omega | (simp; omega) | simp))))).mono ?_); rintro e w2 ⟨A2, c2, rs, rfl, hrs, hrc, hcc, hce, hbw2⟩))
  go_ret2
  exact ⟨A2, c2, rs, rfl, hrs, hrc, hcc, hce, (by repeat (first | exact Below.refl _ _ | assumption | refine ba_alloc ?_ _ | refine ba_drew ?_ | refine ba_drewN ?_ _ | refine ba_via (by assumption) ?_ | (refine ba_set ?_ ?_ _; rotate_left; (first | omega | (simp; omega) | simp))))⟩
set_option maxRecDepth 20000 in
set_option maxHeartbeats 2000000 in
theorem lchains_no (x : Dt) (B : Nat) (w : World) (hB : B ≤ w.heap.size)
    (hL : ∀ W, Below w.heap.size w W → Calls Tryz.prog 65 #[dtV x] W (GivesLook false 0 [] W)) :
    Calls Tryz.prog 18 #[dtV x] w fun e w' => e = .returned (.tuple #[.slice none 0 0, .int .i64 1]) ∧ Below w.heap.size w w' := by
  have HL := Lib.hid hL
  clear hL
  unfold dtV at HL
  unfold dtV
  have hDB := (Blk.new w 34 #[.string x.m.name, .slice x.mA x.mn x.mc, .slice x.hA x.hn x.hc, .int .i64 x.m.cover, .int .i64 x.m.aggr, .int .i64 x.m.poker, .slice x.bA x.bn x.bc, .slice x.rA x.rn x.rc, .slice x.jA x.jn x.jc, .slice x.dA x.dn x.dc, .int .i64 x.rule.num, .int .i64 x.rule.den, .int .i64 x.rule.pnum, .int .i64 x.rule.pden, .int .i64 x.rule.bnum, .int .i64 x.rule.bden, .int .i64 x.rule.lnum, .int .i64 x.rule.lden, .int .i64 x.rule.least])
  have hRG := hDB.range
  go_enter Tryz.func18, Tryz.ntmps18
  go_wp2_with (first
    | (refine wpList_load_mid rfl 34 (.tmp 1) rfl _ _ rfl _ _ hRG Tryz.underlying34 rfl (by kernel_rfl) ?_)
    | (go_at_call 65; (with_reducible refine (HL.out _ (by repeat (first | exact Below.refl _ _ | assumption | refine ba_alloc ?_ _ | refine ba_drew ?_ | refine ba_drewN ?_ _ | refine ba_via (by assumption) ?_ | (refine ba_set ?_ ?_ _; rotate_left; (first | omega | (simp; omega) | simp))))).mono ?_); rintro e w1 ⟨A1, c1', rfl, how1, hbw1⟩))
  go_ret2
  exact ⟨rfl, (by repeat (first | exact Below.refl _ _ | assumption | refine ba_alloc ?_ _ | refine ba_drew ?_ | refine ba_drewN ?_ _ | refine ba_via (by assumption) ?_ | (refine ba_set ?_ ?_ _; rotate_left; (first | omega | (simp; omega) | simp))))⟩
set_option maxRecDepth 20000 in
set_option maxHeartbeats 2000000 in
theorem lcheck_nil (x : Dt) (B : Nat) (n : Nat) (xs : List Value) (w : World) (hB : B ≤ w.heap.size) (hj : x.jA = none ∧ x.jn = 0 ∧ x.jc = 0)
    (hL : ∀ W, Below w.heap.size w W → Calls Tryz.prog 65 #[dtV x] W (GivesLook true n xs W)) :
    Calls Tryz.prog 15 #[dtV x] w fun e w' => e = .returned (.tuple #[.slice none 0 0, .int .i64 0]) ∧ Below w.heap.size w w' := by
  have HL := Lib.hid hL
  clear hL
  unfold dtV at HL
  unfold dtV
  rw [hj.1, hj.2.1, hj.2.2] at HL ⊢
  have hDB := (Blk.new w 34 #[.string x.m.name, .slice x.mA x.mn x.mc, .slice x.hA x.hn x.hc, .int .i64 x.m.cover, .int .i64 x.m.aggr, .int .i64 x.m.poker, .slice x.bA x.bn x.bc, .slice x.rA x.rn x.rc, .slice none 0 0, .slice x.dA x.dn x.dc, .int .i64 x.rule.num, .int .i64 x.rule.den, .int .i64 x.rule.pnum, .int .i64 x.rule.pden, .int .i64 x.rule.bnum, .int .i64 x.rule.bden, .int .i64 x.rule.lnum, .int .i64 x.rule.lden, .int .i64 x.rule.least])
  have hRG := hDB.range
  go_enter Tryz.func15, Tryz.ntmps15
  go_upto_region 5 with (first
    | (refine wpList_load_mid rfl 34 (.tmp 1) rfl _ _ rfl _ _ hRG Tryz.underlying34 rfl (by kernel_rfl) ?_)
    | (go_at_call 65; (with_reducible refine (HL.out _ (by repeat (first | exact Below.refl _ _ | assumption | refine ba_alloc ?_ _ | refine ba_drew ?_ | refine ba_drewN ?_ _ | refine ba_via (by assumption) ?_ | (refine ba_set ?_ ?_ _; rotate_left; (first | omega | (simp; omega) | simp))))).mono ?_); rintro e w1 ⟨A1, c1', rfl, how1, hbw1⟩))
  have hbw : Below w.heap.size w w1 := (by repeat (first | exact Below.refl _ _ | assumption | refine ba_alloc ?_ _ | refine ba_drew ?_ | refine ba_drewN ?_ _ | refine ba_via (by assumption) ?_ | (refine ba_set ?_ ?_ _; rotate_left; (first | omega | (simp; omega) | simp))))
  have d8 := (hDB.via hbw1).cell 8
  simp only [List.getElem?_toArray, List.getElem?_cons_zero, List.getElem?_cons_succ] at d8
  go_wp2
  refine wp_loop_rounds 1 ?_
  rw [rounds_succ]
  go_wp2
  go_ret2
  exact ⟨rfl, hbw⟩
end Go.Proofs.YtffkmgjmlahfpaaGreat
set_option linter.unusedVariables false
set_option linter.unusedSimpArgs false
namespace Go.Proofs.YtffkmgjmlahfpaaGreat
open Go.RowKit
def BlkE7 (W : World) (g : Nat) (t : TypeId) : Prop := ∃ c0 c1 c2 c3 c4 c5 c6 : Value, Blk W g t #[c0, c1, c2, c3, c4, c5, c6]
theorem BlkE7.newN {W : World} {n : Nat} (hn : W.heap.size = n) (t : TypeId) (c0 c1 c2 c3 c4 c5 c6 : Value) : BlkE7 (W.alloc (.cells #[c0, c1, c2, c3, c4, c5, c6] t)) n t := ⟨c0, c1, c2, c3, c4, c5, c6, Blk.newN hn t _⟩
theorem BlkE7.map {W w : World} {g : Nat} {t : TypeId} (h : BlkE7 W g t) (f : ∀ cs, Blk W g t cs → Blk w g t cs) : BlkE7 w g t := by
  obtain ⟨c0, c1, c2, c3, c4, c5, c6, h⟩ := h
  exact ⟨c0, c1, c2, c3, c4, c5, c6, f _ h⟩
theorem BlkE7.alloc {W : World} {g : Nat} {t : TypeId} (h : BlkE7 W g t) (o : Obj) : BlkE7 (W.alloc o) g t := h.map fun _ h => h.alloc o
theorem BlkE7.drew {W : World} {g : Nat} {t : TypeId} (h : BlkE7 W g t) : BlkE7 W.drew g t := h
theorem BlkE7.via {W w : World} {g : Nat} {t : TypeId} (h : BlkE7 W g t) (hb : Below W.heap.size W w) : BlkE7 w g t := h.map fun _ h => h.via hb
theorem Blk.set7 {W : World} {g : Nat} {t : TypeId} (h : BlkE7 W g t) (v0 v1 v2 v3 v4 v5 v6 : Value) : Blk (((((((W.setCell ⟨g, 0, none⟩ v0).setCell ⟨g, 1, none⟩ v1).setCell ⟨g, 2, none⟩ v2).setCell ⟨g, 3, none⟩ v3).setCell ⟨g, 4, none⟩ v4).setCell ⟨g, 5, none⟩ v5).setCell ⟨g, 6, none⟩ v6) g t #[v0, v1, v2, v3, v4, v5, v6] := by
  obtain ⟨c0, c1, c2, c3, c4, c5, c6, hB⟩ := h
  have h9 := ((((((hB.set 0 v0).set 1 v1).set 2 v2).set 3 v3).set 4 v4).set 5 v5).set 6 v6
  simp only [List.setIfInBounds_toArray, List.set_cons_zero, List.set_cons_succ] at h9
  exact h9
theorem Blk.far7 {W : World} {g g' : Nat} {t : TypeId} {cs : Array Value} (h : Blk W g' t cs) (hn : g ≠ g') (v0 v1 v2 v3 v4 v5 v6 : Value) : Blk (((((((W.setCell ⟨g, 0, none⟩ v0).setCell ⟨g, 1, none⟩ v1).setCell ⟨g, 2, none⟩ v2).setCell ⟨g, 3, none⟩ v3).setCell ⟨g, 4, none⟩ v4).setCell ⟨g, 5, none⟩ v5).setCell ⟨g, 6, none⟩ v6) g' t cs :=
  ((((((h.far hn.symm _).far hn.symm _).far hn.symm _).far hn.symm _).far hn.symm _).far hn.symm _).far hn.symm _
theorem BlkE7.far7 {W : World} {g g' : Nat} {t : TypeId} (h : BlkE7 W g' t) (hn : g ≠ g') (v0 v1 v2 v3 v4 v5 v6 : Value) : BlkE7 (((((((W.setCell ⟨g, 0, none⟩ v0).setCell ⟨g, 1, none⟩ v1).setCell ⟨g, 2, none⟩ v2).setCell ⟨g, 3, none⟩ v3).setCell ⟨g, 4, none⟩ v4).setCell ⟨g, 5, none⟩ v5).setCell ⟨g, 6, none⟩ v6) g' t := h.map fun _ h => h.far7 hn _ _ _ _ _ _ _
/-- A guard: the operation at hand is a load of this type by this slot. -/
theorem at_load {P : Program} {ops : Array Oper} {Q : Exit → Act → World → Prop} {rest : List Oper} {a : Act} {w : World} (ty : TypeId) (s : Nat) {dst : Option Nat} {t : TypeId} {pos : String} {after : Array Edge}
    (h : wpList P ops Q ({ dst := dst, op := .load ty (.tmp s), type := t, pos := pos, after := after, guard := none } :: rest) a w) : wpList P ops Q ({ dst := dst, op := .load ty (.tmp s), type := t, pos := pos, after := after, guard := none } :: rest) a w := h
end Go.Proofs.YtffkmgjmlahfpaaGreat
set_option linter.unusedVariables false
set_option linter.unusedSimpArgs false
namespace Go.Proofs.YtffkmgjmlahfpaaGreat
open Go.RowKit
def S.eqi (xs ys : List Int) : Bool := decide (xs = ys)
theorem eqi_no_len {xs ys : List Int} (h : xs.length ≠ ys.length) : S.eqi xs ys = false := by
  simp only [S.eqi, decide_eq_false_iff_not]
  exact fun e => h (by rw [e])
theorem eqi_no_at {xs ys : List Int} {k : Nat} (hx : k < xs.length) (hy : k < ys.length) (h : xs[k] ≠ ys[k]) : S.eqi xs ys = false := by
  simp only [S.eqi, decide_eq_false_iff_not]
  rintro rfl
  exact h rfl
theorem eqi_yes {xs ys : List Int} (hl : xs.length = ys.length) (h : ∀ j (hx : j < xs.length) (hy : j < ys.length), xs[j] = ys[j]) : S.eqi xs ys = true := by
  simp only [S.eqi, decide_eq_true_eq]
  exact List.ext_getElem hl fun j h1 h2 => h j h1 h2
set_option maxHeartbeats 1000000 in
theorem equal_any (A A' : Option Addr) (n m c c' : Nat) (xs ys : List Int) (B : Nat) (w : World) (hB : B ≤ w.heap.size) (hn : xs.length = n) (hm : ys.length = m) (hn' : n ≤ 9223372036854775807) (hm' : m ≤ 9223372036854775807) (hx : Cells w B A (i64s xs)) (hy : Cells w B A' (i64s ys)) :
    Calls Tryz.prog 24 #[.slice A n c, .slice A' m c'] w fun e w' => e = .returned (.bool (S.eqi xs ys)) ∧ Below w.heap.size w w' := by
  have HN := Lib.hid hn
  have HM := Lib.hid hm
  clear hn hm
  by_cases hl : n = m
  · have hl' : ((n : Int) != (m : Int)) = false := by simp [hl]
    have HL := Lib.hid hl
    clear hl
    go_enter Tryz.func24, Tryz.ntmps24
    go_wp2
    go_loopw [13] (fun i wr => ∃ k : Nat, k ≤ n ∧ i = .int .i64 k ∧ Hid (∀ j (hx : j < xs.length) (hy : j < ys.length), j < k → xs[j] = ys[j]) ∧ Below w.heap.size w wr) (fun i _ => n - (intOf i).toNat)
    case atStart => exact ⟨0, Nat.zero_le _, rfl, Lib.hid fun j _ _ h => absurd h (by omega), Below.refl _ _⟩
    case round =>
      obtain ⟨k, hk, rfl, HNO, hbr⟩ := hrel
      by_cases hlt : k < n
      · have hkx : k < xs.length := by have := HN.out; omega
        have hky : k < ys.length := by have := HM.out; have := HL.out; omega
        have hkm : k < m := by have := HL.out; omega
        obtain ⟨b1, o1, rfl, _, hc1⟩ := (hx.below (hbr.mono hB)).at_ (by simp; omega)
        obtain ⟨b2, o2, rfl, _, hc2⟩ := (hy.below (hbr.mono hB)).at_ (by simp; omega)
        have e1 := hc1 k _ (i64s_get hkx)
        have e2 := hc2 k _ (i64s_get hky)
        clear hc1 hc2
        have hkn' : (k : Int) < (n : Int) := by omega
        have hkm' : (k : Int) < (m : Int) := by omega
        by_cases hq : xs[k] = ys[k]
        · have hq' : (xs[k] != ys[k]) = false := by simp [hq]
          have HQ := Lib.hid hq
          clear hq
          go_wp2
          go_quiet (fail)
          go_wp2
          go_roundw
          case rel =>
            refine ⟨k + 1, by omega, by go_num, Lib.hid fun j h1 h2 h3 => ?_, (by repeat (first | exact Below.refl _ _ | assumption | refine ba_alloc ?_ _ | refine ba_drew ?_ | refine ba_drewN ?_ _ | refine ba_via (by assumption) ?_ | (refine ba_set ?_ ?_ _; rotate_left; (first | omega | (simp; omega) | simp))))⟩
            by_cases hjk : j = k
            · subst hjk; exact HQ.out
            · exact HNO.out j h1 h2 (by omega)
          case measure => simp [intOf]; omega
        · have hq' : (xs[k] != ys[k]) = true := by simp [hq]
          have HQ := Lib.hid (eqi_no_at hkx hky hq)
          clear hq
          go_wp2
          go_quiet (fail)
          go_wp2
          go_ret
          exact ⟨ret_b HQ.out.symm, (by repeat (first | exact Below.refl _ _ | assumption | refine ba_alloc ?_ _ | refine ba_drew ?_ | refine ba_drewN ?_ _ | refine ba_via (by assumption) ?_ | (refine ba_set ?_ ?_ _; rotate_left; (first | omega | (simp; omega) | simp))))⟩
      · go_wp2
        go_ret
        exact ⟨ret_b (eqi_yes (by have := HN.out; have := HM.out; have := HL.out; omega) (fun j h1 h2 => HNO.out j h1 h2 (by have := HN.out; omega))).symm, (by repeat (first | exact Below.refl _ _ | assumption | refine ba_alloc ?_ _ | refine ba_drew ?_ | refine ba_drewN ?_ _ | refine ba_via (by assumption) ?_ | (refine ba_set ?_ ?_ _; rotate_left; (first | omega | (simp; omega) | simp))))⟩
  · have hl' : ((n : Int) != (m : Int)) = true := by simp; omega
    have HL := Lib.hid (eqi_no_len (xs := xs) (ys := ys) (by have := HN.out; have := HM.out; omega))
    clear hl
    go_enter Tryz.func24, Tryz.ntmps24
    go_wp2
    go_ret
    exact ⟨ret_b HL.out.symm, (by repeat (first | exact Below.refl _ _ | assumption | refine ba_alloc ?_ _ | refine ba_drew ?_ | refine ba_drewN ?_ _ | refine ba_via (by assumption) ?_ | (refine ba_set ?_ ?_ _; rotate_left; (first | omega | (simp; omega) | simp))))⟩
/-- The lap length of a size, or 0. -/
def lLength (r : Rule) (d : Int) (p : Bool) : Int := if S.sized r d = 0 then S.up (S.length r d p false) r.lnum r.lden else 0
theorem length_bd {r : Rule} {d : Int} (hr : RuleOk r) (hd : 0 ≤ d) (hd' : d ≤ 40) (p b : Bool) : 0 ≤ S.length r d p b ∧ S.length r d p b ≤ 40000000000 := by
  have h1 := basic_bd hr hd hd'
  have h2 := poorUp_bd hr p h1.1 h1.2
  have h3 := bentUp_bd hr b h2.1 h2.2
  have h4 := hr.least
  unfold S.length S.atLeast
  split <;> omega
theorem lLength_any (r : Rule) (d : Int) (poor : Bool) (w : World) : Calls Tryz.prog 53 #[ruleV r, .int .i64 d, .bool poor] w fun e w' => e = .returned (.tuple #[.int .i64 (lLength r d poor), .int .i64 (S.sized r d)]) ∧ Below w.heap.size w w' := by
  have HL := Lib.hid (fun w => Length_any r d poor false w)
  by_cases h0 : S.sized r d = 0
  · obtain ⟨hr, hd⟩ := sized_zero h0
    have hR := rule_ok hr
    have hbd := size_bd hd
    have hb := length_bd hR (show 0 ≤ d by omega) (show d ≤ 40 by omega) poor false
    have hl := hR.lnum
    have hl2 := hR.lden
    have hm := mul_bd hb.1 hb.2 (show 0 ≤ r.lnum by omega) hl.2
    have H := Lib.hid (show lLength r d poor = (S.length r d poor false * r.lnum + r.lden - 1) / r.lden by simp [lLength, h0, S.up])
    have ha : aLength r d poor false = S.length r d poor false := by simp [aLength, h0]
    rw [ha, h0] at HL
    rw [h0]
    have HU := Lib.hid (fun w => lup_any (S.length r d poor false * r.lnum) r.lden hm.1 (by omega) hl2.1 (by omega) w)
    have e1 : IntKind.i64.wrap (S.length r d poor false * r.lnum) = S.length r d poor false * r.lnum := IntWalk.i64_in _ (by omega)
    clear hr hd hR hbd ha h0
    generalize S.length r d poor false = n at *
    unfold ruleV
    unfold ruleV at HL
    go_enter Tryz.func53, Tryz.ntmps53
    go_wp2_with (first
      | (go_at_call 109; (with_reducible refine (HL.out _).mono ?_); rintro e w1 ⟨rfl, hbw1⟩; obtain ⟨hcw1, hfw1⟩ := bcell hbw1; have hzw1_0 : w.heap.size < w1.heap.size := lt_via hbw1 (by first | omega | (simp; done) | (simp; omega)))
      | (go_at_call 110; (with_reducible refine (HU.out _).mono ?_); rintro e w' ⟨rfl, rfl⟩))
    go_ret2
    exact ⟨by rw [H.out]; rfl, (by repeat (first | exact Below.refl _ _ | assumption | refine ba_alloc ?_ _ | refine ba_drew ?_ | refine ba_drewN ?_ _ | refine ba_via (by assumption) ?_ | (refine ba_set ?_ ?_ _; rotate_left; (first | omega | (simp; omega) | simp))))⟩
  · have hb : (S.sized r d == 0) = false := by simpa using h0
    have hb' : (S.sized r d != 0) = true := by simp [bne, hb]
    have H := Lib.hid (show lLength r d poor = 0 by simp [lLength, h0])
    have ha : aLength r d poor false = 0 := by simp [aLength, h0]
    rw [ha] at HL
    clear ha h0
    generalize S.sized r d = s at *
    unfold ruleV
    unfold ruleV at HL
    go_enter Tryz.func53, Tryz.ntmps53
    go_wp2_with (first
      | (go_at_call 109; (with_reducible refine (HL.out _).mono ?_); rintro e w1 ⟨rfl, hbw1⟩; obtain ⟨hcw1, hfw1⟩ := bcell hbw1; have hzw1_0 : w.heap.size < w1.heap.size := lt_via hbw1 (by first | omega | (simp; done) | (simp; omega))))
    go_ret2
    exact ⟨by rw [H.out]; rfl, (by repeat (first | exact Below.refl _ _ | assumption | refine ba_alloc ?_ _ | refine ba_drew ?_ | refine ba_drewN ?_ _ | refine ba_via (by assumption) ?_ | (refine ba_set ?_ ?_ _; rotate_left; (first | omega | (simp; omega) | simp))))⟩
end Go.Proofs.YtffkmgjmlahfpaaGreat
set_option linter.unusedVariables false
set_option linter.unusedSimpArgs false
namespace Go.Proofs.YtffkmgjmlahfpaaGreat
open Go.RowKit
section
variable {P : Program} {ops : Array Oper} {md : Region.Mode} {w0 : World}
/-- The world has grown, no more. -/
def Gw (w w' : World) : Prop := Below w.heap.size w w'
theorem Gw.refl (w : World) : Gw w w := Below.refl _ _
theorem Gw.trans {w w' w'' : World} (h : Gw w w') (h' : Gw w' w'') : Gw w w'' := ba_via h' h
abbrev Cg (w0 w' : World) : Prop := ∃ g, w' = grow w0 g
theorem cg_iff {w' : World} : Cg w0 w' ↔ Gw w0 w' := by
  constructor
  · rintro ⟨g, rfl⟩; exact grow_below w0 g
  · intro h; exact ⟨w', (grow_eq h).symm⟩
theorem wpOp_slot {i : Nat} {oi oj : Oper} {v : Value} (hi : ops[i]? = some oi) (hap : oi.apart ops oj = true) (hsi : ∀ cs b, oi.op ≠ .select cs b) {K K' : Act → World → Prop} {a : Act} {w : World}
    (hK : ∀ a' w', K a' w' → K' (a'.put oj.dst v) w') (h : wpOp P ops stopPost i K a w) : wpOp P ops stopPost i K' (a.put oj.dst v) w := by
  obtain ⟨h3, h2, h1⟩ := Oper.apart_spec hap
  have h2' : ∀ d, oj.dst = some d → oi.dst ≠ some d := fun d hd he => h2 d he hd
  unfold wpOp at *
  simp only [hi] at *
  rw [wanted_put oi a oj.dst v h1]
  split
  · rename_i hw
    simp only [hw, if_true] at h
    rcases h with h | ⟨hasks, hlets⟩
    case inr => exact (lets_stop hlets).elim
    refine .inl ?_
    unfold Oper.wp at *
    rw [execOp_put oi hsi a oj.dst v h1]
    generalize (execOp a.eval oi).run P w = r at *
    cases r with
    | ok n w' =>
      cases n <;> simp only [Oper.upon] at h ⊢
      case value u => rw [Act.put_comm a v u h2']; exact hK _ _ h
      case skip => rw [Act.put_comm a v undef h2']; exact hK _ _ h
      case defer d =>
        have := hK _ _ h
        rw [← Act.put_comm _ v undef h2', ← Act.put_defers] at this
        exact this
      case enter f args =>
        refine Calls.mono h fun e w'' he => ?_
        cases e with
        | returned u =>
          simp only [] at he ⊢
          rw [Act.put_comm a v u h2']; exact hK _ _ he
        | panicked c => exact he
        | outgrown => exact he
      case row row args => exact Rows.mono h fun u w'' he => by rw [Act.put_comm a v u h2']; exact hK _ _ he
    | halt x w' =>
      cases x <;> simp only [Oper.upon] at h ⊢
      case panic u => exact h
  · rename_i hw
    simp only [hw] at h
    rw [Act.put_comm a v undef h2']
    exact hK _ _ h
/-- The operations of R that are not listed yet, in the order of the text; ahead of each one that makes memory the world may have grown. -/
def wpFr (P : Program) (ops : Array Oper) (w0 : World) (ks : Nat → Bool) (K : Act → World → Prop) (listed : Array Bool) : List Nat → Act → World → Prop
  | [], a, w => K a w
  | i :: R, a, w => if listed.getD i false = true then wpFr P ops w0 ks K listed R a w
    else if ks i = true then ∀ w', Cg w0 w' → Gw w w' → wpOp P ops stopPost i (fun a' w'' => Gw w' w'' ∧ wpFr P ops w0 ks K listed R a' w'') a w'
    else qOp P ops (Cg w0) i (fun a' => wpFr P ops w0 ks K listed R a' w) a
theorem wpFr_congr {ks : Nat → Bool} {K : Act → World → Prop} {l1 l2 : Array Bool} : ∀ {R : List Nat}, (∀ i, i ∈ R → l1.getD i false = l2.getD i false) → wpFr P ops w0 ks K l1 R = wpFr P ops w0 ks K l2 R := by
  intro R
  induction R with
  | nil => intro _; rfl
  | cons i R ih =>
    intro h
    have e := ih (fun i hi => h i (List.mem_cons_of_mem _ hi))
    funext a w
    simp only [wpFr, e, h i List.mem_cons_self]
theorem wpFr_weak {ks : Nat → Bool} {K : Act → World → Prop} {listed : Array Bool} (hK : ∀ a w w', K a w → Gw w w' → K a w') : ∀ {R : List Nat} {a : Act} {w w' : World}, wpFr P ops w0 ks K listed R a w → Gw w w' → wpFr P ops w0 ks K listed R a w' := by
  intro R
  induction R with
  | nil => intro a w w' h hg; exact hK a w w' h hg
  | cons i R ih =>
    intro a w w' h hg
    simp only [wpFr] at h ⊢
    split
    · rename_i hl; rw [if_pos hl] at h; exact ih h hg
    · rename_i hl
      rw [if_neg hl] at h
      split
      · rename_i hk; rw [if_pos hk] at h
        exact fun w'' hc hg' => h w'' hc (hg.trans hg')
      · rename_i hk; rw [if_neg hk] at h
        exact qOp_mono (fun a' h' => ih h' hg) h
/-- The fresh variable may be made at any time. -/
theorem wpFr_slot {ks : Nat → Bool} {K K' : Act → World → Prop} {listed : Array Bool} {oj : Oper} {v : Value} (hsel : ∀ (j : Nat) (o : Oper) cs b, ops[j]? = some o → o.op ≠ .select cs b) (hK : ∀ a w, K a w → K' (a.put oj.dst v) w) :
    ∀ {R : List Nat}, (∀ i, i ∈ R → ∃ oi, ops[i]? = some oi ∧ oi.apart ops oj = true) → ∀ {a : Act} {w : World}, wpFr P ops w0 ks K listed R a w → wpFr P ops w0 ks K' listed R (a.put oj.dst v) w := by
  intro R
  induction R with
  | nil => intro _ a w h; exact hK a w h
  | cons i R ih =>
    intro hR a w h
    have ih' := fun {a : Act} {w : World} => ih (fun k hk => hR k (List.mem_cons_of_mem _ hk)) (a := a) (w := w)
    obtain ⟨oi, hoi, hap⟩ := hR i List.mem_cons_self
    simp only [wpFr] at h ⊢
    split
    · rename_i hl; rw [if_pos hl] at h; exact ih' h
    · rename_i hl
      rw [if_neg hl] at h
      split
      · rename_i hk; rw [if_pos hk] at h
        exact fun w' hc hg => wpOp_slot hoi hap (fun cs b => hsel i oi cs b hoi) (fun a' w'' hh => ⟨hh.1, ih' hh.2⟩) (h w' hc hg)
      · rename_i hk; rw [if_neg hk] at h
        obtain ⟨u, hy, hn⟩ := yieldsIn_of_qOp hoi h
        obtain ⟨h3, h2, h1⟩ := Oper.apart_spec hap
        have h2' : ∀ d, oj.dst = some d → oi.dst ≠ some d := fun d hd he => h2 d he hd
        have hy' : YieldsIn P ops (Cg w0) oi u (a.put oj.dst v) := hy.of_same (execOp_put oi (fun cs b => hsel i oi cs b hoi) a oj.dst v h1) (wanted_put oi a oj.dst v h1)
        refine hy'.qOp hoi ?_
        rw [Act.put_comm a v u h2']
        exact ih' hn
theorem pullF {ks : Nat → Bool} {K : Act → World → Prop} (hsel : ∀ (j : Nat) (o : Oper) cs b, ops[j]? = some o → o.op ≠ .select cs b) (hcalm : ∀ i o, ops[i]? = some o → ks i = false → calmB o = true)
    {listed : Array Bool} {j : Nat} {oj : Oper} (hj : ops[j]? = some oj) (hjl : listed.getD j false = false) (hjs : j < listed.size) :
    ∀ R : List Nat, R.Pairwise (· < ·) → j ∈ R → (∀ i, i ∈ R → i < j → listed.getD i false = false → (ks j = false ∨ ks j = true) → ∃ oi, ops[i]? = some oi ∧ oi.apart ops oj = true) → (ks j = true → ∀ i, i ∈ R → i < j → listed.getD i false = false → ks i = false) →
    ∀ (a : Act) (w : World), Cg w0 w → wpFr P ops w0 ks K listed R a w → if ks j = true then ∀ w', Cg w0 w' → Gw w w' → wpOp P ops stopPost j (fun a' w'' => Gw w' w'' ∧ wpFr P ops w0 ks K (listed.setIfInBounds j true) R a' w'') a w' else qOp P ops (Cg w0) j (fun a' => wpFr P ops w0 ks K (listed.setIfInBounds j true) R a' w) a := by
  intro R
  induction R with
  | nil => intro _ h; cases h
  | cons i R ih =>
    intro hp hm hap hch a w hC h
    have hjt : (listed.setIfInBounds j true).getD j false = true := by simp [Array.getD_eq_getD_getElem?, hjs]
    obtain ⟨hlt, hpR⟩ := List.pairwise_cons.1 hp
    by_cases hij : i = j
    · subst hij
      have hni : i ∉ R := fun hi => absurd (hlt i hi) (Nat.lt_irrefl _)
      have e : wpFr P ops w0 ks K (listed.setIfInBounds i true) (i :: R) = wpFr P ops w0 ks K listed R := by
        funext a w
        simp only [wpFr, hjt, if_true]
        rw [wpFr_congr (fun k hk => getD_set_ne false (fun (e : i = k) => hni (by rw [e]; exact hk)))]
      rw [e]
      simp only [wpFr, hjl, Bool.false_eq_true, if_false] at h
      exact h
    · have hjR : j ∈ R := by
        rcases List.mem_cons.1 hm with h1 | h1
        · exact absurd h1.symm hij
        · exact h1
      have hi_lt := hlt j hjR
      have ih' := ih hpR hjR (fun k hk => hap k (List.mem_cons_of_mem _ hk)) (fun h k hk => hch h k (List.mem_cons_of_mem _ hk))
      have hset : (listed.setIfInBounds j true).getD i false = listed.getD i false := getD_set_ne false (fun e => hij e.symm)
      by_cases hl : listed.getD i false = true
      · simp only [wpFr, hset, hl, if_true] at h ⊢
        exact ih' a w hC h
      · have hl' : listed.getD i false = false := by simpa using hl
        obtain ⟨oi, hoi, hapi⟩ := hap i List.mem_cons_self hi_lt hl' (by cases ks j <;> simp)
        simp only [wpFr, hset, hl', Bool.false_eq_true, if_false] at h ⊢
        by_cases hk : ks i = true
        · have hkj : ks j = false := by
            cases hkj : ks j with
            | false => rfl
            | true =>
              have := hch hkj i List.mem_cons_self hi_lt hl'
              rw [hk] at this
              cases this
          simp only [hkj, Bool.false_eq_true, if_false] at ih' ⊢
          rw [if_pos hk] at h
          obtain ⟨a0, u, w1, ⟨hG1, h1⟩, ha0⟩ := wpOp_some hoi (h w hC (Gw.refl w))
          obtain ⟨v, hy, _⟩ := yieldsIn_of_qOp hj (ih' _ _ (cg_iff.2 ((cg_iff.1 hC).trans hG1)) h1)
          obtain ⟨g1, g2, g3⟩ := Oper.apart_spec hapi
          have hy0 : YieldsIn P ops (Cg w0) oj v a0 := hy.of_same (execOp_put oj (fun cs b => hsel j oj cs b hj) a0 oi.dst u g1).symm (wanted_put oj a0 oi.dst u g1).symm
          have hya : YieldsIn P ops (Cg w0) oj v a := by
            rcases ha0 with rfl | ⟨d, rfl⟩
            · exact hy0
            · exact hy0.of_same rfl rfl
          refine hya.qOp hj ?_
          rw [if_pos hk]
          intro w' hC' hG'
          refine wpOp_back hoi hapi (fun cs b => hsel i oi cs b hoi) (fun cs b => hsel j oj cs b hj) hya (fun a' w'' hy' hh => ⟨hh.1, ?_⟩) (h w' hC' hG')
          have hC'' : Cg w0 w'' := cg_iff.2 ((cg_iff.1 hC').trans hh.1)
          obtain ⟨v', hv', hn⟩ := yieldsIn_of_qOp hj (ih' _ _ hC'' hh.2)
          rw [yields_one (hcalm j oj hj hkj) hC'' hy' hv']
          exact hn
        · have hk' : ks i = false := by simpa using hk
          simp only [hk', Bool.false_eq_true, if_false] at h ⊢
          obtain ⟨v, hy, hn⟩ := yieldsIn_of_qOp hoi h
          have h2 := ih' _ _ hC hn
          by_cases hkj : ks j = true
          · rw [if_pos hkj] at h2 ⊢
            intro w' hC' hG'
            refine wpOp_mono ?_ (wpOp_putC hj hapi (fun cs b => hsel i oi cs b hoi) (fun cs b => hsel j oj cs b hj) hy (h2 w' hC' hG'))
            rintro a' w'' ⟨hy', hg', hm'⟩
            exact ⟨hg', hy'.qOp hoi hm'⟩
          · rw [if_neg hkj] at h2 ⊢
            refine qOp_mono ?_ (qOp_put hj hapi (fun cs b => hsel i oi cs b hoi) (fun cs b => hsel j oj cs b hj) hy h2)
            rintro a' ⟨hy', hm'⟩
            exact hy'.qOp hoi hm'
/-- Operations that hand a slot's value on: the same value in every world. -/
def pureB (o : Oper) : Bool := match o.op with | .move _ | .assign _ | .extract _ _ => true | _ => false
theorem extract_any {v u : Value} {ix : Nat} {w w' : World} (h : (Instr.extract v ix).run P w = .ok u w') (W : World) : (Instr.extract v ix).run P W = .ok u W := by
  unfold Instr.extract at h ⊢
  split at h
  · split at h
    · simp only [Sem.run_pure, Result.ok.injEq] at h ⊢
      first | exact ⟨h.1, trivial⟩ | exact h.1
    · cases h
  · cases h
theorem pure_any {o : Oper} (hp : pureB o = true) {a : Act} {v : Value} {w w' : World} (h : (execOp a.eval o).run P w = .ok (.value v) w') (W : World) : (execOp a.eval o).run P W = .ok (.value v) W := by
  unfold pureB at hp
  unfold execOp at h ⊢
  split at hp
  all_goals (first | (rename_i ho; rw [ho] at h ⊢) | cases hp)
  · simp only [Sem.run_pure, Result.ok.injEq] at h ⊢
    exact ⟨h.1, trivial⟩
  · simp only [Sem.run_pure, Result.ok.injEq] at h ⊢
    exact ⟨h.1, trivial⟩
  · rw [Sem.run_bind] at h ⊢
    generalize hr : Instr.extract _ _ = I at h ⊢
    cases hx : I.run P w with
    | halt x w1 => rw [hx] at h; cases h
    | ok u w1 =>
      subst hr
      rw [hx] at h
      rw [extract_any hx W]
      have h' : Result.ok (Next.value u) w1 = Result.ok (Next.value v) w' := h
      injection h' with h1 h2
      injection h1 with h3
      subst h3
      rfl
theorem pure_yields {o : Oper} (hp : pureB o = true) (hc : calmB o = true) {a : Act} {v : Value} {w : World} (hw : Cg w0 w) (h : YieldsIn P ops (Cg w0) o v a) : Yields P ops o v a := by
  rcases h with ⟨h1, h2⟩ | ⟨h1, h2⟩
  · exact .inl ⟨h1, fun W => pure_any hp (calm_at hc (h2 w hw)) W⟩
  · exact .inr ⟨h1, h2⟩
theorem apart_comm {x y : Oper} (h : x.apart ops y = true) : y.apart ops x = true := by
  obtain ⟨h1, h2, h3⟩ := Oper.apart_spec h
  unfold Oper.apart
  rw [Bool.and_eq_true]
  constructor
  · cases hy : y.dst with
    | none => rfl
    | some d =>
      have a1 := h3 d hy
      have a2 : x.dst ≠ some d := fun e => h2 d e hy
      simp [a1, a2]
  · cases hx : x.dst with
    | none => rfl
    | some d =>
      have a1 := h1 d hx
      simp [a1]
/-- Each operation ahead of the tail is waited for; those in ls go free. -/
def sinkLB (md : Region.Mode) (ops : Array Oper) (n : Nat) (ls : List Nat) : Bool :=
  (List.range n).all fun i => ls.contains i || (List.range (n + 1)).any fun j => decide (i < j) && !ls.contains j && Region.waitsFor md ops j i
theorem tail_waitsL {n : Nat} {ls : List Nat} {listed : Array Bool} (hs : sinkLB md ops n ls = true) (hc : Region.chainB md ops n = true) (hn : n < ops.size) (inv : HeadInv md ops n listed) :
    ∀ (d i : Nat), n - i = d → ls.contains i = false → i < n → listed.getD i true = false → ∀ t, n ≤ t → t ∉ Region.ready md ops listed := by
  intro d
  induction d using Nat.strongRecOn with
  | _ d ih =>
    intro i hd hli hi hun t ht hr
    obtain ⟨_, ot, hot, hall⟩ := mem_ready.1 hr
    have htlt : t < ops.size := (Array.getElem?_eq_some_iff.1 hot).1
    by_cases htn : t = n
    · subst htn
      have h1 := List.all_eq_true.1 hs i (List.mem_range.2 hi)
      rw [hli, Bool.false_or] at h1
      obtain ⟨j, hj, hj2⟩ := List.any_eq_true.1 h1
      simp only [Bool.and_eq_true, decide_eq_true_eq, Bool.not_eq_true'] at hj2
      obtain ⟨oj, hoj, e, he, hb, hon⟩ := Region.waitsFor_spec hj2.2
      have hjle : j ≤ t := by have := List.mem_range.1 hj; omega
      by_cases hjt : j = t
      · subst hjt
        have : oj = ot := Option.some.inj (hoj.symm.trans hot)
        subst this
        have h2 := hall e he hb
        rw [hon, getD_both hun] at h2
        cases h2
      · cases hl : listed.getD j false with
        | true =>
          have h2 := inv.closed j oj hoj hl e he hb
          rw [hon, getD_both hun] at h2
          cases h2
        | false =>
          have hjs : j < listed.size := by rw [inv.size]; omega
          exact ih (t - j) (by omega) j rfl hj2.1.2 (by omega) (getD_in hjs hl) t (Nat.le_refl _) hr
    · have h1 := List.all_eq_true.1 hc t (List.mem_range.2 htlt)
      simp only [Bool.or_eq_true, decide_eq_true_eq] at h1
      rcases h1 with h1 | h1
      · omega
      · obtain ⟨o', ho', e, he, hb, hon⟩ := Region.waitsFor_spec h1
        have : o' = ot := Option.some.inj (ho'.symm.trans hot)
        subst this
        have h2 := hall e he hb
        rw [hon, getD_both (inv.tail (t - 1) (by omega) (by omega))] at h2
        cases h2
def mixFB (md : Region.Mode) (ops : Array Oper) (t f : Nat) (l ls : List Nat) : Bool :=
  ls.all (fun i => decide (i < f) && !l.contains i && (match ops[i]? with | some o => pureB o | none => false)) && Region.noSelect ops && decide (t < ops.size) && sinkLB md ops t ls && Region.chainB md ops t && apartAllB md ops && earlyB md ops.toList && linksB md ops l && (List.range f).all (fun i => l.contains i || (match ops[i]? with | some o => calmB o | none => true)) && Region.seqB md ops (ops.size - t) t (canonL t ops.size) && decide (t = f + 1) && (List.range f).all (fun i => !Region.waitsFor md ops f i)
def FrK (P : Program) (ops : Array Oper) (w0 : World) (Q : Exit → Act → World → Prop) (t : Nat) (of : Oper) (T : TypeId) (zs : Array Value) : Act → World → Prop := fun a w =>
  ∀ b w', Cg w0 w' → Gw w w' → w0.heap.size ≤ b → Blk w' b T zs → wpList P ops Q (ops.toList.drop t) (a.put of.dst (.pointer (some ⟨b, 0, none⟩))) w'
def FrB (P : Program) (ops : Array Oper) (w0 : World) (Q : Exit → Act → World → Prop) (t : Nat) (b : Nat) (T : TypeId) (zs : Array Value) : Act → World → Prop := fun a w =>
  ∀ w', Cg w0 w' → Gw w w' → Blk w' b T zs → wpList P ops Q (ops.toList.drop t) a w'
theorem mixF_any {Q : Exit → Act → World → Prop} {t f : Nat} {l ls : List Nat} {of : Oper} {T : TypeId} {zs : Array Value} (hQ : ∀ c a d v w, Q (.panic c) (Act.put a d v) w → Q (.panic c) a w) (hB : mixFB md ops t f l ls = true) (hof : ops[f]? = some of) (hg : of.guard = none)
    (hfr : ∀ (a : Act) (w : World), (execOp a.eval of).run P w = .ok (.value (.pointer (some ⟨w.heap.size, 0, none⟩))) (w.alloc (.cells zs T))) :
    ∀ (n : Nat) (listed : Array Bool) (a : Act) (w : World), listed.toList.count false = n → HeadInv md ops t listed → Cg w0 w →
      ((listed.getD f false = false ∧ wpFr P ops w0 (fun i => l.contains i || decide (f ≤ i)) (FrK P ops w0 Q t of T zs) listed (List.range f) a w) ∨
       (∃ b, listed.getD f false = true ∧ w0.heap.size ≤ b ∧ Blk w b T zs ∧ wpFr P ops w0 (fun i => l.contains i || decide (f ≤ i)) (FrB P ops w0 Q t b T zs) listed (List.range f) a w)) → wpAny P md ops Q n listed a w := by
  simp only [mixFB, Bool.and_eq_true, decide_eq_true_eq] at hB
  obtain ⟨⟨⟨⟨⟨⟨⟨⟨⟨⟨⟨hloo, hsel⟩, hn⟩, hs⟩, hc⟩, hap⟩, hear⟩, hl⟩, hcm⟩, hseq⟩, htf⟩, hfd⟩ := hB
  have hsel' := Region.noSelect_spec hsel
  have hcalm : ∀ i o, ops[i]? = some o → (l.contains i || decide (f ≤ i)) = false → calmB o = true := fun i o ho hk => by
    rw [Bool.or_eq_false_iff, decide_eq_false_iff_not] at hk
    rw [List.all_eq_true] at hcm
    have := hcm i (List.mem_range.2 (by omega))
    rw [hk.1, ho] at this
    simpa using this
  have hwf : ∀ i, i < f → Region.waitsFor md ops f i = false := fun i hi => by
    rw [List.all_eq_true] at hfd
    simpa using hfd i (List.mem_range.2 hi)
  have hKw : ∀ a w w', FrK P ops w0 Q t of T zs a w → Gw w w' → FrK P ops w0 Q t of T zs a w' := fun a w w' h hg b w'' hc' hg' => h b w'' hc' (hg.trans hg')
  have hBw : ∀ b a w w', FrB P ops w0 Q t b T zs a w → Gw w w' → FrB P ops w0 Q t b T zs a w' := fun b a w w' h hg w'' hc' hg' => h w'' hc' (hg.trans hg')
  intro n
  induction n with
  | zero =>
    intro listed a w hf inv hC h
    exfalso
    have h1 := inv.tail t (Nat.le_refl _) hn
    have h2 : t < listed.size := by rw [inv.size]; exact hn
    have h3 : listed[t] = false := by simpa [Array.getD_eq_getD_getElem?, h2] using h1
    have h4 : false ∈ listed.toList := by rw [← h3]; simp
    have := List.count_pos_iff.2 h4
    omega
  | succ n ih =>
    intro listed a w hf inv hC h
    by_cases hall : ∀ i, i < t → listed.getD i false = true
    · have hcan : listed = canonL t ops.size := by
        apply Array.ext
        · rw [inv.size]; simp [canonL]; omega
        · intro i h1 h2
          by_cases hi : i < t
          · have := hall i hi
            have e : listed[i] = true := by simpa [Array.getD_eq_getD_getElem?, h1] using this
            rw [e]
            simp [canonL, hi, List.getElem_append]
          · have := inv.tail i (by omega) (by rw [← inv.size]; exact h1)
            have e : listed[i] = false := by simpa [Array.getD_eq_getD_getElem?, h1] using this
            rw [e]
            simp [canonL, hi, List.getElem_append]
      have hK : wpList P ops Q (ops.toList.drop t) a w := by
        rcases h with ⟨h1, _⟩ | ⟨b, _, hb0, hbk, h⟩
        · rw [hall f (by omega)] at h1; cases h1
        · have : ∀ R : List Nat, (∀ i, i ∈ R → i < t) → wpFr P ops w0 (fun i => l.contains i || decide (f ≤ i)) (FrB P ops w0 Q t b T zs) listed R a w → FrB P ops w0 Q t b T zs a w := by
            intro R
            induction R with
            | nil => intro _ h; exact h
            | cons i R ihR =>
              intro hR h
              simp only [wpFr, hall i (hR i List.mem_cons_self), if_true] at h
              exact ihR (fun k hk => hR k (List.mem_cons_of_mem _ hk)) h
          exact this _ (fun i hi => by have := List.mem_range.1 hi; omega) h w hC (Gw.refl w) hbk
      have hlen : (ops.toList.drop t).length = n + 1 := by
        rw [← hf, hcan]
        simp [canonL, List.count_append, List.count_replicate]
      have hdl : (ops.toList.drop t).length = ops.size - t := by simp
      have := wpAny_of_seq (P := P) (md := md) (Q' := Q) (ops.toList.drop t) t listed a w (fun j => by simp [List.getElem?_drop]) (by rw [hdl, hcan]; exact hseq) hK
      rwa [hlen] at this
    · have hex : ∃ i, i < t ∧ listed.getD i false = false := by
        apply Classical.byContradiction
        intro hno
        refine hall fun i hi => ?_
        cases hg : listed.getD i false with
        | true => rfl
        | false => exact (hno ⟨i, hi, hg⟩).elim
      obtain ⟨i0, hi0, hg0⟩ := hex
      have hun0 : listed.getD i0 true = false := getD_in (by rw [inv.size]; omega) hg0
      by_cases hlr : ∃ p, ls.contains p = true ∧ p ∈ Region.ready md ops listed
      · obtain ⟨p, hpl, hpr⟩ := hlr
        rw [List.all_eq_true] at hloo
        have hp1 := hloo p (by simpa using hpl)
        simp only [Bool.and_eq_true, decide_eq_true_eq, Bool.not_eq_true'] at hp1
        obtain ⟨⟨hpf, hpnl⟩, hpp⟩ := hp1
        obtain ⟨hpun, op, hop, hpdep⟩ := mem_ready.1 hpr
        rw [hop] at hpp
        have hps : p < listed.size := by rw [inv.size]; omega
        have hpun' : listed.getD p false = false := getD_both hpun
        have hkp : (l.contains p || decide (f ≤ p)) = false := by rw [hpnl]; simp; omega
        have hwtp : ∀ i, listed.getD i false = false → Region.waitsFor md ops p i = false := fun i hi => by
          cases hw : Region.waitsFor md ops p i with
          | false => rfl
          | true =>
            obtain ⟨o', ho', e, he, hb, hon⟩ := Region.waitsFor_spec hw
            obtain rfl : o' = op := Option.some.inj (ho'.symm.trans hop)
            have := hpdep e he hb
            rw [hon, hi] at this
            cases this
        have hfirst := fun (v : Value) => wpAny_first (P := P) (md := md) (Q := Q) (v := v) hop hsel' (fun c a w h => hQ c a _ _ w h) n listed a w (fun j oj hoj hne hun hno => by
          have hjf := getD_both hun
          rcases Nat.lt_or_gt_of_ne hne with hlt | hlt
          · exact apart_comm (apartAll_out hap hlt hoj hop (hwtp j hjf))
          · refine apartAll_out hap hlt hop hoj ?_
            cases hw : Region.waitsFor md ops j p with
            | false => rfl
            | true =>
              obtain ⟨o', ho', e, he, hb, hon⟩ := Region.waitsFor_spec hw
              obtain rfl : o' = oj := Option.some.inj (ho'.symm.trans hoj)
              exact absurd hon (hno e he hb)) hpr
        have hcs : (listed.setIfInBounds p true).toList.count false = n := by
          have h3 : listed[p] = false := by simpa [Array.getD_eq_getD_getElem?, hps] using hpun
          have := cnt_set listed.toList p (by simp [hps, h3])
          rw [Array.toList_setIfInBounds]
          omega
        have hfs : (listed.setIfInBounds p true).getD f false = listed.getD f false := getD_set_ne false (by omega)
        have key : ∀ (K : Act → World → Prop), wpFr P ops w0 (fun i => l.contains i || decide (f ≤ i)) K listed (List.range f) a w → ∃ v, Yields P ops op v a ∧ wpFr P ops w0 (fun i => l.contains i || decide (f ≤ i)) K (listed.setIfInBounds p true) (List.range f) (a.put op.dst v) w := by
          intro K hK
          have hp := pullF (P := P) (ops := ops) (w0 := w0) (ks := fun i => l.contains i || decide (f ≤ i)) (K := K) hsel' hcalm hop hpun' hps (List.range f) List.pairwise_lt_range (List.mem_range.2 hpf)
            (fun i hi hij hil _ => by
              have his : i < ops.size := by omega
              exact ⟨ops[i], by simp [his], apartAll_out hap hij (by simp [his]) hop (hwtp i hil)⟩)
            (fun hk => by rw [hkp] at hk; cases hk) a w hC hK
          rw [if_neg (by rw [hkp]; decide)] at hp
          obtain ⟨v, hy, hn'⟩ := yieldsIn_of_qOp hop hp
          exact ⟨v, pure_yields hpp (hcalm p op hop hkp) hC hy, hn'⟩
        rcases h with ⟨h1, h⟩ | ⟨b, h1, hb0, hbk, h⟩
        · obtain ⟨v, hy, hh⟩ := key _ h
          exact hfirst v hy (ih _ _ w hcs (inv.set hpr (by omega)) hC (.inl ⟨by rw [hfs]; exact h1, hh⟩))
        · obtain ⟨v, hy, hh⟩ := key _ h
          exact hfirst v hy (ih _ _ w hcs (inv.set hpr (by omega)) hC (.inr ⟨b, by rw [hfs]; exact h1, hb0, hbk, hh⟩))
      have hjt : ∀ j, j ∈ Region.ready md ops listed → j < t := fun j hj => Nat.lt_of_not_le fun hle => by
        have hnl : ∀ i, i < t → ls.contains i = false → listed.getD i false = true := fun i hi hli => by
          cases hg : listed.getD i false with
          | true => rfl
          | false => exact (tail_waitsL hs hc hn inv _ i rfl hli hi (getD_in (by rw [inv.size]; omega) hg) j hle hj).elim
        have hlow : ∀ n, n ≤ t → ∀ i, i < n → listed.getD i false = true := by
          intro n
          induction n with
          | zero => intro _ i hi; omega
          | succ n ihn =>
            intro hn' i hi
            by_cases hin : i < n
            · exact ihn (by omega) i hin
            · obtain rfl : i = n := by omega
              cases hg : listed.getD i false with
              | true => rfl
              | false =>
                exfalso
                have his : i < ops.size := by omega
                cases hli : ls.contains i with
                | false =>
                  have := hnl i (by omega) hli
                  rw [hg] at this
                  cases this
                | true =>
                  refine hlr ⟨i, hli, ?_⟩
                  rw [mem_ready]
                  refine ⟨getD_in (by rw [inv.size]; exact his) hg, ops[i], by simp [his], fun e he hb => ?_⟩
                  exact ihn (by omega) e.on (earlyB_out hear i ops[i] (by simp [his]) e he hb)
        have := hlow t (Nat.le_refl _) i0 hi0
        rw [hg0] at this
        cases this
      refine ⟨fun hr => ?_, fun j hj => ?_⟩
      · exfalso
        have hlow : ∀ n, n ≤ t → ∀ i, i < n → listed.getD i false = true := by
          intro n
          induction n with
          | zero => intro _ i hi; omega
          | succ n ihn =>
            intro hn' i hi
            by_cases hin : i < n
            · exact ihn (by omega) i hin
            · obtain rfl : i = n := by omega
              cases hg : listed.getD i false with
              | true => rfl
              | false =>
                exfalso
                have hm : i ∈ Region.ready md ops listed := by
                  rw [mem_ready]
                  have his : i < ops.size := by omega
                  refine ⟨getD_in (by rw [inv.size]; exact his) hg, ops[i], by simp [his], fun e he hb => ?_⟩
                  exact ihn (by omega) e.on (earlyB_out hear i ops[i] (by simp [his]) e he hb)
                rw [hr] at hm
                cases hm
        have := hlow t (Nat.le_refl _) i0 hi0
        rw [hg0] at this
        cases this
      · have hj' := hjt j hj
        obtain ⟨hun, oj, hoj, hdep⟩ := mem_ready.1 hj
        have hjs : j < listed.size := by rw [inv.size]; omega
        have hjl : listed.getD j false = false := getD_both hun
        have hwt : ∀ i, listed.getD i false = false → Region.waitsFor md ops j i = false := fun i hi => by
          cases hw : Region.waitsFor md ops j i with
          | false => rfl
          | true =>
            obtain ⟨o', ho', e, he, hb, hon⟩ := Region.waitsFor_spec hw
            obtain rfl : o' = oj := Option.some.inj (ho'.symm.trans hoj)
            have := hdep e he hb
            rw [hon, hi] at this
            cases this
        have hcs : (listed.setIfInBounds j true).toList.count false = n := by
          have h3 : listed[j] = false := by simpa [Array.getD_eq_getD_getElem?, hjs] using hun
          have := cnt_set listed.toList j (by simp [hjs, h3])
          rw [Array.toList_setIfInBounds]
          omega
        by_cases hjf : j = f
        · subst hjf
          obtain rfl : oj = of := Option.some.inj (hoj.symm.trans hof)
          rcases h with ⟨_, h⟩ | ⟨b, h1, _⟩
          rotate_left
          · rw [hjl] at h1; cases h1
          have hle : w0.heap.size ≤ w.heap.size := (cg_iff.1 hC).size
          have hga : Gw w (w.alloc (.cells zs T)) := ba_alloc (Below.refl _ _) _
          unfold wpOp
          simp only [hoj]
          rw [if_pos (by simp [Region.wanted, hg])]
          refine .inl ?_
          unfold Oper.wp
          rw [hfr a w]
          refine ih _ _ _ hcs (inv.set hj hj') (cg_iff.2 ((cg_iff.1 hC).trans hga)) (.inr ⟨w.heap.size, by simp [Array.getD_eq_getD_getElem?, hjs], hle, Blk.new _ _ _, ?_⟩)
          have h2 := wpFr_slot (P := P) (ops := ops) (w0 := w0) (ks := fun i => l.contains i || decide (j ≤ i)) (K := FrK P ops w0 Q t oj T zs) (K' := FrB P ops w0 Q t w.heap.size T zs) (listed := listed) (oj := oj) (v := .pointer (some ⟨w.heap.size, 0, none⟩)) hsel'
            (fun a' w' hh w'' hc' hg' hb' => hh w.heap.size w'' hc' hg' hle hb') (R := List.range j) (fun i hi => by
              have hij := List.mem_range.1 hi
              have his : i < ops.size := by omega
              exact ⟨ops[i], by simp [his], apartAll_out hap hij (by simp [his]) hoj (hwf i hij)⟩) h
          rw [wpFr_congr (l2 := listed.setIfInBounds j true) (fun i hi => (getD_set_ne false (fun e => by have := List.mem_range.1 hi; omega)).symm)] at h2
          exact wpFr_weak (hBw _) h2 hga
        · have hjf' : j < f := by omega
          have key : ∀ (K : Act → World → Prop), wpFr P ops w0 (fun i => l.contains i || decide (f ≤ i)) K listed (List.range f) a w → wpOp P ops Q j (fun a' w' => Gw w w' ∧ wpFr P ops w0 (fun i => l.contains i || decide (f ≤ i)) K (listed.setIfInBounds j true) (List.range f) a' w') a w := by
            intro K hK
            have hp := pullF (P := P) (ops := ops) (w0 := w0) (ks := fun i => l.contains i || decide (f ≤ i)) (K := K) hsel' hcalm hoj hjl hjs (List.range f) List.pairwise_lt_range (List.mem_range.2 hjf')
              (fun i hi hij hil _ => by
                have his : i < ops.size := by omega
                exact ⟨ops[i], by simp [his], apartAll_out hap hij (by simp [his]) hoj (hwt i hil)⟩)
              (fun hk i hi hij hil => by
                simp only [Bool.or_eq_true, List.contains_iff_mem, decide_eq_true_eq] at hk
                rw [Bool.or_eq_false_iff, decide_eq_false_iff_not]
                refine ⟨?_, by omega⟩
                cases hci : l.contains i with
                | false => rfl
                | true =>
                  have := links_order inv hl i j (by simpa using hci) (by rcases hk with hk | hk; exact hk; omega) hij (.inl hj)
                  rw [hil] at this
                  cases this) a w hC hK
            by_cases hk : (l.contains j || decide (f ≤ j)) = true
            · rw [if_pos hk] at hp
              exact wpOp_stop (hp w hC (Gw.refl w))
            · rw [if_neg hk] at hp
              refine wpOp_mono ?_ (wpOp_calm hoj (hcalm j oj hoj (by simpa using hk)) hC hp)
              rintro a' w' ⟨rfl, hh⟩
              exact ⟨Gw.refl _, hh⟩
          have hfs : (listed.setIfInBounds j true).getD f false = listed.getD f false := getD_set_ne false hjf
          rcases h with ⟨h1, h⟩ | ⟨b, h1, hb0, hbk, h⟩
          · refine wpOp_mono ?_ (key _ h)
            rintro a' w' ⟨hg', hh⟩
            exact ih _ a' w' hcs (inv.set hj hj') (cg_iff.2 ((cg_iff.1 hC).trans hg')) (.inl ⟨by rw [hfs]; exact h1, hh⟩)
          · refine wpOp_mono ?_ (key _ h)
            rintro a' w' ⟨hg', hh⟩
            exact ih _ a' w' hcs (inv.set hj hj') (cg_iff.2 ((cg_iff.1 hC).trans hg')) (.inr ⟨b, by rw [hfs]; exact h1, hb0, hbk.via hg', hh⟩)
/-- The walk. -/
def segPostF (next : Act → World → Prop) (w0 : World) : Exit → Act → World → Prop
  | .normal, a, w => Gw w0 w ∧ next a w
  | _, _, _ => False
theorem segF_next {next : Act → World → Prop} {w0 : World} {a : Act} {w : World} (hC : Gw w0 w) (h : next a w) : segPostF next w0 .normal a w := ⟨hC, h⟩
def wpSegsF (P : Program) (ops : Array Oper) (w0 : World) (K : Act → World → Prop) (r : Nat) : List Nat → List Oper → Act → World → Prop
  | [], l, a, w => wpQuiet P ops (Cg w0) (fun a' => K a' w) (l.take r) a
  | m :: ms, l, a, w => wpQuiet P ops (Cg w0) (fun a' => ∀ w', Gw w0 w' → Gw w w' → wpList P ops (segPostF (wpSegsF P ops w0 K r ms (l.drop (m + 1))) w') ((l.drop m).take 1) a' w') (l.take m) a
theorem quiet_mixF {ks : Nat → Bool} {K : Act → World → Prop} {listed : Array Bool} {N : Act → Prop} {w : World} {R : List Nat} (hlist : ∀ i, listed.getD i false = false) :
    ∀ (m p : Nat) (a : Act), p + m ≤ ops.size → (∀ i, p ≤ i → i < p + m → ks i = false) → (∀ a, N a → wpFr P ops w0 ks K listed R a w) → wpQuiet P ops (Cg w0) N ((ops.toList.drop p).take m) a →
      wpFr P ops w0 ks K listed (List.range' p m ++ R) a w := by
  intro m
  induction m with
  | zero =>
    intro p a _ _ hN h
    simp only [List.take_zero] at h
    exact hN a h
  | succ m ih =>
    intro p a hp hk hN h
    have hps : p < ops.size := by omega
    have e : (ops.toList.drop p).take (m + 1) = ops[p] :: (ops.toList.drop (p + 1)).take m := by
      rw [List.drop_eq_getElem_cons (by simpa using hps), List.take_succ_cons]
      rfl
    rw [e] at h
    rw [List.range'_succ, List.cons_append]
    simp only [wpFr, hlist p, hk p (Nat.le_refl _) (by omega), Bool.false_eq_true, if_false]
    unfold wpQuiet at h
    unfold qOp
    simp only [show ops[p]? = some ops[p] by simp [hps]]
    have ih' : ∀ a, wpQuiet P ops (Cg w0) N ((ops.toList.drop (p + 1)).take m) a → wpFr P ops w0 ks K listed (List.range' (p + 1) m ++ R) a w := fun a' h' => ih (p + 1) a' (by omega) (fun i h1 h2 => hk i (by omega) (by omega)) hN h'
    split
    · rename_i hw
      rw [if_pos hw] at h
      exact Oper.quiet_mono ih' h
    · rename_i hw
      rw [if_neg hw] at h
      exact ih' _ h
theorem segsF_mix {ks : Nat → Bool} {K : Act → World → Prop} {listed : Array Bool} {t : Nat} (r : Nat) (ht : t ≤ ops.size) (hlist : ∀ i, listed.getD i false = false) :
    ∀ (ms : List Nat) (p : Nat) (a : Act) (w : World), endAt r p ms = t → (∀ i, p ≤ i → i < t → ks i = (chainAt p ms).contains i) → wpSegsF P ops w0 K r ms (ops.toList.drop p) a w →
      wpFr P ops w0 ks K listed (List.range' p (t - p)) a w := by
  intro ms
  induction ms with
  | nil =>
    intro p a w he hk h
    simp only [endAt] at he
    subst he
    have e : List.range' p (p + r - p) = List.range' p r ++ [] := by simp
    rw [e]
    refine quiet_mixF hlist r p a ht (fun i h1 h2 => by rw [hk i h1 h2]; simp [chainAt]) ?_ h
    intro a' h'
    simpa only [wpFr] using h'
  | cons m ms ih =>
    intro p a w he hk h
    simp only [endAt] at he
    have hle := endAt_le r ms (p + m + 1)
    have e : List.range' p (t - p) = List.range' p m ++ ((p + m) :: List.range' (p + m + 1) (t - (p + m + 1))) := by
      have e1 : t - p = m + (1 + (t - (p + m + 1))) := by omega
      rw [e1, ← List.range'_append_1, ← List.range'_append_1]
      simp
    rw [e]
    refine quiet_mixF hlist m p a (by omega) (fun i h1 h2 => ?_) ?_ h
    · rw [hk i h1 (by omega)]
      simp only [chainAt]
      cases hc : ((p + m) :: chainAt (p + m + 1) ms).contains i with
      | false => rfl
      | true =>
        exfalso
        have hm : i ∈ (p + m) :: chainAt (p + m + 1) ms := by simpa using hc
        rcases List.mem_cons.1 hm with h3 | h3
        · omega
        · have := chainAt_ge _ _ _ h3; omega
    · intro a' h'
      have hps : p + m < ops.size := by omega
      have hkp : ks (p + m) = true := by rw [hk (p + m) (by omega) (by omega)]; simp [chainAt]
      simp only [wpFr, hlist (p + m), hkp, Bool.false_eq_true, if_false, if_true]
      intro w' hC' hG'
      have h' := h' w' (cg_iff.1 hC') hG'
      have e2 : ((ops.toList.drop p).drop m).take 1 = [ops[p + m]] := by
        rw [List.drop_drop, List.drop_eq_getElem_cons (by simpa using hps), List.take_succ_cons, List.take_zero]
        rfl
      rw [e2] at h'
      have ih' := fun a w h => ih (p + m + 1) a w he (fun i h1 h2 => by
        rw [hk i (by omega) h2]
        simp only [chainAt, List.contains_cons]
        rw [show (i == p + m) = false by simp; omega]
        rfl) h
      have e3 : (ops.toList.drop p).drop (m + 1) = ops.toList.drop (p + m + 1) := by rw [List.drop_drop]; rfl
      rw [e3] at h'
      unfold wpList at h'
      unfold wpOp
      simp only [show ops[p + m]? = some ops[p + m] by simp [hps]]
      have hfin : ∀ a w, wpList P ops (segPostF (wpSegsF P ops w0 K r ms (ops.toList.drop (p + m + 1))) w') [] a w → Gw w' w ∧ wpFr P ops w0 ks K listed (List.range' (p + m + 1) (t - (p + m + 1))) a w := fun a w h => ⟨h.1, ih' a w h.2⟩
      have hlets : LetsOut (segPostF (wpSegsF P ops w0 K r ms (ops.toList.drop (p + m + 1))) w') → LetsOut stopPost := fun ⟨_, _, h⟩ => (show False from h).elim
      split
      · rename_i hw
        rw [if_pos hw] at h'
        rcases h' with h' | ⟨h1, h2⟩
        · refine .inl (Oper.wp_mono hfin ?_)
          unfold Oper.wp at *
          generalize (execOp a'.eval ops[p + m]).run P w' = rr at *
          cases rr with
          | ok n w'' =>
            cases n <;> simp only [Oper.upon] at h' ⊢ <;> try exact h'
          | halt x w'' =>
            cases x <;> simp only [Oper.upon] at h' ⊢
            all_goals (try exact (show False from h').elim)
        · exact .inr ⟨h1, hlets h2⟩
      · rename_i hw
        rw [if_neg hw] at h'
        exact hfin _ _ h'
/-- The region: the last operation ahead of the tail makes a variable. -/
theorem wp_region_mixF {id : Nat} {Q : Exit → Act → World → Prop} {a : Act} {w : World} {l : List Oper} (r : Nat) (ms ls : List Nat) (of : Oper) (T : TypeId) (zs : Array Value) (hm : P.follows .mixedOrders = true) (hB : mixFB .any l.toArray (endAt r 0 ms + 1) (endAt r 0 ms) (chainAt 0 ms) ls = true)
    (hend : endAt r 0 ms ≤ l.length) (hof : l[endAt r 0 ms]? = some of) (hg : of.guard = none) (hfr : ∀ (a : Act) (w : World), (execOp a.eval of).run P w = .ok (.value (.pointer (some ⟨w.heap.size, 0, none⟩))) (w.alloc (.cells zs T)))
    (hQ : ∀ c a d v w, Q (.panic c) (Act.put a d v) w → Q (.panic c) a w) (h : wpSegsF P l.toArray w (fun a' w' => ∀ b w'', Gw w w'' → Gw w' w'' → w.heap.size ≤ b → Blk w'' b T zs → wpList P l.toArray Q (l.drop (endAt r 0 ms + 1)) (a'.put of.dst (.pointer (some ⟨b, 0, none⟩))) w'') r ms l a w.drew) : (Code.region id l.toArray true).wp P Q a w := by
  refine wp_region_any hm ?_
  have hin : ∀ i, (Array.replicate l.toArray.size false).getD i false = false := fun i => getD_replicate_false _ _
  refine mixF_any (w0 := w) (T := T) (zs := zs) (of := of) hQ hB (by simpa using hof) hg hfr _ _ a w.drew (by simp [List.count_replicate]) ⟨by simp, fun j oj _ hl => (by rw [hin] at hl; cases hl), fun t _ ht => getD_in (by simpa using ht) (hin t)⟩ ⟨w.drew, (grow_eq (Below.drew (Below.refl _ _))).symm⟩ (.inl ⟨hin _, ?_⟩)
  have hK : ∀ a' w', (∀ b w'', Gw w w'' → Gw w' w'' → w.heap.size ≤ b → Blk w'' b T zs → wpList P l.toArray Q (l.drop (endAt r 0 ms + 1)) (a'.put of.dst (.pointer (some ⟨b, 0, none⟩))) w'') = FrK P l.toArray w Q (endAt r 0 ms + 1) of T zs a' w' := fun a' w' => by
    unfold FrK
    simp only [cg_iff, List.toList_toArray]
  have hKf : (fun a' w' => ∀ b w'', Gw w w'' → Gw w' w'' → w.heap.size ≤ b → Blk w'' b T zs → wpList P l.toArray Q (l.drop (endAt r 0 ms + 1)) (a'.put of.dst (.pointer (some ⟨b, 0, none⟩))) w'') = FrK P l.toArray w Q (endAt r 0 ms + 1) of T zs := by
    funext a' w'
    exact hK a' w'
  rw [hKf] at h
  have := segsF_mix (P := P) (ops := l.toArray) (w0 := w) (K := FrK P l.toArray w Q (endAt r 0 ms + 1) of T zs) (ks := fun i => (chainAt 0 ms).contains i || decide (endAt r 0 ms ≤ i)) (listed := Array.replicate l.toArray.size false) (t := endAt r 0 ms) r (by simpa using hend) hin ms 0 a w.drew rfl
    (fun i _ h2 => by simp [Nat.not_le.2 h2]) (by simpa using h)
  rwa [Nat.sub_zero, ← List.range_eq_range'] at this
end
end Go.Proofs.YtffkmgjmlahfpaaGreat
set_option linter.unusedVariables false
set_option linter.unusedSimpArgs false
namespace Go.Proofs.YtffkmgjmlahfpaaGreat
open Go.RowKit
theorem LegsAt.cells {w : World} {base : Nat} {v : Value} {r : Rod} (h : LegsAt w base v r) : Cells w w.heap.size r.A (r.legs.flatMap boxC) := by
  obtain ⟨g, cur, t, fr, h1, _, _, h4, h5⟩ := h
  exact .inr ⟨g, 0, h1, (Array.getElem?_eq_some_iff.1 h4).1, fun j v hv => by rw [Nat.zero_add, cell_of_row w g j cur t fr h4]; exact h5 j v hv⟩
theorem DtAt.wide {w : World} {B B' : Nat} {x : Dt} (h : DtAt w B x) (hB : B ≤ B') : DtAt w B' x :=
  ⟨⟨h.sol.len, h.sol.max, h.sol.len', h.sol.max', h.sol.cells.mono hB, h.sol.cells'.mono hB⟩, h.name, ⟨h.bars.len, h.bars.max, h.bars.cells.mono hB, fun r hr => (h.bars.each r hr).mono hB⟩, ⟨h.runs.len, h.runs.max, h.runs.cells.mono hB⟩, h.jlen, h.jmax, h.joints.mono hB⟩
theorem Blk.mid {w : World} {g : Nat} {t : TypeId} {cs : List Value} (h : Blk w g t cs.toArray) (o : Nat) (zs : List Value) (hz : (cs.drop o).take zs.length = zs) : w.rangeAt g o zs := fun j v hv => by
  rw [h.cell]
  rw [← hz, List.getElem?_take] at hv
  split at hv
  · simpa [List.getElem?_drop] using hv
  · cases hv
theorem endLen_bd (x : Dt) (r : Rod) (hr : S.rule x.rule = true) (h : RodFit x r) (p : Pt) : 0 ≤ S.endLen x.rule x.m r.bar.b r.legs r.main.toNat p ∧ S.endLen x.rule x.m r.bar.b r.legs r.main.toNat p ≤ 40000000000 := by
  have hs : 0 ≤ r.bar.b.size ∧ r.bar.b.size ≤ 40 := by
    rcases size_cases (bar_size h.bar) with h | h | h | h | h | h | h | h | h <;> omega
  exact length_bd (rule_ok hr) hs.1 hs.2 _ _
def S.sizeI (rs : List Rod) (i : Int) : Int := match rs[i.toNat]? with | some r => r.bar.b.size | none => 0
def S.spanOf (x : Dt) (a b : Rod) : Int × Int × Bool :=
  if a.main < 0 then (0, 0, false) else if b.main < 0 then (0, 0, false) else
  if (S.legOf a).lo.x + S.lowOf x a < (S.legOf b).hi.x - S.upOf x b then ((S.legOf a).lo.x + S.lowOf x a, (S.legOf b).hi.x - S.upOf x b, true) else (0, 0, false)
/-- A chain of the program for a chain of laid bars. -/
structure SchOk (x : Dt) (rs : List Rod) (l : List Int) (c : SCh) : Prop where
  bars : c.l = l
  area : c.area = S.steelArea (S.sizeI rs (minBy (S.sizeI rs) l))
  span : ∃ a b, rs[(l.headD 0).toNat]? = some a ∧ rs[(l.getLastD 0).toNat]? = some b ∧ (c.lo, c.hi, c.is) = S.spanOf x a b
def GivesSup (x : Dt) (C : List (List Int)) (n : Nat) (w : World) (e : Ending) (w' : World) : Prop :=
  ∃ (A1 : Option Addr) (c1 : Nat) (rs : List Rod) (A2 : Option Addr) (c2 : Nat) (cs : List SCh), e = .returned (.tuple #[.slice A1 rs.length c1, .slice A2 cs.length c2, .int .i64 0]) ∧ rs.length = n ∧ (∀ (i : Nat) (hi : i < rs.length), RodOk x i rs[i]) ∧ RodsAt w' w.heap.size (.slice A1 rs.length c1) rs ∧
    w'.ownsRow w.heap.size 152 5 (.slice A2 cs.length c2) cs.length (cs.flatMap schC) ∧ cs.length = C.length ∧ (∀ (i : Nat) (hi : i < cs.length) (hj : i < C.length), SchOk x rs C[i] cs[i]) ∧ (∀ c, c ∈ cs → Cells w' w'.heap.size c.A (i64s c.l)) ∧ Below w.heap.size w w'
theorem elemSch : Elem Tryz.prog 146 152 (.agg #[.slice none 0 0, .int .i64 0, .int .i64 0, .bool false, .int .i64 0]) 5 56 := ⟨Tryz.underlying146, by kernel_rfl, rfl, by decide⟩
end Go.Proofs.YtffkmgjmlahfpaaGreat
set_option linter.unusedVariables false
set_option linter.unusedSimpArgs false
namespace Go.Proofs.YtffkmgjmlahfpaaGreat
theorem up_mono {n m p q : Int} (h : n ≤ m) (hp : 0 ≤ p) (hq : 1 ≤ q) : S.up n p q ≤ S.up m p q := by
  unfold S.up
  have := Int.mul_le_mul_of_nonneg_right h hp
  exact Int.ediv_le_ediv (by omega) (by omega)
theorem up_ge {n p q : Int} (hn : 0 ≤ n) (hpq : q ≤ p) (hq : 1 ≤ q) : n ≤ S.up n p q := by
  unfold S.up
  have := Int.mul_le_mul_of_nonneg_left hpq hn
  exact (Int.le_ediv_iff_mul_le (by omega)).2 (by omega)
theorem up_le {n p q : Int} (hn : 0 ≤ n) (hpq : p ≤ q) (hq : 1 ≤ q) : S.up n p q ≤ n := by
  unfold S.up
  have := Int.mul_le_mul_of_nonneg_left hpq hn
  have h : (n * p + q - 1) / q < n + 1 := Int.ediv_lt_of_lt_mul (by omega) (by rw [Int.add_mul]; omega)
  omega
theorem up_mul {n p q : Int} (hq : 1 ≤ q) : n * p ≤ S.up n p q * q := by
  unfold S.up
  have h := Int.mul_ediv_add_emod (n * p + q - 1) q
  have h2 := Int.emod_lt_of_pos (n * p + q - 1) (show 0 < q by omega)
  have h3 := Int.mul_comm q ((n * p + q - 1) / q)
  omega
theorem least_mono {r : Rule} {n m : Int} (h : n ≤ m) : S.atLeast r n ≤ S.atLeast r m := by unfold S.atLeast; split <;> split <;> omega
theorem basic_mono {r : Rule} {d e : Int} (hr : RuleOk r) (h : d ≤ e) : S.basic r d ≤ S.basic r e := by
  have := up_mono h (show 0 ≤ r.num by have := hr.num; omega) hr.den.1
  unfold S.basic
  split <;> split <;> omega
theorem basic_nonneg {r : Rule} {d : Int} (hr : RuleOk r) : 0 ≤ S.basic r d := by
  have := hr.least
  unfold S.basic
  split <;> omega
theorem poorUp_mono {r : Rule} {n m : Int} (hr : RuleOk r) (p : Bool) (h : n ≤ m) : S.poorUp r p n ≤ S.poorUp r p m := by
  have := up_mono h (show 0 ≤ r.pnum by have := hr.pnum; omega) hr.pden.1
  unfold S.poorUp
  split <;> omega
theorem poorUp_ge {r : Rule} {n : Int} (hr : RuleOk r) (p : Bool) (h : 0 ≤ n) : n ≤ S.poorUp r p n := by
  have := up_ge h hr.poor hr.pden.1
  unfold S.poorUp
  split <;> omega
theorem bentUp_mono {r : Rule} {n m : Int} (hr : RuleOk r) (p : Bool) (h : n ≤ m) : S.bentUp r p n ≤ S.bentUp r p m := by
  have := up_mono h (show 0 ≤ r.bnum by have := hr.bnum; omega) hr.bden.1
  unfold S.bentUp
  split <;> omega
theorem length_least {r : Rule} {d : Int} {p b : Bool} : r.least ≤ S.length r d p b := by unfold S.length S.atLeast; split <;> omega
theorem length_wider {r : Rule} {d e : Int} {p b : Bool} (hr : RuleOk r) (h : d ≤ e) : S.length r d p b ≤ S.length r e p b :=
  least_mono (bentUp_mono hr b (poorUp_mono hr p (basic_mono hr h)))
theorem length_poor {r : Rule} {d : Int} {p b : Bool} (hr : RuleOk r) : S.length r d p b ≤ S.length r d true b := by
  refine least_mono (bentUp_mono hr b ?_)
  cases p
  · exact poorUp_ge hr true (basic_nonneg hr)
  · exact Int.le_refl _
theorem length_bent {r : Rule} {d : Int} {p b : Bool} (hr : RuleOk r) : S.length r d p true ≤ S.length r d p b := by
  refine least_mono ?_
  cases b
  · have h0 : 0 ≤ S.poorUp r p (S.basic r d) := Int.le_trans (basic_nonneg hr) (poorUp_ge hr p (basic_nonneg hr))
    have := up_le h0 hr.bend hr.bden.1
    simpa [S.bentUp] using this
  · exact Int.le_refl _
theorem length_plain {r : Rule} {d : Int} : S.length r d false false = S.basic r d := by
  have : ¬ S.basic r d < r.least := by unfold S.basic; split <;> omega
  simp [S.length, S.bentUp, S.poorUp, S.atLeast, this]
theorem basic_mul {r : Rule} {d : Int} (hr : RuleOk r) : r.num * d ≤ S.basic r d * r.den := by
  have h := up_mul (n := d) (p := r.num) (q := r.den) hr.den.1
  have hc := Int.mul_comm d r.num
  unfold S.basic
  split
  · rename_i hlt
    have := Int.mul_le_mul_of_nonneg_right (Int.le_of_lt hlt) (show 0 ≤ r.den by have := hr.den; omega)
    omega
  · omega
end Go.Proofs.YtffkmgjmlahfpaaGreat
