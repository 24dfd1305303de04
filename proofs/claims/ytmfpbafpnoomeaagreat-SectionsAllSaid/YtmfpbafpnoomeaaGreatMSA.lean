/- Lemmas. -/
import Derived.Test.YtmfpbafpnoomeaaGreatMTopA
import Derived.Test.YtmfpbafpnoomeaaGreatMAW
import Derived.Test.YtmfpbafpnoomeaaGreatMAT
import Derived.Lib.EndianBits
set_option linter.unusedVariables false
set_option linter.unusedSimpArgs false
namespace Go.Proofs.YtmfpbafpnoomeaaGreat
open Go.RowKit
section
variable {P : Program} {l : List Oper} {Q : Exit → Act → World → Prop} {V : Nat → Act → World → Prop} {S : Act → World → Prop}
theorem wpAny_relA {md : Region.Mode}
    (hearly : ∀ (j : Nat) (oj : Oper), l[j]? = some oj → ∀ e ∈ oj.after, Region.binds md e = true → e.on < j)
    (hstep : ∀ (j : Nat) (oj : Oper) (a : Act) (w : World), l[j]? = some oj → S a w → (∀ e ∈ oj.after, Region.binds md e = true → V e.on a w) →
      wpOp P l.toArray Q j (fun a' w' => V j a' w' ∧ (∀ i oi, l[i]? = some oi → i ≠ j → (∀ e ∈ oi.after, Region.binds md e = true → e.on ≠ j) → V i a w → V i a' w') ∧ S a' w') a w)
    (hend : ∀ (a : Act) (w : World), S a w → (∀ j oj, l[j]? = some oj → V j a w) → Q .normal a w) :
    ∀ (f : Nat) (listed : Array Bool) (a : Act) (w : World), listed.size = l.length → listed.toList.count false ≤ f → S a w → (∀ j oj, l[j]? = some oj → listed.getD j false = true → V j a w ∧ ∀ e ∈ oj.after, Region.binds md e = true → listed.getD e.on false = true) →
      wpAny P md l.toArray Q f listed a w := by
  have hlow : ∀ (listed : Array Bool), listed.size = l.length → Region.ready md l.toArray listed = [] → ∀ n, n ≤ l.length → ∀ j, j < n → listed.getD j false = true := by
    intro listed hls hr n
    induction n with
    | zero => intro _ j hj; omega
    | succ n ih =>
      intro hn j hj
      by_cases hjn : j < n
      · exact ih (by omega) j hjn
      · obtain rfl : j = n := by omega
        by_cases hlj : listed.getD j false = true
        · exact hlj
        · exfalso
          have hjl : j < l.length := by omega
          have hm : j ∈ Region.ready md l.toArray listed := by
            rw [mem_ready]
            refine ⟨?_, l[j], by simp [hjl], fun e he hb => ?_⟩
            · have h1 : j < listed.size := by omega
              simp [Array.getD_eq_getD_getElem?, h1] at hlj ⊢
              exact hlj
            · exact ih (by omega) e.on (hearly j l[j] (by simp [hjl]) e he hb)
          rw [hr] at hm
          cases hm
  have hfin : ∀ (listed : Array Bool) (a : Act) (w : World), listed.size = l.length → Region.ready md l.toArray listed = [] → S a w → (∀ j oj, l[j]? = some oj → listed.getD j false = true → V j a w ∧ ∀ e ∈ oj.after, Region.binds md e = true → listed.getD e.on false = true) → Q .normal a w := by
    intro listed a w hls hr hS hI
    refine hend a w hS (fun j oj hj => (hI j oj hj ?_).1)
    exact hlow listed hls hr l.length (Nat.le_refl _) j (List.getElem?_eq_some_iff.1 hj).1
  intro f
  induction f with
  | zero =>
    intro listed a w hls hc hS hI
    have hr : Region.ready md l.toArray listed = [] := by
      rcases hrr : Region.ready md l.toArray listed with _ | ⟨j, t⟩
      · rfl
      · exfalso
        have hm : j ∈ Region.ready md l.toArray listed := by rw [hrr]; simp
        rw [mem_ready] at hm
        obtain ⟨h1, o, ho, _⟩ := hm
        have hjl : j < l.length := by
          have := (Array.getElem?_eq_some_iff.1 ho).1
          simpa using this
        have h2 : j < listed.size := by omega
        have h3 : listed[j] = false := by simpa [Array.getD_eq_getD_getElem?, h2] using h1
        have : false ∈ listed.toList := by
          rw [← h3]
          simp
        have := List.count_pos_iff.2 this
        omega
    exact ⟨hr, hfin listed a w hls hr hS hI⟩
  | succ f ih =>
    intro listed a w hls hc hS hI
    refine ⟨fun hr => hfin listed a w hls hr hS hI, fun j hj => ?_⟩
    rw [mem_ready] at hj
    obtain ⟨h1, oj, hoj, hdep⟩ := hj
    have hoj' : l[j]? = some oj := by simpa using hoj
    have hjl : j < l.length := (List.getElem?_eq_some_iff.1 hoj').1
    have h2 : j < listed.size := by omega
    have h3 : listed[j] = false := by simpa [Array.getD_eq_getD_getElem?, h2] using h1
    have hold : ∀ i, i ≠ j → (listed.setIfInBounds j true).getD i false = listed.getD i false := fun i hij => by
      rw [Array.getD_eq_getD_getElem?, Array.getElem?_setIfInBounds_ne (fun e => hij e.symm), Array.getD_eq_getD_getElem?]
    have hnew : ∀ i, listed.getD i false = true → (listed.setIfInBounds j true).getD i false = true := fun i hi => by
      by_cases hij : i = j
      · subst hij
        simp [Array.getD_eq_getD_getElem?, h2]
      · rw [hold i hij]; exact hi
    have hbind : ∀ e ∈ oj.after, Region.binds md e = true → e.on < l.length := fun e he hb => Nat.lt_trans (hearly j oj hoj' e he hb) hjl
    refine wpOp_mono ?_ (hstep j oj a w hoj' hS (fun e he hb => (hI e.on (l[e.on]'(hbind e he hb)) (List.getElem?_eq_getElem (hbind e he hb)) (hdep e he hb)).1))
    rintro a' w' ⟨hvj, hkeep, hS'⟩
    refine ih _ _ _ (by simpa using hls) ?_ hS' (fun i oi hoi hli => ?_)
    · have hcs := cnt_set listed.toList j (by simp [h2, h3])
      rw [Array.toList_setIfInBounds]
      omega
    · by_cases hij : i = j
      · subst hij
        rw [hoj'] at hoi
        injection hoi with hoi
        subst hoi
        exact ⟨hvj, fun e he hb => hnew _ (hdep e he hb)⟩
      · rw [hold i hij] at hli
        obtain ⟨g1, g2⟩ := hI i oi hoi hli
        refine ⟨hkeep i oi hoi hij (fun e he hb hej => ?_) g1, fun e he hb => hnew _ (g2 e he hb)⟩
        have := g2 e he hb
        rw [hej] at this
        simp [Array.getD_eq_getD_getElem?, h2, h3] at this
/-- The region. -/
theorem wp_region_relA {id : Nat} {a : Act} {w : World} (hm : P.follows .mixedOrders = true)
    (hearly : ∀ (j : Nat) (oj : Oper), l[j]? = some oj → ∀ e ∈ oj.after, Region.binds .any e = true → e.on < j)
    (h0 : S a w.drew)
    (hstep : ∀ (j : Nat) (oj : Oper) (a : Act) (w : World), l[j]? = some oj → S a w → (∀ e ∈ oj.after, Region.binds .any e = true → V e.on a w) →
      wpOp P l.toArray Q j (fun a' w' => V j a' w' ∧ (∀ i oi, l[i]? = some oi → i ≠ j → (∀ e ∈ oi.after, Region.binds .any e = true → e.on ≠ j) → V i a w → V i a' w') ∧ S a' w') a w)
    (hend : ∀ (a : Act) (w : World), S a w → (∀ j oj, l[j]? = some oj → V j a w) → Q .normal a w) : (Code.region id l.toArray true).wp P Q a w := by
  refine wp_region_any hm ?_
  refine wpAny_relA hearly hstep hend _ _ a w.drew (by simp) ?_ h0 (fun j oj hj hl => ?_)
  · simp
  · rw [Array.getD_eq_getD_getElem?] at hl
    have hjl : j < l.length := (List.getElem?_eq_some_iff.1 hj).1
    simp [hjl] at hl
end
end Go.Proofs.YtmfpbafpnoomeaaGreat

set_option linter.unusedVariables false
set_option linter.unusedSimpArgs false
namespace Go.Proofs.YtmfpbafpnoomeaaGreat
open Go.RowKit
theorem and32 (x : Int) (h0 : 0 ≤ x) (h1 : x < 18446744073709551616) : bits BinOp.and IntKind.u64 x 4294967295 = x % 4294967296 := by
  have h := bits_mask .u64 64 (by decide) wraps_u64 32 (by decide) x h0 (by omega)
  simpa using h
theorem mulr_any (a : Nat) (w : World) (h : a ≤ 1152921504606846976) :
    Calls Tryz.prog 60 #[.int .u64 a, .int .u64 1] w fun e w' => e = .returned (uV a) ∧ Below w.heap.size w w' := by
  have b1 : bits BinOp.and IntKind.u64 1 4294967295 = 1 := by rw [and32 _ (by decide) (by decide)]; rfl
  obtain ⟨lo, hlo⟩ : ∃ lo : Int, lo = (a : Int) % 4294967296 := ⟨_, rfl⟩
  obtain ⟨hi, hhi⟩ : ∃ hi : Int, hi = (a : Int) / 4294967296 := ⟨_, rfl⟩
  have ba : bits BinOp.and IntKind.u64 (a : Int) 4294967295 = lo := by rw [and32 _ (by omega) (by omega), hlo]
  have bl : bits BinOp.and IntKind.u64 lo 4294967295 = lo := by rw [and32 _ (by omega) (by omega)]; omega
  have bh : bits BinOp.and IntKind.u64 hi 4294967295 = hi := by rw [and32 _ (by omega) (by omega)]; omega
  have l0 : 0 ≤ lo := by omega
  have l1 : lo < 4294967296 := by omega
  have i0 : 0 ≤ hi := by omega
  have i1 : hi < 4294967296 := by omega
  have d1 : lo / 4294967296 = 0 := by omega
  have d2 : hi / 4294967296 = 0 := by omega
  have hsum : hi * 4294967296 + lo = a := by omega
  have w1 : IntKind.u64.wrap lo = lo := IntWalk.u64_in _ (by omega)
  have w2 : IntKind.u64.wrap hi = hi := IntWalk.u64_in _ (by omega)
  have w3 : IntKind.u64.wrap (hi * 4294967296) = hi * 4294967296 := IntWalk.u64_in _ (by omega)
  have w4 : IntKind.u64.wrap (a : Int) = a := IntWalk.u64_in _ (by omega)
  clear hlo
  have hhi2 := hhi.symm
  clear hhi
  go_enter Tryz.func60, Tryz.ntmps60
  go_wp2
  exact bodyPost_ret (v := uV a) (by simp [results, Tryz.results60, go_sem, *]) rfl ⟨rfl, (by repeat (first | exact Below.refl _ _ | assumption | refine ba_alloc ?_ _ | refine ba_drew ?_ | refine ba_drewN ?_ _ | refine ba_via (by assumption) ?_ | (refine ba_set ?_ ?_ _; rotate_left; (first | omega | (simp; omega) | simp))))⟩
theorem mull_any (a : Nat) (w : World) (h : a ≤ 1152921504606846976) :
    Calls Tryz.prog 60 #[.int .u64 1, .int .u64 a] w fun e w' => e = .returned (uV a) ∧ Below w.heap.size w w' := by
  have b1 : bits BinOp.and IntKind.u64 1 4294967295 = 1 := by rw [and32 _ (by decide) (by decide)]; rfl
  obtain ⟨lo, hlo⟩ : ∃ lo : Int, lo = (a : Int) % 4294967296 := ⟨_, rfl⟩
  obtain ⟨hi, hhi⟩ : ∃ hi : Int, hi = (a : Int) / 4294967296 := ⟨_, rfl⟩
  have ba : bits BinOp.and IntKind.u64 (a : Int) 4294967295 = lo := by rw [and32 _ (by omega) (by omega), hlo]
  have bl : bits BinOp.and IntKind.u64 lo 4294967295 = lo := by rw [and32 _ (by omega) (by omega)]; omega
  have bh : bits BinOp.and IntKind.u64 hi 4294967295 = hi := by rw [and32 _ (by omega) (by omega)]; omega
  have bz : bits BinOp.and IntKind.u64 0 4294967295 = 0 := by rw [and32 _ (by decide) (by decide)]; rfl
  have l0 : 0 ≤ lo := by omega
  have l1 : lo < 4294967296 := by omega
  have i0 : 0 ≤ hi := by omega
  have i1 : hi < 4294967296 := by omega
  have d1 : lo / 4294967296 = 0 := by omega
  have d2 : hi / 4294967296 = 0 := by omega
  have hsum : hi * 4294967296 + lo = a := by omega
  have w1 : IntKind.u64.wrap lo = lo := IntWalk.u64_in _ (by omega)
  have w2 : IntKind.u64.wrap hi = hi := IntWalk.u64_in _ (by omega)
  have w3 : IntKind.u64.wrap (hi * 4294967296) = hi * 4294967296 := IntWalk.u64_in _ (by omega)
  have w4 : IntKind.u64.wrap (a : Int) = a := IntWalk.u64_in _ (by omega)
  clear hlo
  have hhi2 := hhi.symm
  clear hhi
  go_enter Tryz.func60, Tryz.ntmps60
  go_wp2
  exact bodyPost_ret (v := uV a) (by simp [results, Tryz.results60, go_sem, *]) rfl ⟨rfl, (by repeat (first | exact Below.refl _ _ | assumption | refine ba_alloc ?_ _ | refine ba_drew ?_ | refine ba_drewN ?_ _ | refine ba_via (by assumption) ?_ | (refine ba_set ?_ ?_ _; rotate_left; (first | omega | (simp; omega) | simp))))⟩
theorem of02_any (n : Int) (w : World) : Calls Tryz.prog 33 #[.int .i64 n] w fun e w' => e = .returned (.agg #[.int .i64 n, .int .i64 1]) ∧ Below w.heap.size w w' := by
  go_enter Tryz.func33, Tryz.ntmps33
  go_wp2
  exact bodyPost_ret (v := .agg #[.int .i64 n, .int .i64 1]) (by simp [results, Tryz.results33, go_sem, *]) rfl ⟨rfl, (by repeat (first | exact Below.refl _ _ | assumption | refine ba_alloc ?_ _ | refine ba_drew ?_ | refine ba_drewN ?_ _ | refine ba_via (by assumption) ?_ | (refine ba_set ?_ ?_ _; rotate_left; (first | omega | (simp; omega) | simp))))⟩
/-- Cmp of a fraction, and 1. -/
def S.cmp1 (p q : Int) : Int := if p = q then 0 else if p < q then -1 else 1
theorem lit47 (a : Array Value) (h : a.size = 47) : a = #[a.getD 0 undef, a.getD 1 undef, a.getD 2 undef, a.getD 3 undef, a.getD 4 undef, a.getD 5 undef, a.getD 6 undef, a.getD 7 undef, a.getD 8 undef, a.getD 9 undef, a.getD 10 undef, a.getD 11 undef, a.getD 12 undef, a.getD 13 undef, a.getD 14 undef, a.getD 15 undef, a.getD 16 undef, a.getD 17 undef, a.getD 18 undef, a.getD 19 undef, a.getD 20 undef, a.getD 21 undef, a.getD 22 undef, a.getD 23 undef, a.getD 24 undef, a.getD 25 undef, a.getD 26 undef, a.getD 27 undef, a.getD 28 undef, a.getD 29 undef, a.getD 30 undef, a.getD 31 undef, a.getD 32 undef, a.getD 33 undef, a.getD 34 undef, a.getD 35 undef, a.getD 36 undef, a.getD 37 undef, a.getD 38 undef, a.getD 39 undef, a.getD 40 undef, a.getD 41 undef, a.getD 42 undef, a.getD 43 undef, a.getD 44 undef, a.getD 45 undef, a.getD 46 undef] := by
  refine Array.ext (by simp [h]) (fun i h1 h2 => ?_)
  match i, h1 with
  | 0, h1 => exact (by simp [Array.getD_eq_getD_getElem?, h1])
  | 1, h1 => exact (by simp [Array.getD_eq_getD_getElem?, h1])
  | 2, h1 => exact (by simp [Array.getD_eq_getD_getElem?, h1])
  | 3, h1 => exact (by simp [Array.getD_eq_getD_getElem?, h1])
  | 4, h1 => exact (by simp [Array.getD_eq_getD_getElem?, h1])
  | 5, h1 => exact (by simp [Array.getD_eq_getD_getElem?, h1])
  | 6, h1 => exact (by simp [Array.getD_eq_getD_getElem?, h1])
  | 7, h1 => exact (by simp [Array.getD_eq_getD_getElem?, h1])
  | 8, h1 => exact (by simp [Array.getD_eq_getD_getElem?, h1])
  | 9, h1 => exact (by simp [Array.getD_eq_getD_getElem?, h1])
  | 10, h1 => exact (by simp [Array.getD_eq_getD_getElem?, h1])
  | 11, h1 => exact (by simp [Array.getD_eq_getD_getElem?, h1])
  | 12, h1 => exact (by simp [Array.getD_eq_getD_getElem?, h1])
  | 13, h1 => exact (by simp [Array.getD_eq_getD_getElem?, h1])
  | 14, h1 => exact (by simp [Array.getD_eq_getD_getElem?, h1])
  | 15, h1 => exact (by simp [Array.getD_eq_getD_getElem?, h1])
  | 16, h1 => exact (by simp [Array.getD_eq_getD_getElem?, h1])
  | 17, h1 => exact (by simp [Array.getD_eq_getD_getElem?, h1])
  | 18, h1 => exact (by simp [Array.getD_eq_getD_getElem?, h1])
  | 19, h1 => exact (by simp [Array.getD_eq_getD_getElem?, h1])
  | 20, h1 => exact (by simp [Array.getD_eq_getD_getElem?, h1])
  | 21, h1 => exact (by simp [Array.getD_eq_getD_getElem?, h1])
  | 22, h1 => exact (by simp [Array.getD_eq_getD_getElem?, h1])
  | 23, h1 => exact (by simp [Array.getD_eq_getD_getElem?, h1])
  | 24, h1 => exact (by simp [Array.getD_eq_getD_getElem?, h1])
  | 25, h1 => exact (by simp [Array.getD_eq_getD_getElem?, h1])
  | 26, h1 => exact (by simp [Array.getD_eq_getD_getElem?, h1])
  | 27, h1 => exact (by simp [Array.getD_eq_getD_getElem?, h1])
  | 28, h1 => exact (by simp [Array.getD_eq_getD_getElem?, h1])
  | 29, h1 => exact (by simp [Array.getD_eq_getD_getElem?, h1])
  | 30, h1 => exact (by simp [Array.getD_eq_getD_getElem?, h1])
  | 31, h1 => exact (by simp [Array.getD_eq_getD_getElem?, h1])
  | 32, h1 => exact (by simp [Array.getD_eq_getD_getElem?, h1])
  | 33, h1 => exact (by simp [Array.getD_eq_getD_getElem?, h1])
  | 34, h1 => exact (by simp [Array.getD_eq_getD_getElem?, h1])
  | 35, h1 => exact (by simp [Array.getD_eq_getD_getElem?, h1])
  | 36, h1 => exact (by simp [Array.getD_eq_getD_getElem?, h1])
  | 37, h1 => exact (by simp [Array.getD_eq_getD_getElem?, h1])
  | 38, h1 => exact (by simp [Array.getD_eq_getD_getElem?, h1])
  | 39, h1 => exact (by simp [Array.getD_eq_getD_getElem?, h1])
  | 40, h1 => exact (by simp [Array.getD_eq_getD_getElem?, h1])
  | 41, h1 => exact (by simp [Array.getD_eq_getD_getElem?, h1])
  | 42, h1 => exact (by simp [Array.getD_eq_getD_getElem?, h1])
  | 43, h1 => exact (by simp [Array.getD_eq_getD_getElem?, h1])
  | 44, h1 => exact (by simp [Array.getD_eq_getD_getElem?, h1])
  | 45, h1 => exact (by simp [Array.getD_eq_getD_getElem?, h1])
  | 46, h1 => exact (by simp [Array.getD_eq_getD_getElem?, h1])
  | n + 47, h1 => omega
def cmpT (b2 b3 p q : Nat) : Nat → Value
  | 0 => .pointer (some ⟨b2, 0, none⟩)
  | 1 => .int .i64 p
  | 2 => .int .u64 p
  | 3 => .pointer (some ⟨b3, 1, none⟩)
  | 4 => .int .i64 1
  | 5 => .int .u64 1
  | 6 => uV p
  | 7 => .pointer (some ⟨b3, 0, none⟩)
  | 8 => .int .i64 1
  | 9 => .int .u64 1
  | 10 => .pointer (some ⟨b2, 1, none⟩)
  | 11 => .int .i64 q
  | 12 => .int .u64 q
  | 13 => uV q
  | _ => undef
def CmpV (b2 b3 p q i : Nat) (a : Act) (w : World) : Prop :=
  (i ≤ 13 → a.tmps.getD (i + 7) undef = cmpT b2 b3 p q i) ∧ (i = 14 → ∃ g cs, a.tmps.getD 5 undef = .pointer (some ⟨g, 0, none⟩) ∧ Blk w g 126 cs ∧ cs.size = 2) ∧ (i = 15 → ∃ g cs, a.tmps.getD 6 undef = .pointer (some ⟨g, 0, none⟩) ∧ Blk w g 126 cs ∧ cs.size = 2) ∧
  (i = 16 → ∃ g, a.tmps.getD 5 undef = .pointer (some ⟨g, 0, none⟩) ∧ Blk w g 126 #[.int .u64 0, .int .u64 p]) ∧ (i = 17 → ∃ g, a.tmps.getD 6 undef = .pointer (some ⟨g, 0, none⟩) ∧ Blk w g 126 #[.int .u64 0, .int .u64 q])
structure CmpS (W0 : World) (a0 a : Act) (w : World) : Prop where
  size : a.tmps.size = 47
  fr : ∀ s, s < 5 ∨ 20 < s → a.tmps.getD s undef = a0.tmps.getD s undef
  defers : a.defers = a0.defers
  bel : Below W0.heap.size W0 w
  x5 : ∀ g, a.tmps.getD 5 undef = .pointer (some ⟨g, 0, none⟩) → W0.heap.size ≤ g ∧ g < w.heap.size
  x6 : ∀ g, a.tmps.getD 6 undef = .pointer (some ⟨g, 0, none⟩) → W0.heap.size ≤ g ∧ g < w.heap.size
  ne : ∀ g g', a.tmps.getD 5 undef = .pointer (some ⟨g, 0, none⟩) → a.tmps.getD 6 undef = .pointer (some ⟨g', 0, none⟩) → g ≠ g'
theorem getD_put {a : Act} {d s : Nat} {v : Value} (h : s ≠ d) : (a.put (some d) v).tmps.getD s undef = a.tmps.getD s undef := by
  simp only [Act.put, Array.getD_eq_getD_getElem?]
  rw [Array.getElem?_setIfInBounds_ne (fun e => h e.symm)]
theorem getD_own {a : Act} {d : Nat} {v : Value} (h : d < a.tmps.size) : (a.put (some d) v).tmps.getD d undef = v := by
  simp [Act.put, Array.getD_eq_getD_getElem?, h]
theorem CmpS.put {W0 : World} {a0 a : Act} {w w' : World} (h : CmpS W0 a0 a w) (hb : Below w.heap.size w w') {d : Nat} (h7 : 7 ≤ d) (h20 : d ≤ 20) (v : Value) : CmpS W0 a0 (a.put (some d) v) w' := by
  have hs := hb.size
  refine ⟨by simpa [Act.put] using h.size, fun s hsd => ?_, h.defers, h.bel.trans (hb.mono h.bel.size), fun g hg => ?_, fun g hg => ?_, fun g g' hg hg' => ?_⟩
  · rw [getD_put (by omega)]; exact h.fr s hsd
  · rw [getD_put (by omega)] at hg; have := h.x5 g hg; omega
  · rw [getD_put (by omega)] at hg; have := h.x6 g hg; omega
  · rw [getD_put (by omega)] at hg hg'; exact h.ne g g' hg hg'
theorem CmpV.put {b2 b3 p q i : Nat} {a : Act} {w w' : World} (h : CmpV b2 b3 p q i a w) (hb : Below w.heap.size w w') {d : Nat} (h7 : 7 ≤ d) (hi : i + 7 ≠ d) (v : Value) : CmpV b2 b3 p q i (a.put (some d) v) w' := by
  obtain ⟨h1, h2, h3, h4, h5⟩ := h
  refine ⟨fun hj => ?_, fun hj => ?_, fun hj => ?_, fun hj => ?_, fun hj => ?_⟩
  · rw [getD_put hi]; exact h1 hj
  · obtain ⟨g, cs, e1, e2, e3⟩ := h2 hj; exact ⟨g, cs, by rw [getD_put (by omega)]; exact e1, e2.via hb, e3⟩
  · obtain ⟨g, cs, e1, e2, e3⟩ := h3 hj; exact ⟨g, cs, by rw [getD_put (by omega)]; exact e1, e2.via hb, e3⟩
  · obtain ⟨g, e1, e2⟩ := h4 hj; exact ⟨g, by rw [getD_put (by omega)]; exact e1, e2.via hb⟩
  · obtain ⟨g, e1, e2⟩ := h5 hj; exact ⟨g, by rw [getD_put (by omega)]; exact e1, e2.via hb⟩
theorem cmp_new {b2 b3 p q j : Nat} {a : Act} {w : World} (hj : j ≤ 13) (hs : a.tmps.size = 47) {v : Value} (hv : v = cmpT b2 b3 p q j) : CmpV b2 b3 p q j (a.put (some (j + 7)) v) w :=
  ⟨fun _ => by rw [getD_own (by omega)]; exact hv, fun h => by omega, fun h => by omega, fun h => by omega, fun h => by omega⟩
theorem cmp_step {b2 b3 p q j : Nat} {W0 : World} {a0 : Act} {l : List Oper} {Q : Exit → Act → World → Prop} {a : Act} {w : World} {o : Oper} {v : Value} (ho : l.toArray[j]? = some o) (hg : o.guard = none) (hj : j ≤ 13) (hd : o.dst = some (j + 7)) (hS : CmpS W0 a0 a w)
    (hr : (execOp a.eval o).run Tryz.prog w = .ok (.value v) w) (hv : v = cmpT b2 b3 p q j) :
    wpOp Tryz.prog l.toArray Q j (fun a' w' => CmpV b2 b3 p q j a' w' ∧ (∀ i oi, l[i]? = some oi → i ≠ j → (∀ e ∈ oi.after, Region.binds .any e = true → e.on ≠ j) → CmpV b2 b3 p q i a w → CmpV b2 b3 p q i a' w') ∧ CmpS W0 a0 a' w') a w := by
  refine op_val ho hg hr ?_
  rw [hd]
  exact ⟨cmp_new hj hS.size hv, fun i oi _ hij _ h => h.put (Below.refl _ _) (by omega) (by omega) v, hS.put (Below.refl _ _) (by omega) (by omega) v⟩
theorem cmp_call {b2 b3 p q j : Nat} {W0 : World} {a0 : Act} {l : List Oper} {Q : Exit → Act → World → Prop} {a : Act} {w : World} {o : Oper} {f : FuncId} {args : Array Value} (ho : l.toArray[j]? = some o) (hg : o.guard = none) (hj : j ≤ 13) (hd : o.dst = some (j + 7)) (hS : CmpS W0 a0 a w)
    (hr : (execOp a.eval o).run Tryz.prog w = .ok (.enter f args) w) (hc : Calls Tryz.prog f args w fun e w' => e = .returned (cmpT b2 b3 p q j) ∧ Below w.heap.size w w') :
    wpOp Tryz.prog l.toArray Q j (fun a' w' => CmpV b2 b3 p q j a' w' ∧ (∀ i oi, l[i]? = some oi → i ≠ j → (∀ e ∈ oi.after, Region.binds .any e = true → e.on ≠ j) → CmpV b2 b3 p q i a w → CmpV b2 b3 p q i a' w') ∧ CmpS W0 a0 a' w') a w := by
  refine op_call ho hg hr hc ?_
  rintro e w' ⟨rfl, hb⟩
  rw [hd]
  exact ⟨_, rfl, cmp_new hj hS.size rfl, fun i oi _ hij _ h => h.put hb (by omega) (by omega) _, hS.put hb (by omega) (by omega) _⟩
theorem ev {a : Act} {s : Nat} {v : Value} (h : a.tmps.getD s undef = v) : a.tmps[s]?.getD undef = v := by rw [← Array.getD_eq_getD_getElem?]; exact h
theorem bel_exc {W0 w w' : World} {g : Nat} (h : Below W0.heap.size W0 w) (hX : Exc [g] w w') (hg : W0.heap.size ≤ g) : Below W0.heap.size W0 w' :=
  ⟨hX.os.trans h.os, hX.tape.trans h.tape, hX.output.trans h.output, Nat.le_trans h.size hX.size, fun k hk => (hX.block k (Nat.lt_of_lt_of_le hk h.size) (by simp; omega)).trans (h.block k hk)⟩
theorem cmp_alloc5 {b2 b3 p q : Nat} {W0 : World} {a0 : Act} {l : List Oper} {Q : Exit → Act → World → Prop} {a : Act} {w : World} {o : Oper} (ho : l.toArray[14]? = some o) (hg : o.guard = none) (hd : o.dst = some 5) (hS : CmpS W0 a0 a w)
    (hr : (execOp a.eval o).run Tryz.prog w = .ok (.value (.pointer (some ⟨w.heap.size, 0, none⟩))) (w.alloc (.cells #[.int .u64 0, .int .u64 0] 126)))
    (hno : ∀ oi, l[16]? = some oi → ∃ e ∈ oi.after, Region.binds .any e = true ∧ e.on = 14) : wpOp Tryz.prog l.toArray Q 14 (fun a' w' => CmpV b2 b3 p q 14 a' w' ∧ (∀ i oi, l[i]? = some oi → i ≠ 14 → (∀ e ∈ oi.after, Region.binds .any e = true → e.on ≠ 14) → CmpV b2 b3 p q i a w → CmpV b2 b3 p q i a' w') ∧ CmpS W0 a0 a' w') a w := by
  have hba : Below w.heap.size w (w.alloc (.cells #[.int .u64 0, .int .u64 0] 126)) := ba_alloc (Below.refl _ _) _
  have hsl : 5 < a.tmps.size := by rw [hS.size]; decide
  refine op_val ho hg hr ?_
  rw [hd]
  refine ⟨⟨fun h => absurd h (by decide), fun h => ?_, fun h => ?_, fun h => absurd h (by decide), fun h => absurd h (by decide)⟩, fun i oi hoi hij hd2 h => ?_, ?_⟩
  · exact ⟨_, _, getD_own hsl, Blk.new _ _ _, rfl⟩
  · exact absurd h (by decide)
  · obtain ⟨h1, h2, h3, h4, h5⟩ := h
    refine ⟨fun hj => ?_, fun hj => ?_, fun hj => ?_, fun hj => ?_, fun hj => ?_⟩
    · rw [getD_put (by omega)]; exact h1 hj
    · exact absurd hj hij
    · obtain ⟨g, cs, e1, e4, e5⟩ := h3 hj; exact ⟨g, cs, by rw [getD_put (by decide)]; exact e1, e4.via hba, e5⟩
    · subst hj; obtain ⟨e, h6, h7, h8⟩ := hno oi hoi; exact absurd h8 (hd2 e h6 h7)
    · obtain ⟨g, e1, e4⟩ := h5 hj; exact ⟨g, by rw [getD_put (by decide)]; exact e1, e4.via hba⟩
  · have hbs := hS.bel.size
    have hws : (w.alloc (.cells #[.int .u64 0, .int .u64 0] 126)).heap.size = w.heap.size + 1 := by simp
    have hown : ∀ g, (a.put (some 5) (.pointer (some ⟨w.heap.size, 0, none⟩))).tmps.getD 5 undef = .pointer (some ⟨g, 0, none⟩) → g = w.heap.size := fun g hg => by
      rw [getD_own hsl] at hg
      simpa using hg.symm
    refine ⟨by simpa [Act.put] using hS.size, fun s hsd => ?_, hS.defers, hS.bel.trans (hba.mono hbs), fun g hg => ?_, fun g hg => ?_, fun g g' hg hg' => ?_⟩
    · rw [getD_put (by omega)]; exact hS.fr s hsd
    · have := hown g hg; omega
    · rw [getD_put (by decide)] at hg; have := hS.x6 g hg; omega
    · have := hown g hg; rw [getD_put (by decide)] at hg'; have := hS.x6 g' hg'; omega
theorem cmp_alloc6 {b2 b3 p q : Nat} {W0 : World} {a0 : Act} {l : List Oper} {Q : Exit → Act → World → Prop} {a : Act} {w : World} {o : Oper} (ho : l.toArray[15]? = some o) (hg : o.guard = none) (hd : o.dst = some 6) (hS : CmpS W0 a0 a w)
    (hr : (execOp a.eval o).run Tryz.prog w = .ok (.value (.pointer (some ⟨w.heap.size, 0, none⟩))) (w.alloc (.cells #[.int .u64 0, .int .u64 0] 126)))
    (hno : ∀ oi, l[17]? = some oi → ∃ e ∈ oi.after, Region.binds .any e = true ∧ e.on = 15) : wpOp Tryz.prog l.toArray Q 15 (fun a' w' => CmpV b2 b3 p q 15 a' w' ∧ (∀ i oi, l[i]? = some oi → i ≠ 15 → (∀ e ∈ oi.after, Region.binds .any e = true → e.on ≠ 15) → CmpV b2 b3 p q i a w → CmpV b2 b3 p q i a' w') ∧ CmpS W0 a0 a' w') a w := by
  have hba : Below w.heap.size w (w.alloc (.cells #[.int .u64 0, .int .u64 0] 126)) := ba_alloc (Below.refl _ _) _
  have hsl : 6 < a.tmps.size := by rw [hS.size]; decide
  refine op_val ho hg hr ?_
  rw [hd]
  refine ⟨⟨fun h => absurd h (by decide), fun h => ?_, fun h => ?_, fun h => absurd h (by decide), fun h => absurd h (by decide)⟩, fun i oi hoi hij hd2 h => ?_, ?_⟩
  · exact absurd h (by decide)
  · exact ⟨_, _, getD_own hsl, Blk.new _ _ _, rfl⟩
  · obtain ⟨h1, h2, h3, h4, h5⟩ := h
    refine ⟨fun hj => ?_, fun hj => ?_, fun hj => ?_, fun hj => ?_, fun hj => ?_⟩
    · rw [getD_put (by omega)]; exact h1 hj
    · obtain ⟨g, cs, e1, e4, e5⟩ := h2 hj; exact ⟨g, cs, by rw [getD_put (by decide)]; exact e1, e4.via hba, e5⟩
    · exact absurd hj hij
    · obtain ⟨g, e1, e4⟩ := h4 hj; exact ⟨g, by rw [getD_put (by decide)]; exact e1, e4.via hba⟩
    · subst hj; obtain ⟨e, h6, h7, h8⟩ := hno oi hoi; exact absurd h8 (hd2 e h6 h7)
  · have hbs := hS.bel.size
    have hws : (w.alloc (.cells #[.int .u64 0, .int .u64 0] 126)).heap.size = w.heap.size + 1 := by simp
    have hown : ∀ g, (a.put (some 6) (.pointer (some ⟨w.heap.size, 0, none⟩))).tmps.getD 6 undef = .pointer (some ⟨g, 0, none⟩) → g = w.heap.size := fun g hg => by
      rw [getD_own hsl] at hg
      simpa using hg.symm
    refine ⟨by simpa [Act.put] using hS.size, fun s hsd => ?_, hS.defers, hS.bel.trans (hba.mono hbs), fun g hg => ?_, fun g hg => ?_, fun g g' hg hg' => ?_⟩
    · rw [getD_put (by omega)]; exact hS.fr s hsd
    · rw [getD_put (by decide)] at hg; have := hS.x5 g hg; omega
    · have := hown g hg; omega
    · have := hown g' hg'; rw [getD_put (by decide)] at hg; have := hS.x5 g hg; omega
theorem cmp_store5 {b2 b3 p q : Nat} {W0 : World} {a0 : Act} {l : List Oper} {Q : Exit → Act → World → Prop} {a : Act} {w : World} {o : Oper} (ho : l.toArray[16]? = some o) (hg : o.guard = none) (hd : o.dst = none) (hS : CmpS W0 a0 a w) (g : Nat) (cs : Array Value)
    (e0 : a.tmps.getD 5 undef = .pointer (some ⟨g, 0, none⟩)) (hG : Blk w g 126 cs) (hcs : cs.size = 2) (hr : (execOp a.eval o).run Tryz.prog w = .ok .skip (w.setCells g 0 (#[.int .u64 0, .int .u64 p] : Array Value).toList)) : wpOp Tryz.prog l.toArray Q 16 (fun a' w' => CmpV b2 b3 p q 16 a' w' ∧ (∀ i oi, l[i]? = some oi → i ≠ 16 → (∀ e ∈ oi.after, Region.binds .any e = true → e.on ≠ 16) → CmpV b2 b3 p q i a w → CmpV b2 b3 p q i a' w') ∧ CmpS W0 a0 a' w') a w := by
  have hx := hS.x5 g e0
  have hPut : Blk (w.setCells g 0 (#[.int .u64 0, .int .u64 p] : Array Value).toList) g 126 #[.int .u64 0, .int .u64 p] := Blk.put0 hG #[.int .u64 0, .int .u64 p] (by rw [hcs]; rfl)
  have hXs : Exc [g] w (w.setCells g 0 (#[.int .u64 0, .int .u64 p] : Array Value).toList) := exc_setCells _ _ _ _
  have hXz := hXs.size
  refine op_skip ho hg hr ?_
  rw [hd]
  show CmpV b2 b3 p q 16 a _ ∧ _ ∧ CmpS W0 a0 a _
  refine ⟨⟨fun h => absurd h (by decide), fun h => absurd h (by decide), fun h => absurd h (by decide), fun h => ?_, fun h => ?_⟩, fun i oi hoi hij hd2 h => ?_, ?_⟩
  · exact ⟨g, e0, hPut⟩
  · exact absurd h (by decide)
  · obtain ⟨h1, h2, h3, h4, h5⟩ := h
    refine ⟨h1, fun hj => ?_, fun hj => ?_, fun hj => ?_, fun hj => ?_⟩
    · exact ⟨g, _, e0, hPut, rfl⟩
    · obtain ⟨g', cs', e1, e4, e5⟩ := h3 hj; exact ⟨g', cs', e1, e4.exc hXs (by have := hS.ne g g' e0 e1; simpa using fun e => this e.symm), e5⟩
    · exact absurd hj hij
    · obtain ⟨g', e1, e4⟩ := h5 hj; exact ⟨g', e1, e4.exc hXs (by have := hS.ne g g' e0 e1; simpa using fun e => this e.symm)⟩
  · exact ⟨hS.size, hS.fr, hS.defers, bel_exc hS.bel hXs hx.1, fun g hg => (by have := hS.x5 g hg; omega), fun g hg => (by have := hS.x6 g hg; omega), hS.ne⟩
theorem cmp_store6 {b2 b3 p q : Nat} {W0 : World} {a0 : Act} {l : List Oper} {Q : Exit → Act → World → Prop} {a : Act} {w : World} {o : Oper} (ho : l.toArray[17]? = some o) (hg : o.guard = none) (hd : o.dst = none) (hS : CmpS W0 a0 a w) (g : Nat) (cs : Array Value)
    (e0 : a.tmps.getD 6 undef = .pointer (some ⟨g, 0, none⟩)) (hG : Blk w g 126 cs) (hcs : cs.size = 2) (hr : (execOp a.eval o).run Tryz.prog w = .ok .skip (w.setCells g 0 (#[.int .u64 0, .int .u64 q] : Array Value).toList)) : wpOp Tryz.prog l.toArray Q 17 (fun a' w' => CmpV b2 b3 p q 17 a' w' ∧ (∀ i oi, l[i]? = some oi → i ≠ 17 → (∀ e ∈ oi.after, Region.binds .any e = true → e.on ≠ 17) → CmpV b2 b3 p q i a w → CmpV b2 b3 p q i a' w') ∧ CmpS W0 a0 a' w') a w := by
  have hx := hS.x6 g e0
  have hPut : Blk (w.setCells g 0 (#[.int .u64 0, .int .u64 q] : Array Value).toList) g 126 #[.int .u64 0, .int .u64 q] := Blk.put0 hG #[.int .u64 0, .int .u64 q] (by rw [hcs]; rfl)
  have hXs : Exc [g] w (w.setCells g 0 (#[.int .u64 0, .int .u64 q] : Array Value).toList) := exc_setCells _ _ _ _
  have hXz := hXs.size
  refine op_skip ho hg hr ?_
  rw [hd]
  show CmpV b2 b3 p q 17 a _ ∧ _ ∧ CmpS W0 a0 a _
  refine ⟨⟨fun h => absurd h (by decide), fun h => absurd h (by decide), fun h => absurd h (by decide), fun h => ?_, fun h => ?_⟩, fun i oi hoi hij hd2 h => ?_, ?_⟩
  · exact absurd h (by decide)
  · exact ⟨g, e0, hPut⟩
  · obtain ⟨h1, h2, h3, h4, h5⟩ := h
    refine ⟨h1, fun hj => ?_, fun hj => ?_, fun hj => ?_, fun hj => ?_⟩
    · obtain ⟨g', cs', e1, e4, e5⟩ := h2 hj; exact ⟨g', cs', e1, e4.exc hXs (by have := hS.ne g' g e1 e0; simpa using this), e5⟩
    · exact ⟨g, _, e0, hPut, rfl⟩
    · obtain ⟨g', e1, e4⟩ := h4 hj; exact ⟨g', e1, e4.exc hXs (by have := hS.ne g' g e1 e0; simpa using this)⟩
    · exact absurd hj hij
  · exact ⟨hS.size, hS.fr, hS.defers, bel_exc hS.bel hXs hx.1, fun g hg => (by have := hS.x5 g hg; omega), fun g hg => (by have := hS.x6 g hg; omega), hS.ne⟩
theorem size_bel {n : Nat} {w : World} (h : n ≤ 1152921504606846976) : Calls Tryz.prog 61 #[.int .i64 n] w fun e w' => e = .returned (.int .u64 n) ∧ Below w.heap.size w w' := by
  refine (rsz2_any n w (by omega) (by omega)).mono ?_
  rintro e w' ⟨rfl, rfl⟩
  exact ⟨rfl, Below.refl _ _⟩
set_option maxRecDepth 20000 in
set_option maxHeartbeats 4000000 in
theorem rcmp1_any (p q : Nat) (w : World) (hp : p ≤ 1152921504606846976) (hq : q ≤ 1152921504606846976) :
    Calls Tryz.prog 32 #[.agg #[.int .i64 p, .int .i64 q], .agg #[.int .i64 1, .int .i64 1]] w fun e w' => e = .returned (.int .i64 (S.cmp1 p q)) ∧ Below w.heap.size w w' := by
  have HL := Lib.hid (fun w => less_any p q w)
  have np : ¬ (p : Int) < 0 := by omega
  have bp : decide ((p : Int) < 0) = false := decide_eq_false np
  have bp2 : decide ((0 : Int) ≤ (p : Int)) = true := decide_eq_true (by omega)
  unfold uV at HL
  have hB2 := (Blk.new w 54 #[.int .i64 p, .int .i64 q]).alloc (.cells #[.int .i64 1, .int .i64 1] 54)
  have hB3 := Blk.newN (W := w.alloc (.cells #[.int .i64 p, .int .i64 q] 54)) (n := w.heap.size + 1) (by simp) 54 #[.int .i64 1, .int .i64 1]
  have hW1 : Below w.heap.size w ((w.alloc (.cells #[.int .i64 p, .int .i64 q] 54)).alloc (.cells #[.int .i64 1, .int .i64 1] 54)) := ba_alloc (ba_alloc (Below.refl _ _) _) _
  go_enter Tryz.func32, Tryz.ntmps32
  go_wp2
  generalize ((w.alloc (.cells #[.int .i64 p, .int .i64 q] 54)).alloc (.cells #[.int .i64 1, .int .i64 1] 54)) = W1 at *
  generalize hbb : w.heap.size = b2 at *
  have hW2 : Below w.heap.size w W1 := by rw [hbb]; exact hW1
  obtain ⟨a0, ha0⟩ : ∃ a0 : Act, a0 = ⟨#[.agg #[.int .i64 p, .int .i64 q], .agg #[.int .i64 1, .int .i64 1], .pointer (some ⟨b2, 0, none⟩), .pointer (some ⟨b2 + 1, 0, none⟩), .int .i64 0, undef, undef, undef, undef, undef, undef, undef, undef, undef, undef, undef, undef, undef, undef, undef, undef, undef, undef, undef, undef, undef, undef, undef, undef, undef, undef, undef, undef, undef, undef, undef, undef, undef, undef, undef, undef, undef, undef, undef, undef, undef, undef], []⟩ := ⟨_, rfl⟩
  have f2 : a0.tmps.getD 2 undef = .pointer (some ⟨b2, 0, none⟩) := by rw [ha0]; rfl
  have f3 : a0.tmps.getD 3 undef = .pointer (some ⟨b2 + 1, 0, none⟩) := by rw [ha0]; rfl
  refine wp_region_relA (V := CmpV b2 (b2 + 1) p q) (S := CmpS W1 a0) (by kernel_rfl) (earlyB_out (by kernel_rfl)) ?h0 ?hstep ?hend
  case h0 =>
    rw [ha0]
    exact ⟨rfl, fun s _ => rfl, rfl, ba_drew (Below.refl _ _), fun g h => (by cases h), fun g h => (by cases h), fun g g' h => (by cases h)⟩
  case hstep =>
    intro j oj a' w' hj hS hdep
    have e2 : a'.eval (.tmp 2) = .pointer (some ⟨b2, 0, none⟩) := (hS.fr 2 (by decide)).trans f2
    have e3 : a'.eval (.tmp 3) = .pointer (some ⟨b2 + 1, 0, none⟩) := (hS.fr 3 (by decide)).trans f3
    have hB2' := hB2.via hS.bel
    have hB3' := hB3.via hS.bel
    rcases j with _ | _ | _ | _ | _ | _ | _ | _ | _ | _ | _ | _ | _ | _ | _ | _ | _ | _ | j
    all_goals (simp only [List.getElem?_cons_zero, List.getElem?_cons_succ, Option.some.injEq, Nat.zero_add] at hj; try subst hj)
    · refine cmp_step rfl rfl (by decide) rfl hS (v := cmpT b2 (b2 + 1) p q 0) ?_ rfl
      change Sem.run Tryz.prog (execOp a'.eval { dst := some 7, op := Op.fieldAddr 54 (.tmp 2) 0, type := _, pos := _, after := _, guard := none }) w' = _
      simp [execOp, go_sem, ev e2]
      rfl
    · have e7 : a'.eval (.tmp 7) = .pointer (some ⟨b2, 0, none⟩) := (hdep ⟨0, .data⟩ (by simp) rfl).1 (by decide)
      have c := hB2'.cell 0
      simp only [List.getElem?_toArray, List.getElem?_cons_zero, List.getElem?_cons_succ] at c
      exact cmp_step rfl rfl (by decide) rfl hS (by simp [execOp, go_sem, ev e7, c]; rfl) rfl
    · have e8 : a'.eval (.tmp 8) = .int .i64 p := (hdep ⟨1, .data⟩ (by simp) rfl).1 (by decide)
      exact cmp_call (f := 61) (args := #[.int .i64 p]) rfl rfl (by decide) rfl hS (by simp [execOp, go_sem, ev e8, Tryz.call61]) (size_bel hp)
    · refine cmp_step rfl rfl (by decide) rfl hS (v := cmpT b2 (b2 + 1) p q 3) ?_ rfl
      change Sem.run Tryz.prog (execOp a'.eval { dst := some 10, op := Op.fieldAddr 54 (.tmp 3) 1, type := _, pos := _, after := _, guard := none }) w' = _
      simp [execOp, go_sem, ev e3]
      rfl
    · have e10 : a'.eval (.tmp 10) = .pointer (some ⟨b2 + 1, 1, none⟩) := (hdep ⟨3, .data⟩ (by simp) rfl).1 (by decide)
      have c := hB3'.cell 1
      simp only [List.getElem?_toArray, List.getElem?_cons_zero, List.getElem?_cons_succ] at c
      exact cmp_step rfl rfl (by decide) rfl hS (by simp [execOp, go_sem, ev e10, c]; rfl) rfl
    · have e11 : a'.eval (.tmp 11) = .int .i64 1 := (hdep ⟨4, .data⟩ (by simp) rfl).1 (by decide)
      exact cmp_call (f := 61) (args := #[.int .i64 1]) rfl rfl (by decide) rfl hS (by simp [execOp, go_sem, ev e11, Tryz.call61]) (size_bel (n := 1) (by decide))
    · have e9 : a'.eval (.tmp 9) = .int .u64 p := (hdep ⟨2, .data⟩ (by simp) rfl).1 (by decide)
      have e12 : a'.eval (.tmp 12) = .int .u64 1 := (hdep ⟨5, .data⟩ (by simp) rfl).1 (by decide)
      exact cmp_call (f := 60) (args := #[.int .u64 p, .int .u64 1]) rfl rfl (by decide) rfl hS (by simp [execOp, go_sem, ev e9, ev e12, Tryz.call60]) (mulr_any p _ hp)
    · refine cmp_step rfl rfl (by decide) rfl hS (v := cmpT b2 (b2 + 1) p q 7) ?_ rfl
      change Sem.run Tryz.prog (execOp a'.eval { dst := some 14, op := Op.fieldAddr 54 (.tmp 3) 0, type := _, pos := _, after := _, guard := none }) w' = _
      simp [execOp, go_sem, ev e3]
      rfl
    · have e14 : a'.eval (.tmp 14) = .pointer (some ⟨b2 + 1, 0, none⟩) := (hdep ⟨7, .data⟩ (by simp) rfl).1 (by decide)
      have c := hB3'.cell 0
      simp only [List.getElem?_toArray, List.getElem?_cons_zero, List.getElem?_cons_succ] at c
      exact cmp_step rfl rfl (by decide) rfl hS (by simp [execOp, go_sem, ev e14, c]; rfl) rfl
    · have e15 : a'.eval (.tmp 15) = .int .i64 1 := (hdep ⟨8, .data⟩ (by simp) rfl).1 (by decide)
      exact cmp_call (f := 61) (args := #[.int .i64 1]) rfl rfl (by decide) rfl hS (by simp [execOp, go_sem, ev e15, Tryz.call61]) (size_bel (n := 1) (by decide))
    · refine cmp_step rfl rfl (by decide) rfl hS (v := cmpT b2 (b2 + 1) p q 10) ?_ rfl
      change Sem.run Tryz.prog (execOp a'.eval { dst := some 17, op := Op.fieldAddr 54 (.tmp 2) 1, type := _, pos := _, after := _, guard := none }) w' = _
      simp [execOp, go_sem, ev e2]
      rfl
    · have e17 : a'.eval (.tmp 17) = .pointer (some ⟨b2, 1, none⟩) := (hdep ⟨10, .data⟩ (by simp) rfl).1 (by decide)
      have c := hB2'.cell 1
      simp only [List.getElem?_toArray, List.getElem?_cons_zero, List.getElem?_cons_succ] at c
      exact cmp_step rfl rfl (by decide) rfl hS (by simp [execOp, go_sem, ev e17, c]; rfl) rfl
    · have e18 : a'.eval (.tmp 18) = .int .i64 q := (hdep ⟨11, .data⟩ (by simp) rfl).1 (by decide)
      exact cmp_call (f := 61) (args := #[.int .i64 q]) rfl rfl (by decide) rfl hS (by simp [execOp, go_sem, ev e18, Tryz.call61]) (size_bel hq)
    · have e16 : a'.eval (.tmp 16) = .int .u64 1 := (hdep ⟨9, .data⟩ (by simp) rfl).1 (by decide)
      have e19 : a'.eval (.tmp 19) = .int .u64 q := (hdep ⟨12, .data⟩ (by simp) rfl).1 (by decide)
      exact cmp_call (f := 60) (args := #[.int .u64 1, .int .u64 q]) rfl rfl (by decide) rfl hS (by simp [execOp, go_sem, ev e16, ev e19, Tryz.call60]) (mull_any q _ hq)
    · refine cmp_alloc5 rfl rfl rfl hS (by kernel_rfl) (fun oi hoi => ?_)
      simp only [List.getElem?_cons_zero, List.getElem?_cons_succ, Option.some.injEq] at hoi
      subst hoi
      exact ⟨⟨14, .data⟩, by simp, rfl, rfl⟩
    · refine cmp_alloc6 rfl rfl rfl hS (by kernel_rfl) (fun oi hoi => ?_)
      simp only [List.getElem?_cons_zero, List.getElem?_cons_succ, Option.some.injEq] at hoi
      subst hoi
      exact ⟨⟨15, .data⟩, by simp, rfl, rfl⟩
    · obtain ⟨g, cs, e0, hG, hcs⟩ := (hdep ⟨14, .data⟩ (by simp) rfl).2.1 rfl
      have ev13 : a'.eval (.tmp 13) = .agg #[.int .u64 0, .int .u64 p] := (hdep ⟨6, .data⟩ (by simp) rfl).1 (by decide)
      have ev5 : a'.eval (.tmp 5) = .pointer (some ⟨g, 0, none⟩) := e0
      have hTh : w'.there g 0 (#[.int .u64 0, .int .u64 p] : Array Value).size := hG.there (by rw [hcs]; exact Nat.le_refl 2)
      have hst := run_storeAt_mid (P := Tryz.prog) w' g 0 126 #[.int .u64 0, .int .u64 p] hTh (by kernel_rfl) (by simp [Value.oneCell'])
      refine cmp_store5 rfl rfl rfl hS g cs e0 hG hcs ?_
      change Sem.run Tryz.prog (execOp a'.eval { dst := none, op := Op.store 126 (.tmp 5) (.tmp 13), type := 0, pos := _, after := _, guard := none }) w' = _
      simp only [execOp, ev5, ev13, Sem.run_bind, hst]
      rfl
    · obtain ⟨g, cs, e0, hG, hcs⟩ := (hdep ⟨15, .data⟩ (by simp) rfl).2.2.1 rfl
      have ev13 : a'.eval (.tmp 20) = .agg #[.int .u64 0, .int .u64 q] := (hdep ⟨13, .data⟩ (by simp) rfl).1 (by decide)
      have ev5 : a'.eval (.tmp 6) = .pointer (some ⟨g, 0, none⟩) := e0
      have hTh : w'.there g 0 (#[.int .u64 0, .int .u64 q] : Array Value).size := hG.there (by rw [hcs]; exact Nat.le_refl 2)
      have hst := run_storeAt_mid (P := Tryz.prog) w' g 0 126 #[.int .u64 0, .int .u64 q] hTh (by kernel_rfl) (by simp [Value.oneCell'])
      refine cmp_store6 rfl rfl rfl hS g cs e0 hG hcs ?_
      change Sem.run Tryz.prog (execOp a'.eval { dst := none, op := Op.store 126 (.tmp 6) (.tmp 20), type := 0, pos := _, after := _, guard := none }) w' = _
      simp only [execOp, ev5, ev13, Sem.run_bind, hst]
      rfl
    · simp at hj
  case hend =>
    intro a' w' hS hall
    obtain ⟨g, e5, hG⟩ := (hall 16 _ rfl).2.2.2.1 rfl
    obtain ⟨g', e6, hG'⟩ := (hall 17 _ rfl).2.2.2.2 rfl
    have h2 := (hS.fr 2 (by decide)).trans f2
    have h3 := (hS.fr 3 (by decide)).trans f3
    have hdf : a'.defers = [] := by rw [hS.defers, ha0]
    have hsz := hS.size
    have hB2' := hB2.via hS.bel
    have hB3' := hB3.via hS.bel
    have hbw : Below w.heap.size w w' := ba_via hS.bel hW2
    have HQ := Lib.hid hbw
    clear hall hS f2 f3 ha0 hB2 hB3 hW1 hW2 hbw
    obtain ⟨tm, df⟩ := a'
    simp only at e5 e6 h2 h3 hdf hsz
    subst hdf
    rename_i K hK
    show K ⟨tm, []⟩ w'
    apply hK
    rw [lit47 tm hsz, h2, h3, e5, e6]
    generalize tm.getD 0 undef = u0
    generalize tm.getD 1 undef = u1
    generalize tm.getD 4 undef = u4
    generalize tm.getD 7 undef = u7
    generalize tm.getD 8 undef = u8
    generalize tm.getD 9 undef = u9
    generalize tm.getD 10 undef = u10
    generalize tm.getD 11 undef = u11
    generalize tm.getD 12 undef = u12
    generalize tm.getD 13 undef = u13
    generalize tm.getD 14 undef = u14
    generalize tm.getD 15 undef = u15
    generalize tm.getD 16 undef = u16
    generalize tm.getD 17 undef = u17
    generalize tm.getD 18 undef = u18
    generalize tm.getD 19 undef = u19
    generalize tm.getD 20 undef = u20
    generalize tm.getD 21 undef = u21
    generalize tm.getD 22 undef = u22
    generalize tm.getD 23 undef = u23
    generalize tm.getD 24 undef = u24
    generalize tm.getD 25 undef = u25
    generalize tm.getD 26 undef = u26
    generalize tm.getD 27 undef = u27
    generalize tm.getD 28 undef = u28
    generalize tm.getD 29 undef = u29
    generalize tm.getD 30 undef = u30
    generalize tm.getD 31 undef = u31
    generalize tm.getD 32 undef = u32
    generalize tm.getD 33 undef = u33
    generalize tm.getD 34 undef = u34
    generalize tm.getD 35 undef = u35
    generalize tm.getD 36 undef = u36
    generalize tm.getD 37 undef = u37
    generalize tm.getD 38 undef = u38
    generalize tm.getD 39 undef = u39
    generalize tm.getD 40 undef = u40
    generalize tm.getD 41 undef = u41
    generalize tm.getD 42 undef = u42
    generalize tm.getD 43 undef = u43
    generalize tm.getD 44 undef = u44
    generalize tm.getD 45 undef = u45
    generalize tm.getD 46 undef = u46
    have c0 := hB2'.cell 0
    have c1 := hB2'.cell 1
    have cl := hB2'.lt
    have d0 := hB3'.cell 0
    have d1 := hB3'.cell 1
    have dl := hB3'.lt
    have g0 := hG.cell 0
    have g1 := hG.cell 1
    have gl := hG.lt
    have k0 := hG'.cell 0
    have k1 := hG'.cell 1
    have kl := hG'.lt
    simp only [List.getElem?_toArray, List.getElem?_cons_zero, List.getElem?_cons_succ] at c0 c1 d0 d1 g0 g1 k0 k1
    clear hB2' hB3' hG hG'
    have HR := Lib.hid (show S.cmp1 p q = (if (p : Int) = q then 0 else if (p : Int) < q then -1 else 1) from rfl)
    by_cases h1 : p = q
    · have b1 : ((p : Int) == (q : Int)) = true := by simp [h1]
      have HE := Lib.hid (show S.cmp1 p q = 0 by rw [HR.out, if_pos (by omega)])
      clear h1 HR HL
      go_wp2
      go_ret
      exact ⟨ret_i HE.out.symm, HQ.out⟩
    · have b1 : ((p : Int) == (q : Int)) = false := by simp; omega
      by_cases h2 : p < q
      · have b2' : decide (p < q) = true := decide_eq_true h2
        have HE := Lib.hid (show S.cmp1 p q = -1 by rw [HR.out, if_neg (by omega), if_pos (by omega)])
        clear h1 h2 HR
        go_upto_region 8 with fail
        refine wp_region_mix 3 [2] (by kernel_rfl) (by kernel_rfl) (of_decide_eq_true (by kernel_rfl)) ?_
        try simp only [wpSegs, List.take_succ_cons, List.take_zero, List.drop_succ_cons, List.drop_zero, List.take_nil, List.drop_nil]
        repeat (go_big_quiet_step (fail))
        refine wpQuiet_nil ?_
        show wpList _ _ _ _ _ _
        go_wp2_with ((go_at_call 62; (with_reducible refine (HL.out _).mono ?_); rintro e w9 ⟨rfl, hbw9⟩))
        refine seg_next (grow_to (by repeat (with_reducible first | exact Below.refl _ _ | assumption | refine ba_alloc ?_ _ | refine ba_drew ?_ | refine ba_drewN ?_ _ | refine ba_via (by assumption) ?_ | (refine ba_set ?_ ?_ _; rotate_left; (first | omega | (simp; omega) | simp))))) ?_
        try simp only [wpSegs, List.take_succ_cons, List.take_zero, List.drop_succ_cons, List.drop_zero, List.take_nil, List.drop_nil]
        repeat (go_big_quiet_step (fail))
        refine wpQuiet_nil ?_
        show wpList _ _ _ _ _ _
        go_wp2
        go_ret
        exact ⟨ret_i HE.out.symm, ba_via (by repeat (with_reducible first | exact Below.refl _ _ | assumption | refine ba_alloc ?_ _ | refine ba_drew ?_ | refine ba_drewN ?_ _ | refine ba_via (by assumption) ?_ | (refine ba_set ?_ ?_ _; rotate_left; (first | omega | (simp; omega) | simp)))) HQ.out⟩
      · have b2' : decide (p < q) = false := decide_eq_false h2
        have HE := Lib.hid (show S.cmp1 p q = 1 by rw [HR.out, if_neg (by omega), if_neg (by omega)])
        clear h1 h2 HR
        go_upto_region 8 with fail
        refine wp_region_mix 3 [2] (by kernel_rfl) (by kernel_rfl) (of_decide_eq_true (by kernel_rfl)) ?_
        try simp only [wpSegs, List.take_succ_cons, List.take_zero, List.drop_succ_cons, List.drop_zero, List.take_nil, List.drop_nil]
        repeat (go_big_quiet_step (fail))
        refine wpQuiet_nil ?_
        show wpList _ _ _ _ _ _
        go_wp2_with ((go_at_call 62; (with_reducible refine (HL.out _).mono ?_); rintro e w9 ⟨rfl, hbw9⟩))
        refine seg_next (grow_to (by repeat (with_reducible first | exact Below.refl _ _ | assumption | refine ba_alloc ?_ _ | refine ba_drew ?_ | refine ba_drewN ?_ _ | refine ba_via (by assumption) ?_ | (refine ba_set ?_ ?_ _; rotate_left; (first | omega | (simp; omega) | simp))))) ?_
        try simp only [wpSegs, List.take_succ_cons, List.take_zero, List.drop_succ_cons, List.drop_zero, List.take_nil, List.drop_nil]
        repeat (go_big_quiet_step (fail))
        refine wpQuiet_nil ?_
        show wpList _ _ _ _ _ _
        go_wp2
        go_ret
        exact ⟨ret_i HE.out.symm, ba_via (by repeat (with_reducible first | exact Below.refl _ _ | assumption | refine ba_alloc ?_ _ | refine ba_drew ?_ | refine ba_drewN ?_ _ | refine ba_via (by assumption) ?_ | (refine ba_set ?_ ?_ _; rotate_left; (first | omega | (simp; omega) | simp)))) HQ.out⟩
end Go.Proofs.YtmfpbafpnoomeaaGreat

set_option linter.unusedVariables false
set_option linter.unusedSimpArgs false
namespace Go.Proofs.YtmfpbafpnoomeaaGreat
open Go.RowKit
abbrev snV (s : Sp) : Value := .agg #[.int .i64 s.lo, .int .i64 s.hi]
def AsksS (w : World) (F : Nat) (fst cap : Array Value) (p : Sp → Bool) : Prop :=
  ∀ (x : Sp) (w' : World), Below w.heap.size w w' → Calls Tryz.prog F (fst.push (snV x) ++ cap) w' fun e w'' => e = .returned (.bool (p x)) ∧ Below w'.heap.size w' w''
theorem indexfS_any (F : Nat) (fst cap : Array Value) (p : Sp → Bool) (A : Option Addr) (n c : Nat) (xs : List Sp) (B : Nat) (w : World) (hn : xs.length = n) (hm : n ≤ 9223372036854775807) (hB : B ≤ w.heap.size)
    (hs : Cells w B A (xs.flatMap snC)) (hF : ∀ args w, Sem.run Tryz.prog (callFunc F args) w = .ok (.enter F args) w) (hf : AsksS w F fst cap p) :
    Calls Tryz.prog 59 #[.slice A n c, .func (.func F) fst cap] w fun e w' => e = .returned (.int .i64 (idxf xs p)) ∧ Below w.heap.size w w' := by
  have HN := Lib.hid hn
  clear hn
  go_enter Tryz.func59, Tryz.ntmps59
  go_wp2
  go_loopw [8] (fun i wr => ∃ k : Nat, k ≤ n ∧ i = .int .i64 k ∧ (∀ j (h : j < xs.length), j < k → p xs[j] = false) ∧ Below w.heap.size w wr) (fun i _ => n - (intOf i).toNat)
  case atStart => exact ⟨0, Nat.zero_le _, rfl, fun j _ hj => absurd hj (by omega), Below.refl _ _⟩
  case round =>
    obtain ⟨k, hk, rfl, hno, hbr⟩ := hrel
    have HNO := Lib.hid hno
    clear hno
    by_cases hlt : k < n
    · have hkx : k < xs.length := by have := HN.out; omega
      have hs' := hs.below (hbr.mono hB)
      obtain ⟨b, o, rfl, _, _⟩ := hs'.at_ (by rw [flat_len snC 2 snC_len]; omega)
      have c0 := hs'.row0 snC_len hkx rfl
      have c1 := hs'.rowj snC_len hkx 1 rfl
      by_cases hx : p xs[k] = true
      · go_wp2_with (refine (hf _ _ hbr).mono ?_; rintro e w1 ⟨rfl, hb1⟩)
        go_ret
        exact ⟨ret_i (idxf_hit hkx hx HNO.out).symm, hbr.trans (hb1.mono hbr.size)⟩
      · have hx' : p xs[k] = false := by simpa using hx
        clear hx
        go_wp2_with (refine (hf _ _ hbr).mono ?_; rintro e w1 ⟨rfl, hb1⟩)
        go_roundw
        case rel =>
          refine ⟨k + 1, by omega, by go_num, fun j hj hjk => ?_, hbr.trans (hb1.mono hbr.size)⟩
          by_cases hjk' : j = k
          · subst hjk'; exact hx'
          · exact HNO.out j hj (by omega)
        case measure => simp [intOf]; omega
    · go_wp2
      go_ret
      exact ⟨ret_i (idxf_miss (fun j hj => HNO.out j hj (by have := HN.out; omega))).symm, hbr⟩
theorem containsfS_any (F : Nat) (fst cap : Array Value) (p : Sp → Bool) (A : Option Addr) (n c : Nat) (xs : List Sp) (B : Nat) (w : World) (hn : xs.length = n) (hm : n ≤ 9223372036854775807) (hB : B ≤ w.heap.size)
    (hs : Cells w B A (xs.flatMap snC)) (hF : ∀ args w, Sem.run Tryz.prog (callFunc F args) w = .ok (.enter F args) w) (hf : AsksS w F fst cap p) :
    Calls Tryz.prog 30 #[.slice A n c, .func (.func F) fst cap] w fun e w' => e = .returned (.bool (anyb xs p)) ∧ Below w.heap.size w w' := by
  have HN := Lib.hid hn
  have HF := Lib.hid hF
  have he : decide (0 ≤ idxf xs p) = anyb xs p := idxf_ge xs p
  clear hn hF
  go_enter Tryz.func30, Tryz.ntmps30
  go_wp2_with (go_at_call 59; (with_reducible refine (indexfS_any F fst cap p _ _ _ xs B _ HN.out hm hB hs HF.out hf).mono ?_); rintro e w1 ⟨rfl, hbw1⟩; obtain ⟨hcw1, hfw1⟩ := bcell hbw1)
  go_ret
  exact ⟨rfl, (by repeat (first | exact Below.refl _ _ | assumption | refine ba_alloc ?_ _ | refine ba_drew ?_ | refine ba_drewN ?_ _ | refine ba_via (by assumption) ?_ | (refine ba_set ?_ ?_ _; rotate_left; (first | omega | (simp; omega) | simp))))⟩
end Go.Proofs.YtmfpbafpnoomeaaGreat

set_option linter.unusedVariables false
set_option linter.unusedSimpArgs false
namespace Go.Proofs.YtmfpbafpnoomeaaGreat
open Go.RowKit
def S.inSpn (p : Int) (s : Sp) : Bool := decide (s.lo ≤ p) && decide (p ≤ s.hi)
theorem allc_any (s : Sp) (g : Nat) (p : Int) (w : World) (hp : -2147483648 ≤ p ∧ p ≤ 2147483647) (hc : w.cell? ⟨g, 0, none⟩ = some (.int .i32 p)) (hg : g < w.heap.size) :
    Calls Tryz.prog 31 #[.agg #[.int .i64 s.lo, .int .i64 s.hi], .pointer (some ⟨g, 0, none⟩)] w fun e w' => e = .returned (.bool (S.inSpn p s)) ∧ Below w.heap.size w w' := by
  have e4 : IntKind.i64.wrap p = p := IntWalk.i64_in _ (by omega)
  have H := Lib.hid (show S.inSpn p s = (decide (s.lo ≤ p) && decide (p ≤ s.hi)) from rfl)
  by_cases h : s.lo ≤ p
  · have b1 : decide (s.lo ≤ p) = true := decide_eq_true h
    go_enter Tryz.func31, Tryz.ntmps31
    go_wp2
    go_ret
    exact ⟨ret_b (by rw [H.out, b1]; rfl), (by repeat (first | exact Below.refl _ _ | assumption | refine ba_alloc ?_ _ | refine ba_drew ?_ | refine ba_drewN ?_ _ | refine ba_via (by assumption) ?_ | (refine ba_set ?_ ?_ _; rotate_left; (first | omega | (simp; omega) | simp))))⟩
  · have b1 : decide (s.lo ≤ p) = false := decide_eq_false h
    have H2 := Lib.hid (show S.inSpn p s = false by rw [H.out, b1]; rfl)
    clear h
    go_enter Tryz.func31, Tryz.ntmps31
    go_wp2
    go_ret
    exact ⟨ret_b H2.out.symm, (by repeat (first | exact Below.refl _ _ | assumption | refine ba_alloc ?_ _ | refine ba_drew ?_ | refine ba_drewN ?_ _ | refine ba_via (by assumption) ?_ | (refine ba_set ?_ ?_ _; rotate_left; (first | omega | (simp; omega) | simp))))⟩
end Go.Proofs.YtmfpbafpnoomeaaGreat
