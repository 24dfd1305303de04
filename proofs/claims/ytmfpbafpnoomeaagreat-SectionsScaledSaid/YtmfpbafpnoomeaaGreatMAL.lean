/- Lemmas. -/
import Derived.Lib.EndianBits
import Derived.Test.YtmfpbafpnoomeaaGreatMAJ
set_option linter.unusedVariables false
set_option linter.unusedSimpArgs false
namespace Go.Proofs.YtmfpbafpnoomeaaGreat
open Go.RowKit
set_option maxHeartbeats 2000000 in
theorem rgiven27_core (x : Dt) (d : Int) (t : Bool) (w : World)
 (hLV : ∀ W, Below w.heap.size w W -> Calls Tryz.prog 54 #[dtV x] W fun e w' => e = .returned (.bool t) /\ Below W.heap.size W w') :
 Calls Tryz.prog 43 #[dtV x, .int .i64 d] w fun e w' => e = .returned (.int .i64 (if t = false then 1 else if d < 0 ∨ (x.dn : Int) <= d then 2 else 0)) /\ Below w.heap.size w w' := by
 have HLV := lh hLV
 clear hLV
 unfold dtV at HLV
 unfold dtV
 have hDB := Blk.new w 34 (dtc x)
 have hW1 : Below w.heap.size w (w.alloc (.cells (dtc x) 34)) := ba_alloc (Below.refl _ _) _
 go_enter Tryz.func43, Tryz.ntmps43
 go_upto_region 1 with fail
 generalize (w.alloc (.cells (dtc x) 34)) = W1 at *
 have HDB := lh hDB
 clear hDB
 cases t
 ·go_wp2_with (first
   | ((with_reducible refine at_load 34 2 ?_); refine wpList_load_mid rfl 34 (.tmp 2) rfl _ _ rfl _ _ (HDB.out.via belr).range Tryz.underlying34 rfl (by kernel_rfl) ?_)
   | (go_at_call 54; (with_reducible refine (HLV.out _ belr).mono ?_); rintro e w2 ⟨rfl, hbw2⟩))
  go_ret
  exact ⟨ret_i rfl, bel⟩
 ·go_upto_region 3 with (first
   | ((with_reducible refine at_load 34 2 ?_); refine wpList_load_mid rfl 34 (.tmp 2) rfl _ _ rfl _ _ (HDB.out.via belr).range Tryz.underlying34 rfl (by kernel_rfl) ?_)
   | (go_at_call 54; (with_reducible refine (HLV.out _ belr).mono ?_); rintro e w2 ⟨rfl, hbw2⟩))
  have hD2 := HDB.out.via hbw2
  have d9 := hD2.cell 9
  have dl := hD2.lt
  simp only [ga1, ga2, ga3] at d9
  have hw2 : Below w.heap.size w w2 := ba_via hbw2 hW1
  clear hD2 HDB HLV
  by_cases h1 : d < 0
  ·have b1 : decide (d < 0) = true := decide_eq_true h1
   go_wp2
   go_ret
   exact ⟨rfl, hw2⟩
  ·have b1 : decide (d < 0) = false := decide_eq_false h1
   by_cases h2 : (x.dn : Int) <= d
   ·have b2 : decide ((x.dn : Int) <= d) = true := decide_eq_true h2
    go_wp2
    go_ret
    exact ⟨rfl, hw2⟩
   ·have b2 : decide ((x.dn : Int) <= d) = false := decide_eq_false h2
    go_wp2
    go_ret
    exact ⟨rfl, hw2⟩
section
variable {x : Dt} {ds : List Dm} {w : World}
theorem any_rgiven27 (h : DtOk w x ds) (d : Int) : ∀ W, Below w.heap.size w W -> Calls Tryz.prog 43 #[dtV x, .int .i64 d] W fun e w' => e = .returned (.int .i64 (S.given27 x ds d)) /\ Below W.heap.size W w' := fun W hw => by
 have := rgiven27_core x d (S.look x (S.dems ds)) W (fun V hV => rlook_any x ds w.heap.size V (hw.trans (hV.mono hw.size)).size (h.at_.at_ (Nat.le_refl _) (hw.trans (hV.mono hw.size))) (h.dems.at_ (Nat.le_refl _) (hw.trans (hV.mono hw.size))))
 have e : S.given27 x ds d = (if S.look x (S.dems ds) = false then 1 else if d < 0 ∨ (x.dn : Int) <= d then 2 else 0) := by
  unfold S.given27 S.given26
  rw [h.dems.len]
  have : S.place 0 = true := rfl
  rw [this]
  simp
 rw [e]
 exact this
theorem given27_zero {d : Int} (h : S.given27 x ds d = 0) : S.look x (S.dems ds) = true /\ ∃ (m : Nat) (dm : Dm), d = m /\ ds[m]? = some dm := by
 obtain ⟨h1, h2, _⟩ := given26_zero (p := 0) h
 exact ⟨h1, h2⟩
end
section
variable {P : Program} {l : List Oper} {Q : Exit -> Act -> World -> Prop} {V : Nat -> Act -> World -> Prop} {S : Act -> World -> Prop}
theorem wpAny_relA {md : Region.Mode}
 (hearly : ∀ (j : Nat) (oj : Oper), l[j]? = some oj -> ∀ e ∈ oj.after, Region.binds md e = true -> e.on < j)
 (hstep : ∀ (j : Nat) (oj : Oper) (a : Act) (w : World), l[j]? = some oj -> S a w -> (∀ e ∈ oj.after, Region.binds md e = true -> V e.on a w) ->
   wpOp P l.toArray Q j (fun a' w' => V j a' w' /\ (∀ i oi, l[i]? = some oi -> i ≠ j -> (∀ e ∈ oi.after, Region.binds md e = true -> e.on ≠ j) -> V i a w -> V i a' w') /\ S a' w') a w)
 (hend : ∀ (a : Act) (w : World), S a w -> (∀ j oj, l[j]? = some oj -> V j a w) -> Q .normal a w) :
 ∀ (f : Nat) (listed : Array Bool) (a : Act) (w : World), listed.size = l.length -> listed.toList.count false <= f -> S a w -> (∀ j oj, l[j]? = some oj -> listed.getD j false = true -> V j a w /\ ∀ e ∈ oj.after, Region.binds md e = true -> listed.getD e.on false = true) ->
  wpAny P md l.toArray Q f listed a w := by
 have hlow : ∀ (listed : Array Bool), listed.size = l.length -> Region.ready md l.toArray listed = [] -> ∀ n, n <= l.length -> ∀ j, j < n -> listed.getD j false = true := by
  intro listed hls hr n
  induction n with
  | zero => intro _ j hj; omega
  | succ n ih =>
   intro hn j hj
   by_cases hjn : j < n
   ·exact ih (by omega) j hjn
   ·obtain rfl : j = n := by omega
    by_cases hlj : listed.getD j false = true
    ·exact hlj
    ·exfalso
     have hjl : j < l.length := by omega
     have hm : j ∈ Region.ready md l.toArray listed := by
      rw [mem_ready]
      refine ⟨?_, l[j], by simp [hjl], fun e he hb => ?_⟩
      ·have h1 : j < listed.size := by omega
       simp [Array.getD_eq_getD_getElem?, h1] at hlj ⊢
       exact hlj
      ·exact ih (by omega) e.on (hearly j l[j] (by simp [hjl]) e he hb)
     rw [hr] at hm
     cases hm
 have hfin : ∀ (listed : Array Bool) (a : Act) (w : World), listed.size = l.length -> Region.ready md l.toArray listed = [] -> S a w -> (∀ j oj, l[j]? = some oj -> listed.getD j false = true -> V j a w /\ ∀ e ∈ oj.after, Region.binds md e = true -> listed.getD e.on false = true) -> Q .normal a w := by
  intro listed a w hls hr hS hI
  refine hend a w hS (fun j oj hj => (hI j oj hj ?_).1)
  exact hlow listed hls hr l.length (Nat.le_refl _) j (List.getElem?_eq_some_iff.1 hj).1
 intro f
 induction f with
 | zero =>
  intro listed a w hls hc hS hI
  have hr : Region.ready md l.toArray listed = [] := by
   rcases hrr : Region.ready md l.toArray listed with _ | ⟨j, t⟩
   ·rfl
   ·exfalso
    have hm : j ∈ Region.ready md l.toArray listed := by rw [hrr]; simp
    rw [mem_ready] at hm
    obtain ⟨h1, o, ho, _⟩ := hm
    have hjl : j < l.length := by
     have := (Array.getElem?_eq_some_iff.1 ho).1
     simpa using this
    have h2 : j < listed.size := by omega
    have h3 : listed[j] = false := by simpa [Array.getD_eq_getD_getElem?, h2] using h1
    have : false ∈ listed.toList := by
     rw [<- h3]
     simp
    have := List.count_pos_iff.2 this
    omega
  exact ⟨hr, hfin listed a w hls hr hS hI⟩
 | succ f ih =>
  intro listed a w hls hc hS hI
  refine ⟨fun hr => hfin listed a w hls hr hS hI, fun j hj => ?_⟩
  rw [mem_ready] at hj
  obtain ⟨h1, oj, hoj, hdep⟩ := hj
  have hoj' : l[j]? = some oj := by simpa using hoj
  have hjl : j < l.length := (List.getElem?_eq_some_iff.1 hoj').1
  have h2 : j < listed.size := by omega
  have h3 : listed[j] = false := by simpa [Array.getD_eq_getD_getElem?, h2] using h1
  have hold : ∀ i, i ≠ j -> (listed.setIfInBounds j true).getD i false = listed.getD i false := fun i hij => by
   rw [Array.getD_eq_getD_getElem?, Array.getElem?_setIfInBounds_ne (fun e => hij e.symm), Array.getD_eq_getD_getElem?]
  have hnew : ∀ i, listed.getD i false = true -> (listed.setIfInBounds j true).getD i false = true := fun i hi => by
   by_cases hij : i = j
   ·subst hij
    simp [Array.getD_eq_getD_getElem?, h2]
   ·rw [hold i hij]; exact hi
  have hbind : ∀ e ∈ oj.after, Region.binds md e = true -> e.on < l.length := fun e he hb => Nat.lt_trans (hearly j oj hoj' e he hb) hjl
  refine wpOp_mono ?_ (hstep j oj a w hoj' hS (fun e he hb => (hI e.on (l[e.on]'(hbind e he hb)) (List.getElem?_eq_getElem (hbind e he hb)) (hdep e he hb)).1))
  rintro a' w' ⟨hvj, hkeep, hS'⟩
  refine ih _ _ _ (by simpa using hls) ?_ hS' (fun i oi hoi hli => ?_)
  ·have hcs := cnt_set listed.toList j (by simp [h2, h3])
   rw [Array.toList_setIfInBounds]
   omega
  ·by_cases hij : i = j
   ·subst hij
    rw [hoj'] at hoi
    injection hoi with hoi
    subst hoi
    exact ⟨hvj, fun e he hb => hnew _ (hdep e he hb)⟩
   ·rw [hold i hij] at hli
    obtain ⟨g1, g2⟩ := hI i oi hoi hli
    refine ⟨hkeep i oi hoi hij (fun e he hb hej => ?_) g1, fun e he hb => hnew _ (g2 e he hb)⟩
    have := g2 e he hb
    rw [hej] at this
    simp [Array.getD_eq_getD_getElem?, h2, h3] at this
theorem wp_region_relA {id : Nat} {a : Act} {w : World} (hm : P.follows .mixedOrders = true)
 (hearly : ∀ (j : Nat) (oj : Oper), l[j]? = some oj -> ∀ e ∈ oj.after, Region.binds .any e = true -> e.on < j)
 (h0 : S a w.drew)
 (hstep : ∀ (j : Nat) (oj : Oper) (a : Act) (w : World), l[j]? = some oj -> S a w -> (∀ e ∈ oj.after, Region.binds .any e = true -> V e.on a w) ->
   wpOp P l.toArray Q j (fun a' w' => V j a' w' /\ (∀ i oi, l[i]? = some oi -> i ≠ j -> (∀ e ∈ oi.after, Region.binds .any e = true -> e.on ≠ j) -> V i a w -> V i a' w') /\ S a' w') a w)
 (hend : ∀ (a : Act) (w : World), S a w -> (∀ j oj, l[j]? = some oj -> V j a w) -> Q .normal a w) : (Code.region id l.toArray true).wp P Q a w := by
 refine wp_region_any hm ?_
 refine wpAny_relA hearly hstep hend _ _ a w.drew (by simp) ?_ h0 (fun j oj hj hl => ?_)
 ·simp
 ·rw [Array.getD_eq_getD_getElem?] at hl
  have hjl : j < l.length := (List.getElem?_eq_some_iff.1 hj).1
  simp [hjl] at hl
end
structure CmpS (W0 : World) (a0 a : Act) (w : World) : Prop where
 size : a.tmps.size = 47
 fr : ∀ s, s < 5 ∨ 20 < s -> a.tmps.getD s undef = a0.tmps.getD s undef
 defers : a.defers = a0.defers
 bel : Below W0.heap.size W0 w
 x5 : ∀ g, a.tmps.getD 5 undef = .pointer (some ⟨g, 0, none⟩) -> W0.heap.size <= g /\ g < w.heap.size
 x6 : ∀ g, a.tmps.getD 6 undef = .pointer (some ⟨g, 0, none⟩) -> W0.heap.size <= g /\ g < w.heap.size
 ne : ∀ g g', a.tmps.getD 5 undef = .pointer (some ⟨g, 0, none⟩) -> a.tmps.getD 6 undef = .pointer (some ⟨g', 0, none⟩) -> g ≠ g'
theorem getD_put {a : Act} {d s : Nat} {v : Value} (h : s ≠ d) : (a.put (some d) v).tmps.getD s undef = a.tmps.getD s undef := by
 simp only [Act.put, Array.getD_eq_getD_getElem?]
 rw [Array.getElem?_setIfInBounds_ne (fun e => h e.symm)]
theorem getD_own {a : Act} {d : Nat} {v : Value} (h : d < a.tmps.size) : (a.put (some d) v).tmps.getD d undef = v := by
 simp [Act.put, Array.getD_eq_getD_getElem?, h]
theorem ev {a : Act} {s : Nat} {v : Value} (h : a.tmps.getD s undef = v) : a.tmps[s]?.getD undef = v := by rw [<- Array.getD_eq_getD_getElem?]; exact h
theorem bel_exc {W0 w w' : World} {g : Nat} (h : Below W0.heap.size W0 w) (hX : Exc [g] w w') (hg : W0.heap.size <= g) : Below W0.heap.size W0 w' :=
 ⟨hX.os.trans h.os, hX.tape.trans h.tape, hX.output.trans h.output, Nat.le_trans h.size hX.size, fun k hk => (hX.block k (Nat.lt_of_lt_of_le hk h.size) (by simp; omega)).trans (h.block k hk)⟩
abbrev strA : ByteArray := ⟨#[97]⟩
abbrev strM : ByteArray := ⟨#[109]⟩
abbrev strD : ByteArray := ⟨#[100]⟩
abbrev box7 : Array Value := #[.int .i64 0, .int .i64 0, .int .i64 0, .int .i64 1000, .int .i64 200, .int .i64 300]
abbrev barArr7 (g : Nat) : Array Value := #[.string strA, .int .i64 10, .int .i64 1, .int .i64 0, .slice (some ⟨g, 0, none⟩) 1 1]
abbrev runArr7 : Array Value := #[.string strA, .int .i64 1, .int .i64 2, .int .i64 0, .int .i64 50, .int .i64 40, .int .i64 0, .int .i64 0, .int .i64 0, .int .i64 1]
abbrev stArr7 : Array Value := #[.int .i64 300, .int .i64 5000, .int .i64 500, .int .i64 0]
abbrev demArr7 (g : Nat) : Array Value := #[.string strD, .int .i64 0, .int .i64 0, .int .i64 0, .int .i64 1000, .int .i64 200, .int .i64 100, .slice (some ⟨g, 0, none⟩) 2 2]
abbrev exL7 (gx gb gr gd : Nat) : List Value := [.string strM, .slice (some ⟨gx, 0, none⟩) 1 1, .slice none 0 0, .int .i64 0, .int .i64 16, .int .i64 40, .slice (some ⟨gb, 0, none⟩) 1 1, .slice (some ⟨gr, 0, none⟩) 1 1, .slice none 0 0, .slice (some ⟨gd, 0, none⟩) 1 1,
 .int .i64 40, .int .i64 1, .int .i64 1, .int .i64 1, .int .i64 1, .int .i64 1, .int .i64 1, .int .i64 1, .int .i64 0]
structure ExBlks7 (w : World) (gx g gb gr gs gd : Nat) : Prop where
 box : Blk w gx 78 box7
 dims : Blk w g 3 #[.int .i64 1000]
 bar : Blk w gb 138 (barArr7 g)
 run : Blk w gr 142 runArr7
 stp : Blk w gs 136 stArr7
 dem : Blk w gd 81 (demArr7 gs)
theorem ba_exc7 {w W W' : World} (h : Below w.heap.size w W) (hX : Exc [w.heap.size] W W') : Below w.heap.size w W' :=
 ⟨hX.os.trans h.os, hX.tape.trans h.tape, hX.output.trans h.output, Nat.le_trans h.size hX.size, fun k hk => (hX.block k (Nat.lt_of_lt_of_le hk h.size) (by simp; omega)).trans (h.block k hk)⟩
set_option maxRecDepth 20000 in
set_option maxHeartbeats 800000 in
theorem example27_any (w : World) : Calls Tryz.prog 38 #[] w fun e w' => ∃ gx g gb gr gs gd, e = .returned (.agg (exL7 gx gb gr gd).toArray) /\ ExBlks7 w' gx g gb gr gs gd /\ Below w.heap.size w w' := by
 go_enter Tryz.func38, Tryz.ntmps38
 go_upto_region 1 with fail
 have hD0 : Blk (w.alloc (.cells #[.string ⟨#[]⟩, .slice none 0 0, .slice none 0 0, .int .i64 0, .int .i64 0, .int .i64 0, .slice none 0 0, .slice none 0 0, .slice none 0 0, .slice none 0 0, .int .i64 0, .int .i64 0, .int .i64 0, .int .i64 0, .int .i64 0, .int .i64 0, .int .i64 0, .int .i64 0, .int .i64 0] 34)) w.heap.size 34 #[.string ⟨#[]⟩, .slice none 0 0, .slice none 0 0, .int .i64 0, .int .i64 0, .int .i64 0, .slice none 0 0, .slice none 0 0, .slice none 0 0, .slice none 0 0, .int .i64 0, .int .i64 0, .int .i64 0, .int .i64 0, .int .i64 0, .int .i64 0, .int .i64 0, .int .i64 0, .int .i64 0] := Blk.new _ _ _
 have hb3 : Below w.heap.size w (w.alloc (.cells #[.string ⟨#[]⟩, .slice none 0 0, .slice none 0 0, .int .i64 0, .int .i64 0, .int .i64 0, .slice none 0 0, .slice none 0 0, .slice none 0 0, .slice none 0 0, .int .i64 0, .int .i64 0, .int .i64 0, .int .i64 0, .int .i64 0, .int .i64 0, .int .i64 0, .int .i64 0, .int .i64 0] 34)) := ba_alloc (Below.refl _ _) _
 generalize (w.alloc (.cells #[.string ⟨#[]⟩, .slice none 0 0, .slice none 0 0, .int .i64 0, .int .i64 0, .int .i64 0, .slice none 0 0, .slice none 0 0, .slice none 0 0, .slice none 0 0, .int .i64 0, .int .i64 0, .int .i64 0, .int .i64 0, .int .i64 0, .int .i64 0, .int .i64 0, .int .i64 0, .int .i64 0] 34)) = w1 at *
 go_wp2_with (
  (with_reducible refine at_store 34 0 21 ?_
   go_loud (
   have hBox := (((((Blk.new w1 78 box7).alloc (.cells #[.int .i64 1000] 3)).alloc (.cells (barArr7 (w1.heap.size + 1)) 138)).alloc (.cells runArr7 142)).alloc (.cells stArr7 136)).alloc (.cells (demArr7 (w1.heap.size + 1 + 1 + 1 + 1)) 81)
   have hDim := ((((Blk.newN (W := w1.alloc (.cells box7 78)) (n := w1.heap.size + 1) (by simp) 3 #[.int .i64 1000]).alloc (.cells (barArr7 (w1.heap.size + 1)) 138)).alloc (.cells runArr7 142)).alloc (.cells stArr7 136)).alloc (.cells (demArr7 (w1.heap.size + 1 + 1 + 1 + 1)) 81)
   have hBar := (((Blk.newN (W := (w1.alloc (.cells box7 78)).alloc (.cells #[.int .i64 1000] 3)) (n := w1.heap.size + 1 + 1) (by simp) 138 (barArr7 (w1.heap.size + 1))).alloc (.cells runArr7 142)).alloc (.cells stArr7 136)).alloc (.cells (demArr7 (w1.heap.size + 1 + 1 + 1 + 1)) 81)
   have hRun := ((Blk.newN (W := ((w1.alloc (.cells box7 78)).alloc (.cells #[.int .i64 1000] 3)).alloc (.cells (barArr7 (w1.heap.size + 1)) 138)) (n := w1.heap.size + 1 + 1 + 1) (by simp) 142 runArr7).alloc (.cells stArr7 136)).alloc (.cells (demArr7 (w1.heap.size + 1 + 1 + 1 + 1)) 81)
   have hStp := (Blk.newN (W := (((w1.alloc (.cells box7 78)).alloc (.cells #[.int .i64 1000] 3)).alloc (.cells (barArr7 (w1.heap.size + 1)) 138)).alloc (.cells runArr7 142)) (n := w1.heap.size + 1 + 1 + 1 + 1) (by simp) 136 stArr7).alloc (.cells (demArr7 (w1.heap.size + 1 + 1 + 1 + 1)) 81)
   have hDem := Blk.newN (W := ((((w1.alloc (.cells box7 78)).alloc (.cells #[.int .i64 1000] 3)).alloc (.cells (barArr7 (w1.heap.size + 1)) 138)).alloc (.cells runArr7 142)).alloc (.cells stArr7 136)) (n := w1.heap.size + 1 + 1 + 1 + 1 + 1) (by simp) 81 (demArr7 (w1.heap.size + 1 + 1 + 1 + 1))
   have hDz : Blk (((((((w1.alloc (.cells box7 78)).alloc (.cells #[.int .i64 1000] 3)).alloc (.cells (barArr7 (w1.heap.size + 1)) 138)).alloc (.cells runArr7 142)).alloc (.cells stArr7 136)).alloc (.cells (demArr7 (w1.heap.size + 1 + 1 + 1 + 1)) 81))) w.heap.size 34 #[.string ⟨#[]⟩, .slice none 0 0, .slice none 0 0, .int .i64 0, .int .i64 0, .int .i64 0, .slice none 0 0, .slice none 0 0, .slice none 0 0, .slice none 0 0, .int .i64 0, .int .i64 0, .int .i64 0, .int .i64 0, .int .i64 0, .int .i64 0, .int .i64 0, .int .i64 0, .int .i64 0] := ((((((hD0.alloc _).alloc _).alloc _).alloc _).alloc _).alloc _)
   have hgb : w.heap.size < w1.heap.size := hD0.lt
   have hbel : Below w.heap.size w ((((((w1.alloc (.cells box7 78)).alloc (.cells #[.int .i64 1000] 3)).alloc (.cells (barArr7 (w1.heap.size + 1)) 138)).alloc (.cells runArr7 142)).alloc (.cells stArr7 136)).alloc (.cells (demArr7 (w1.heap.size + 1 + 1 + 1 + 1)) 81)) := belr
   clear hD0 hb3
   generalize ((((((w1.alloc (.cells box7 78)).alloc (.cells #[.int .i64 1000] 3)).alloc (.cells (barArr7 (w1.heap.size + 1)) 138)).alloc (.cells runArr7 142)).alloc (.cells stArr7 136)).alloc (.cells (demArr7 (w1.heap.size + 1 + 1 + 1 + 1)) 81)) = WD at *
   generalize w1.heap.size = g1 at *
   have hPut : Blk (WD.setCells w.heap.size 0 (exL7 g1 (g1 + 1 + 1) (g1 + 1 + 1 + 1) (g1 + 1 + 1 + 1 + 1 + 1)).toArray.toList) w.heap.size 34 (exL7 g1 (g1 + 1 + 1) (g1 + 1 + 1 + 1) (g1 + 1 + 1 + 1 + 1 + 1)).toArray := Blk.put0 hDz (exL7 g1 (g1 + 1 + 1) (g1 + 1 + 1 + 1) (g1 + 1 + 1 + 1 + 1 + 1)).toArray rfl
   have hXs : Exc [w.heap.size] WD (WD.setCells w.heap.size 0 (exL7 g1 (g1 + 1 + 1) (g1 + 1 + 1 + 1) (g1 + 1 + 1 + 1 + 1 + 1)).toArray.toList) := exc_setCells _ _ _ _
   have hTh : WD.there w.heap.size 0 (exL7 g1 (g1 + 1 + 1) (g1 + 1 + 1 + 1) (g1 + 1 + 1 + 1 + 1 + 1)).toArray.size := hDz.there (by simp)
   refine wpList_store_mid rfl 34 (.tmp 0) (.tmp 21) rfl w.heap.size 0 (exL7 g1 (g1 + 1 + 1) (g1 + 1 + 1 + 1) (g1 + 1 + 1 + 1 + 1 + 1)).toArray rfl rfl hTh (by kernel_rfl) (all_oneCell_toArray (by simp [Value.oneCell'])) ?_
   generalize (WD.setCells w.heap.size 0 (exL7 g1 (g1 + 1 + 1) (g1 + 1 + 1 + 1) (g1 + 1 + 1 + 1 + 1 + 1)).toArray.toList) = WF at *)))
 have hbF : Below w.heap.size w WF := ba_exc7 hbel hXs
 refine bodyPost_ret (v := .agg (exL7 g1 (g1 + 1 + 1) (g1 + 1 + 1 + 1) (g1 + 1 + 1 + 1 + 1 + 1)).toArray) ?_ rfl ⟨_, g1 + 1, _, _, g1 + 1 + 1 + 1 + 1, _, rfl, ⟨hBox.exc hXs (by simp; omega), hDim.exc hXs (by simp; omega), hBar.exc hXs (by simp; omega), hRun.exc hXs (by simp; omega), hStp.exc hXs (by simp; omega), hDem.exc hXs (by simp; omega)⟩, hbF⟩
 have hres : (loadVar 34 ⟨w.heap.size, 0, none⟩).run Tryz.prog WF = .ok (.agg (exL7 g1 (g1 + 1 + 1) (g1 + 1 + 1 + 1) (g1 + 1 + 1 + 1 + 1 + 1)).toArray) WF := run_loadVar_mid WF w.heap.size 0 _ _ _ hPut.range Tryz.underlying34 rfl (by kernel_rfl)
 have ha : (asAddr (.pointer (some ⟨w.heap.size, 0, none⟩))).run Tryz.prog WF = .ok ⟨w.heap.size, 0, none⟩ WF := by kernel_rfl
 simp [results, Tryz.results38, Act.put, ha, hres, Result.andThen]
end Go.Proofs.YtmfpbafpnoomeaaGreat
