/- Lemmas. -/
import Derived.RangeFuncNested
import Derived.RangeFuncBound
import Derived.RangeFuncCalls
import Derived.RangeFuncLeaves
import Derived.RangeFuncFrom
import Derived.PlainAid
import Derived.Test.YtmfpbafpnoomeaaGreatMB
import Derived.Test.YtmfpbafpnoomeaaGreatMD
set_option linter.unusedVariables false
set_option linter.unusedSimpArgs false
namespace Go.Proofs.YtmfpbafpnoomeaaGreat
open Go.RowKit
def AsksB (w : World) (F : Nat) (fst cap : Array Value) (p : Bx -> Bool) : Prop :=
 ∀ (x : Bx) (w' : World), Below w.heap.size w w' -> Calls Tryz.prog F (fst.push (boxV x) ++ cap) w' fun e w'' => e = .returned (.bool (p x)) /\ Below w'.heap.size w' w''
theorem Cells.boxes {w : World} {B bb o : Nat} {l : List Bx} (h : Cells w B (some ⟨bb, o, none⟩) (l.flatMap boxC)) {k : Nat} {p : Bx} (hk : l[k]? = some p) :
 w.cell? ⟨bb, o + k * 6, none⟩ = some (.int .i64 p.lo.x) /\ w.cell? ⟨bb, o + k * 6 + 1, none⟩ = some (.int .i64 p.lo.y) /\ w.cell? ⟨bb, o + k * 6 + 2, none⟩ = some (.int .i64 p.lo.z) /\
 w.cell? ⟨bb, o + k * 6 + 3, none⟩ = some (.int .i64 p.hi.x) /\ w.cell? ⟨bb, o + k * 6 + 4, none⟩ = some (.int .i64 p.hi.y) /\ w.cell? ⟨bb, o + k * 6 + 5, none⟩ = some (.int .i64 p.hi.z) := by
 obtain ⟨hk', rfl⟩ := List.getElem?_eq_some_iff.1 hk
 exact ⟨h.row0 boxC_len hk' rfl, h.rowj boxC_len hk' 1 rfl, h.rowj boxC_len hk' 2 rfl, h.rowj boxC_len hk' 3 rfl, h.rowj boxC_len hk' 4 rfl, h.rowj boxC_len hk' 5 rfl⟩
theorem indexfB_any (F : Nat) (fst cap : Array Value) (p : Bx -> Bool) (A : Option Addr) (n c : Nat) (xs : List Bx) (B : Nat) (w : World) (hn : xs.length = n) (hm : n <= 9223372036854775807) (hB : B <= w.heap.size)
 (hs : Cells w B A (xs.flatMap boxC)) (hF : ∀ args w, Sem.run Tryz.prog (callFunc F args) w = .ok (.enter F args) w) (hf : AsksB w F fst cap p) :
 Calls Tryz.prog 229 #[.slice A n c, .func (.func F) fst cap] w fun e w' => e = .returned (.int .i64 (idxf xs p)) /\ Below w.heap.size w w' := by
 have HN := lh hn
 clear hn
 go_enter Tryz.func229, Tryz.ntmps229
 go_wp2
 go_loopw [8] (fun i wr => ∃ k : Nat, k <= n /\ i = .int .i64 k /\ (∀ j (h : j < xs.length), j < k -> p xs[j] = false) /\ Below w.heap.size w wr) (fun i _ => n - (intOf i).toNat)
 case atStart => exact ⟨0, Nat.zero_le _, rfl, fun j _ hj => absurd hj (by omega), Below.refl _ _⟩
 case round =>
  obtain ⟨k, hk, rfl, hno, hbr⟩ := hrel
  have HNO := lh hno
  clear hno
  by_cases hlt : k < n
  ·have hkx : k < xs.length := by have := HN.out; omega
   have hs' := hs.below (hbr.mono hB)
   obtain ⟨b, o, rfl, _, _⟩ := hs'.at_ (by rw [flat_len boxC 6 boxC_len]; omega)
   obtain ⟨c0, c1, c2, c3, c4, c5⟩ := hs'.boxes (List.getElem?_eq_getElem hkx)
   by_cases hx : p xs[k] = true
   ·go_wp2_with (refine (hf _ _ hbr).mono ?_; rintro e w1 ⟨rfl, hb1⟩)
    go_ret
    exact ⟨ret_i (idxf_hit hkx hx HNO.out).symm, hbr.trans (hb1.mono hbr.size)⟩
   ·have hx' : p xs[k] = false := by simpa using hx
    clear hx
    go_wp2_with (refine (hf _ _ hbr).mono ?_; rintro e w1 ⟨rfl, hb1⟩)
    go_roundw
    case rel =>
     refine ⟨k + 1, by omega, by go_num, fun j hj hjk => ?_, hbr.trans (hb1.mono hbr.size)⟩
     by_cases hjk' : j = k
     ·subst hjk'; exact hx'
     ·exact HNO.out j hj (by omega)
    case measure => simp [intOf]; omega
  ·go_wp2
   go_ret
   exact ⟨ret_i (idxf_miss (fun j hj => HNO.out j hj (by have := HN.out; omega))).symm, hbr⟩
theorem containsfB_any (F : Nat) (fst cap : Array Value) (p : Bx -> Bool) (A : Option Addr) (n c : Nat) (xs : List Bx) (B : Nat) (w : World) (hn : xs.length = n) (hm : n <= 9223372036854775807) (hB : B <= w.heap.size)
 (hs : Cells w B A (xs.flatMap boxC)) (hF : ∀ args w, Sem.run Tryz.prog (callFunc F args) w = .ok (.enter F args) w) (hf : AsksB w F fst cap p) :
 Calls Tryz.prog 202 #[.slice A n c, .func (.func F) fst cap] w fun e w' => e = .returned (.bool (anyb xs p)) /\ Below w.heap.size w w' := by
 have HN := lh hn
 have HF := lh hF
 have he : decide (0 <= idxf xs p) = anyb xs p := idxf_ge xs p
 clear hn hF
 go_enter Tryz.func202, Tryz.ntmps202
 go_wp2_with (go_at_call 229; (with_reducible refine (indexfB_any F fst cap p _ _ _ xs B _ HN.out hm hB hs HF.out hf).mono ?_); rintro e w1 ⟨rfl, hbw1⟩; obtain ⟨hcw1, hfw1⟩ := bcell hbw1)
 go_ret
 exact ⟨rfl, bel⟩
def S.boxNot (b : Bx) : Bool := !S.boxOk b
theorem all1_any (b : Bx) (w : World) : Calls Tryz.prog 276 #[boxV b] w fun e w' => e = .returned (.bool (S.boxNot b)) /\ Below w.heap.size w w' := by
 have HV := lh (fun w => bvalid_any b w)
 unfold boxV
 go_enter Tryz.func276, Tryz.ntmps276
 go_wp2_with (go_at_call 94; (with_reducible refine (HV.out _).mono ?_); rintro e w1 ⟨rfl, hbw1⟩; obtain ⟨hcw1, hfw1⟩ := bcell hbw1; have hzw1_0 : w.heap.size < w1.heap.size := lt_via hbw1 sz)
 go_ret
 exact ⟨rfl, bel⟩
theorem ball_any (A : Option Addr) (n c : Nat) (xs : List Bx) (B : Nat) (w : World) (hn : xs.length = n) (hm : n <= 9223372036854775807) (hB : B <= w.heap.size) (hs : Cells w B A (xs.flatMap boxC)) :
 Calls Tryz.prog 270 #[.slice A n c] w fun e w' => e = .returned (.bool (!anyb xs S.boxNot)) /\ Below w.heap.size w w' := by
 have HN := lh hn
 clear hn
 have hf : AsksB w 276 #[] #[] S.boxNot := fun x w' _ => all1_any x w'
 go_enter Tryz.func270, Tryz.ntmps270
 go_wp2_with (go_at_call 202; (with_reducible refine (containsfB_any 276 #[] #[] S.boxNot _ _ _ xs B _ HN.out hm hB hs Tryz.call276 hf).mono ?_); rintro e w1 ⟨rfl, hbw1⟩; obtain ⟨hcw1, hfw1⟩ := bcell hbw1)
 go_ret
 exact ⟨rfl, bel⟩
def S.join (a b : Bx) : Bx := ⟨⟨if b.lo.x < a.lo.x then b.lo.x else a.lo.x, if b.lo.y < a.lo.y then b.lo.y else a.lo.y, if b.lo.z < a.lo.z then b.lo.z else a.lo.z⟩, ⟨if a.hi.x < b.hi.x then b.hi.x else a.hi.x, if a.hi.y < b.hi.y then b.hi.y else a.hi.y, if a.hi.z < b.hi.z then b.hi.z else a.hi.z⟩⟩
def S.hull (a : Bx) (l : List Bx) : Bx := l.foldl S.join a
theorem hull_snoc (a : Bx) (l : List Bx) (x : Bx) : S.hull a (l ++ [x]) = S.join (S.hull a l) x := by simp [S.hull]
set_option maxRecDepth 100000 in
set_option maxHeartbeats 2000000 in
theorem bhull_yes (A : Option Addr) (n c : Nat) (xs : List Bx) (x0 : Bx) (B : Nat) (w : World) (hn : xs.length = n) (hm : n <= 1000000) (hB : B <= w.heap.size) (hs : Cells w B A (xs.flatMap boxC)) (h0 : xs[0]? = some x0) (ha : anyb xs S.boxNot = false) :
 Calls Tryz.prog 258 #[.slice A n c] w fun e w' => e = .returned (.tuple #[boxV (S.hull x0 xs), .int .i64 0]) /\ Below w.heap.size w w' := by
 have hn0 : 0 < n := by have := (List.getElem?_eq_some_iff.1 h0).1; omega
 have hne : ((n : Int) == 0) = false := by simp; omega
 have hni : (0 : Int) < (n : Int) := by omega
 have HN := lh hn
 have HS := lh hs
 have H0 := lh h0
 obtain ⟨b, o, rfl, hb, _⟩ := hs.at_ (by rw [flat_len boxC 6 boxC_len]; omega)
 clear hn hs h0
 go_enter Tryz.func258, Tryz.ntmps258
 go_wp2_with ((go_at_call 270; (with_reducible refine (ball_any _ n c xs B _ HN.out (by omega) (by simp; omega) (HS.out.alloc hB _)).mono ?_); rintro e w1 ⟨rfl, hbw1⟩; obtain ⟨hcw1, hfw1⟩ := bcell hbw1; have hzw1_0 : w.heap.size < w1.heap.size := lt_via hbw1 sz)
              obtain ⟨c0, c1, c2, c3, c4, c5⟩ := (HS.out.below ((by exact (Below.refl _ w).alloc (Nat.le_refl _) _ : Below w.heap.size w _).mono hB |>.trans (hbw1.mono (by simp; omega)))).boxes H0.out
              have hbw : b < w1.heap.size := by omega
              simp only [Nat.zero_mul, Nat.add_zero] at c0 c1 c2 c3 c4 c5)
 have hW : Below w.heap.size w (w1.alloc (.cells #[.int .i64 x0.lo.x, .int .i64 x0.lo.y, .int .i64 x0.lo.z, .int .i64 x0.hi.x, .int .i64 x0.hi.y, .int .i64 x0.hi.z] 78)) := bel
 have hK0 : Blk (w1.alloc (.cells #[.int .i64 x0.lo.x, .int .i64 x0.lo.y, .int .i64 x0.lo.z, .int .i64 x0.hi.x, .int .i64 x0.hi.y, .int .i64 x0.hi.z] 78)) w1.heap.size 78 #[.int .i64 x0.lo.x, .int .i64 x0.lo.y, .int .i64 x0.lo.z, .int .i64 x0.hi.x, .int .i64 x0.hi.y, .int .i64 x0.hi.z] := Blk.new _ _ _
 have hR0 : Blk (w1.alloc (.cells #[.int .i64 x0.lo.x, .int .i64 x0.lo.y, .int .i64 x0.lo.z, .int .i64 x0.hi.x, .int .i64 x0.hi.y, .int .i64 x0.hi.z] 78)) w.heap.size 78 #[.int .i64 0, .int .i64 0, .int .i64 0, .int .i64 0, .int .i64 0, .int .i64 0] := ((Blk.new w _ _).via hbw1).alloc _
 have hC1 := HS.out.below (hW.mono hB)
 have hzW : (w1.alloc (.cells #[.int .i64 x0.lo.x, .int .i64 x0.lo.y, .int .i64 x0.lo.z, .int .i64 x0.hi.x, .int .i64 x0.hi.y, .int .i64 x0.hi.z] 78)).heap.size = w1.heap.size + 1 := by simp
 have HR0 := lh hR0
 clear c0 c1 c2 c3 c4 c5 hcw1 hfw1 hR0
 generalize w1.alloc (.cells #[.int .i64 x0.lo.x, .int .i64 x0.lo.y, .int .i64 x0.lo.z, .int .i64 x0.hi.x, .int .i64 x0.hi.y, .int .i64 x0.hi.z] 78) = W1 at *
 go_loopw [22] (fun i wr => ∃ k : Nat, k <= n /\ i = .int .i64 k /\ Blk wr w1.heap.size 78 #[.int .i64 (S.hull x0 (xs.take k)).lo.x, .int .i64 (S.hull x0 (xs.take k)).lo.y, .int .i64 (S.hull x0 (xs.take k)).lo.z, .int .i64 (S.hull x0 (xs.take k)).hi.x, .int .i64 (S.hull x0 (xs.take k)).hi.y, .int .i64 (S.hull x0 (xs.take k)).hi.z] /\ Exc [w1.heap.size] W1 wr) (fun i _ => n - (intOf i).toNat)
 case atStart => exact ⟨0, Nat.zero_le _, rfl, hK0, Exc.refl _ _⟩
 case round =>
  obtain ⟨k, hk, rfl, hK, hX⟩ := hrel
  have hsz := hX.size
  have hgr := hK.lt
  have k0 := hK.cell 0
  have k1 := hK.cell 1
  have k2 := hK.cell 2
  have k3 := hK.cell 3
  have k4 := hK.cell 4
  have k5 := hK.cell 5
  have f0 := hK.frozen 0
  have f1 := hK.frozen 1
  have f2 := hK.frozen 2
  have f3 := hK.frozen 3
  have f4 := hK.frozen 4
  have f5 := hK.frozen 5
  simp only [ga1, ga2, ga3] at k0 k1 k2 k3 k4 k5
  by_cases hlt : k < n
  ·have hkx : k < xs.length := by have := HN.out; omega
   obtain ⟨c0, c1, c2, c3, c4, c5⟩ := (hC1.below (hX.below (by have := hW.size; omega) (by intro x hx; simp at hx; omega))).boxes (List.getElem?_eq_getElem hkx)
   have HT := lh (show S.hull x0 (xs.take (k + 1)) = S.join (S.hull x0 (xs.take k)) xs[k] by rw [List.take_succ_eq_append_getElem hkx, hull_snoc])
   have hbr : b < wr.heap.size := by omega
   generalize S.hull x0 (xs.take k) = Hk at *
   generalize xs[k] = X at *
   have hki : (k : Int) < (n : Int) := by omega
   go_wp2
   go_roundw
   case rel =>
    refine ⟨k + 1, by omega, by go_num, ?_, ?_⟩
    ·rw [HT.out]
     have h6 := ((((((hK.set 0 (.int .i64 (S.join Hk X).lo.x)).set 1 (.int .i64 (S.join Hk X).lo.y)).set 2 (.int .i64 (S.join Hk X).lo.z)).set 3 (.int .i64 (S.join Hk X).hi.x)).set 4 (.int .i64 (S.join Hk X).hi.y)).set 5 (.int .i64 (S.join Hk X).hi.z)).alloc (.cells #[.int .i64 X.lo.x, .int .i64 X.lo.y, .int .i64 X.lo.z, .int .i64 X.hi.x, .int .i64 X.hi.y, .int .i64 X.hi.z] 78)
     simp only [List.setIfInBounds_toArray, List.set_cons_zero, List.set_cons_succ] at h6
     exact h6
    ·exact ((((((hX.set (.inl (by simp)) _).set (.inl (by simp)) _).set (.inl (by simp)) _).set (.inl (by simp)) _).set (.inl (by simp)) _).set (.inl (by simp)) _).alloc _
   case measure => simp [intOf]; omega
  ·have he : k = n := by omega
   subst he
   have ht : xs.take k = xs := List.take_of_length_le (by have := HN.out; omega)
   rw [ht] at k0 k1 k2 k3 k4 k5
   have hRr := (hX.block w.heap.size (by omega) (by simp; omega)).trans HR0.out
   have hRr : Blk wr w.heap.size 78 #[.int .i64 0, .int .i64 0, .int .i64 0, .int .i64 0, .int .i64 0, .int .i64 0] := hRr
   have z0 := hRr.cell 0
   have z1 := hRr.cell 1
   have z2 := hRr.cell 2
   have z3 := hRr.cell 3
   have z4 := hRr.cell 4
   have z5 := hRr.cell 5
   have y0 := hRr.frozen 0
   have y1 := hRr.frozen 1
   have y2 := hRr.frozen 2
   have y3 := hRr.frozen 3
   have y4 := hRr.frozen 4
   have y5 := hRr.frozen 5
   simp only [ga1, ga2, ga3] at z0 z1 z2 z3 z4 z5
   have hrl := hRr.lt
   have hbel : Below w.heap.size w wr := hW.trans (hX.below (by omega) (by intro x hx; simp at hx; omega))
   clear hRr
   generalize hH : S.hull x0 xs = Hk at *
   have HH := lh hH
   clear hH
   go_wp2
   exact bodyPost_ret (v := .tuple #[boxV Hk, .int .i64 0]) (by simp [results, Tryz.results258, go_sem, *]) rfl ⟨by rw [HH.out], ((((((hbel.setCell (Nat.le_refl _) _).setCell (Nat.le_refl _) _).setCell (Nat.le_refl _) _).setCell (Nat.le_refl _) _).setCell (Nat.le_refl _) _).setCell (Nat.le_refl _) _)⟩
end Go.Proofs.YtmfpbafpnoomeaaGreat
namespace Go.Proofs.YtmfpbafpnoomeaaGreat
structure Rule where
 num : Int
 den : Int
 pnum : Int
 pden : Int
 bnum : Int
 bden : Int
 lnum : Int
 lden : Int
 least : Int
namespace S
def num (n : Int) : Bool := decide (1 <= n) && decide (n <= 1000)
def up (n p q : Int) : Int := (n * p + q - 1) / q
def rule (r : Rule) : Bool := num r.num && num r.den && num r.pnum && num r.pden && num r.bnum && num r.bden && num r.lnum && num r.lden &&
 decide (r.pden <= r.pnum) && decide (r.lden <= r.lnum) && decide (r.bnum <= r.bden) && decide (0 <= r.least) && decide (r.least <= 1000)
def basic (r : Rule) (d : Int) : Int := if up d r.num r.den < r.least then r.least else up d r.num r.den
def poorUp (r : Rule) (poor : Bool) (n : Int) : Int := if poor then up n r.pnum r.pden else n
def bentUp (r : Rule) (bent : Bool) (n : Int) : Int := if bent then up n r.bnum r.bden else n
def atLeast (r : Rule) (n : Int) : Int := if n < r.least then r.least else n
def length (r : Rule) (d : Int) (poor bent : Bool) : Int := atLeast r (bentUp r bent (poorUp r poor (basic r d)))
end S
structure RuleOk (r : Rule) : Prop where
 num : 1 <= r.num /\ r.num <= 1000
 den : 1 <= r.den /\ r.den <= 1000
 pnum : 1 <= r.pnum /\ r.pnum <= 1000
 pden : 1 <= r.pden /\ r.pden <= 1000
 bnum : 1 <= r.bnum /\ r.bnum <= 1000
 bden : 1 <= r.bden /\ r.bden <= 1000
 lnum : 1 <= r.lnum /\ r.lnum <= 1000
 lden : 1 <= r.lden /\ r.lden <= 1000
 poor : r.pden <= r.pnum
 lap : r.lden <= r.lnum
 bend : r.bnum <= r.bden
 least : 0 <= r.least /\ r.least <= 1000
theorem rule_ok {r : Rule} (h : S.rule r = true) : RuleOk r := by
 simp only [S.rule, S.num, Bool.and_eq_true, decide_eq_true_eq] at h
 obtain ⟨⟨⟨⟨⟨⟨⟨⟨⟨⟨⟨⟨h1, h2⟩, h3⟩, h4⟩, h5⟩, h6⟩, h7⟩, h8⟩, h9⟩, h10⟩, h11⟩, h12⟩, h13⟩ := h
 exact ⟨h1, h2, h3, h4, h5, h6, h7, h8, h9, h10, h11, ⟨h12, h13⟩⟩
theorem mul_bd {a b A B : Int} (ha : 0 <= a) (hA : a <= A) (hb : 0 <= b) (hB : b <= B) : 0 <= a * b /\ a * b <= A * B :=
 ⟨Int.mul_nonneg ha hb, Int.mul_le_mul hA hB hb (by omega)⟩
theorem up_bd {n p q A : Int} (hn : 0 <= n) (hA : n <= A) (hp : 1 <= p) (hp' : p <= 1000) (hq : 1 <= q) : 0 <= S.up n p q /\ S.up n p q <= 1000 * A := by
 unfold S.up
 have h1 := mul_bd hn hA (by omega : 0 <= p) hp'
 refine ⟨Int.ediv_nonneg (by omega) (by omega), ?_⟩
 have h2 : (n * p + q - 1) / q <= n * p := by
  rcases Int.lt_or_eq_of_le h1.1 with h | h
  ·have : n * p + q - 1 < (n * p + 1) * q := by
    have := Int.mul_le_mul_of_nonneg_left hq (show 0 <= n * p by omega)
    rw [Int.add_mul]; omega
   have := Int.ediv_lt_of_lt_mul (by omega) this
   omega
  ·rw [<- h, Int.zero_add, Int.ediv_eq_zero_of_lt (by omega) (by omega)]
   exact Int.le_refl 0
 have := Int.mul_comm A 1000
 omega
theorem basic_bd {r : Rule} {d : Int} (hr : RuleOk r) (hd : 0 <= d) (hd' : d <= 40) : 0 <= S.basic r d /\ S.basic r d <= 40000 := by
 have h := up_bd (p := r.num) (q := r.den) hd hd' hr.num.1 hr.num.2 hr.den.1
 have h2 := hr.least
 unfold S.basic
 split <;> omega
theorem poorUp_bd {r : Rule} {n : Int} (hr : RuleOk r) (b : Bool) (hn : 0 <= n) (hn' : n <= 40000) : 0 <= S.poorUp r b n /\ S.poorUp r b n <= 40000000 := by
 have h := up_bd (p := r.pnum) (q := r.pden) hn hn' hr.pnum.1 hr.pnum.2 hr.pden.1
 unfold S.poorUp
 split <;> omega
theorem bentUp_bd {r : Rule} {n : Int} (hr : RuleOk r) (b : Bool) (hn : 0 <= n) (hn' : n <= 40000000) : 0 <= S.bentUp r b n /\ S.bentUp r b n <= 40000000000 := by
 have h := up_bd (p := r.bnum) (q := r.bden) hn hn' hr.bnum.1 hr.bnum.2 hr.bden.1
 unfold S.bentUp
 split <;> omega
end Go.Proofs.YtmfpbafpnoomeaaGreat
namespace Go.Proofs.YtmfpbafpnoomeaaGreat
open Go.RowKit
abbrev barV (b : Bar) (A : Option Addr) (n c : Nat) : Value := .agg #[.string b.mark, .int .i64 b.size, .int .i64 b.count, .int .i64 b.code, .slice A n c]
structure BarAt (w : World) (B : Nat) (A : Option Addr) (n : Nat) (b : Bar) : Prop where
 len : b.dims.length = n
 max : n <= 9223372036854775807
 mark : b.mark.size <= 9223372036854775807
 cells : Cells w B A (i64s b.dims)
theorem BarAt.below {w w' : World} {B : Nat} {A : Option Addr} {n : Nat} {b : Bar} (h : BarAt w B A n b) (hb : Below B w w') : BarAt w' B A n b := ⟨h.len, h.max, h.mark, h.cells.below hb⟩
theorem BarAt.mono {w : World} {B B' : Nat} {A : Option Addr} {n : Nat} {b : Bar} (h : BarAt w B A n b) (hb : B <= B') : BarAt w B' A n b := ⟨h.len, h.max, h.mark, h.cells.mono hb⟩
def S.short (b : Bar) : Bool := decide (b.dims.length <= 8) && decide (b.mark.size <= 60)
theorem short_any (b : Bar) (A : Option Addr) (n c : Nat) (w : World) (hn : b.dims.length = n) (hm : n <= 9223372036854775807) (hk : b.mark.size <= 9223372036854775807) :
 Calls Tryz.prog 68 #[barV b A n c] w fun e w' => e = .returned (.bool (S.short b)) /\ Below w.heap.size w w' := by
 have H := lh (show S.short b = (decide (n <= 8) && decide (b.mark.size <= 60)) by simp [S.short, hn])
 clear hn
 unfold barV
 go_enter Tryz.func68, Tryz.ntmps68
 go_wp2
 all_goals (go_ret; exact ⟨ret_b (by rw [H.out, Bool.eq_iff_iff]; simp; omega), bel⟩)
section
variable {F : Fence} {n : Nat} {P : Program}
def AbidesB {β : Type} (B : Nat) (J : β -> World -> Prop) : Prop := ∀ s A C, J s A -> Below B A C -> J s C
def SeqLaid {α : Type} (F : Fence) (n : Nat) (P : Program) (g : Nat) (lb : Array Value) (encs : α -> Array Value) (Kp : World -> World -> Prop) (R : List α -> α -> World -> Prop) (S : List α -> Prop) (w : World) : Prop :=
 ∀ (l : Nat) (J Jx : List α -> World -> Prop) (W : World), Below w.heap.size w W -> AbidesB W.heap.size J -> AbidesB W.heap.size Jx ->
  (∀ pre x V, J pre V -> R pre x V -> YieldAt F (n - 1) P l (encs x) V fun e V' => Kp V V' /\ ((e = .returned (.bool true) /\ J (pre ++ [x]) V') ∨ (e = .returned (.bool false) /\ Jx (pre ++ [x]) V'))) ->
  J [] W ->
  CallsIn F n P g (#[.func (.yield l) #[] #[]] ++ lb) W fun e W' => (∃ v, e = .returned v) /\ ((∃ xs, S xs /\ J xs W') ∨ (∃ pre x, Jx (pre ++ [x]) W' /\ R pre x W'))
def laidPost {α : Type} (Kp : World -> World -> Prop) (I : List α -> World -> Prop) (Ix : Code -> List α -> World -> Prop) (xs : List α) (W : World) (e : Exit) (_ : Act) (W' : World) : Prop :=
 KeepsOthers W W' /\ Kp W W' /\ match e with
  | .normal => I xs W'
  | .ret => Ix .ret xs W'
  | .exit id => Ix (.exit id) xs W'
  | .goto t => Ix (.goto t) xs W'
  | _ => False
theorem wpIn_rangeFunc_laid {α : Type} {g : Operand} {ps : Array Tmp} {assign body : Code} {Q : Exit -> Act -> World -> Prop} {a : Act} {w : World}
 (hro : F.round = none) (h1 : 1 <= n) {gf : Nat} {lb : Array Value} (hg : a.eval g = .func (.func gf) #[] lb) (hFg : F.fn gf) (eg : ∀ args w, (callFunc gf args).run P w = .ok (.enter gf args) w)
 {encs : α -> Array Value} {Kp : World -> World -> Prop} {R : List α -> α -> World -> Prop} {S : List α -> Prop} {w0 : World} (hseq : SeqLaid F (n - 1) P gf lb encs Kp R S w0)
 (hKt : ∀ {A B C : World}, Kp A B -> Kp B C -> Kp A C) (hKb : ∀ (W : World) (l : Nat) (o o' : Obj), w.heap.size <= l -> W.heap[l]? = some o -> o.isCells = false -> o.isWalk = false -> Kp W (W.putObj l o'))
 (hRk : ∀ pre x V V', R pre x V -> (∀ (l : Nat) (o o' : Obj), w.heap.size <= l -> V.heap[l]? = some o -> o.isCells = false -> V' = V.putObj l o' -> R pre x V'))
 (hb0 : Below w0.heap.size w0 w) (hps : ∀ x, (encs x).size = ps.size)
 (I : List α -> World -> Prop) (Ix : Code -> List α -> World -> Prop) (hI : AbidesB w.heap.size I) (hIx : ∀ c, AbidesB w.heap.size (Ix c)) (h0 : I [] w) (a₁ : α -> Act)
 (hassign : ∀ (l : Nat) (x : α) (W : World) (K : Act -> World -> Prop), K (a₁ x) W ->
   assign.wpIn (F.inRound l) (n - 1 - 1) P (Exit.then K (fun _ _ _ => False)) { tmps := (ps.zip (encs x)).foldl (fun t (p, v) => t.setIfInBounds p v) a.tmps, defers := [] } W)
 (hbody : ∀ (l : Nat) (pre : List α) (x : α) (W : World), I pre W -> R pre x W -> body.wpIn (F.inRound l) (n - 1 - 1) P (laidPost Kp I Ix (pre ++ [x]) W) (a₁ x) W)
 (hdone : ∀ (D : Nat) (xs : List α) (W : World), w.heap.size <= D -> S xs -> I xs W -> W.heap[D]? = some (.deferred (some [])) -> Q .normal { a with defers := { target := .collected D, args := #[] } :: a.defers } W)
 (hstop : ∀ (D : Nat) (c : Code) (pre : List α) (x : α) (W : World), w.heap.size <= D -> Ix c (pre ++ [x]) W -> R pre x W -> W.heap[D]? = some (.deferred (some [])) -> c.wpIn F n P Q { a with defers := { target := .collected D, args := #[] } :: a.defers } W) :
 (Code.rangeFunc g ps assign body).wpIn F n P Q a w := by
 refine wpIn_rangeFunc fun fn hfn => ?_
 rw [hro]
 -- the loop's record, by its state and the jump that waits; its block, and the block of the deferred calls
 obtain ⟨rc, hrc⟩ : ∃ rc : LoopState -> Option Code -> Loop, rc = fun st pe => { state := st, pending := pe, fn, tmps := a.tmps, params := ps, assign, body, defers := w.heap.size } := ⟨_, rfl⟩
 obtain ⟨L, hL⟩ : ∃ L, L = w.heap.size + 1 := ⟨_, rfl⟩
 obtain ⟨V, hV⟩ : ∃ V, V = (w.alloc (.deferred (some []))).alloc (.loop (rc .ready none)) := ⟨_, rfl⟩
 have hbooks : V.heap[L]? = some (.loop (rc .ready none)) /\ V.heap[w.heap.size]? = some (.deferred (some [])) := by
  rw [hV, hL]
  refine ⟨?_, (Below.heap_alloc _ _ _ (by simp)).trans (World.alloc_heap_new w _)⟩
  have := World.alloc_heap_new (w.alloc (.deferred (some []))) (.loop (rc .ready none))
  rwa [World.size_alloc] at this
 have hIV : I [] V := by rw [hV]; exact hI _ _ _ h0 (((Below.refl _ w).alloc (Nat.le_refl _) _).alloc (by simp) _)
 have hbV : Below w0.heap.size w0 V := by
  rw [hV]
  exact hb0.trans ((((Below.refl _ w).alloc (Nat.le_refl _) _).alloc (by simp) _).mono hb0.size)
 have hVs : V.heap.size = L + 1 := by rw [hV, hL]; simp
 refine ⟨L, [{ target := .collected w.heap.size, args := #[] }], V, { target := .fn (.func gf) lb, args := #[.func (.yield L) #[] #[]] }, V, gf, #[.func (.yield L) #[] #[]] ++ lb, V, ?_, ?_, ?_, ?_, fun _ => h1, ?_⟩
 ·rw [hV, hrc, hL]
  exact run_enterLoop_outer _ _ _ _ _
 ·simp only [resolve, hg]
  simp [go_sem]
 ·intro f' hf'
  simp [Target.leads] at hf'
  subst hf'
  exact hFg
 ·simp [invoke, go_sem, eg]
 have hpb : ∀ (U : World) (o : Obj), L < U.heap.size -> Below w.heap.size U (U.putObj L o) := fun U o hlt => ⟨rfl, rfl, rfl, by simp, fun k hk => World.putObj_heap_other (by omega)⟩
 have hput : ∀ {U : World} {o : Obj} {r : Nat}, w.heap.size ≠ r -> U.heap[w.heap.size]? = some (.deferred (some [])) -> (U.putObj r o).heap[w.heap.size]? = some (.deferred (some [])) := fun hne h => (World.putObj_heap_other hne).trans h
 refine (hseq L (fun pre U => I pre U /\ U.heap[L]? = some (.loop (rc .ready none)) /\ U.heap[w.heap.size]? = some (.deferred (some [])))
  (fun pre U => ∃ c, Ix c pre U /\ U.heap[L]? = some (.loop (rc .done (some c))) /\ U.heap[w.heap.size]? = some (.deferred (some []))) V hbV ?_ ?_ ?_ ⟨hIV, hbooks.1, hbooks.2⟩).mono ?_
 ·rintro s A C ⟨hi, hl, hd⟩ hb
  exact ⟨hI s A C hi (hb.mono (by omega)), (hb.block L (by omega)).trans hl, (hb.block w.heap.size (by omega)).trans hd⟩
 ·rintro s A C ⟨c, hi, hl, hd⟩ hb
  exact ⟨c, hIx c s A C hi (hb.mono (by omega)), (hb.block L (by omega)).trans hl, (hb.block w.heap.size (by omega)).trans hd⟩
 ·-- a round
  rintro pre x U ⟨hi, hl, hd⟩ hR
  have hy := run_yield (P := P) (args := encs x) hl (by rw [hrc]; exact hps x)
  rw [hrc] at hy
  refine ⟨fn, _, assign, body, hy, roundIn_of_wpIn hfn (hassign _ x U _ ⟨_, run_beginRound hl (by rw [hrc]), ?_⟩)⟩
  have hlt : L < U.heap.size := (Array.getElem?_eq_some_iff.1 hl).1
  obtain ⟨U1, hU1⟩ : ∃ U1, U1 = U.putObj L (.loop { rc .ready none with state := .busy }) := ⟨_, rfl⟩
  have hl1 : U1.heap[L]? = some (.loop { rc .ready none with state := .busy }) := by rw [hU1]; exact World.putObj_heap_same hlt
  have hd1 : U1.heap[w.heap.size]? = some (.deferred (some [])) := by rw [hU1]; exact hput (by omega) hd
  have hi1 : I pre U1 := by rw [hU1]; exact hI _ _ _ hi (hpb _ _ hlt)
  have hk1 : Kp U U1 := by rw [hU1]; exact hKb _ _ _ _ (by omega) hl rfl rfl
  have hR1 : R pre x U1 := hRk pre x U U1 hR L _ _ (by omega) hl rfl hU1
  rw [<- hU1]
  refine wpIn_mono (hbody _ pre x _ hi1 hR1) ?_
  rintro e a3 U3 ⟨hk3, hkp3, hx⟩
  -- the round's end
  have hl3 := hk3.same _ _ hl1 rfl
  have hd3 := hk3.same _ _ hd1 rfl
  have hend := fun (j : Option Code) => run_endRound (P := P) j hl3
  have hlt3 : L < U3.heap.size := (Array.getElem?_eq_some_iff.1 hl3).1
  have hkk : ∀ o', Kp U (U3.putObj L o') := fun o' => hKt (hKt hk1 hkp3) (hKb _ _ _ _ (by omega) hl3 rfl rfl)
  rw [hrc] at hend
  cases e with
  | normal => exact ⟨_, _, hend none, hkk _, .inl ⟨rfl, hI _ _ _ hx (hpb _ _ hlt3), by rw [hrc]; exact World.putObj_heap_same hlt3, hput (by omega) hd3⟩⟩
  | ret => exact ⟨_, _, hend (some .ret), hkk _, .inr ⟨rfl, .ret, hIx _ _ _ _ hx (hpb _ _ hlt3), by rw [hrc]; exact World.putObj_heap_same hlt3, hput (by omega) hd3⟩⟩
  | exit id => exact ⟨_, _, hend (some (.exit id)), hkk _, .inr ⟨rfl, .exit id, hIx _ _ _ _ hx (hpb _ _ hlt3), by rw [hrc]; exact World.putObj_heap_same hlt3, hput (by omega) hd3⟩⟩
  | goto t => exact ⟨_, _, hend (some (.goto t)), hkk _, .inr ⟨rfl, .goto t, hIx _ _ _ _ hx (hpb _ _ hlt3), by rw [hrc]; exact World.putObj_heap_same hlt3, hput (by omega) hd3⟩⟩
  | panic ch => exact hx.elim
  | outgrown => exact hx.elim
 ·-- behind the iterator
  rintro e U ⟨⟨v, rfl⟩, (⟨xs, hS, hi, hl, hd⟩ | ⟨pre, x, ⟨c, hi, hl, hd⟩, hR⟩)⟩
  ·have he := run_endLoop (P := P) hl (by rw [hrc]; simp)
   rw [hrc] at he
   exact ⟨none, _, he, hdone _ xs _ (Nat.le_refl _) hS (hI _ _ _ hi (hpb _ _ (Array.getElem?_eq_some_iff.1 hl).1)) (hput (by omega) hd)⟩
  ·have he := run_endLoop (P := P) hl (by rw [hrc]; simp)
   rw [hrc] at he
   exact ⟨some c, _, he, hstop _ c pre x _ (Nat.le_refl _) (hIx c _ _ _ hi (hpb _ _ (Array.getElem?_eq_some_iff.1 hl).1)) (hRk pre x U _ hR L _ _ (by omega) hl rfl rfl) (hput (by omega) hd)⟩
end
section
variable {P : Program} {ops : Array Oper} {md : Region.Mode} {C : World -> Prop} {n : Nat}
def sink1B (md : Region.Mode) (ops : Array Oper) (n : Nat) : Bool :=
 (List.range n).all fun i => decide (i < 1) || (List.range (n + 1)).any fun j => decide (i < j) && Region.waitsFor md ops j i
theorem tail_waits1 {listed : Array Bool} (hs : sink1B md ops n = true) (hc : Region.chainB md ops n = true) (hn : n < ops.size) (inv : HeadInv md ops n listed) :
 ∀ (d i : Nat), n - i = d -> 1 <= i -> i < n -> listed.getD i true = false -> ∀ t, n <= t -> t ∉ Region.ready md ops listed := by
 intro d
 induction d using Nat.strongRecOn with
 | _ d ih =>
  intro i hd h1i hi hun t ht hr
  obtain ⟨_, ot, hot, hall⟩ := mem_ready.1 hr
  have htlt : t < ops.size := (Array.getElem?_eq_some_iff.1 hot).1
  by_cases htn : t = n
  ·subst htn
   have h1 := List.all_eq_true.1 hs i (List.mem_range.2 hi)
   simp only [Bool.or_eq_true, decide_eq_true_eq] at h1
   replace h1 := h1.resolve_left (by omega)
   obtain ⟨j, hj, hj2⟩ := List.any_eq_true.1 h1
   simp only [Bool.and_eq_true, decide_eq_true_eq] at hj2
   obtain ⟨oj, hoj, e, he, hb, hon⟩ := Region.waitsFor_spec hj2.2
   have hjle : j <= t := by have := List.mem_range.1 hj; omega
   by_cases hjt : j = t
   ·subst hjt
    have : oj = ot := Option.some.inj (hoj.symm.trans hot)
    subst this
    have h2 := hall e he hb
    rw [hon, getD_both hun] at h2
    cases h2
   ·cases hl : listed.getD j false with
    | true =>
     have h2 := inv.closed j oj hoj hl e he hb
     rw [hon, getD_both hun] at h2
     cases h2
    | false =>
     have hjs : j < listed.size := by rw [inv.size]; omega
     exact ih (t - j) (by omega) j rfl (by omega) (by omega) (getD_in hjs hl) t (Nat.le_refl _) hr
  ·have h1 := List.all_eq_true.1 hc t (List.mem_range.2 htlt)
   simp only [Bool.or_eq_true, decide_eq_true_eq] at h1
   rcases h1 with h1 | h1
   ·omega
   ·obtain ⟨o', ho', e, he, hb, hon⟩ := Region.waitsFor_spec h1
    have : o' = ot := Option.some.inj (ho'.symm.trans hot)
    subst this
    have h2 := hall e he hb
    rw [hon, getD_both (inv.tail (t - 1) (by omega) (by omega))] at h2
    cases h2
theorem headQ_first1 {i : Nat} {oi : Oper} {v : Value} {L : Array Bool -> Act -> Prop} (hi : ops[i]? = some oi) (hsel : ∀ (j : Nat) (o : Oper) cs b, ops[j]? = some o -> o.op ≠ .select cs b)
 (hs : sink1B md ops n = true) (hc : Region.chainB md ops n = true) (hn : n < ops.size) (h1i : 1 <= i) (hin : i < n) (hdone : ∀ listed a, L listed a -> ∀ j, j ∈ Region.ready md ops listed -> n <= j) :
 ∀ (f : Nat) (listed : Array Bool) (a : Act), HeadInv md ops n listed ->
  (∀ j oj, ops[j]? = some oj -> j ≠ i -> listed.getD j true = false -> (∀ e ∈ oj.after, Region.binds md e = true -> e.on ≠ i) -> oi.apart ops oj = true) ->
  i ∈ Region.ready md ops listed -> YieldsIn P ops C oi v a -> headQ P md ops C n L f (listed.setIfInBounds i true) (a.put oi.dst v) -> headQ P md ops C n L (f + 1) listed a := by
 intro f
 induction f with
 | zero =>
  intro listed a inv _ hr hy H
  refine ⟨fun h => by rw [h] at hr; exact absurd hr (by simp), fun j hj => ?_⟩
  have hjn : j < n := Nat.lt_of_not_le fun h => tail_waits1 hs hc hn inv _ i rfl h1i hin (mem_ready.1 hr).1 j h hj
  refine ⟨hjn, ?_⟩
  by_cases hji : j = i
  ·subst hji
   exact hy.qOp hi H
  ·exact absurd (hdone _ _ H j (ready_mono hj hji)) (by omega)
 | succ f ih =>
  intro listed a inv hfree hr hy H
  refine ⟨fun h => by rw [h] at hr; exact absurd hr (by simp), fun j hj => ?_⟩
  have hjn : j < n := Nat.lt_of_not_le fun h => tail_waits1 hs hc hn inv _ i rfl h1i hin (mem_ready.1 hr).1 j h hj
  refine ⟨hjn, ?_⟩
  by_cases hji : j = i
  ·subst hji
   exact hy.qOp hi H
  ·obtain ⟨hjun, oj, hoj, hall⟩ := mem_ready.1 hj
   have hnot : ∀ e ∈ oj.after, Region.binds md e = true -> e.on ≠ i := fun e he hb heq => by
    have h1 := hall e he hb
    rw [heq, getD_both (mem_ready.1 hr).1] at h1
    exact absurd h1 (by simp)
   have h2 := qOp_put hoj (hfree j oj hoj hji hjun hnot) (fun cs b => hsel i oi cs b hi) (fun cs b => hsel j oj cs b hoj) hy (H.2 j (ready_mono hj hji)).2
   refine qOp_mono (fun a' h3 => ih (listed.setIfInBounds j true) a' (inv.set hj hjn) (fun k ok hk hki hun hno => ?_) (ready_mono hr (Ne.symm hji)) h3.1 ?_) h2
   ·refine hfree k ok hk hki ?_ hno
    by_cases hjk : j = k
    ·subst hjk
     exact hjun
    ·rwa [getD_set_ne true hjk] at hun
   ·rw [Array.setIfInBounds_comm _ _ hji]
    exact h3.2
theorem headQ_lex1 {g : Nat} {Lq : Act -> Prop} (hsel : Region.noSelect ops = true) (hs : sink1B md ops n = true) (hc : Region.chainB md ops n = true) (hn : n < ops.size) :
 ∀ (l : List Oper) (k : Nat) (listed : Array Bool) (a : Act), 1 <= k -> (∀ j, j < l.length -> l[j]? = ops[k + j]?) -> k + l.length = n -> HeadInv md ops n listed ->
 Region.lexHead md ops g l.length k listed = true -> wpQuiet P ops C Lq l a ->
 headQ P md ops C n (fun listed' a' => Region.seqB md ops g n listed' = true /\ Lq a') l.length listed a := by
 intro l
 induction l with
 | nil =>
  intro k listed a _ _ hk _ hB h
  obtain rfl : k = n := by simpa using hk
  exact ⟨by simpa [Region.lexHead] using hB, h⟩
 | cons o l ih =>
  intro k listed a hk1 hl hk inv hB h
  have h0 : ops[k]? = some o := by simpa using (hl 0 (by simp)).symm
  simp only [List.length_cons, Region.lexHead, Bool.and_eq_true] at hB
  simp only [List.length_cons] at hk
  have hr' : k ∈ Region.ready md ops listed := by simpa using hB.1.1
  have hst : qOp P ops C k (wpQuiet P ops C Lq l) a := by
   unfold qOp
   simp only [h0]
   exact h
  obtain ⟨v, hy, hK⟩ := yieldsIn_of_qOp h0 hst
  refine headQ_first1 h0 (Region.noSelect_spec hsel) hs hc hn hk1 (by omega) (fun listed' a' hL => seqB_ready hL.1) l.length listed a inv (Region.free_spec h0 hB.1.2) hr' hy ?_
  refine ih (k + 1) _ _ (by omega) (fun j hj => ?_) (by omega) (inv.set hr' (by omega)) hB.2 hK
  have := hl (j + 1) (by simp; omega)
  simpa [Nat.add_assoc, Nat.add_comm 1 j] using this
end
def lexTail1B (md : Region.Mode) (ops : Array Oper) (n : Nat) : Bool :=
 Region.noSelect ops && decide (1 <= n) && decide (n < ops.size) && sink1B md ops n && Region.chainB md ops n && Region.free md ops (Array.replicate ops.size false) 0 && (Region.ready md ops (Array.replicate ops.size false)).contains 0 &&
  Region.lexHead md ops (ops.size - n) (n - 1) 1 ((Array.replicate ops.size false).setIfInBounds 0 true)
theorem wp_region_grow_tail1 {P : Program} {id : Nat} {Q : Exit -> Act -> World -> Prop} {a : Act} {w : World} {o : Oper} {l : List Oper} {v : Value} (m : Nat) (hm : P.follows .mixedOrders = true) (hB : lexTail1B .any (o :: l).toArray m = true)
 (hQ : ∀ c a w, Q (.panic c) (a.put o.dst v) w -> Q (.panic c) a w) (hy : Yields P (o :: l).toArray o v a)
 (h : wpQuiet P (o :: l).toArray (fun w' => ∃ g, w' = grow w g) (fun a' => ∀ w', Below w.heap.size w w' -> wpList P (o :: l).toArray Q ((o :: l).drop m) a' w') (((o :: l).take m).drop 1) (a.put o.dst v)) : (Code.region id (o :: l).toArray true).wp P Q a w := by
 simp only [lexTail1B, Bool.and_eq_true, decide_eq_true_eq] at hB
 obtain ⟨⟨⟨⟨⟨⟨⟨hsel, h1⟩, hn⟩, hs⟩, hc⟩, hfr⟩, hrd⟩, hlex⟩ := hB
 have hn' : m < l.length + 1 := by simpa using hn
 have htl : (((o :: l).take m).drop 1).length = m - 1 := by simp; omega
 have hdl : ((o :: l).drop m).length = (o :: l).toArray.size - m := by simp
 have h00 : (o :: l).toArray[0]? = some o := by simp
 have inv0 : HeadInv .any (o :: l).toArray m (Array.replicate (o :: l).toArray.size false) :=
  ⟨by simp, fun j oj _ hl => by rw [getD_replicate_false] at hl; exact absurd hl (by simp), fun t _ ht => getD_in (by simpa using ht) (getD_replicate_false _ _)⟩
 have inv1 := inv0.set (i := 0) (by simpa using hrd) (by omega)
 have H := headQ_lex1 (C := fun w' => ∃ g, w' = grow w g) (md := .any) (g := (o :: l).toArray.size - m) hsel hs hc hn (((o :: l).take m).drop 1) 1 _ (a.put o.dst v) (Nat.le_refl _) (fun j hj => by
  have hj' : j < m - 1 := by rw [htl] at hj; exact hj
  rw [List.getElem?_drop, List.getElem?_take_of_lt (by omega)]; simp) (by rw [htl]; omega) inv1 (by rw [htl]; exact hlex) h
 refine wp_region_any hm ?_
 have h3 := headQ_any (Q' := Q) (g := (o :: l).toArray.size - m) (fun listed a' w' hw' hL => by
  obtain ⟨g, rfl⟩ := hw'
  have := wpAny_of_seq (md := .any) (Q' := Q) ((o :: l).drop m) m listed a' (grow w g) (fun j => by simp [List.getElem?_drop]) (by rw [hdl]; exact hL.1) (hL.2 _ (grow_below w g))
  rwa [hdl] at this) _ _ _ w.drew ⟨w.drew, (grow_eq (Below.drew (Below.refl _ _))).symm⟩ H
 have h4 := wpAny_take (Q := Q) h00 hsel hfr hrd hQ hy h3
 rw [htl, show m - 1 + ((o :: l).toArray.size - m) + 1 = (o :: l).toArray.size by omega] at h4
 exact h4
abbrev uV (n : Nat) : Value := .agg #[.int .u64 0, .int .u64 (n : Int)]
theorem g_both (x y : Nat) (hx : x % 2 = 0) (hy : y % 2 = 0) : Nat.gcd (x / 2) (y / 2) * 2 = Nat.gcd x y := by
 have h := Nat.gcd_mul_left 2 (x/2) (y/2)
 rw [show 2 * (x/2) = x by omega, show 2 * (y/2) = y by omega] at h
 omega
theorem g_left (x y : Nat) (hx : x % 2 = 0) (hy : y % 2 = 1) : Nat.gcd (x / 2) y = Nat.gcd x y := by
 have hc : Nat.Coprime 2 y := by
  unfold Nat.Coprime
  rw [Nat.gcd_rec, hy]
  rfl
 have h := Nat.Coprime.gcd_mul_left_cancel (x/2) hc
 rw [show 2 * (x/2) = x by omega] at h
 exact h.symm
theorem g_right (x y : Nat) (hx : x % 2 = 1) (hy : y % 2 = 0) : Nat.gcd x (y / 2) = Nat.gcd x y := by
 rw [Nat.gcd_comm, g_left y x hy hx, Nat.gcd_comm]
theorem g_sub (x y : Nat) (h : y <= x) : Nat.gcd (x - y) y = Nat.gcd x y := Nat.gcd_sub_self_left h
theorem rsz2_any (n : Int) (w : World) (h0 : 0 <= n) (h1 : n <= 1152921504606846976) :
 Calls Tryz.prog 61 #[.int .i64 n] w fun e w' => e = .returned (.int .u64 n) /\ w = w' := by
 have e := PlainAid.u64_nonneg h0 (by omega)
 go_enter Tryz.func61, Tryz.ntmps61
 go_wp2
 go_ret
 exact ⟨rfl, rfl⟩
theorem u64_nat (n : Nat) (h : n <= 1152921504606846976) : IntKind.u64.wrap (n : Int) = n := PlainAid.u64_nonneg (by omega) (by omega)
theorem half_any (a : Nat) (w : World) (h : a <= 1152921504606846976) :
 Calls Tryz.prog 151 #[uV a] w fun e w' => e = .returned (uV (a / 2)) /\ Below w.heap.size w w' := by
 unfold uV
 go_enter Tryz.func151, Tryz.ntmps151
 go_wp2
 exact bodyPost_ret (v := uV (a / 2)) (by simp [results, Tryz.results151, go_sem, *]) rfl ⟨rfl, bel⟩
theorem less_any (a b : Nat) (w : World) :
 Calls Tryz.prog 62 #[uV a, uV b] w fun e w' => e = .returned (.bool (decide (a < b))) /\ Below w.heap.size w w' := by
 unfold uV
 go_enter Tryz.func62, Tryz.ntmps62
 go_wp2
 go_ret
 exact ⟨rfl, bel⟩
theorem minus_any (a b : Nat) (w : World) (h : a <= 1152921504606846976) (hb : b <= a) :
 Calls Tryz.prog 152 #[uV a, uV b] w fun e w' => e = .returned (uV (a - b)) /\ Below w.heap.size w w' := by
 unfold uV
 have h1 : ¬ (a : Int) < b := by omega
 have e : (a : Int) - (b : Int) = ((a - b : Nat) : Int) := by omega
 go_enter Tryz.func152, Tryz.ntmps152
 go_wp2
 exact bodyPost_ret (v := uV (a - b)) (by simp [results, Tryz.results152, go_sem, *]) rfl ⟨rfl, bel⟩
theorem plus02_any (a b : Nat) (w : World) (h : a <= 1152921504606846976) (hb : b <= 1152921504606846976) :
 Calls Tryz.prog 153 #[uV a, uV b] w fun e w' => e = .returned (uV (a + b)) /\ Below w.heap.size w w' := by
 unfold uV
 have h1 : ¬ (a : Int) + b < b := by omega
 go_enter Tryz.func153, Tryz.ntmps153
 go_wp2
 exact bodyPost_ret (v := uV (a + b)) (by simp [results, Tryz.results153, go_sem, *]) rfl ⟨rfl, bel⟩
set_option maxRecDepth 100000 in
set_option maxHeartbeats 2000000 in
theorem div_any (a b : Nat) (w : World) (h : a <= 1152921504606846976) (hb : b <= 1152921504606846976) (hb0 : 1 <= b) :
 Calls Tryz.prog 107 #[uV a, uV b] w fun e w' => e = .returned (.tuple #[uV (a / b), uV (a % b)]) /\ Below w.heap.size w w' := by
 unfold uV
 have hz : ((b : Int) == 0) = false := by simp; omega
 have hq : a / b <= a := Nat.div_le_self a b
 have e1 : IntKind.u64.wrap ((a : Int) / (b : Int)) = (a : Int) / (b : Int) := by
  have := u64_nat (a / b) (Nat.le_trans hq h)
  rw [Int.natCast_ediv] at this
  exact this
 clear hq
 go_enter Tryz.func107, Tryz.ntmps107
 go_wp2
 go_region
 go_wp2
 exact bodyPost_ret (v := .tuple #[.agg #[.int .u64 0, .int .u64 ((a : Int) / (b : Int))], .agg #[.int .u64 0, .int .u64 ((a : Int) % (b : Int))]]) (by simp [results, Tryz.results107, go_sem, *]) rfl ⟨by rw [Int.natCast_ediv, Int.natCast_emod], bel⟩
end Go.Proofs.YtmfpbafpnoomeaaGreat
