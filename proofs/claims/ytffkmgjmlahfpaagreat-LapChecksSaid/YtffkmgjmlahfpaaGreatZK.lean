/- Contracts: lap.Check and lap.Share of a detail that is not valid. How anchorage lengths are ordered (no program in sight). Findings of laps under an easy rule, and under a hard one (no walk). Contracts: fractions made of small numbers (ratio). How many laps, and chains, go over a place (no walk). Two small laws on blocks and guarded loads. Contracts of the reference for layer 24: Up, Basic, Length. As XMix, where one operation makes a variable of its own (an alloc that waits for nothing). Contracts of the reference for layer 25: Length, Overlap. Contracts of the reference: Along, Square of layer 9. Contract: the reference's Next of a valid detail. Contract: the reference's Chains of a valid detail. Contracts: slices.Equal over equal findings, slices.EqualFunc over equal chains. Contracts of the reference for layer 2, for magnitudes below 2^61: Size, Half, Less, Minus, Plus, Div, equality. Contracts of the reference for layer 2: Gcd (the binary one), Made, Make, for numbers below 2^61. Contracts of the reference for layer 2: Made, Make, for numbers from 0 to 2^60. Contracts: lap.Chains of one lap; stirruplaw25.rule. Contract: stirruplaw25.example. Contract: stirruplaw25.example: the walk. The example as data; contracts: demand.Valid of no demands. Contract: lap.Stagger. Contract: stirruplaw25.awake. Contracts of the reference for layer 9: With, Hull. Contracts: the hull of a solid and poor bond in the reference. A stand-in under the name that the texts on opening arguments import. Opening arguments: integers, bools, and a rule by value. Opening arguments: boxes, slices of boxes, members. Opening arguments: bars, slices of boxes. Opening arguments: slices of spans. Opening arguments: details. -/
import Derived.Test.YtffkmgjmlahfpaaGreatChL
import Derived.Test.YtffkmgjmlahfpaaGreatSpec
import Derived.Test.YtffkmgjmlahfpaaGreatZB
import Derived.Test.YtffkmgjmlahfpaaGreatTail
import Derived.Test.YtffkmgjmlahfpaaGreatRows
import Derived.PlainAid
import Derived.Test.YtffkmgjmlahfpaaGreatOver
import Derived.Test.YtffkmgjmlahfpaaGreatAnchL
import Derived.Test.YtffkmgjmlahfpaaGreatZA
import Derived.Test.YtffkmgjmlahfpaaGreatFlat
import Derived.Test.YtffkmgjmlahfpaaGreatRow
import Derived.WalkSmall
import Derived.Deep.LoopGhost
import Derived.Deep.RegionWith
import Derived.Test.YtffkmgjmlahfpaaGreatStag
import Derived.Test.YtffkmgjmlahfpaaGreatRBoxA
import Derived.Test.YtffkmgjmlahfpaaGreatBoxB
import Derived.Test.YtffkmgjmlahfpaaGreatSolidA
import Derived.Deep.Slices
import Derived.Test.YtffkmgjmlahfpaaGreatBar
set_option linter.unusedVariables false
set_option linter.unusedSimpArgs false
namespace Go.Proofs.YtffkmgjmlahfpaaGreat
open Go.RowKit
set_option maxRecDepth 20000 in
set_option maxHeartbeats 4000000 in
theorem lcheck_no (x : Dt) (B : Nat) (w : World) (hB : B ≤ w.heap.size)
    (hL : ∀ W, Below w.heap.size w W → Calls Tryz.prog 65 #[dtV x] W (GivesLook false 0 [] W)) :
    Calls Tryz.prog 15 #[dtV x] w fun e w' => e = .returned (.tuple #[.slice none 0 0, .int .i64 1]) ∧ Below w.heap.size w w' := by
  have HL := Lib.hid hL
  clear hL
  unfold dtV at HL
  unfold dtV
  have hDB := Blk.new w 34 #[.string x.m.name, .slice x.mA x.mn x.mc, .slice x.hA x.hn x.hc, .int .i64 x.m.cover, .int .i64 x.m.aggr, .int .i64 x.m.poker, .slice x.bA x.bn x.bc, .slice x.rA x.rn x.rc, .slice x.jA x.jn x.jc, .slice x.dA x.dn x.dc, .int .i64 x.rule.num, .int .i64 x.rule.den, .int .i64 x.rule.pnum, .int .i64 x.rule.pden, .int .i64 x.rule.bnum, .int .i64 x.rule.bden, .int .i64 x.rule.lnum, .int .i64 x.rule.lden, .int .i64 x.rule.least]
  have hW1 : Below w.heap.size w (w.alloc (.cells #[.string x.m.name, .slice x.mA x.mn x.mc, .slice x.hA x.hn x.hc, .int .i64 x.m.cover, .int .i64 x.m.aggr, .int .i64 x.m.poker, .slice x.bA x.bn x.bc, .slice x.rA x.rn x.rc, .slice x.jA x.jn x.jc, .slice x.dA x.dn x.dc, .int .i64 x.rule.num, .int .i64 x.rule.den, .int .i64 x.rule.pnum, .int .i64 x.rule.pden, .int .i64 x.rule.bnum, .int .i64 x.rule.bden, .int .i64 x.rule.lnum, .int .i64 x.rule.lden, .int .i64 x.rule.least] 34)) := ba_alloc (Below.refl _ _) _
  go_enter Tryz.func15, Tryz.ntmps15
  go_upto_region 1 with fail
  generalize (w.alloc (.cells #[.string x.m.name, .slice x.mA x.mn x.mc, .slice x.hA x.hn x.hc, .int .i64 x.m.cover, .int .i64 x.m.aggr, .int .i64 x.m.poker, .slice x.bA x.bn x.bc, .slice x.rA x.rn x.rc, .slice x.jA x.jn x.jc, .slice x.dA x.dn x.dc, .int .i64 x.rule.num, .int .i64 x.rule.den, .int .i64 x.rule.pnum, .int .i64 x.rule.pden, .int .i64 x.rule.bnum, .int .i64 x.rule.bden, .int .i64 x.rule.lnum, .int .i64 x.rule.lden, .int .i64 x.rule.least] 34)) = W1 at *
  have HDB := Lib.hid hDB
  have HL1 := Lib.hid (fun (W : World) (hw : Below W1.heap.size W1 W) => HL.out W (ba_via hw hW1))
  clear hDB HL
  go_wp2_with (first
    | (refine wpList_load_mid rfl 34 (.tmp 1) rfl _ _ rfl _ _ (HDB.out.via (by repeat (with_reducible first | exact Below.refl _ _ | assumption | refine ba_alloc ?_ _ | refine ba_drew ?_ | refine ba_drewN ?_ _ | refine ba_via (by assumption) ?_ | (refine ba_set ?_ ?_ _; rotate_left; (first | omega | (simp; omega) | simp))))).range Tryz.underlying34 rfl (by kernel_rfl) ?_)
    | (go_at_call 65; (with_reducible refine (HL1.out _ (by repeat (with_reducible first | exact Below.refl _ _ | assumption | refine ba_alloc ?_ _ | refine ba_drew ?_ | refine ba_drewN ?_ _ | refine ba_via (by assumption) ?_ | (refine ba_set ?_ ?_ _; rotate_left; (first | omega | (simp; omega) | simp))))).mono ?_); rintro e w1 ⟨A1, c1', rfl, how1, hbw1⟩))
  go_ret2
  exact ⟨rfl, ba_via hbw1 hW1⟩
set_option maxRecDepth 20000 in
set_option maxHeartbeats 4000000 in
theorem share_no (x : Dt) (at_ : Int) (B : Nat) (w : World) (hB : B ≤ w.heap.size)
    (hL : ∀ W, Below w.heap.size w W → Calls Tryz.prog 65 #[dtV x] W (GivesLook false 0 [] W)) :
    Calls Tryz.prog 19 #[dtV x, .int .i64 at_] w fun e w' => e = .returned (.tuple #[.agg #[.int .i64 0, .int .i64 0], .int .i64 1]) ∧ Below w.heap.size w w' := by
  have HL := Lib.hid hL
  clear hL
  unfold dtV at HL
  unfold dtV
  have hDB := (Blk.new w 34 #[.string x.m.name, .slice x.mA x.mn x.mc, .slice x.hA x.hn x.hc, .int .i64 x.m.cover, .int .i64 x.m.aggr, .int .i64 x.m.poker, .slice x.bA x.bn x.bc, .slice x.rA x.rn x.rc, .slice x.jA x.jn x.jc, .slice x.dA x.dn x.dc, .int .i64 x.rule.num, .int .i64 x.rule.den, .int .i64 x.rule.pnum, .int .i64 x.rule.pden, .int .i64 x.rule.bnum, .int .i64 x.rule.bden, .int .i64 x.rule.lnum, .int .i64 x.rule.lden, .int .i64 x.rule.least]).alloc (.cells #[.int .i64 0, .int .i64 0] 52)
  have hRS := Blk.newN (W := w.alloc (.cells #[.string x.m.name, .slice x.mA x.mn x.mc, .slice x.hA x.hn x.hc, .int .i64 x.m.cover, .int .i64 x.m.aggr, .int .i64 x.m.poker, .slice x.bA x.bn x.bc, .slice x.rA x.rn x.rc, .slice x.jA x.jn x.jc, .slice x.dA x.dn x.dc, .int .i64 x.rule.num, .int .i64 x.rule.den, .int .i64 x.rule.pnum, .int .i64 x.rule.pden, .int .i64 x.rule.bnum, .int .i64 x.rule.bden, .int .i64 x.rule.lnum, .int .i64 x.rule.lden, .int .i64 x.rule.least] 34)) (n := w.heap.size + 1) (by simp) 52 #[.int .i64 0, .int .i64 0]
  have hW1 : Below w.heap.size w ((w.alloc (.cells #[.string x.m.name, .slice x.mA x.mn x.mc, .slice x.hA x.hn x.hc, .int .i64 x.m.cover, .int .i64 x.m.aggr, .int .i64 x.m.poker, .slice x.bA x.bn x.bc, .slice x.rA x.rn x.rc, .slice x.jA x.jn x.jc, .slice x.dA x.dn x.dc, .int .i64 x.rule.num, .int .i64 x.rule.den, .int .i64 x.rule.pnum, .int .i64 x.rule.pden, .int .i64 x.rule.bnum, .int .i64 x.rule.bden, .int .i64 x.rule.lnum, .int .i64 x.rule.lden, .int .i64 x.rule.least] 34)).alloc (.cells #[.int .i64 0, .int .i64 0] 52)) := ba_alloc (ba_alloc (Below.refl _ _) _) _
  go_enter Tryz.func19, Tryz.ntmps19
  go_upto_region 1 with fail
  generalize ((w.alloc (.cells #[.string x.m.name, .slice x.mA x.mn x.mc, .slice x.hA x.hn x.hc, .int .i64 x.m.cover, .int .i64 x.m.aggr, .int .i64 x.m.poker, .slice x.bA x.bn x.bc, .slice x.rA x.rn x.rc, .slice x.jA x.jn x.jc, .slice x.dA x.dn x.dc, .int .i64 x.rule.num, .int .i64 x.rule.den, .int .i64 x.rule.pnum, .int .i64 x.rule.pden, .int .i64 x.rule.bnum, .int .i64 x.rule.bden, .int .i64 x.rule.lnum, .int .i64 x.rule.lden, .int .i64 x.rule.least] 34)).alloc (.cells #[.int .i64 0, .int .i64 0] 52)) = W1 at *
  have HDB := Lib.hid hDB
  have HRS := Lib.hid hRS
  have HL1 := Lib.hid (fun (W : World) (hw : Below W1.heap.size W1 W) => HL.out W (ba_via hw hW1))
  clear hDB hRS HL
  go_wp2_with (first
    | (refine wpList_load_mid rfl 34 (.tmp 2) rfl _ _ rfl _ _ (HDB.out.via (by repeat (with_reducible first | exact Below.refl _ _ | assumption | refine ba_alloc ?_ _ | refine ba_drew ?_ | refine ba_drewN ?_ _ | refine ba_via (by assumption) ?_ | (refine ba_set ?_ ?_ _; rotate_left; (first | omega | (simp; omega) | simp))))).range Tryz.underlying34 rfl (by kernel_rfl) ?_)
    | (go_at_call 65; (with_reducible refine (HL1.out _ (by repeat (with_reducible first | exact Below.refl _ _ | assumption | refine ba_alloc ?_ _ | refine ba_drew ?_ | refine ba_drewN ?_ _ | refine ba_via (by assumption) ?_ | (refine ba_set ?_ ?_ _; rotate_left; (first | omega | (simp; omega) | simp))))).mono ?_); rintro e w1 ⟨A1, c1', rfl, how1, hbw1⟩; have hRS1 := HRS.out.via hbw1; have z0 := hRS1.cell 0; have z1 := hRS1.cell 1; have f0 := hRS1.frozen 0; have f1 := hRS1.frozen 1; have ltR := hRS1.lt; simp only [List.getElem?_toArray, List.getElem?_cons_zero, List.getElem?_cons_succ] at z0 z1))
  exact bodyPost_ret (v := .tuple #[.agg #[.int .i64 0, .int .i64 0], .int .i64 1]) (by simp [results, Tryz.results19, go_sem, *]) rfl ⟨rfl, ((ba_via hbw1 hW1).setCell (Nat.le_succ _) _).setCell (Nat.le_succ _) _⟩
end Go.Proofs.YtffkmgjmlahfpaaGreat
set_option linter.unusedVariables false
set_option linter.unusedSimpArgs false
namespace Go.Proofs.YtffkmgjmlahfpaaGreat
theorem up_mono {n m p q : Int} (h : n ≤ m) (hp : 0 ≤ p) (hq : 1 ≤ q) : S.up n p q ≤ S.up m p q := by
  unfold S.up
  have := Int.mul_le_mul_of_nonneg_right h hp
  exact Int.ediv_le_ediv (by omega) (by omega)
theorem up_ge {n p q : Int} (hn : 0 ≤ n) (hpq : q ≤ p) (hq : 1 ≤ q) : n ≤ S.up n p q := by
  unfold S.up
  have := Int.mul_le_mul_of_nonneg_left hpq hn
  exact (Int.le_ediv_iff_mul_le (by omega)).2 (by omega)
theorem up_le {n p q : Int} (hn : 0 ≤ n) (hpq : p ≤ q) (hq : 1 ≤ q) : S.up n p q ≤ n := by
  unfold S.up
  have := Int.mul_le_mul_of_nonneg_left hpq hn
  have h : (n * p + q - 1) / q < n + 1 := Int.ediv_lt_of_lt_mul (by omega) (by rw [Int.add_mul]; omega)
  omega
theorem up_mul {n p q : Int} (hq : 1 ≤ q) : n * p ≤ S.up n p q * q := by
  unfold S.up
  have h := Int.mul_ediv_add_emod (n * p + q - 1) q
  have h2 := Int.emod_lt_of_pos (n * p + q - 1) (show 0 < q by omega)
  have h3 := Int.mul_comm q ((n * p + q - 1) / q)
  omega
theorem least_mono {r : Rule} {n m : Int} (h : n ≤ m) : S.atLeast r n ≤ S.atLeast r m := by unfold S.atLeast; split <;> split <;> omega
theorem basic_mono {r : Rule} {d e : Int} (hr : RuleOk r) (h : d ≤ e) : S.basic r d ≤ S.basic r e := by
  have := up_mono h (show 0 ≤ r.num by have := hr.num; omega) hr.den.1
  unfold S.basic
  split <;> split <;> omega
theorem basic_nonneg {r : Rule} {d : Int} (hr : RuleOk r) : 0 ≤ S.basic r d := by
  have := hr.least
  unfold S.basic
  split <;> omega
theorem poorUp_mono {r : Rule} {n m : Int} (hr : RuleOk r) (p : Bool) (h : n ≤ m) : S.poorUp r p n ≤ S.poorUp r p m := by
  have := up_mono h (show 0 ≤ r.pnum by have := hr.pnum; omega) hr.pden.1
  unfold S.poorUp
  split <;> omega
theorem poorUp_ge {r : Rule} {n : Int} (hr : RuleOk r) (p : Bool) (h : 0 ≤ n) : n ≤ S.poorUp r p n := by
  have := up_ge h hr.poor hr.pden.1
  unfold S.poorUp
  split <;> omega
theorem bentUp_mono {r : Rule} {n m : Int} (hr : RuleOk r) (p : Bool) (h : n ≤ m) : S.bentUp r p n ≤ S.bentUp r p m := by
  have := up_mono h (show 0 ≤ r.bnum by have := hr.bnum; omega) hr.bden.1
  unfold S.bentUp
  split <;> omega
theorem length_least {r : Rule} {d : Int} {p b : Bool} : r.least ≤ S.length r d p b := by unfold S.length S.atLeast; split <;> omega
theorem length_wider {r : Rule} {d e : Int} {p b : Bool} (hr : RuleOk r) (h : d ≤ e) : S.length r d p b ≤ S.length r e p b :=
  least_mono (bentUp_mono hr b (poorUp_mono hr p (basic_mono hr h)))
theorem length_poor {r : Rule} {d : Int} {p b : Bool} (hr : RuleOk r) : S.length r d p b ≤ S.length r d true b := by
  refine least_mono (bentUp_mono hr b ?_)
  cases p
  · exact poorUp_ge hr true (basic_nonneg hr)
  · exact Int.le_refl _
theorem length_bent {r : Rule} {d : Int} {p b : Bool} (hr : RuleOk r) : S.length r d p true ≤ S.length r d p b := by
  refine least_mono ?_
  cases b
  · have h0 : 0 ≤ S.poorUp r p (S.basic r d) := Int.le_trans (basic_nonneg hr) (poorUp_ge hr p (basic_nonneg hr))
    have := up_le h0 hr.bend hr.bden.1
    simpa [S.bentUp] using this
  · exact Int.le_refl _
theorem length_plain {r : Rule} {d : Int} : S.length r d false false = S.basic r d := by
  have : ¬ S.basic r d < r.least := by unfold S.basic; split <;> omega
  simp [S.length, S.bentUp, S.poorUp, S.atLeast, this]
theorem basic_mul {r : Rule} {d : Int} (hr : RuleOk r) : r.num * d ≤ S.basic r d * r.den := by
  have h := up_mul (n := d) (p := r.num) (q := r.den) hr.den.1
  have hc := Int.mul_comm d r.num
  unfold S.basic
  split
  · rename_i hlt
    have := Int.mul_le_mul_of_nonneg_right (Int.le_of_lt hlt) (show 0 ≤ r.den by have := hr.den; omega)
    omega
  · omega
end Go.Proofs.YtffkmgjmlahfpaaGreat
set_option linter.unusedVariables false
set_option linter.unusedSimpArgs false
namespace Go.Proofs.YtffkmgjmlahfpaaGreat
open Go.RowKit
def S.easyR : Rule := ⟨1, 1000, 1, 1, 1, 1, 1, 1, 0⟩
def S.hardR : Rule := ⟨1000, 1, 1000, 1, 1, 1, 1000, 1, 1000⟩
theorem easy_rule : S.rule S.easyR = true := by kernel_rfl
theorem hard_rule : S.rule S.hardR = true := by kernel_rfl
theorem size_cases {d : Int} (h : S.size d = true) : d = 6 ∨ d = 8 ∨ d = 10 ∨ d = 12 ∨ d = 16 ∨ d = 20 ∨ d = 25 ∨ d = 32 ∨ d = 40 := by
  simpa [S.size, S.has, S.sizes] using h
theorem easy_len {d : Int} (h : S.size d = true) (p : Bool) : lLength S.easyR d p = 1 := by
  rcases size_cases h with rfl | rfl | rfl | rfl | rfl | rfl | rfl | rfl | rfl <;> cases p <;> kernel_rfl
theorem hard_len {d : Int} (h : S.size d = true) (p : Bool) : 6000000 ≤ lLength S.hardR d p := by
  rcases size_cases h with rfl | rfl | rfl | rfl | rfl | rfl | rfl | rfl | rfl <;> cases p <;> exact of_decide_eq_true (by kernel_rfl)
theorem some_len {r : Rule} {d : Int} (hr : S.rule r = true) (hd : S.size d = true) (p : Bool) : 1 ≤ lLength r d p := by
  have hR := rule_ok hr
  have hz := sized_yes hr hd
  have hb := size_bd hd
  have hn := hR.num
  have hde := hR.den
  have h0 : 1 ≤ S.basic r d := by
    have h1 : 1 ≤ S.up d r.num r.den := by
      unfold S.up
      have h2 : 1 * 1 ≤ d * r.num := Int.mul_le_mul (by omega) (by omega) (by omega) (by omega)
      exact (Int.le_ediv_iff_mul_le (by omega)).2 (by omega)
    unfold S.basic
    split <;> omega
  have h1 : 1 ≤ S.length r d p false := by
    cases p
    · rw [length_plain]; exact h0
    · have := length_poor (d := d) (p := false) (b := false) hR
      rw [length_plain] at this
      omega
  have hba := length_bd hR (show 0 ≤ d by omega) (show d ≤ 40 by omega) p false
  have hl2 := hR.lden
  have := up_ge hba.1 hR.lap hl2.1
  have e : lLength r d p = S.up (S.length r d p false) r.lnum r.lden := by simp [lLength, hz]
  omega
/-- How many findings are of a kind. -/
def S.cnt (k : Int) (F : List Fd) : Nat := F.countP (fun f => f.kind == k)
theorem cnt_one (m : Mem) (r : Rule) (a b : Mn) : S.cnt 1 (S.lapFind m r a b) = if S.shortL m r a b = true then 1 else 0 := by
  unfold S.cnt S.lapFind
  split <;> split <;> simp
theorem cnt_two (m : Mem) (r : Rule) (a b : Mn) : S.cnt 2 (S.lapFind m r a b) = if S.farL a b = true then 1 else 0 := by
  unfold S.cnt S.lapFind
  split <;> split <;> simp
/-- Whether a lap's bars just meet. -/
def S.flush (L : List Mn) (j : Jn) : Bool := match L[j.first.toNat]?, L[j.second.toNat]? with | some a, some b => a.leg.hi.x == b.leg.lo.x | _, _ => false
/-- What a right lap is. -/
structure PairOk (L : List Mn) (j : Jn) (i1 i2 : Nat) (a b : Mn) : Prop where
  eq : j = ⟨i1, i2⟩
  fst : L[i1]? = some a
  snd : L[i2]? = some b
  boxA : S.boxOk a.leg = true
  boxB : S.boxOk b.leg = true
  sizeA : S.size a.size = true
  sizeB : S.size b.size = true
  over : b.leg.lo.x ≤ a.leg.hi.x
def PairsOk (L : List Mn) (js : List Jn) : Prop := ∀ j, j ∈ js → ∃ i1 i2 a b, PairOk L j i1 i2 a b
theorem pairs_of {x : Dt} {td : Bool} (h : S.look x td = true) : PairsOk (S.mains (bars x.bs) x.rs) x.js := by
  intro j hj
  obtain ⟨k, hk, rfl⟩ := List.mem_iff_getElem.1 hj
  obtain ⟨i1, i2, a, b, h1, h2, h3, h4, h5, h6, h7, h8⟩ := look_pair h hk
  exact ⟨i1, i2, a, b, h1, h2, h3, h4, h5, h6, h7, h8⟩
theorem lessI_size {a b : Int} (ha : S.size a = true) (hb : S.size b = true) : S.size (S.lessI a b) = true := by
  unfold S.lessI
  split <;> assumption
theorem short_easy {m : Mem} {L : List Mn} {j : Jn} {i1 i2 : Nat} {a b : Mn} (h : PairOk L j i1 i2 a b) : S.shortL m S.easyR a b = (a.leg.hi.x == b.leg.lo.x) := by
  unfold S.shortL S.wants
  rw [easy_len (lessI_size h.sizeA h.sizeB)]
  have := h.over
  rw [Bool.eq_iff_iff]
  simp only [decide_eq_true_eq, beq_iff_eq]
  omega
theorem short_hard {m : Mem} {L : List Mn} {j : Jn} {i1 i2 : Nat} {a b : Mn} (h : PairOk L j i1 i2 a b) : S.shortL m S.hardR a b = true := by
  unfold S.shortL S.wants
  have h1 := hard_len (lessI_size h.sizeA h.sizeB) (S.poor m.boxes a.leg || S.poor m.boxes b.leg)
  have ha := boxOk_x h.boxA
  have hb := boxOk_x h.boxB
  rw [decide_eq_true_eq]
  omega
theorem short_rule {m : Mem} {r : Rule} (hr : S.rule r = true) {L : List Mn} {j : Jn} {i1 i2 : Nat} {a b : Mn} (h : PairOk L j i1 i2 a b) (he : S.shortL m S.easyR a b = true) : S.shortL m r a b = true := by
  rw [short_easy h] at he
  unfold S.shortL S.wants
  have h1 := some_len hr (lessI_size h.sizeA h.sizeB) (S.poor m.boxes a.leg || S.poor m.boxes b.leg)
  rw [decide_eq_true_eq]
  have := beq_iff_eq.1 he
  omega
theorem cnt_cons (k : Int) (m : Mem) (r : Rule) (L : List Mn) (j : Jn) (js : List Jn) : S.cnt k (S.lapFinds m r L (j :: js)) = S.cnt k (S.lapF m r L j) + S.cnt k (S.lapFinds m r L js) := by
  unfold S.cnt S.lapFinds
  rw [List.flatMap_cons, List.countP_append]
theorem flush_pair {L : List Mn} {j : Jn} {i1 i2 : Nat} {a b : Mn} (h : PairOk L j i1 i2 a b) : S.flush L j = (a.leg.hi.x == b.leg.lo.x) := by
  unfold S.flush
  rw [h.eq]
  simp only [Int.toNat_natCast]
  rw [h.fst, h.snd]
theorem lapF_of {m : Mem} {r : Rule} {L : List Mn} {j : Jn} {i1 i2 : Nat} {a b : Mn} (h : PairOk L j i1 i2 a b) : S.lapF m r L j = S.lapFind m r a b := by
  rw [h.eq]
  exact lapF_pair h.fst h.snd
/-- The law of the findings. -/
theorem finds_law (m : Mem) {r : Rule} (hr : S.rule r = true) {L : List Mn} : ∀ {js : List Jn}, PairsOk L js →
    S.cnt 2 (S.lapFinds m S.easyR L js) = S.cnt 2 (S.lapFinds m r L js) ∧ S.cnt 2 (S.lapFinds m S.hardR L js) = S.cnt 2 (S.lapFinds m r L js) ∧ S.cnt 1 (S.lapFinds m S.easyR L js) ≤ S.cnt 1 (S.lapFinds m r L js) ∧ S.cnt 1 (S.lapFinds m r L js) ≤ S.cnt 1 (S.lapFinds m S.hardR L js) ∧
    S.cnt 1 (S.lapFinds m S.easyR L js) = js.countP (S.flush L) ∧ S.cnt 1 (S.lapFinds m S.hardR L js) = js.length := by
  intro js
  induction js with
  | nil => intro _; simp [S.lapFinds, S.cnt]
  | cons j js ih =>
    intro h
    obtain ⟨h1, h2, h3, h4, h5, h6⟩ := ih (fun j' hj' => h j' (List.mem_cons_of_mem _ hj'))
    obtain ⟨i1, i2, a, b, hp⟩ := h j List.mem_cons_self
    simp only [cnt_cons, lapF_of hp, cnt_one, cnt_two, List.countP_cons, List.length_cons, flush_pair hp]
    have e1 := short_easy (m := m) hp
    have e2 := short_hard (m := m) hp
    have e3 := short_rule (m := m) hr hp
    rw [← e1, e2]
    refine ⟨by omega, by omega, ?_, ?_, by omega, ?_⟩
    · split
      · rename_i hs
        rw [if_pos (e3 hs)]
        omega
      · omega
    · simp only [if_true]
      split <;> omega
    · simp only [if_true]
      omega
end Go.Proofs.YtffkmgjmlahfpaaGreat
set_option linter.unusedVariables false
set_option linter.unusedSimpArgs false
namespace Go.Proofs.YtffkmgjmlahfpaaGreat
open Go.RowKit

theorem rsz_any (n : Int) (w : World) (h0 : 0 ≤ n) (h1 : n ≤ 1152921504606846976) :
    Calls Tryz.prog 127 #[.int .i64 n] w fun e w' => e = .returned (.int .u64 n) ∧ w = w' := by
  have e := PlainAid.u64_nonneg h0 (by omega)
  go_enter Tryz.func127, Tryz.ntmps127
  go_wp2
  go_ret
  exact ⟨rfl, rfl⟩
def gcdI (a b : Int) : Int := ((Nat.gcd a.toNat b.toNat : Nat) : Int)
theorem gcd_step (x y : Nat) (hy : 0 < y) : Nat.gcd y (x % y) = Nat.gcd x y := by
  rw [Nat.gcd_comm x y, Nat.gcd_rec y x, Nat.gcd_comm]
theorem gcd_any (a b : Nat) (w : World) (ha : a ≤ 1152921504606846976) (hb : b ≤ 1152921504606846976) :
    Calls Tryz.prog 128 #[.int .u64 a, .int .u64 b] w fun e w' => e = .returned (.int .u64 (Nat.gcd a b : Nat)) ∧ Below w.heap.size w w' := by
  go_enter Tryz.func128, Tryz.ntmps128
  go_wp2
  go_loopw [0, 1] (fun u v wr => ∃ x y : Nat, x ≤ 1152921504606846976 ∧ y ≤ 1152921504606846976 ∧ u = .int .u64 x ∧ v = .int .u64 y ∧ Hid (Nat.gcd x y = Nat.gcd a b) ∧ Below w.heap.size w wr) (fun _ v _ => (intOf v).toNat)
  case atStart => exact ⟨a, b, ha, hb, rfl, rfl, Lib.hid rfl, Below.refl _ _⟩
  case round =>
    obtain ⟨x, y, hx, hy, rfl, rfl, hg, hbr⟩ := hrel
    by_cases h0 : y = 0
    · have hz : (((y : Nat) : Int) != 0) = false := by simp [h0]
      have hg2 := Lib.hid h0
      clear h0
      go_wp2
      go_ret
      refine ⟨?_, (by repeat (first | exact Below.refl _ _ | assumption | refine ba_alloc ?_ _ | refine ba_drew ?_ | refine ba_drewN ?_ _ | refine ba_via (by assumption) ?_ | (refine ba_set ?_ ?_ _; rotate_left; (first | omega | (simp; omega) | simp))))⟩
      have h := hg.out
      rw [hg2.out, Nat.gcd_zero_right] at h
      simp [h]
    · have hz : (((y : Nat) : Int) != 0) = true := by simp; omega
      have hz' : (((y : Nat) : Int) == 0) = false := by simp; omega
      have hlt := Nat.mod_lt x (show 0 < y by omega)
      have hm : ((x : Int) % (y : Int)) = ((x % y : Nat) : Int) := by omega
      go_wp2_with fail
      go_quiet (fail)
      go_wp2
      go_roundw
      case rel => exact ⟨y, x % y, hy, by omega, rfl, rfl, Lib.hid ((gcd_step x y (by omega)).trans hg.out), (by repeat (first | exact Below.refl _ _ | assumption | refine ba_alloc ?_ _ | refine ba_drew ?_ | refine ba_drewN ?_ _ | refine ba_via (by assumption) ?_ | (refine ba_set ?_ ?_ _; rotate_left; (first | omega | (simp; omega) | simp))))⟩
      case measure => simp [intOf]; omega
theorem signed_any (a b : Int) (w : World) (ha0 : 0 ≤ a) (ha : a ≤ 1152921504606846976) (hb0 : 0 ≤ b) (hb : b ≤ 1152921504606846976) :
    Calls Tryz.prog 129 #[.bool false, .int .u64 a, .int .u64 b] w fun e w' => e = .returned (.tuple #[.agg #[.int .i64 a, .int .i64 b], .int .i64 0]) ∧ Below w.heap.size w w' := by
  go_enter Tryz.func129, Tryz.ntmps129
  go_wp2
  go_returns
  exact ⟨rfl, (by repeat (first | exact Below.refl _ _ | assumption | refine ba_alloc ?_ _ | refine ba_drew ?_ | refine ba_drewN ?_ _ | refine ba_via (by assumption) ?_ | (refine ba_set ?_ ?_ _; rotate_left; (first | omega | (simp; omega) | simp))))⟩
theorem gcdI_pos {n d : Int} (h : 1 ≤ d) : 1 ≤ gcdI n d := by
  have : 0 < Nat.gcd n.toNat d.toNat := Nat.gcd_pos_of_pos_right _ (by omega)
  unfold gcdI
  omega
theorem gcdI_le {n d : Int} (h : 1 ≤ d) : gcdI n d ≤ d := by
  have := Nat.gcd_le_right n.toNat (show 0 < d.toNat by omega)
  unfold gcdI
  omega
theorem div_bd {n g : Int} (h0 : 0 ≤ n) (hg : 1 ≤ g) : 0 ≤ n / g ∧ n / g ≤ n := ⟨Int.ediv_nonneg h0 (by omega), Int.ediv_le_self _ h0⟩
set_option maxRecDepth 10000 in
set_option maxHeartbeats 1000000 in
theorem make_any (n d : Int) (w : World) (h0 : 0 ≤ n) (h1 : n ≤ 1152921504606846976) (hd0 : 1 ≤ d) (hd : d ≤ 1152921504606846976) :
    Calls Tryz.prog 71 #[.int .i64 n, .int .i64 d] w fun e w' => e = .returned (.tuple #[.agg #[.int .i64 (n / gcdI n d), .int .i64 (d / gcdI n d)], .int .i64 0]) ∧ Below w.heap.size w w' := by
  have g1 := gcdI_pos (n := n) hd0
  have g2 := gcdI_le (n := n) hd0
  have gz : (gcdI n d == 0) = false := by simp; omega
  have q1 := div_bd h0 g1
  have q2 := div_bd (show 0 ≤ d by omega) g1
  have dz : (d == 0) = false := by simp; omega
  have hG : ∀ w : World, Calls Tryz.prog 128 #[.int .u64 n, .int .u64 d] w fun e w' => e = .returned (.int .u64 (gcdI n d)) ∧ Below w.heap.size w w' := fun w => by
    have := gcd_any n.toNat d.toNat w (by omega) (by omega)
    rw [Int.toNat_of_nonneg h0, Int.toNat_of_nonneg (by omega)] at this
    exact this
  have HG := Lib.hid hG
  clear hG
  have hn : decide (n < 0) = false := by simp; omega
  have hdn : decide (d < 0) = false := by simp; omega
  by_cases hz : n = 0
  · have nz : (n != 0) = false := by simp [hz]
    have HZ := Lib.hid hz
    clear hz
    go_enter Tryz.func71, Tryz.ntmps71
    go_wp2_with (first
      | (go_at_call 127; (with_reducible refine (rsz_any _ _ (by omega) (by omega)).mono ?_); rintro e w' ⟨rfl, rfl⟩)
      | (go_at_call 128; (with_reducible refine (HG.out _).mono ?_); rintro e w1 ⟨rfl, hbw1⟩; obtain ⟨hcw1, hfw1⟩ := bcell hbw1; have hzw1_0 : w.heap.size < w1.heap.size := lt_via hbw1 (by first | omega | (simp; done) | (simp; omega))))
    refine wp_region_grow_tail 18 (by kernel_rfl) (by kernel_rfl) ?_
    simp only [List.take_succ_cons, List.take_zero, List.drop_succ_cons, List.drop_zero]
    repeat (go_big_quiet_step ((go_at_call 129; exact grow_of (signed_any _ _ _ q1.1 (by omega) q2.1 (by omega)))))
    all_goals (refine wpQuiet_nil ?_; intro w2 hbw2; obtain ⟨hcw2, hfw2⟩ := bcell hbw2; have hzw2_0 : w.heap.size < w2.heap.size := lt_via hbw2 (by first | omega | (simp; done) | (simp; omega)))
    go_wp2
    exact bodyPost_ret (v := .tuple #[.agg #[.int .i64 (n / gcdI n d), .int .i64 (d / gcdI n d)], .int .i64 0]) (by simp [results, Tryz.results71, go_sem, *]) rfl ⟨rfl, (by repeat (first | exact Below.refl _ _ | assumption | refine ba_alloc ?_ _ | refine ba_drew ?_ | refine ba_drewN ?_ _ | refine ba_via (by assumption) ?_ | (refine ba_set ?_ ?_ _; rotate_left; (first | omega | (simp; omega) | simp))))⟩
  · have nz : (n != 0) = true := by simpa using hz
    go_enter Tryz.func71, Tryz.ntmps71
    go_wp2_with (first
      | (go_at_call 127; (with_reducible refine (rsz_any _ _ (by omega) (by omega)).mono ?_); rintro e w' ⟨rfl, rfl⟩)
      | (go_at_call 128; (with_reducible refine (HG.out _).mono ?_); rintro e w1 ⟨rfl, hbw1⟩; obtain ⟨hcw1, hfw1⟩ := bcell hbw1; have hzw1_0 : w.heap.size < w1.heap.size := lt_via hbw1 (by first | omega | (simp; done) | (simp; omega))))
    refine wp_region_grow_tail 18 (by kernel_rfl) (by kernel_rfl) ?_
    simp only [List.take_succ_cons, List.take_zero, List.drop_succ_cons, List.drop_zero]
    repeat (go_big_quiet_step ((go_at_call 129; exact grow_of (signed_any _ _ _ q1.1 (by omega) q2.1 (by omega)))))
    all_goals (refine wpQuiet_nil ?_; intro w2 hbw2; obtain ⟨hcw2, hfw2⟩ := bcell hbw2; have hzw2_0 : w.heap.size < w2.heap.size := lt_via hbw2 (by first | omega | (simp; done) | (simp; omega)))
    go_wp2
    exact bodyPost_ret (v := .tuple #[.agg #[.int .i64 (n / gcdI n d), .int .i64 (d / gcdI n d)], .int .i64 0]) (by simp [results, Tryz.results71, go_sem, *]) rfl ⟨rfl, (by repeat (first | exact Below.refl _ _ | assumption | refine ba_alloc ?_ _ | refine ba_drew ?_ | refine ba_drewN ?_ _ | refine ba_via (by assumption) ?_ | (refine ba_set ?_ ?_ _; rotate_left; (first | omega | (simp; omega) | simp))))⟩
end Go.Proofs.YtffkmgjmlahfpaaGreat
set_option linter.unusedVariables false
set_option linter.unusedSimpArgs false
namespace Go.Proofs.YtffkmgjmlahfpaaGreat
open Go.RowKit
def S.inLap (at_ : Int) (a b : Mn) : Bool := decide (b.leg.lo.x ≤ at_) && decide (at_ ≤ a.leg.hi.x)
def S.lapOver (L : List Mn) (at_ : Int) (j : Jn) : Bool := match L[j.first.toNat]?, L[j.second.toNat]? with | some a, some b => S.inLap at_ a b | _, _ => false
def S.onBar (at_ : Int) (m : Mn) : Bool := m.has && (decide (m.leg.lo.x ≤ at_) && decide (at_ ≤ m.leg.hi.x))
def S.barAtX (L : List Mn) (at_ : Int) (i : Int) : Bool := match L[i.toNat]? with | some m => S.onBar at_ m | none => false
def S.lapsAt (L : List Mn) (at_ : Int) (js : List Jn) : Nat := js.countP (S.lapOver L at_)
def S.chainsAt (L : List Mn) (at_ : Int) (C : List (List Int)) : Nat := C.countP (fun c => c.any (S.barAtX L at_))
theorem lapAt_pair {L : List Mn} {at_ : Int} {j : Jn} {i1 i2 : Nat} {a b : Mn} (hj : j = ⟨i1, i2⟩) (h1 : L[i1]? = some a) (h2 : L[i2]? = some b) : S.lapOver L at_ j = S.inLap at_ a b := by
  unfold S.lapOver
  rw [hj]
  simp only [Int.toNat_natCast]
  rw [h1, h2]
theorem barAtX_of {L : List Mn} {at_ : Int} {i : Nat} {m : Mn} (h : L[i]? = some m) : S.barAtX L at_ (i : Int) = S.onBar at_ m := by
  unfold S.barAtX
  simp only [Int.toNat_natCast]
  rw [h]
theorem lapsAt_le (L : List Mn) (at_ : Int) (js : List Jn) : S.lapsAt L at_ js ≤ js.length := List.countP_le_length
theorem chainsAt_le (L : List Mn) (at_ : Int) (C : List (List Int)) : S.chainsAt L at_ C ≤ C.length := List.countP_le_length
theorem lapsAt_succ {L : List Mn} {at_ : Int} {js : List Jn} {k : Nat} (hk : k < js.length) : S.lapsAt L at_ (js.take (k + 1)) = S.lapsAt L at_ (js.take k) + if S.lapOver L at_ js[k] = true then 1 else 0 := by
  unfold S.lapsAt
  rw [List.take_succ_eq_append_getElem hk, List.countP_append]
  simp [List.countP_cons]
theorem chainsAt_succ {L : List Mn} {at_ : Int} {C : List (List Int)} {k : Nat} (hk : k < C.length) : S.chainsAt L at_ (C.take (k + 1)) = S.chainsAt L at_ (C.take k) + if C[k].any (S.barAtX L at_) = true then 1 else 0 := by
  unfold S.chainsAt
  rw [List.take_succ_eq_append_getElem hk, List.countP_append]
  simp [List.countP_cons]
theorem any_no {l : List Int} {p : Int → Bool} (h : ∀ m (hm : m < l.length), p l[m] = false) : l.any p = false := by
  rw [List.any_eq_false]
  intro a ha
  obtain ⟨m, hm, rfl⟩ := List.mem_iff_getElem.1 ha
  simp [h m hm]
theorem any_at {l : List Int} {p : Int → Bool} {m : Nat} (hm : m < l.length) (h : p l[m] = true) : l.any p = true := List.any_eq_true.2 ⟨_, List.getElem_mem hm, h⟩
/-- Chains as data: each bar is one of the laid ones. -/
structure ChsIn (n : Nat) (C : List (List Int)) : Prop where
  len : C.length ≤ 2000
  each : ∀ c, c ∈ C → c.length ≤ 2001
  bar : ∀ c, c ∈ C → ∀ i, i ∈ c → 0 ≤ i ∧ i < n
theorem chs_in {js : List Jn} {n : Nat} {rank : Int → Nat} (h : LapsGood js n rank) (hn : n ≤ 2000) : ChsIn n (S.chains js n) := by
  refine ⟨Nat.le_trans (chains_le js n n) hn, fun c hc => ?_, fun c hc i hi => ?_⟩
  · unfold S.chains S.chainsTo at hc
    obtain ⟨q, _, hq⟩ := List.mem_map.1 hc
    have := chainOf_le (S.nextF js) n q
    rw [hq] at this
    omega
  · unfold S.chains S.chainsTo at hc
    obtain ⟨q, hq, hqc⟩ := List.mem_map.1 hc
    have hq2 := List.mem_range.1 (List.mem_filter.1 hq).1
    rw [← hqc] at hi
    exact h.mem_range ⟨by omega, by omega⟩ hi
/-- What Share hands back: the fraction's numbers, and the error. -/
structure ShareR (pl : Bool) (n all : Nat) (v0 v1 er : Int) : Prop where
  no : pl = false → v0 = 0 ∧ v1 = 0 ∧ er = 2
  none : pl = true → all = 0 → v0 = 0 ∧ v1 = 0 ∧ er = 16
  some : pl = true → ¬ all = 0 → v0 = (n : Int) / gcdI n all ∧ v1 = (all : Int) / gcdI n all ∧ er = 0
theorem share_is (pl : Bool) (n all : Nat) : ∃ v0 v1 er, ShareR pl n all v0 v1 er := by
  cases pl
  · exact ⟨0, 0, 2, fun _ => ⟨rfl, rfl, rfl⟩, fun h => (by cases h), fun h => (by cases h)⟩
  · by_cases h0 : all = 0
    · exact ⟨0, 0, 16, fun h => (by cases h), fun _ _ => ⟨rfl, rfl, rfl⟩, fun _ h => (h h0).elim⟩
    · exact ⟨_, _, 0, fun h => (by cases h), fun _ h => (h0 h).elim, fun _ _ => ⟨rfl, rfl, rfl⟩⟩
end Go.Proofs.YtffkmgjmlahfpaaGreat
set_option linter.unusedVariables false
set_option linter.unusedSimpArgs false
namespace Go.Proofs.YtffkmgjmlahfpaaGreat
open Go.RowKit
theorem forms_set2 {w0 w : World} {b : Nat} {T : TypeId} {z0 z1 : Value} (h0 : Below w0.heap.size w0 w) (hl : w0.heap.size ≤ b) (hb : Blk w b T #[z0, z1]) (v0 v1 : Value) :
    ∃ W, ((w.setCell ⟨b, 0, none⟩ v0).setCell ⟨b, 1, none⟩ v1) = W ∧ Below w0.heap.size w0 W ∧ Blk W b T #[v0, v1] := by
  refine ⟨_, rfl, ba_set (ba_set h0 hl _) hl _, ?_⟩
  have := (hb.set 0 v0).set 1 v1
  simpa only [List.setIfInBounds_toArray, List.set_cons_zero, List.set_cons_succ] using this
theorem wpList_load_gdF {P : Program} {ops : Array Oper} {rest : List Oper} {op : Oper} {a : Act} {w : World} {Q : Exit → Act → World → Prop} (hw : Region.wanted op (yielded ops a.tmps) = true) (ty : TypeId) (x : Operand) (ho : op.op = .load ty x)
    (b o : Nat) (hx : a.eval x = .pointer (some ⟨b, o, none⟩)) (cs : List Value) (d : TypeDesc) (hc : w.rangeAt b o cs)
    (hu : P.underlying ty = some d) (hd : d.isRow = true) (hi : (P.info? ty).map (·.size) = some cs.length)
    (h : wpList P ops Q rest (a.put op.dst (.agg cs.toArray)) w) : wpList P ops Q (op :: rest) a w := by
  unfold wpList
  rw [if_pos hw]
  exact .inl (wp_load_mid ty x ho b o hx cs d hc hu hd hi h)
theorem quietBy {w : World} {b o : Nat} {cs : List Value} (h : ∀ W, Below w.heap.size w W → W.rangeAt b o cs) : ∀ W, (∃ g, W = grow w g) → W.rangeAt b o cs := by
  rintro W ⟨g, rfl⟩
  exact h _ (grow_below _ _)
/-- A whole struct read in the quiet part of a region that draws its order. -/
theorem quietLoad {P : Program} {ops : Array Oper} {C : World → Prop} {Q : Act → Prop} {rest : List Oper} {op : Oper} {a : Act} (hw : Region.wanted op (yielded ops a.tmps) = true) (ty : TypeId) (x : Operand) (ho : op.op = .load ty x)
    (b o : Nat) (hx : a.eval x = .pointer (some ⟨b, o, none⟩)) (cs : List Value) (d : TypeDesc) (hS : ∀ w, C w → w.rangeAt b o cs)
    (hu : P.underlying ty = some d) (hd : d.isRow = true) (hi : (P.info? ty).map (·.size) = some cs.length)
    (h : ∀ a', a.put op.dst (.agg cs.toArray) = a' → wpQuiet P ops C Q rest a') : wpQuiet P ops C Q (op :: rest) a := by
  unfold wpQuiet
  rw [if_pos hw]
  refine ⟨.agg cs.toArray, fun w hw' => ?_, h _ rfl⟩
  unfold Oper.quietAt execOp
  simp only [ho, hx, Instr.loadAt, Instr.sureAddr, Sem.run_bind, Sem.run_pure, Result.andThen_ok, run_loadVar_mid w b o ty cs d (hS w hw') hu hd hi]
  exact ⟨rfl, rfl⟩
end Go.Proofs.YtffkmgjmlahfpaaGreat
set_option linter.unusedVariables false
set_option linter.unusedSimpArgs false
namespace Go.Proofs.YtffkmgjmlahfpaaGreat
open Go.RowKit
theorem rup_any (n p q : Int) (w : World) (h2 : 1 ≤ q) (h3 : q ≤ 1000000) (hlo : 0 ≤ n * p) (hp : n * p ≤ 4611686018427387904) :
    Calls Tryz.prog 131 #[.int .i64 n, .int .i64 p, .int .i64 q] w fun e w' => e = .returned (.int .i64 (S.up n p q)) ∧ w = w' := by
  have hq : (q == 0) = false := by simp; omega
  go_enter Tryz.func131, Tryz.ntmps131
  go_wp2
  go_ret
  exact ⟨rfl, rfl⟩
theorem rbasic_any (r : Rule) (d : Int) (w : World) (hr : RuleOk r) (h0 : 0 ≤ d) (h1 : d ≤ 40) :
    Calls Tryz.prog 193 #[ruleV r, .int .i64 d] w fun e w' => e = .returned (.int .i64 (S.basic r d)) ∧ Below w.heap.size w w' := by
  have H := Lib.hid (basic_eq r d)
  have hp := mul_bd h0 h1 (by have := hr.num; omega) hr.num.2
  have hd := hr.den
  unfold ruleV
  go_enter Tryz.func193, Tryz.ntmps193
  go_wp2_with (go_at_call 131; refine (rup_any _ _ _ _ ?_ ?_ ?_ ?_).mono ?_; (· omega); (· omega); (· omega); (· omega); rintro e w1 ⟨rfl, rfl⟩)
  all_goals (go_ret; exact ⟨ret_i (by rw [H.out]; omega), by go_grown⟩)
theorem rlength_any (r : Rule) (d : Int) (poor bent : Bool) (w : World) (hr : RuleOk r) (h0 : 0 ≤ d) (h1 : d ≤ 40) :
    Calls Tryz.prog 132 #[ruleV r, .int .i64 d, .bool poor, .bool bent] w fun e w' => e = .returned (.int .i64 (S.length r d poor bent)) ∧ Below w.heap.size w w' := by
  have b1 := basic_bd hr h0 h1
  have hd := hr.pden
  have hd2 := hr.bden
  have m1 := mul_bd b1.1 b1.2 (by have := hr.pnum; omega) hr.pnum.2
  have b2 : 0 ≤ S.up (S.basic r d) r.pnum r.pden ∧ S.up (S.basic r d) r.pnum r.pden ≤ 40000000 := poorUp_bd hr true b1.1 b1.2
  have m2 := mul_bd b2.1 b2.2 (by have := hr.bnum; omega) hr.bnum.2
  have m3 := mul_bd b1.1 b1.2 (by have := hr.bnum; omega) hr.bnum.2
  cases poor <;> cases bent
  all_goals
    have H := Lib.hid (fun n => max_eq r n)
    unfold ruleV
    go_enter Tryz.func132, Tryz.ntmps132
    go_wp2_with (first
      | (go_at_call 193; refine (rbasic_any r d _ hr h0 h1).mono ?_; rintro e w1 ⟨rfl, hb1⟩; obtain ⟨hc, hf⟩ := bcell hb1)
      | (go_at_call 131; refine (rup_any _ _ _ _ ?_ ?_ ?_ ?_).mono ?_; (· omega); (· omega); (· omega); (· omega); rintro e w2 ⟨rfl, rfl⟩))
    all_goals (go_ret; exact ⟨ret_i (by simp only [S.length, S.poorUp, S.bentUp, ← H.out, if_true, if_false, Bool.false_eq_true]; omega), via hb1 (by go_grown) (Nat.le_refl _)⟩)
end Go.Proofs.YtffkmgjmlahfpaaGreat
set_option linter.unusedVariables false
set_option linter.unusedSimpArgs false
namespace Go.Proofs.YtffkmgjmlahfpaaGreat
open Go.RowKit
section
variable {P : Program} {ops : Array Oper} {md : Region.Mode} {w0 : World}
/-- The world has grown, no more. -/
def Gw (w w' : World) : Prop := Below w.heap.size w w'
theorem Gw.refl (w : World) : Gw w w := Below.refl _ _
theorem Gw.trans {w w' w'' : World} (h : Gw w w') (h' : Gw w' w'') : Gw w w'' := ba_via h' h
abbrev Cg (w0 w' : World) : Prop := ∃ g, w' = grow w0 g
theorem cg_iff {w' : World} : Cg w0 w' ↔ Gw w0 w' := by
  constructor
  · rintro ⟨g, rfl⟩; exact grow_below w0 g
  · intro h; exact ⟨w', (grow_eq h).symm⟩
theorem wpOp_slot {i : Nat} {oi oj : Oper} {v : Value} (hi : ops[i]? = some oi) (hap : oi.apart ops oj = true) (hsi : ∀ cs b, oi.op ≠ .select cs b) {K K' : Act → World → Prop} {a : Act} {w : World}
    (hK : ∀ a' w', K a' w' → K' (a'.put oj.dst v) w') (h : wpOp P ops stopPost i K a w) : wpOp P ops stopPost i K' (a.put oj.dst v) w := by
  obtain ⟨h3, h2, h1⟩ := Oper.apart_spec hap
  have h2' : ∀ d, oj.dst = some d → oi.dst ≠ some d := fun d hd he => h2 d he hd
  unfold wpOp at *
  simp only [hi] at *
  rw [wanted_put oi a oj.dst v h1]
  split
  · rename_i hw
    simp only [hw, if_true] at h
    rcases h with h | ⟨hasks, hlets⟩
    case inr => exact (lets_stop hlets).elim
    refine .inl ?_
    unfold Oper.wp at *
    rw [execOp_put oi hsi a oj.dst v h1]
    generalize (execOp a.eval oi).run P w = r at *
    cases r with
    | ok n w' =>
      cases n <;> simp only [Oper.upon] at h ⊢
      case value u => rw [Act.put_comm a v u h2']; exact hK _ _ h
      case skip => rw [Act.put_comm a v undef h2']; exact hK _ _ h
      case defer d =>
        have := hK _ _ h
        rw [← Act.put_comm _ v undef h2', ← Act.put_defers] at this
        exact this
      case enter f args =>
        refine Calls.mono h fun e w'' he => ?_
        cases e with
        | returned u =>
          simp only [] at he ⊢
          rw [Act.put_comm a v u h2']; exact hK _ _ he
        | panicked c => exact he
        | outgrown => exact he
      case row row args => exact Rows.mono h fun u w'' he => by rw [Act.put_comm a v u h2']; exact hK _ _ he
    | halt x w' =>
      cases x <;> simp only [Oper.upon] at h ⊢
      case panic u => exact h
  · rename_i hw
    simp only [hw] at h
    rw [Act.put_comm a v undef h2']
    exact hK _ _ h
/-- The operations of R that are not listed yet, in the order of the text; ahead of each one that makes memory the world may have grown. -/
def wpFr (P : Program) (ops : Array Oper) (w0 : World) (ks : Nat → Bool) (K : Act → World → Prop) (listed : Array Bool) : List Nat → Act → World → Prop
  | [], a, w => K a w
  | i :: R, a, w => if listed.getD i false = true then wpFr P ops w0 ks K listed R a w
    else if ks i = true then ∀ w', Cg w0 w' → Gw w w' → wpOp P ops stopPost i (fun a' w'' => Gw w' w'' ∧ wpFr P ops w0 ks K listed R a' w'') a w'
    else qOp P ops (Cg w0) i (fun a' => wpFr P ops w0 ks K listed R a' w) a
theorem wpFr_congr {ks : Nat → Bool} {K : Act → World → Prop} {l1 l2 : Array Bool} : ∀ {R : List Nat}, (∀ i, i ∈ R → l1.getD i false = l2.getD i false) → wpFr P ops w0 ks K l1 R = wpFr P ops w0 ks K l2 R := by
  intro R
  induction R with
  | nil => intro _; rfl
  | cons i R ih =>
    intro h
    have e := ih (fun i hi => h i (List.mem_cons_of_mem _ hi))
    funext a w
    simp only [wpFr, e, h i List.mem_cons_self]
theorem wpFr_weak {ks : Nat → Bool} {K : Act → World → Prop} {listed : Array Bool} (hK : ∀ a w w', K a w → Gw w w' → K a w') : ∀ {R : List Nat} {a : Act} {w w' : World}, wpFr P ops w0 ks K listed R a w → Gw w w' → wpFr P ops w0 ks K listed R a w' := by
  intro R
  induction R with
  | nil => intro a w w' h hg; exact hK a w w' h hg
  | cons i R ih =>
    intro a w w' h hg
    simp only [wpFr] at h ⊢
    split
    · rename_i hl; rw [if_pos hl] at h; exact ih h hg
    · rename_i hl
      rw [if_neg hl] at h
      split
      · rename_i hk; rw [if_pos hk] at h
        exact fun w'' hc hg' => h w'' hc (hg.trans hg')
      · rename_i hk; rw [if_neg hk] at h
        exact qOp_mono (fun a' h' => ih h' hg) h
/-- The fresh variable may be made at any time. -/
theorem wpFr_slot {ks : Nat → Bool} {K K' : Act → World → Prop} {listed : Array Bool} {oj : Oper} {v : Value} (hsel : ∀ (j : Nat) (o : Oper) cs b, ops[j]? = some o → o.op ≠ .select cs b) (hK : ∀ a w, K a w → K' (a.put oj.dst v) w) :
    ∀ {R : List Nat}, (∀ i, i ∈ R → ∃ oi, ops[i]? = some oi ∧ oi.apart ops oj = true) → ∀ {a : Act} {w : World}, wpFr P ops w0 ks K listed R a w → wpFr P ops w0 ks K' listed R (a.put oj.dst v) w := by
  intro R
  induction R with
  | nil => intro _ a w h; exact hK a w h
  | cons i R ih =>
    intro hR a w h
    have ih' := fun {a : Act} {w : World} => ih (fun k hk => hR k (List.mem_cons_of_mem _ hk)) (a := a) (w := w)
    obtain ⟨oi, hoi, hap⟩ := hR i List.mem_cons_self
    simp only [wpFr] at h ⊢
    split
    · rename_i hl; rw [if_pos hl] at h; exact ih' h
    · rename_i hl
      rw [if_neg hl] at h
      split
      · rename_i hk; rw [if_pos hk] at h
        exact fun w' hc hg => wpOp_slot hoi hap (fun cs b => hsel i oi cs b hoi) (fun a' w'' hh => ⟨hh.1, ih' hh.2⟩) (h w' hc hg)
      · rename_i hk; rw [if_neg hk] at h
        obtain ⟨u, hy, hn⟩ := yieldsIn_of_qOp hoi h
        obtain ⟨h3, h2, h1⟩ := Oper.apart_spec hap
        have h2' : ∀ d, oj.dst = some d → oi.dst ≠ some d := fun d hd he => h2 d he hd
        have hy' : YieldsIn P ops (Cg w0) oi u (a.put oj.dst v) := hy.of_same (execOp_put oi (fun cs b => hsel i oi cs b hoi) a oj.dst v h1) (wanted_put oi a oj.dst v h1)
        refine hy'.qOp hoi ?_
        rw [Act.put_comm a v u h2']
        exact ih' hn
theorem pullF {ks : Nat → Bool} {K : Act → World → Prop} (hsel : ∀ (j : Nat) (o : Oper) cs b, ops[j]? = some o → o.op ≠ .select cs b) (hcalm : ∀ i o, ops[i]? = some o → ks i = false → calmB o = true)
    {listed : Array Bool} {j : Nat} {oj : Oper} (hj : ops[j]? = some oj) (hjl : listed.getD j false = false) (hjs : j < listed.size) :
    ∀ R : List Nat, R.Pairwise (· < ·) → j ∈ R → (∀ i, i ∈ R → i < j → listed.getD i false = false → (ks j = false ∨ ks j = true) → ∃ oi, ops[i]? = some oi ∧ oi.apart ops oj = true) → (ks j = true → ∀ i, i ∈ R → i < j → listed.getD i false = false → ks i = false) →
    ∀ (a : Act) (w : World), Cg w0 w → wpFr P ops w0 ks K listed R a w → if ks j = true then ∀ w', Cg w0 w' → Gw w w' → wpOp P ops stopPost j (fun a' w'' => Gw w' w'' ∧ wpFr P ops w0 ks K (listed.setIfInBounds j true) R a' w'') a w' else qOp P ops (Cg w0) j (fun a' => wpFr P ops w0 ks K (listed.setIfInBounds j true) R a' w) a := by
  intro R
  induction R with
  | nil => intro _ h; cases h
  | cons i R ih =>
    intro hp hm hap hch a w hC h
    have hjt : (listed.setIfInBounds j true).getD j false = true := by simp [Array.getD_eq_getD_getElem?, hjs]
    obtain ⟨hlt, hpR⟩ := List.pairwise_cons.1 hp
    by_cases hij : i = j
    · subst hij
      have hni : i ∉ R := fun hi => absurd (hlt i hi) (Nat.lt_irrefl _)
      have e : wpFr P ops w0 ks K (listed.setIfInBounds i true) (i :: R) = wpFr P ops w0 ks K listed R := by
        funext a w
        simp only [wpFr, hjt, if_true]
        rw [wpFr_congr (fun k hk => getD_set_ne false (fun (e : i = k) => hni (by rw [e]; exact hk)))]
      rw [e]
      simp only [wpFr, hjl, Bool.false_eq_true, if_false] at h
      exact h
    · have hjR : j ∈ R := by
        rcases List.mem_cons.1 hm with h1 | h1
        · exact absurd h1.symm hij
        · exact h1
      have hi_lt := hlt j hjR
      have ih' := ih hpR hjR (fun k hk => hap k (List.mem_cons_of_mem _ hk)) (fun h k hk => hch h k (List.mem_cons_of_mem _ hk))
      have hset : (listed.setIfInBounds j true).getD i false = listed.getD i false := getD_set_ne false (fun e => hij e.symm)
      by_cases hl : listed.getD i false = true
      · simp only [wpFr, hset, hl, if_true] at h ⊢
        exact ih' a w hC h
      · have hl' : listed.getD i false = false := by simpa using hl
        obtain ⟨oi, hoi, hapi⟩ := hap i List.mem_cons_self hi_lt hl' (by cases ks j <;> simp)
        simp only [wpFr, hset, hl', Bool.false_eq_true, if_false] at h ⊢
        by_cases hk : ks i = true
        · have hkj : ks j = false := by
            cases hkj : ks j with
            | false => rfl
            | true =>
              have := hch hkj i List.mem_cons_self hi_lt hl'
              rw [hk] at this
              cases this
          simp only [hkj, Bool.false_eq_true, if_false] at ih' ⊢
          rw [if_pos hk] at h
          obtain ⟨a0, u, w1, ⟨hG1, h1⟩, ha0⟩ := wpOp_some hoi (h w hC (Gw.refl w))
          obtain ⟨v, hy, _⟩ := yieldsIn_of_qOp hj (ih' _ _ (cg_iff.2 ((cg_iff.1 hC).trans hG1)) h1)
          obtain ⟨g1, g2, g3⟩ := Oper.apart_spec hapi
          have hy0 : YieldsIn P ops (Cg w0) oj v a0 := hy.of_same (execOp_put oj (fun cs b => hsel j oj cs b hj) a0 oi.dst u g1).symm (wanted_put oj a0 oi.dst u g1).symm
          have hya : YieldsIn P ops (Cg w0) oj v a := by
            rcases ha0 with rfl | ⟨d, rfl⟩
            · exact hy0
            · exact hy0.of_same rfl rfl
          refine hya.qOp hj ?_
          rw [if_pos hk]
          intro w' hC' hG'
          refine wpOp_back hoi hapi (fun cs b => hsel i oi cs b hoi) (fun cs b => hsel j oj cs b hj) hya (fun a' w'' hy' hh => ⟨hh.1, ?_⟩) (h w' hC' hG')
          have hC'' : Cg w0 w'' := cg_iff.2 ((cg_iff.1 hC').trans hh.1)
          obtain ⟨v', hv', hn⟩ := yieldsIn_of_qOp hj (ih' _ _ hC'' hh.2)
          rw [yields_one (hcalm j oj hj hkj) hC'' hy' hv']
          exact hn
        · have hk' : ks i = false := by simpa using hk
          simp only [hk', Bool.false_eq_true, if_false] at h ⊢
          obtain ⟨v, hy, hn⟩ := yieldsIn_of_qOp hoi h
          have h2 := ih' _ _ hC hn
          by_cases hkj : ks j = true
          · rw [if_pos hkj] at h2 ⊢
            intro w' hC' hG'
            refine wpOp_mono ?_ (wpOp_putC hj hapi (fun cs b => hsel i oi cs b hoi) (fun cs b => hsel j oj cs b hj) hy (h2 w' hC' hG'))
            rintro a' w'' ⟨hy', hg', hm'⟩
            exact ⟨hg', hy'.qOp hoi hm'⟩
          · rw [if_neg hkj] at h2 ⊢
            refine qOp_mono ?_ (qOp_put hj hapi (fun cs b => hsel i oi cs b hoi) (fun cs b => hsel j oj cs b hj) hy h2)
            rintro a' ⟨hy', hm'⟩
            exact hy'.qOp hoi hm'
/-- Operations that hand a slot's value on: the same value in every world. -/
def pureB (o : Oper) : Bool := match o.op with | .move _ | .assign _ | .extract _ _ => true | _ => false
theorem extract_any {v u : Value} {ix : Nat} {w w' : World} (h : (Instr.extract v ix).run P w = .ok u w') (W : World) : (Instr.extract v ix).run P W = .ok u W := by
  unfold Instr.extract at h ⊢
  split at h
  · split at h
    · simp only [Sem.run_pure, Result.ok.injEq] at h ⊢
      first | exact ⟨h.1, trivial⟩ | exact h.1
    · cases h
  · cases h
theorem pure_any {o : Oper} (hp : pureB o = true) {a : Act} {v : Value} {w w' : World} (h : (execOp a.eval o).run P w = .ok (.value v) w') (W : World) : (execOp a.eval o).run P W = .ok (.value v) W := by
  unfold pureB at hp
  unfold execOp at h ⊢
  split at hp
  all_goals (first | (rename_i ho; rw [ho] at h ⊢) | cases hp)
  · simp only [Sem.run_pure, Result.ok.injEq] at h ⊢
    exact ⟨h.1, trivial⟩
  · simp only [Sem.run_pure, Result.ok.injEq] at h ⊢
    exact ⟨h.1, trivial⟩
  · rw [Sem.run_bind] at h ⊢
    generalize hr : Instr.extract _ _ = I at h ⊢
    cases hx : I.run P w with
    | halt x w1 => rw [hx] at h; cases h
    | ok u w1 =>
      subst hr
      rw [hx] at h
      rw [extract_any hx W]
      have h' : Result.ok (Next.value u) w1 = Result.ok (Next.value v) w' := h
      injection h' with h1 h2
      injection h1 with h3
      subst h3
      rfl
theorem pure_yields {o : Oper} (hp : pureB o = true) (hc : calmB o = true) {a : Act} {v : Value} {w : World} (hw : Cg w0 w) (h : YieldsIn P ops (Cg w0) o v a) : Yields P ops o v a := by
  rcases h with ⟨h1, h2⟩ | ⟨h1, h2⟩
  · exact .inl ⟨h1, fun W => pure_any hp (calm_at hc (h2 w hw)) W⟩
  · exact .inr ⟨h1, h2⟩
theorem apart_comm {x y : Oper} (h : x.apart ops y = true) : y.apart ops x = true := by
  obtain ⟨h1, h2, h3⟩ := Oper.apart_spec h
  unfold Oper.apart
  rw [Bool.and_eq_true]
  constructor
  · cases hy : y.dst with
    | none => rfl
    | some d =>
      have a1 := h3 d hy
      have a2 : x.dst ≠ some d := fun e => h2 d e hy
      simp [a1, a2]
  · cases hx : x.dst with
    | none => rfl
    | some d =>
      have a1 := h1 d hx
      simp [a1]
/-- Each operation ahead of the tail is waited for; those in ls go free. -/
def sinkLB (md : Region.Mode) (ops : Array Oper) (n : Nat) (ls : List Nat) : Bool :=
  (List.range n).all fun i => ls.contains i || (List.range (n + 1)).any fun j => decide (i < j) && !ls.contains j && Region.waitsFor md ops j i
theorem tail_waitsL {n : Nat} {ls : List Nat} {listed : Array Bool} (hs : sinkLB md ops n ls = true) (hc : Region.chainB md ops n = true) (hn : n < ops.size) (inv : HeadInv md ops n listed) :
    ∀ (d i : Nat), n - i = d → ls.contains i = false → i < n → listed.getD i true = false → ∀ t, n ≤ t → t ∉ Region.ready md ops listed := by
  intro d
  induction d using Nat.strongRecOn with
  | _ d ih =>
    intro i hd hli hi hun t ht hr
    obtain ⟨_, ot, hot, hall⟩ := mem_ready.1 hr
    have htlt : t < ops.size := (Array.getElem?_eq_some_iff.1 hot).1
    by_cases htn : t = n
    · subst htn
      have h1 := List.all_eq_true.1 hs i (List.mem_range.2 hi)
      rw [hli, Bool.false_or] at h1
      obtain ⟨j, hj, hj2⟩ := List.any_eq_true.1 h1
      simp only [Bool.and_eq_true, decide_eq_true_eq, Bool.not_eq_true'] at hj2
      obtain ⟨oj, hoj, e, he, hb, hon⟩ := Region.waitsFor_spec hj2.2
      have hjle : j ≤ t := by have := List.mem_range.1 hj; omega
      by_cases hjt : j = t
      · subst hjt
        have : oj = ot := Option.some.inj (hoj.symm.trans hot)
        subst this
        have h2 := hall e he hb
        rw [hon, getD_both hun] at h2
        cases h2
      · cases hl : listed.getD j false with
        | true =>
          have h2 := inv.closed j oj hoj hl e he hb
          rw [hon, getD_both hun] at h2
          cases h2
        | false =>
          have hjs : j < listed.size := by rw [inv.size]; omega
          exact ih (t - j) (by omega) j rfl hj2.1.2 (by omega) (getD_in hjs hl) t (Nat.le_refl _) hr
    · have h1 := List.all_eq_true.1 hc t (List.mem_range.2 htlt)
      simp only [Bool.or_eq_true, decide_eq_true_eq] at h1
      rcases h1 with h1 | h1
      · omega
      · obtain ⟨o', ho', e, he, hb, hon⟩ := Region.waitsFor_spec h1
        have : o' = ot := Option.some.inj (ho'.symm.trans hot)
        subst this
        have h2 := hall e he hb
        rw [hon, getD_both (inv.tail (t - 1) (by omega) (by omega))] at h2
        cases h2
def mixFB (md : Region.Mode) (ops : Array Oper) (t f : Nat) (l ls : List Nat) : Bool :=
  ls.all (fun i => decide (i < f) && !l.contains i && (match ops[i]? with | some o => pureB o | none => false)) && Region.noSelect ops && decide (t < ops.size) && sinkLB md ops t ls && Region.chainB md ops t && apartAllB md ops && earlyB md ops.toList && linksB md ops l && (List.range f).all (fun i => l.contains i || (match ops[i]? with | some o => calmB o | none => true)) && Region.seqB md ops (ops.size - t) t (canonL t ops.size) && decide (t = f + 1) && (List.range f).all (fun i => !Region.waitsFor md ops f i)
def FrK (P : Program) (ops : Array Oper) (w0 : World) (Q : Exit → Act → World → Prop) (t : Nat) (of : Oper) (T : TypeId) (zs : Array Value) : Act → World → Prop := fun a w =>
  ∀ b w', Cg w0 w' → Gw w w' → w0.heap.size ≤ b → Blk w' b T zs → wpList P ops Q (ops.toList.drop t) (a.put of.dst (.pointer (some ⟨b, 0, none⟩))) w'
def FrB (P : Program) (ops : Array Oper) (w0 : World) (Q : Exit → Act → World → Prop) (t : Nat) (b : Nat) (T : TypeId) (zs : Array Value) : Act → World → Prop := fun a w =>
  ∀ w', Cg w0 w' → Gw w w' → Blk w' b T zs → wpList P ops Q (ops.toList.drop t) a w'
theorem mixF_any {Q : Exit → Act → World → Prop} {t f : Nat} {l ls : List Nat} {of : Oper} {T : TypeId} {zs : Array Value} (hQ : ∀ c a d v w, Q (.panic c) (Act.put a d v) w → Q (.panic c) a w) (hB : mixFB md ops t f l ls = true) (hof : ops[f]? = some of) (hg : of.guard = none)
    (hfr : ∀ (a : Act) (w : World), (execOp a.eval of).run P w = .ok (.value (.pointer (some ⟨w.heap.size, 0, none⟩))) (w.alloc (.cells zs T))) :
    ∀ (n : Nat) (listed : Array Bool) (a : Act) (w : World), listed.toList.count false = n → HeadInv md ops t listed → Cg w0 w →
      ((listed.getD f false = false ∧ wpFr P ops w0 (fun i => l.contains i || decide (f ≤ i)) (FrK P ops w0 Q t of T zs) listed (List.range f) a w) ∨
       (∃ b, listed.getD f false = true ∧ w0.heap.size ≤ b ∧ Blk w b T zs ∧ wpFr P ops w0 (fun i => l.contains i || decide (f ≤ i)) (FrB P ops w0 Q t b T zs) listed (List.range f) a w)) → wpAny P md ops Q n listed a w := by
  simp only [mixFB, Bool.and_eq_true, decide_eq_true_eq] at hB
  obtain ⟨⟨⟨⟨⟨⟨⟨⟨⟨⟨⟨hloo, hsel⟩, hn⟩, hs⟩, hc⟩, hap⟩, hear⟩, hl⟩, hcm⟩, hseq⟩, htf⟩, hfd⟩ := hB
  have hsel' := Region.noSelect_spec hsel
  have hcalm : ∀ i o, ops[i]? = some o → (l.contains i || decide (f ≤ i)) = false → calmB o = true := fun i o ho hk => by
    rw [Bool.or_eq_false_iff, decide_eq_false_iff_not] at hk
    rw [List.all_eq_true] at hcm
    have := hcm i (List.mem_range.2 (by omega))
    rw [hk.1, ho] at this
    simpa using this
  have hwf : ∀ i, i < f → Region.waitsFor md ops f i = false := fun i hi => by
    rw [List.all_eq_true] at hfd
    simpa using hfd i (List.mem_range.2 hi)
  have hKw : ∀ a w w', FrK P ops w0 Q t of T zs a w → Gw w w' → FrK P ops w0 Q t of T zs a w' := fun a w w' h hg b w'' hc' hg' => h b w'' hc' (hg.trans hg')
  have hBw : ∀ b a w w', FrB P ops w0 Q t b T zs a w → Gw w w' → FrB P ops w0 Q t b T zs a w' := fun b a w w' h hg w'' hc' hg' => h w'' hc' (hg.trans hg')
  intro n
  induction n with
  | zero =>
    intro listed a w hf inv hC h
    exfalso
    have h1 := inv.tail t (Nat.le_refl _) hn
    have h2 : t < listed.size := by rw [inv.size]; exact hn
    have h3 : listed[t] = false := by simpa [Array.getD_eq_getD_getElem?, h2] using h1
    have h4 : false ∈ listed.toList := by rw [← h3]; simp
    have := List.count_pos_iff.2 h4
    omega
  | succ n ih =>
    intro listed a w hf inv hC h
    by_cases hall : ∀ i, i < t → listed.getD i false = true
    · have hcan : listed = canonL t ops.size := by
        apply Array.ext
        · rw [inv.size]; simp [canonL]; omega
        · intro i h1 h2
          by_cases hi : i < t
          · have := hall i hi
            have e : listed[i] = true := by simpa [Array.getD_eq_getD_getElem?, h1] using this
            rw [e]
            simp [canonL, hi, List.getElem_append]
          · have := inv.tail i (by omega) (by rw [← inv.size]; exact h1)
            have e : listed[i] = false := by simpa [Array.getD_eq_getD_getElem?, h1] using this
            rw [e]
            simp [canonL, hi, List.getElem_append]
      have hK : wpList P ops Q (ops.toList.drop t) a w := by
        rcases h with ⟨h1, _⟩ | ⟨b, _, hb0, hbk, h⟩
        · rw [hall f (by omega)] at h1; cases h1
        · have : ∀ R : List Nat, (∀ i, i ∈ R → i < t) → wpFr P ops w0 (fun i => l.contains i || decide (f ≤ i)) (FrB P ops w0 Q t b T zs) listed R a w → FrB P ops w0 Q t b T zs a w := by
            intro R
            induction R with
            | nil => intro _ h; exact h
            | cons i R ihR =>
              intro hR h
              simp only [wpFr, hall i (hR i List.mem_cons_self), if_true] at h
              exact ihR (fun k hk => hR k (List.mem_cons_of_mem _ hk)) h
          exact this _ (fun i hi => by have := List.mem_range.1 hi; omega) h w hC (Gw.refl w) hbk
      have hlen : (ops.toList.drop t).length = n + 1 := by
        rw [← hf, hcan]
        simp [canonL, List.count_append, List.count_replicate]
      have hdl : (ops.toList.drop t).length = ops.size - t := by simp
      have := wpAny_of_seq (P := P) (md := md) (Q' := Q) (ops.toList.drop t) t listed a w (fun j => by simp [List.getElem?_drop]) (by rw [hdl, hcan]; exact hseq) hK
      rwa [hlen] at this
    · have hex : ∃ i, i < t ∧ listed.getD i false = false := by
        apply Classical.byContradiction
        intro hno
        refine hall fun i hi => ?_
        cases hg : listed.getD i false with
        | true => rfl
        | false => exact (hno ⟨i, hi, hg⟩).elim
      obtain ⟨i0, hi0, hg0⟩ := hex
      have hun0 : listed.getD i0 true = false := getD_in (by rw [inv.size]; omega) hg0
      by_cases hlr : ∃ p, ls.contains p = true ∧ p ∈ Region.ready md ops listed
      · obtain ⟨p, hpl, hpr⟩ := hlr
        rw [List.all_eq_true] at hloo
        have hp1 := hloo p (by simpa using hpl)
        simp only [Bool.and_eq_true, decide_eq_true_eq, Bool.not_eq_true'] at hp1
        obtain ⟨⟨hpf, hpnl⟩, hpp⟩ := hp1
        obtain ⟨hpun, op, hop, hpdep⟩ := mem_ready.1 hpr
        rw [hop] at hpp
        have hps : p < listed.size := by rw [inv.size]; omega
        have hpun' : listed.getD p false = false := getD_both hpun
        have hkp : (l.contains p || decide (f ≤ p)) = false := by rw [hpnl]; simp; omega
        have hwtp : ∀ i, listed.getD i false = false → Region.waitsFor md ops p i = false := fun i hi => by
          cases hw : Region.waitsFor md ops p i with
          | false => rfl
          | true =>
            obtain ⟨o', ho', e, he, hb, hon⟩ := Region.waitsFor_spec hw
            obtain rfl : o' = op := Option.some.inj (ho'.symm.trans hop)
            have := hpdep e he hb
            rw [hon, hi] at this
            cases this
        have hfirst := fun (v : Value) => wpAny_first (P := P) (md := md) (Q := Q) (v := v) hop hsel' (fun c a w h => hQ c a _ _ w h) n listed a w (fun j oj hoj hne hun hno => by
          have hjf := getD_both hun
          rcases Nat.lt_or_gt_of_ne hne with hlt | hlt
          · exact apart_comm (apartAll_out hap hlt hoj hop (hwtp j hjf))
          · refine apartAll_out hap hlt hop hoj ?_
            cases hw : Region.waitsFor md ops j p with
            | false => rfl
            | true =>
              obtain ⟨o', ho', e, he, hb, hon⟩ := Region.waitsFor_spec hw
              obtain rfl : o' = oj := Option.some.inj (ho'.symm.trans hoj)
              exact absurd hon (hno e he hb)) hpr
        have hcs : (listed.setIfInBounds p true).toList.count false = n := by
          have h3 : listed[p] = false := by simpa [Array.getD_eq_getD_getElem?, hps] using hpun
          have := cnt_set listed.toList p (by simp [hps, h3])
          rw [Array.toList_setIfInBounds]
          omega
        have hfs : (listed.setIfInBounds p true).getD f false = listed.getD f false := getD_set_ne false (by omega)
        have key : ∀ (K : Act → World → Prop), wpFr P ops w0 (fun i => l.contains i || decide (f ≤ i)) K listed (List.range f) a w → ∃ v, Yields P ops op v a ∧ wpFr P ops w0 (fun i => l.contains i || decide (f ≤ i)) K (listed.setIfInBounds p true) (List.range f) (a.put op.dst v) w := by
          intro K hK
          have hp := pullF (P := P) (ops := ops) (w0 := w0) (ks := fun i => l.contains i || decide (f ≤ i)) (K := K) hsel' hcalm hop hpun' hps (List.range f) List.pairwise_lt_range (List.mem_range.2 hpf)
            (fun i hi hij hil _ => by
              have his : i < ops.size := by omega
              exact ⟨ops[i], by simp [his], apartAll_out hap hij (by simp [his]) hop (hwtp i hil)⟩)
            (fun hk => by rw [hkp] at hk; cases hk) a w hC hK
          rw [if_neg (by rw [hkp]; decide)] at hp
          obtain ⟨v, hy, hn'⟩ := yieldsIn_of_qOp hop hp
          exact ⟨v, pure_yields hpp (hcalm p op hop hkp) hC hy, hn'⟩
        rcases h with ⟨h1, h⟩ | ⟨b, h1, hb0, hbk, h⟩
        · obtain ⟨v, hy, hh⟩ := key _ h
          exact hfirst v hy (ih _ _ w hcs (inv.set hpr (by omega)) hC (.inl ⟨by rw [hfs]; exact h1, hh⟩))
        · obtain ⟨v, hy, hh⟩ := key _ h
          exact hfirst v hy (ih _ _ w hcs (inv.set hpr (by omega)) hC (.inr ⟨b, by rw [hfs]; exact h1, hb0, hbk, hh⟩))
      have hjt : ∀ j, j ∈ Region.ready md ops listed → j < t := fun j hj => Nat.lt_of_not_le fun hle => by
        have hnl : ∀ i, i < t → ls.contains i = false → listed.getD i false = true := fun i hi hli => by
          cases hg : listed.getD i false with
          | true => rfl
          | false => exact (tail_waitsL hs hc hn inv _ i rfl hli hi (getD_in (by rw [inv.size]; omega) hg) j hle hj).elim
        have hlow : ∀ n, n ≤ t → ∀ i, i < n → listed.getD i false = true := by
          intro n
          induction n with
          | zero => intro _ i hi; omega
          | succ n ihn =>
            intro hn' i hi
            by_cases hin : i < n
            · exact ihn (by omega) i hin
            · obtain rfl : i = n := by omega
              cases hg : listed.getD i false with
              | true => rfl
              | false =>
                exfalso
                have his : i < ops.size := by omega
                cases hli : ls.contains i with
                | false =>
                  have := hnl i (by omega) hli
                  rw [hg] at this
                  cases this
                | true =>
                  refine hlr ⟨i, hli, ?_⟩
                  rw [mem_ready]
                  refine ⟨getD_in (by rw [inv.size]; exact his) hg, ops[i], by simp [his], fun e he hb => ?_⟩
                  exact ihn (by omega) e.on (earlyB_out hear i ops[i] (by simp [his]) e he hb)
        have := hlow t (Nat.le_refl _) i0 hi0
        rw [hg0] at this
        cases this
      refine ⟨fun hr => ?_, fun j hj => ?_⟩
      · exfalso
        have hlow : ∀ n, n ≤ t → ∀ i, i < n → listed.getD i false = true := by
          intro n
          induction n with
          | zero => intro _ i hi; omega
          | succ n ihn =>
            intro hn' i hi
            by_cases hin : i < n
            · exact ihn (by omega) i hin
            · obtain rfl : i = n := by omega
              cases hg : listed.getD i false with
              | true => rfl
              | false =>
                exfalso
                have hm : i ∈ Region.ready md ops listed := by
                  rw [mem_ready]
                  have his : i < ops.size := by omega
                  refine ⟨getD_in (by rw [inv.size]; exact his) hg, ops[i], by simp [his], fun e he hb => ?_⟩
                  exact ihn (by omega) e.on (earlyB_out hear i ops[i] (by simp [his]) e he hb)
                rw [hr] at hm
                cases hm
        have := hlow t (Nat.le_refl _) i0 hi0
        rw [hg0] at this
        cases this
      · have hj' := hjt j hj
        obtain ⟨hun, oj, hoj, hdep⟩ := mem_ready.1 hj
        have hjs : j < listed.size := by rw [inv.size]; omega
        have hjl : listed.getD j false = false := getD_both hun
        have hwt : ∀ i, listed.getD i false = false → Region.waitsFor md ops j i = false := fun i hi => by
          cases hw : Region.waitsFor md ops j i with
          | false => rfl
          | true =>
            obtain ⟨o', ho', e, he, hb, hon⟩ := Region.waitsFor_spec hw
            obtain rfl : o' = oj := Option.some.inj (ho'.symm.trans hoj)
            have := hdep e he hb
            rw [hon, hi] at this
            cases this
        have hcs : (listed.setIfInBounds j true).toList.count false = n := by
          have h3 : listed[j] = false := by simpa [Array.getD_eq_getD_getElem?, hjs] using hun
          have := cnt_set listed.toList j (by simp [hjs, h3])
          rw [Array.toList_setIfInBounds]
          omega
        by_cases hjf : j = f
        · subst hjf
          obtain rfl : oj = of := Option.some.inj (hoj.symm.trans hof)
          rcases h with ⟨_, h⟩ | ⟨b, h1, _⟩
          rotate_left
          · rw [hjl] at h1; cases h1
          have hle : w0.heap.size ≤ w.heap.size := (cg_iff.1 hC).size
          have hga : Gw w (w.alloc (.cells zs T)) := ba_alloc (Below.refl _ _) _
          unfold wpOp
          simp only [hoj]
          rw [if_pos (by simp [Region.wanted, hg])]
          refine .inl ?_
          unfold Oper.wp
          rw [hfr a w]
          refine ih _ _ _ hcs (inv.set hj hj') (cg_iff.2 ((cg_iff.1 hC).trans hga)) (.inr ⟨w.heap.size, by simp [Array.getD_eq_getD_getElem?, hjs], hle, Blk.new _ _ _, ?_⟩)
          have h2 := wpFr_slot (P := P) (ops := ops) (w0 := w0) (ks := fun i => l.contains i || decide (j ≤ i)) (K := FrK P ops w0 Q t oj T zs) (K' := FrB P ops w0 Q t w.heap.size T zs) (listed := listed) (oj := oj) (v := .pointer (some ⟨w.heap.size, 0, none⟩)) hsel'
            (fun a' w' hh w'' hc' hg' hb' => hh w.heap.size w'' hc' hg' hle hb') (R := List.range j) (fun i hi => by
              have hij := List.mem_range.1 hi
              have his : i < ops.size := by omega
              exact ⟨ops[i], by simp [his], apartAll_out hap hij (by simp [his]) hoj (hwf i hij)⟩) h
          rw [wpFr_congr (l2 := listed.setIfInBounds j true) (fun i hi => (getD_set_ne false (fun e => by have := List.mem_range.1 hi; omega)).symm)] at h2
          exact wpFr_weak (hBw _) h2 hga
        · have hjf' : j < f := by omega
          have key : ∀ (K : Act → World → Prop), wpFr P ops w0 (fun i => l.contains i || decide (f ≤ i)) K listed (List.range f) a w → wpOp P ops Q j (fun a' w' => Gw w w' ∧ wpFr P ops w0 (fun i => l.contains i || decide (f ≤ i)) K (listed.setIfInBounds j true) (List.range f) a' w') a w := by
            intro K hK
            have hp := pullF (P := P) (ops := ops) (w0 := w0) (ks := fun i => l.contains i || decide (f ≤ i)) (K := K) hsel' hcalm hoj hjl hjs (List.range f) List.pairwise_lt_range (List.mem_range.2 hjf')
              (fun i hi hij hil _ => by
                have his : i < ops.size := by omega
                exact ⟨ops[i], by simp [his], apartAll_out hap hij (by simp [his]) hoj (hwt i hil)⟩)
              (fun hk i hi hij hil => by
                simp only [Bool.or_eq_true, List.contains_iff_mem, decide_eq_true_eq] at hk
                rw [Bool.or_eq_false_iff, decide_eq_false_iff_not]
                refine ⟨?_, by omega⟩
                cases hci : l.contains i with
                | false => rfl
                | true =>
                  have := links_order inv hl i j (by simpa using hci) (by rcases hk with hk | hk; exact hk; omega) hij (.inl hj)
                  rw [hil] at this
                  cases this) a w hC hK
            by_cases hk : (l.contains j || decide (f ≤ j)) = true
            · rw [if_pos hk] at hp
              exact wpOp_stop (hp w hC (Gw.refl w))
            · rw [if_neg hk] at hp
              refine wpOp_mono ?_ (wpOp_calm hoj (hcalm j oj hoj (by simpa using hk)) hC hp)
              rintro a' w' ⟨rfl, hh⟩
              exact ⟨Gw.refl _, hh⟩
          have hfs : (listed.setIfInBounds j true).getD f false = listed.getD f false := getD_set_ne false hjf
          rcases h with ⟨h1, h⟩ | ⟨b, h1, hb0, hbk, h⟩
          · refine wpOp_mono ?_ (key _ h)
            rintro a' w' ⟨hg', hh⟩
            exact ih _ a' w' hcs (inv.set hj hj') (cg_iff.2 ((cg_iff.1 hC).trans hg')) (.inl ⟨by rw [hfs]; exact h1, hh⟩)
          · refine wpOp_mono ?_ (key _ h)
            rintro a' w' ⟨hg', hh⟩
            exact ih _ a' w' hcs (inv.set hj hj') (cg_iff.2 ((cg_iff.1 hC).trans hg')) (.inr ⟨b, by rw [hfs]; exact h1, hb0, hbk.via hg', hh⟩)
/-- The walk. -/
def segPostF (next : Act → World → Prop) (w0 : World) : Exit → Act → World → Prop
  | .normal, a, w => Gw w0 w ∧ next a w
  | _, _, _ => False
theorem segF_next {next : Act → World → Prop} {w0 : World} {a : Act} {w : World} (hC : Gw w0 w) (h : next a w) : segPostF next w0 .normal a w := ⟨hC, h⟩
def wpSegsF (P : Program) (ops : Array Oper) (w0 : World) (K : Act → World → Prop) (r : Nat) : List Nat → List Oper → Act → World → Prop
  | [], l, a, w => wpQuiet P ops (Cg w0) (fun a' => K a' w) (l.take r) a
  | m :: ms, l, a, w => wpQuiet P ops (Cg w0) (fun a' => ∀ w', Gw w0 w' → Gw w w' → wpList P ops (segPostF (wpSegsF P ops w0 K r ms (l.drop (m + 1))) w') ((l.drop m).take 1) a' w') (l.take m) a
theorem quiet_mixF {ks : Nat → Bool} {K : Act → World → Prop} {listed : Array Bool} {N : Act → Prop} {w : World} {R : List Nat} (hlist : ∀ i, listed.getD i false = false) :
    ∀ (m p : Nat) (a : Act), p + m ≤ ops.size → (∀ i, p ≤ i → i < p + m → ks i = false) → (∀ a, N a → wpFr P ops w0 ks K listed R a w) → wpQuiet P ops (Cg w0) N ((ops.toList.drop p).take m) a →
      wpFr P ops w0 ks K listed (List.range' p m ++ R) a w := by
  intro m
  induction m with
  | zero =>
    intro p a _ _ hN h
    simp only [List.take_zero] at h
    exact hN a h
  | succ m ih =>
    intro p a hp hk hN h
    have hps : p < ops.size := by omega
    have e : (ops.toList.drop p).take (m + 1) = ops[p] :: (ops.toList.drop (p + 1)).take m := by
      rw [List.drop_eq_getElem_cons (by simpa using hps), List.take_succ_cons]
      rfl
    rw [e] at h
    rw [List.range'_succ, List.cons_append]
    simp only [wpFr, hlist p, hk p (Nat.le_refl _) (by omega), Bool.false_eq_true, if_false]
    unfold wpQuiet at h
    unfold qOp
    simp only [show ops[p]? = some ops[p] by simp [hps]]
    have ih' : ∀ a, wpQuiet P ops (Cg w0) N ((ops.toList.drop (p + 1)).take m) a → wpFr P ops w0 ks K listed (List.range' (p + 1) m ++ R) a w := fun a' h' => ih (p + 1) a' (by omega) (fun i h1 h2 => hk i (by omega) (by omega)) hN h'
    split
    · rename_i hw
      rw [if_pos hw] at h
      exact Oper.quiet_mono ih' h
    · rename_i hw
      rw [if_neg hw] at h
      exact ih' _ h
theorem segsF_mix {ks : Nat → Bool} {K : Act → World → Prop} {listed : Array Bool} {t : Nat} (r : Nat) (ht : t ≤ ops.size) (hlist : ∀ i, listed.getD i false = false) :
    ∀ (ms : List Nat) (p : Nat) (a : Act) (w : World), endAt r p ms = t → (∀ i, p ≤ i → i < t → ks i = (chainAt p ms).contains i) → wpSegsF P ops w0 K r ms (ops.toList.drop p) a w →
      wpFr P ops w0 ks K listed (List.range' p (t - p)) a w := by
  intro ms
  induction ms with
  | nil =>
    intro p a w he hk h
    simp only [endAt] at he
    subst he
    have e : List.range' p (p + r - p) = List.range' p r ++ [] := by simp
    rw [e]
    refine quiet_mixF hlist r p a ht (fun i h1 h2 => by rw [hk i h1 h2]; simp [chainAt]) ?_ h
    intro a' h'
    simpa only [wpFr] using h'
  | cons m ms ih =>
    intro p a w he hk h
    simp only [endAt] at he
    have hle := endAt_le r ms (p + m + 1)
    have e : List.range' p (t - p) = List.range' p m ++ ((p + m) :: List.range' (p + m + 1) (t - (p + m + 1))) := by
      have e1 : t - p = m + (1 + (t - (p + m + 1))) := by omega
      rw [e1, ← List.range'_append_1, ← List.range'_append_1]
      simp
    rw [e]
    refine quiet_mixF hlist m p a (by omega) (fun i h1 h2 => ?_) ?_ h
    · rw [hk i h1 (by omega)]
      simp only [chainAt]
      cases hc : ((p + m) :: chainAt (p + m + 1) ms).contains i with
      | false => rfl
      | true =>
        exfalso
        have hm : i ∈ (p + m) :: chainAt (p + m + 1) ms := by simpa using hc
        rcases List.mem_cons.1 hm with h3 | h3
        · omega
        · have := chainAt_ge _ _ _ h3; omega
    · intro a' h'
      have hps : p + m < ops.size := by omega
      have hkp : ks (p + m) = true := by rw [hk (p + m) (by omega) (by omega)]; simp [chainAt]
      simp only [wpFr, hlist (p + m), hkp, Bool.false_eq_true, if_false, if_true]
      intro w' hC' hG'
      have h' := h' w' (cg_iff.1 hC') hG'
      have e2 : ((ops.toList.drop p).drop m).take 1 = [ops[p + m]] := by
        rw [List.drop_drop, List.drop_eq_getElem_cons (by simpa using hps), List.take_succ_cons, List.take_zero]
        rfl
      rw [e2] at h'
      have ih' := fun a w h => ih (p + m + 1) a w he (fun i h1 h2 => by
        rw [hk i (by omega) h2]
        simp only [chainAt, List.contains_cons]
        rw [show (i == p + m) = false by simp; omega]
        rfl) h
      have e3 : (ops.toList.drop p).drop (m + 1) = ops.toList.drop (p + m + 1) := by rw [List.drop_drop]; rfl
      rw [e3] at h'
      unfold wpList at h'
      unfold wpOp
      simp only [show ops[p + m]? = some ops[p + m] by simp [hps]]
      have hfin : ∀ a w, wpList P ops (segPostF (wpSegsF P ops w0 K r ms (ops.toList.drop (p + m + 1))) w') [] a w → Gw w' w ∧ wpFr P ops w0 ks K listed (List.range' (p + m + 1) (t - (p + m + 1))) a w := fun a w h => ⟨h.1, ih' a w h.2⟩
      have hlets : LetsOut (segPostF (wpSegsF P ops w0 K r ms (ops.toList.drop (p + m + 1))) w') → LetsOut stopPost := fun ⟨_, _, h⟩ => (show False from h).elim
      split
      · rename_i hw
        rw [if_pos hw] at h'
        rcases h' with h' | ⟨h1, h2⟩
        · refine .inl (Oper.wp_mono hfin ?_)
          unfold Oper.wp at *
          generalize (execOp a'.eval ops[p + m]).run P w' = rr at *
          cases rr with
          | ok n w'' =>
            cases n <;> simp only [Oper.upon] at h' ⊢ <;> try exact h'
          | halt x w'' =>
            cases x <;> simp only [Oper.upon] at h' ⊢
            all_goals (try exact (show False from h').elim)
        · exact .inr ⟨h1, hlets h2⟩
      · rename_i hw
        rw [if_neg hw] at h'
        exact hfin _ _ h'
/-- The region: the last operation ahead of the tail makes a variable. -/
theorem wp_region_mixF {id : Nat} {Q : Exit → Act → World → Prop} {a : Act} {w : World} {l : List Oper} (r : Nat) (ms ls : List Nat) (of : Oper) (T : TypeId) (zs : Array Value) (hm : P.follows .mixedOrders = true) (hB : mixFB .any l.toArray (endAt r 0 ms + 1) (endAt r 0 ms) (chainAt 0 ms) ls = true)
    (hend : endAt r 0 ms ≤ l.length) (hof : l[endAt r 0 ms]? = some of) (hg : of.guard = none) (hfr : ∀ (a : Act) (w : World), (execOp a.eval of).run P w = .ok (.value (.pointer (some ⟨w.heap.size, 0, none⟩))) (w.alloc (.cells zs T)))
    (hQ : ∀ c a d v w, Q (.panic c) (Act.put a d v) w → Q (.panic c) a w) (h : wpSegsF P l.toArray w (fun a' w' => ∀ b w'', Gw w w'' → Gw w' w'' → w.heap.size ≤ b → Blk w'' b T zs → wpList P l.toArray Q (l.drop (endAt r 0 ms + 1)) (a'.put of.dst (.pointer (some ⟨b, 0, none⟩))) w'') r ms l a w.drew) : (Code.region id l.toArray true).wp P Q a w := by
  refine wp_region_any hm ?_
  have hin : ∀ i, (Array.replicate l.toArray.size false).getD i false = false := fun i => getD_replicate_false _ _
  refine mixF_any (w0 := w) (T := T) (zs := zs) (of := of) hQ hB (by simpa using hof) hg hfr _ _ a w.drew (by simp [List.count_replicate]) ⟨by simp, fun j oj _ hl => (by rw [hin] at hl; cases hl), fun t _ ht => getD_in (by simpa using ht) (hin t)⟩ ⟨w.drew, (grow_eq (Below.drew (Below.refl _ _))).symm⟩ (.inl ⟨hin _, ?_⟩)
  have hK : ∀ a' w', (∀ b w'', Gw w w'' → Gw w' w'' → w.heap.size ≤ b → Blk w'' b T zs → wpList P l.toArray Q (l.drop (endAt r 0 ms + 1)) (a'.put of.dst (.pointer (some ⟨b, 0, none⟩))) w'') = FrK P l.toArray w Q (endAt r 0 ms + 1) of T zs a' w' := fun a' w' => by
    unfold FrK
    simp only [cg_iff, List.toList_toArray]
  have hKf : (fun a' w' => ∀ b w'', Gw w w'' → Gw w' w'' → w.heap.size ≤ b → Blk w'' b T zs → wpList P l.toArray Q (l.drop (endAt r 0 ms + 1)) (a'.put of.dst (.pointer (some ⟨b, 0, none⟩))) w'') = FrK P l.toArray w Q (endAt r 0 ms + 1) of T zs := by
    funext a' w'
    exact hK a' w'
  rw [hKf] at h
  have := segsF_mix (P := P) (ops := l.toArray) (w0 := w) (K := FrK P l.toArray w Q (endAt r 0 ms + 1) of T zs) (ks := fun i => (chainAt 0 ms).contains i || decide (endAt r 0 ms ≤ i)) (listed := Array.replicate l.toArray.size false) (t := endAt r 0 ms) r (by simpa using hend) hin ms 0 a w.drew rfl
    (fun i _ h2 => by simp [Nat.not_le.2 h2]) (by simpa using h)
  rwa [Nat.sub_zero, ← List.range_eq_range'] at this
end
end Go.Proofs.YtffkmgjmlahfpaaGreat
set_option linter.unusedVariables false
set_option linter.unusedSimpArgs false
namespace Go.Proofs.YtffkmgjmlahfpaaGreat
open Go.RowKit
theorem rlLength_any (r : Rule) (d : Int) (poor : Bool) (w : World) (h : S.sized r d = 0) : Calls Tryz.prog 74 #[ruleV r, .int .i64 d, .bool poor] w fun e w' => e = .returned (.int .i64 (lLength r d poor)) ∧ Below w.heap.size w w' := by
  obtain ⟨hr, hd⟩ := sized_zero h
  have hR := rule_ok hr
  have hbd := size_bd hd
  have HL := Lib.hid (fun w => rlength_any r d poor false w hR (by omega) (by omega))
  have hb := length_bd hR (show 0 ≤ d by omega) (show d ≤ 40 by omega) poor false
  have hl := hR.lnum
  have hl2 := hR.lden
  have hm := mul_bd hb.1 hb.2 (show 0 ≤ r.lnum by omega) hl.2
  have H := Lib.hid (show lLength r d poor = S.up (S.length r d poor false) r.lnum r.lden by simp [lLength, h])
  have HU := Lib.hid (fun w => rup_any (S.length r d poor false) r.lnum r.lden w hl2.1 (by omega) hm.1 (by omega))
  clear hr hd hR hbd h hm
  generalize S.up (S.length r d poor false) r.lnum r.lden = U at *
  generalize S.length r d poor false = n at *
  unfold ruleV
  unfold ruleV at HL
  go_enter Tryz.func74, Tryz.ntmps74
  go_wp2
  refine wp_region_grow (by kernel_rfl) (by kernel_rfl) ?_
  repeat (go_big_quiet_step ((first | (go_at_call 132; exact grow_of (HL.out _)) | (go_at_call 131; exact grow_of_eq (HU.out _)))))
  all_goals (refine wpQuiet_nil ?_; intro wg hbwg; obtain ⟨hcwg, hfwg⟩ := bcell hbwg; have hzwg_0 : w.heap.size < wg.heap.size := lt_via hbwg (by first | omega | (simp; done) | (simp; omega)))
  go_wp2
  go_ret
  exact ⟨ret_i H.out.symm, (by repeat (first | exact Below.refl _ _ | assumption | refine ba_alloc ?_ _ | refine ba_drew ?_ | refine ba_drewN ?_ _ | refine ba_via (by assumption) ?_ | (refine ba_set ?_ ?_ _; rotate_left; (first | omega | (simp; omega) | simp))))⟩
theorem set6 {w0 w : World} {b : Nat} {T : TypeId} {z0 z1 z2 z3 z4 z5 : Value} (h0 : Below w0.heap.size w0 w) (hl : w0.heap.size ≤ b) (hb : Blk w b T #[z0, z1, z2, z3, z4, z5]) (v0 v1 v2 v3 v4 v5 : Value) :
    ∃ W, ((((((w.setCell ⟨b, 0, none⟩ v0).setCell ⟨b, 1, none⟩ v1).setCell ⟨b, 2, none⟩ v2).setCell ⟨b, 3, none⟩ v3).setCell ⟨b, 4, none⟩ v4).setCell ⟨b, 5, none⟩ v5) = W ∧ Below w0.heap.size w0 W ∧ Blk W b T #[v0, v1, v2, v3, v4, v5] := by
  refine ⟨_, rfl, ba_set (ba_set (ba_set (ba_set (ba_set (ba_set h0 hl _) hl _) hl _) hl _) hl _) hl _, ?_⟩
  have := (((((hb.set 0 v0).set 1 v1).set 2 v2).set 3 v3).set 4 v4).set 5 v5
  simpa only [List.setIfInBounds_toArray, List.set_cons_zero, List.set_cons_succ] using this
set_option maxRecDepth 20000 in
set_option maxHeartbeats 4000000 in
theorem roverlap_any (x : Dt) (B : Nat) (w : World) (hB : B ≤ w.heap.size) (hA : DtAt w B x) (h : S.laid (bars x.bs) x.rs = true) (k i1 i2 : Nat) (a b : Mn) (hk : k < x.js.length) (hj : x.js[k] = ⟨i1, i2⟩) (h1 : (S.mains (bars x.bs) x.rs)[i1]? = some a) (h2 : (S.mains (bars x.bs) x.rs)[i2]? = some b) :
    Calls Tryz.prog 72 #[dtV x, .int .i64 k] w fun e w' => e = .returned (.agg #[.int .i64 b.leg.lo.x, .int .i64 a.leg.hi.x]) ∧ Below w.heap.size w w' := by
  have HA := Lib.hid hA
  have hjl := hA.jlen
  have hkn : k < x.jn := by omega
  have hki : (k : Int) < x.jn := by omega
  have HM1 := Lib.hid (fun (W : World) (hw : B ≤ W.heap.size) (hh : DtAt W B x) => rmain_any x B W hw hh h i1 a h1)
  have HM2 := Lib.hid (fun (W : World) (hw : B ≤ W.heap.size) (hh : DtAt W B x) => rmain_any x B W hw hh h i2 b h2)
  have hJc := hA.joints
  obtain ⟨bJ, oJ, hje, hbJ, _⟩ := hJc.at_ (by rw [flat_len jnC 2 jnC_len]; omega)
  rw [hje] at hJc
  have c0 := hJc.row0 jnC_len hk rfl
  have c1 := hJc.rowj jnC_len hk 1 rfl
  rw [hj] at c0 c1
  have hbJl : bJ < w.heap.size := by omega
  unfold dtV at HM1 HM2
  unfold dtV
  clear hA hJc hj h1 h2
  generalize hjA : x.jA = jA at *
  have HjA := Lib.hid hjA
  clear hjA
  subst hje
  have HC := Lib.hid (show w.cell? ⟨bJ, oJ + k * 2, none⟩ = some (.int .i64 i1) ∧ w.cell? ⟨bJ, oJ + k * 2 + 1, none⟩ = some (.int .i64 i2) from ⟨c0, c1⟩)
  clear c0 c1
  go_enter Tryz.func72, Tryz.ntmps72
  go_upto_region 1 with fail
  have hW0 : Below w.heap.size w ((w.alloc (.cells #[.string x.m.name, .slice x.mA x.mn x.mc, .slice x.hA x.hn x.hc, .int .i64 x.m.cover, .int .i64 x.m.aggr, .int .i64 x.m.poker, .slice x.bA x.bn x.bc, .slice x.rA x.rn x.rc, .slice (some ⟨bJ, oJ, none⟩) x.jn x.jc, .slice x.dA x.dn x.dc, .int .i64 x.rule.num, .int .i64 x.rule.den, .int .i64 x.rule.pnum, .int .i64 x.rule.pden, .int .i64 x.rule.bnum, .int .i64 x.rule.bden, .int .i64 x.rule.lnum, .int .i64 x.rule.lden, .int .i64 x.rule.least] 34)).alloc (.cells #[.int .i64 0, .int .i64 0] 45)) := (by repeat (first | exact Below.refl _ _ | assumption | refine ba_alloc ?_ _ | refine ba_drew ?_ | refine ba_drewN ?_ _ | refine ba_via (by assumption) ?_ | (refine ba_set ?_ ?_ _; rotate_left; (first | omega | (simp; omega) | simp))))
  have hDB : Blk ((w.alloc (.cells #[.string x.m.name, .slice x.mA x.mn x.mc, .slice x.hA x.hn x.hc, .int .i64 x.m.cover, .int .i64 x.m.aggr, .int .i64 x.m.poker, .slice x.bA x.bn x.bc, .slice x.rA x.rn x.rc, .slice (some ⟨bJ, oJ, none⟩) x.jn x.jc, .slice x.dA x.dn x.dc, .int .i64 x.rule.num, .int .i64 x.rule.den, .int .i64 x.rule.pnum, .int .i64 x.rule.pden, .int .i64 x.rule.bnum, .int .i64 x.rule.bden, .int .i64 x.rule.lnum, .int .i64 x.rule.lden, .int .i64 x.rule.least] 34)).alloc (.cells #[.int .i64 0, .int .i64 0] 45)) w.heap.size 34 #[.string x.m.name, .slice x.mA x.mn x.mc, .slice x.hA x.hn x.hc, .int .i64 x.m.cover, .int .i64 x.m.aggr, .int .i64 x.m.poker, .slice x.bA x.bn x.bc, .slice x.rA x.rn x.rc, .slice (some ⟨bJ, oJ, none⟩) x.jn x.jc, .slice x.dA x.dn x.dc, .int .i64 x.rule.num, .int .i64 x.rule.den, .int .i64 x.rule.pnum, .int .i64 x.rule.pden, .int .i64 x.rule.bnum, .int .i64 x.rule.bden, .int .i64 x.rule.lnum, .int .i64 x.rule.lden, .int .i64 x.rule.least] := (Blk.new w _ _).alloc _
  have hRS : Blk ((w.alloc (.cells #[.string x.m.name, .slice x.mA x.mn x.mc, .slice x.hA x.hn x.hc, .int .i64 x.m.cover, .int .i64 x.m.aggr, .int .i64 x.m.poker, .slice x.bA x.bn x.bc, .slice x.rA x.rn x.rc, .slice (some ⟨bJ, oJ, none⟩) x.jn x.jc, .slice x.dA x.dn x.dc, .int .i64 x.rule.num, .int .i64 x.rule.den, .int .i64 x.rule.pnum, .int .i64 x.rule.pden, .int .i64 x.rule.bnum, .int .i64 x.rule.bden, .int .i64 x.rule.lnum, .int .i64 x.rule.lden, .int .i64 x.rule.least] 34)).alloc (.cells #[.int .i64 0, .int .i64 0] 45)) (w.heap.size + 1) 45 #[.int .i64 0, .int .i64 0] := by simpa using Blk.new (w.alloc (.cells #[.string x.m.name, .slice x.mA x.mn x.mc, .slice x.hA x.hn x.hc, .int .i64 x.m.cover, .int .i64 x.m.aggr, .int .i64 x.m.poker, .slice x.bA x.bn x.bc, .slice x.rA x.rn x.rc, .slice (some ⟨bJ, oJ, none⟩) x.jn x.jc, .slice x.dA x.dn x.dc, .int .i64 x.rule.num, .int .i64 x.rule.den, .int .i64 x.rule.pnum, .int .i64 x.rule.pden, .int .i64 x.rule.bnum, .int .i64 x.rule.bden, .int .i64 x.rule.lnum, .int .i64 x.rule.lden, .int .i64 x.rule.least] 34)) 45 #[.int .i64 0, .int .i64 0]
  generalize ((w.alloc (.cells #[.string x.m.name, .slice x.mA x.mn x.mc, .slice x.hA x.hn x.hc, .int .i64 x.m.cover, .int .i64 x.m.aggr, .int .i64 x.m.poker, .slice x.bA x.bn x.bc, .slice x.rA x.rn x.rc, .slice (some ⟨bJ, oJ, none⟩) x.jn x.jc, .slice x.dA x.dn x.dc, .int .i64 x.rule.num, .int .i64 x.rule.den, .int .i64 x.rule.pnum, .int .i64 x.rule.pden, .int .i64 x.rule.bnum, .int .i64 x.rule.bden, .int .i64 x.rule.lnum, .int .i64 x.rule.lden, .int .i64 x.rule.least] 34)).alloc (.cells #[.int .i64 0, .int .i64 0] 45)) = W0 at *
  have hDC := (hDB.cell 8)
  simp only [List.getElem?_toArray, List.getElem?_cons_zero, List.getElem?_cons_succ] at hDC
  have hDl := hDB.lt
  have hbJ0 : bJ < W0.heap.size := by have := hW0.size; omega
  have e0 : W0.cell? ⟨bJ, oJ + k * 2, none⟩ = some (.int .i64 i1) := (hW0.cell (p := ⟨bJ, _, none⟩) hbJl).trans HC.out.1
  have HDB := Lib.hid hDB
  have HRS := Lib.hid hRS
  clear hDB hRS
  refine wp_region_mixF 3 [0, 6] [10] _ 89 #[.int .i64 0, .int .i64 0, .int .i64 0, .int .i64 0, .int .i64 0, .int .i64 0] (by kernel_rfl) (by kernel_rfl) (of_decide_eq_true (by kernel_rfl)) rfl rfl (fun _ _ => by kernel_rfl) (by intro c a d v w h; cases d <;> exact h) ?_
  try simp only [wpSegsF, List.take_succ_cons, List.take_zero, List.drop_succ_cons, List.drop_zero, List.take_nil, List.drop_nil]
  repeat (go_big_quiet_step (fail))
  refine wpQuiet_nil ?_
  intro wA hCwA hGwA
  have hbA : Below W0.heap.size W0 wA := ba_via hGwA (ba_drew (Below.refl _ _))
  clear hCwA hGwA
  have hRGA := (HDB.out.via hbA).range
  go_wp2_with ((refine wpList_load_mid rfl 34 (.tmp 2) rfl _ _ rfl _ _ hRGA Tryz.underlying34 rfl (by kernel_rfl) ?_))
  refine segF_next (show Below _ _ _ from (by repeat (with_reducible first | exact Below.refl _ _ | assumption | refine ba_alloc ?_ _ | refine ba_drew ?_ | refine ba_drewN ?_ _ | refine ba_via (by assumption) ?_ | (refine ba_set ?_ ?_ _; rotate_left; (first | omega | (simp; omega) | simp))))) ?_
  clear hRGA
  try simp only [wpSegsF, List.take_succ_cons, List.take_zero, List.drop_succ_cons, List.drop_zero, List.take_nil, List.drop_nil]
  repeat (go_big_quiet_step (fail))
  refine wpQuiet_nil ?_
  intro wB hCwB hGwB
  have hbB : Below W0.heap.size W0 wB := ba_via hGwB hbA
  clear hCwB hGwB
  go_wp2_with ((go_at_call 43; (with_reducible refine (HM1.out _ (size_via hB (by repeat (with_reducible first | exact Below.refl _ _ | assumption | refine ba_alloc ?_ _ | refine ba_drew ?_ | refine ba_drewN ?_ _ | refine ba_via (by assumption) ?_ | (refine ba_set ?_ ?_ _; rotate_left; (first | omega | (simp; omega) | simp))))) (HA.out.at_ hB (by repeat (with_reducible first | exact Below.refl _ _ | assumption | refine ba_alloc ?_ _ | refine ba_drew ?_ | refine ba_drewN ?_ _ | refine ba_via (by assumption) ?_ | (refine ba_set ?_ ?_ _; rotate_left; (first | omega | (simp; omega) | simp)))))).mono ?_); rintro e w1 ⟨rfl, hbw1⟩))
  refine segF_next (show Below _ _ _ from (by repeat (with_reducible first | exact Below.refl _ _ | assumption | refine ba_alloc ?_ _ | refine ba_drew ?_ | refine ba_drewN ?_ _ | refine ba_via (by assumption) ?_ | (refine ba_set ?_ ?_ _; rotate_left; (first | omega | (simp; omega) | simp))))) ?_
  try simp only [wpSegsF, endAt, List.take_succ_cons, List.take_zero, List.drop_succ_cons, List.drop_zero, List.take_nil, List.drop_nil]
  repeat (go_big_quiet_step (fail))
  refine wpQuiet_nil ?_
  intro b1 wD hOwD hGwD hLb1 hKb1
  simp only [endAt, List.drop_succ_cons, List.drop_zero, Nat.reduceAdd]
  have hbD : Below W0.heap.size W0 wD := ba_via hGwD (by repeat (with_reducible first | exact Below.refl _ _ | assumption | refine ba_alloc ?_ _ | refine ba_drew ?_ | refine ba_drewN ?_ _ | refine ba_via (by assumption) ?_ | (refine ba_set ?_ ?_ _; rotate_left; (first | omega | (simp; omega) | simp))))
  have hbl : b1 < wD.heap.size := hKb1.lt
  have z0 := hKb1.cell 0
  have z1 := hKb1.cell 1
  have z2 := hKb1.cell 2
  have z3 := hKb1.cell 3
  have z4 := hKb1.cell 4
  have z5 := hKb1.cell 5
  have y0 := hKb1.frozen 0
  have y1 := hKb1.frozen 1
  have y2 := hKb1.frozen 2
  have y3 := hKb1.frozen 3
  have y4 := hKb1.frozen 4
  have y5 := hKb1.frozen 5
  simp only [List.getElem?_toArray, List.getElem?_cons_zero, List.getElem?_cons_succ] at z0 z1 z2 z3 z4 z5
  clear hOwD hGwD
  go_upto_region 2 with fail
  obtain ⟨W1, eW1, hW1, hB1⟩ := set6 hbD hLb1 hKb1 (.int .i64 a.leg.lo.x) (.int .i64 a.leg.lo.y) (.int .i64 a.leg.lo.z) (.int .i64 a.leg.hi.x) (.int .i64 a.leg.hi.y) (.int .i64 a.leg.hi.z)
  rw [eW1]
  clear eW1 z0 z1 z2 z3 z4 z5 y0 y1 y2 y3 y4 y5 hKb1 hbl hbD hbB hbA hbw1
  clear wD w1 wB wA
  have HDC := (HDB.out.via hW1).cell 8
  simp only [List.getElem?_toArray, List.getElem?_cons_zero, List.getElem?_cons_succ] at HDC
  have e1 : W1.cell? ⟨bJ, oJ + k * 2 + 1, none⟩ = some (.int .i64 i2) := (hW1.cell (p := ⟨bJ, _, none⟩) hbJ0).trans ((hW0.cell (p := ⟨bJ, _, none⟩) hbJl).trans HC.out.2)
  have hDl1 := (HDB.out.via hW1).lt
  have hs1 := hW1.size
  have hbJ1 : bJ < W1.heap.size := by omega
  have HDB1 := Lib.hid (HDB.out.via hW1)
  refine wp_region_mixF 3 [0, 6] [10] _ 89 #[.int .i64 0, .int .i64 0, .int .i64 0, .int .i64 0, .int .i64 0, .int .i64 0] (by kernel_rfl) (by kernel_rfl) (of_decide_eq_true (by kernel_rfl)) rfl rfl (fun _ _ => by kernel_rfl) (by intro c a d v w h; cases d <;> exact h) ?_
  try simp only [wpSegsF, List.take_succ_cons, List.take_zero, List.drop_succ_cons, List.drop_zero, List.take_nil, List.drop_nil]
  repeat (go_big_quiet_step (fail))
  refine wpQuiet_nil ?_
  intro wA hCwA hGwA
  have hbA : Below W1.heap.size W1 wA := ba_via hGwA (ba_drew (Below.refl _ _))
  clear hCwA hGwA
  have hRGA := (HDB1.out.via hbA).range
  go_wp2_with ((refine wpList_load_mid rfl 34 (.tmp 2) rfl _ _ rfl _ _ hRGA Tryz.underlying34 rfl (by kernel_rfl) ?_))
  refine segF_next (show Below _ _ _ from (by repeat (with_reducible first | exact Below.refl _ _ | assumption | refine ba_alloc ?_ _ | refine ba_drew ?_ | refine ba_drewN ?_ _ | refine ba_via (by assumption) ?_ | (refine ba_set ?_ ?_ _; rotate_left; (first | omega | (simp; omega) | simp))))) ?_
  clear hRGA
  try simp only [wpSegsF, List.take_succ_cons, List.take_zero, List.drop_succ_cons, List.drop_zero, List.take_nil, List.drop_nil]
  repeat (go_big_quiet_step (fail))
  refine wpQuiet_nil ?_
  intro wB hCwB hGwB
  have hbB : Below W1.heap.size W1 wB := ba_via hGwB hbA
  clear hCwB hGwB
  have hbC : Below w.heap.size w wB := ba_via hbB (ba_via hW1 hW0)
  go_wp2_with ((go_at_call 43; (with_reducible refine (HM2.out _ (size_via hB hbC) (HA.out.at_ hB hbC)).mono ?_); rintro e w1 ⟨rfl, hbw1⟩))
  refine segF_next (show Below _ _ _ from (by repeat (with_reducible first | exact Below.refl _ _ | assumption | refine ba_alloc ?_ _ | refine ba_drew ?_ | refine ba_drewN ?_ _ | refine ba_via (by assumption) ?_ | (refine ba_set ?_ ?_ _; rotate_left; (first | omega | (simp; omega) | simp))))) ?_
  clear hbC
  try simp only [wpSegsF, endAt, List.take_succ_cons, List.take_zero, List.drop_succ_cons, List.drop_zero, List.take_nil, List.drop_nil]
  repeat (go_big_quiet_step (fail))
  refine wpQuiet_nil ?_
  intro b2 wD hOwD hGwD hLb2 hKb2
  simp only [endAt, List.drop_succ_cons, List.drop_zero, Nat.reduceAdd]
  have hbD : Below W1.heap.size W1 wD := ba_via hGwD (by repeat (with_reducible first | exact Below.refl _ _ | assumption | refine ba_alloc ?_ _ | refine ba_drew ?_ | refine ba_drewN ?_ _ | refine ba_via (by assumption) ?_ | (refine ba_set ?_ ?_ _; rotate_left; (first | omega | (simp; omega) | simp))))
  have hbl : b2 < wD.heap.size := hKb2.lt
  have z0 := hKb2.cell 0
  have z1 := hKb2.cell 1
  have z2 := hKb2.cell 2
  have z3 := hKb2.cell 3
  have z4 := hKb2.cell 4
  have z5 := hKb2.cell 5
  have y0 := hKb2.frozen 0
  have y1 := hKb2.frozen 1
  have y2 := hKb2.frozen 2
  have y3 := hKb2.frozen 3
  have y4 := hKb2.frozen 4
  have y5 := hKb2.frozen 5
  simp only [List.getElem?_toArray, List.getElem?_cons_zero, List.getElem?_cons_succ] at z0 z1 z2 z3 z4 z5
  clear hOwD hGwD
  go_upto_region 3 with fail
  obtain ⟨W2, eW2, hW2, hB2⟩ := set6 hbD hLb2 hKb2 (.int .i64 b.leg.lo.x) (.int .i64 b.leg.lo.y) (.int .i64 b.leg.lo.z) (.int .i64 b.leg.hi.x) (.int .i64 b.leg.hi.y) (.int .i64 b.leg.hi.z)
  rw [eW2]
  clear eW2 z0 z1 z2 z3 z4 z5 y0 y1 y2 y3 y4 y5 hKb2 hbl hbD hbB hbA hbw1
  clear wD w1 wB wA
  have hF : Below w.heap.size w W2 := ba_via hW2 (ba_via hW1 hW0)
  have hRL := (HRS.out.via (ba_via hW2 hW1))
  have q0 := hRL.cell 0
  have q1 := hRL.cell 1
  have p0 := hRL.frozen 0
  have p1 := hRL.frozen 1
  have l0 := hRL.lt
  have k2 := hB2.cell 0
  have k1 := (hB1.via hW2).cell 3
  have l2 := hB2.lt
  have l1 := (hB1.via hW2).lt
  simp only [List.getElem?_toArray, List.getElem?_cons_zero, List.getElem?_cons_succ] at q0 q1 k1 k2
  have hf := hF.size
  go_wp2
  exact bodyPost_ret (v := .agg #[.int .i64 b.leg.lo.x, .int .i64 a.leg.hi.x]) (by simp [results, Tryz.results72, go_sem, *]) rfl ⟨rfl, (by repeat (first | exact Below.refl _ _ | assumption | refine ba_alloc ?_ _ | refine ba_drew ?_ | refine ba_drewN ?_ _ | refine ba_via (by assumption) ?_ | (refine ba_set ?_ ?_ _; rotate_left; (first | omega | (simp; omega) | simp))))⟩
end Go.Proofs.YtffkmgjmlahfpaaGreat
set_option linter.unusedVariables false
set_option linter.unusedSimpArgs false
namespace Go.Proofs.YtffkmgjmlahfpaaGreat
open Go.RowKit
def S.gapK (a b : Bx) (k : Nat) : Int := S.gap (S.co a.lo k) (S.co a.hi k) (S.co b.lo k) (S.co b.hi k)
theorem co_ok {b : Bx} (h : S.boxOk b = true) {k : Nat} (hk : k < 3) : -1048576 ≤ S.co b.lo k ∧ S.co b.lo k ≤ S.co b.hi k ∧ S.co b.hi k ≤ 1048576 := by
  have := (boxOk_all b).1 h k hk
  simp only [S.okAx, Bool.and_eq_true, decide_eq_true_eq] at this
  omega
set_option maxHeartbeats 2000000 in
theorem ralong_any (a b : Bx) (k : Nat) (hk : k < 3) (ha : S.boxOk a = true) (hb : S.boxOk b = true) (w : World) :
    Calls Tryz.prog 133 #[boxV a, boxV b, .int .i64 k] w fun e w' => e = .returned (.int .i64 (S.gapK a b k)) ∧ Below w.heap.size w w' := by
  have H1 := Lib.hid (fun w => coord_any b.lo k hk w)
  have H2 := Lib.hid (fun w => coord_any a.hi k hk w)
  have H3 := Lib.hid (fun w => coord_any a.lo k hk w)
  have H4 := Lib.hid (fun w => coord_any b.hi k hk w)
  have ha' := co_ok ha hk
  have hb' := co_ok hb hk
  have e0 : IntKind.i64.wrap (S.co b.lo k - S.co a.hi k) = S.co b.lo k - S.co a.hi k := IntWalk.i64_in _ (by omega)
  have e1 : IntKind.i64.wrap (S.co a.lo k - S.co b.hi k) = S.co a.lo k - S.co b.hi k := IntWalk.i64_in _ (by omega)
  have HG := Lib.hid (show S.gapK a b k = if S.co b.lo k - S.co a.hi k < S.co a.lo k - S.co b.hi k then S.co a.lo k - S.co b.hi k else S.co b.lo k - S.co a.hi k from rfl)
  clear ha hb ha' hb'
  generalize S.gapK a b k = g at *
  generalize S.co b.lo k = bl at *
  generalize S.co b.hi k = bh at *
  generalize S.co a.lo k = al at *
  generalize S.co a.hi k = ah at *
  unfold boxV
  unfold ptVal at H1 H2 H3 H4
  go_enter Tryz.func133, Tryz.ntmps133
  go_wp2
  refine wp_region_grow (by kernel_rfl) (by kernel_rfl) ?_
  repeat (go_big_quiet_step ((first | (go_at_call 180; with_reducible exact grow_of (H1.out _)) | (go_at_call 180; with_reducible exact grow_of (H2.out _)) | (go_at_call 180; with_reducible exact grow_of (H3.out _)) | (go_at_call 180; with_reducible exact grow_of (H4.out _)))))
  all_goals (refine wpQuiet_nil ?_; intro wg hbwg; obtain ⟨hcwg, hfwg⟩ := bcell hbwg; have hzwg_0 : w.heap.size < wg.heap.size := lt_via hbwg (by first | omega | (simp; done) | (simp; omega)); have hzwg_1 : w.heap.size + 1 < wg.heap.size := lt_via hbwg (by first | omega | (simp; done) | (simp; omega)))
  go_wp2
  all_goals (go_ret; exact ⟨ret_i (by rw [HG.out]; split <;> omega), (by repeat (first | exact Below.refl _ _ | assumption | refine ba_alloc ?_ _ | refine ba_drew ?_ | refine ba_drewN ?_ _ | refine ba_via (by assumption) ?_ | (refine ba_set ?_ ?_ _; rotate_left; (first | omega | (simp; omega) | simp))))⟩)
set_option maxHeartbeats 4000000 in
theorem rsquare_any (a b : Bx) (w : World) (ha : S.boxOk a = true) (hb : S.boxOk b = true) :
    Calls Tryz.prog 76 #[boxV a, boxV b] w fun e w' => e = .returned (.int .i64 (S.square a b)) ∧ Below w.heap.size w w' := by
  have HX := Lib.hid (fun w => show Calls Tryz.prog 133 #[boxV a, boxV b, .int .i64 0] w fun e w' => e = .returned (.int .i64 (S.gap a.lo.x a.hi.x b.lo.x b.hi.x)) ∧ Below w.heap.size w w' from ralong_any a b 0 (by omega) ha hb w)
  have HY := Lib.hid (fun w => show Calls Tryz.prog 133 #[boxV a, boxV b, .int .i64 1] w fun e w' => e = .returned (.int .i64 (S.gap a.lo.y a.hi.y b.lo.y b.hi.y)) ∧ Below w.heap.size w w' from ralong_any a b 1 (by omega) ha hb w)
  have HZ := Lib.hid (fun w => show Calls Tryz.prog 133 #[boxV a, boxV b, .int .i64 2] w fun e w' => e = .returned (.int .i64 (S.gap a.lo.z a.hi.z b.lo.z b.hi.z)) ∧ Below w.heap.size w w' from ralong_any a b 2 (by omega) ha hb w)
  have hx := (gap_bd (boxOk_x ha) (boxOk_x hb))
  have hy := (gap_bd (boxOk_y ha) (boxOk_y hb))
  have hz := (gap_bd (boxOk_zz ha) (boxOk_zz hb))
  have sx := pos_sq hx.2
  have sy := pos_sq hy.2
  have sz := pos_sq hz.2
  have HS := Lib.hid (show S.square a b = S.pos (S.gap a.lo.x a.hi.x b.lo.x b.hi.x) * S.pos (S.gap a.lo.x a.hi.x b.lo.x b.hi.x) + S.pos (S.gap a.lo.y a.hi.y b.lo.y b.hi.y) * S.pos (S.gap a.lo.y a.hi.y b.lo.y b.hi.y) + S.pos (S.gap a.lo.z a.hi.z b.lo.z b.hi.z) * S.pos (S.gap a.lo.z a.hi.z b.lo.z b.hi.z) from rfl)
  clear ha hb
  generalize S.square a b = q at *
  unfold boxV at HX HY HZ
  unfold boxV
  generalize S.gap a.lo.x a.hi.x b.lo.x b.hi.x = gx at *
  generalize S.gap a.lo.y a.hi.y b.lo.y b.hi.y = gy at *
  generalize S.gap a.lo.z a.hi.z b.lo.z b.hi.z = gz at *
  have kx : (0 < gx ∧ S.pos gx = gx) ∨ (gx ≤ 0 ∧ S.pos gx = 0) := by unfold S.pos; split <;> omega
  have ky : (0 < gy ∧ S.pos gy = gy) ∨ (gy ≤ 0 ∧ S.pos gy = 0) := by unfold S.pos; split <;> omega
  have kz : (0 < gz ∧ S.pos gz = gz) ∨ (gz ≤ 0 ∧ S.pos gz = 0) := by unfold S.pos; split <;> omega
  have HP := Lib.hid (show (S.pos gx = if 0 < gx then gx else 0) ∧ (S.pos gy = if 0 < gy then gy else 0) ∧ (S.pos gz = if 0 < gz then gz else 0) from ⟨rfl, rfl, rfl⟩)
  obtain ⟨xx, hxx⟩ : ∃ y, y = S.pos gx * S.pos gx := ⟨_, rfl⟩
  obtain ⟨yy, hyy⟩ : ∃ y, y = S.pos gy * S.pos gy := ⟨_, rfl⟩
  obtain ⟨zz, hzz⟩ : ∃ y, y = S.pos gz * S.pos gz := ⟨_, rfl⟩
  rw [← hxx] at HS sx
  rw [← hyy] at HS sy
  rw [← hzz] at HS sz
  have w1 : IntKind.i64.wrap xx = xx := IntWalk.i64_in _ (by omega)
  have w2 : IntKind.i64.wrap yy = yy := IntWalk.i64_in _ (by omega)
  have w3 : IntKind.i64.wrap zz = zz := IntWalk.i64_in _ (by omega)
  have w4 : IntKind.i64.wrap (xx + yy) = xx + yy := IntWalk.i64_in _ (by omega)
  have w5 : IntKind.i64.wrap (xx + zz) = xx + zz := IntWalk.i64_in _ (by omega)
  have w6 : IntKind.i64.wrap (yy + zz) = yy + zz := IntWalk.i64_in _ (by omega)
  have w7 : IntKind.i64.wrap (xx + yy + zz) = xx + yy + zz := IntWalk.i64_in _ (by omega)
  rcases kx with ⟨c1, d1⟩ | ⟨c1, d1⟩ <;> rcases ky with ⟨c2, d2⟩ | ⟨c2, d2⟩ <;> rcases kz with ⟨c3, d3⟩ | ⟨c3, d3⟩
  all_goals (
    rw [d1] at hxx
    rw [d2] at hyy
    rw [d3] at hzz
    have v1 : IntKind.i64.wrap (gx * gx) = IntKind.i64.wrap (gx * gx) := rfl
    first | (have u1 : gx * gx = xx := hxx.symm) | (have u1 : xx = 0 := by simpa using hxx)
    first | (have u2 : gy * gy = yy := hyy.symm) | (have u2 : yy = 0 := by simpa using hyy)
    first | (have u3 : gz * gz = zz := hzz.symm) | (have u3 : zz = 0 := by simpa using hzz)
    clear v1 HP d1 d2 d3 hxx hyy hzz
    go_enter Tryz.func76, Tryz.ntmps76
    go_wp2
    refine wp_loop_rounds 4 ?_
    rw [rounds_succ]
    go_wp2_with (go_at_call 133; (with_reducible refine (HX.out _).mono ?_); rintro e wc ⟨rfl, hbwc⟩; obtain ⟨hcwc, hfwc⟩ := bcell hbwc; have hzwc_0 : w.heap.size < wc.heap.size := lt_via hbwc (by first | omega | (simp; done) | (simp; omega)); have hzwc_1 : w.heap.size + 1 < wc.heap.size := lt_via hbwc (by first | omega | (simp; done) | (simp; omega)))
    rw [rounds_succ]
    go_wp2_with (go_at_call 133; (with_reducible refine (HY.out _).mono ?_); rintro e wd ⟨rfl, hbwd⟩; obtain ⟨hcwd, hfwd⟩ := bcell hbwd; have hzwd_0 : w.heap.size < wd.heap.size := lt_via hbwd (by first | omega | (simp; done) | (simp; omega)); have hzwd_1 : w.heap.size + 1 < wd.heap.size := lt_via hbwd (by first | omega | (simp; done) | (simp; omega)))
    rw [rounds_succ]
    go_wp2_with (go_at_call 133; (with_reducible refine (HZ.out _).mono ?_); rintro e we ⟨rfl, hbwe⟩; obtain ⟨hcwe, hfwe⟩ := bcell hbwe; have hzwe_0 : w.heap.size < we.heap.size := lt_via hbwe (by first | omega | (simp; done) | (simp; omega)); have hzwe_1 : w.heap.size + 1 < we.heap.size := lt_via hbwe (by first | omega | (simp; done) | (simp; omega)))
    rw [rounds_succ]
    go_wp2
    go_ret
    exact ⟨ret_i (by first | (rw [HS.out]; done) | (rw [HS.out]; omega)), (by repeat (first | exact Below.refl _ _ | assumption | refine ba_alloc ?_ _ | refine ba_drew ?_ | refine ba_drewN ?_ _ | refine ba_via (by assumption) ?_ | (refine ba_set ?_ ?_ _; rotate_left; (first | omega | (simp; omega) | simp))))⟩)
end Go.Proofs.YtffkmgjmlahfpaaGreat
set_option linter.unusedVariables false
set_option linter.unusedSimpArgs false
namespace Go.Proofs.YtffkmgjmlahfpaaGreat
open Go.RowKit
set_option maxRecDepth 20000 in
set_option maxHeartbeats 4000000 in
theorem rnext_any (x : Dt) (n : Nat) (rank : Int → Nat) (i : Int) (B : Nat) (w : World) (hB : B ≤ w.heap.size) (hA : DtAt w B x) (hg : LapsGood x.js n rank) (hj : x.jn ≤ 1000) :
    Calls Tryz.prog 77 #[dtV x, .int .i64 i] w fun e w' => e = .returned (.int .i64 ((S.nextF x.js i).getD (-1))) ∧ Below w.heap.size w w' := by
  have hJ := hA.joints
  have hjl := hA.jlen
  have HNF := Lib.hid (fun (k : Nat) (hk : k < x.js.length) => nextF_of hg.firsts (List.getElem_mem hk))
  have HNO := Lib.hid (fun (h : ∀ k (hk : k < x.js.length), x.js[k].first ≠ i) => show S.nextF x.js i = none from by
    cases hn : S.nextF x.js i with
    | none => rfl
    | some k =>
      obtain ⟨q, hq, he⟩ := List.mem_iff_getElem.1 (nextF_mem hn)
      exact absurd (by rw [he]) (h q hq))
  clear hA hg
  unfold dtV
  have hDB := Blk.new w 34 #[.string x.m.name, .slice x.mA x.mn x.mc, .slice x.hA x.hn x.hc, .int .i64 x.m.cover, .int .i64 x.m.aggr, .int .i64 x.m.poker, .slice x.bA x.bn x.bc, .slice x.rA x.rn x.rc, .slice x.jA x.jn x.jc, .slice x.dA x.dn x.dc, .int .i64 x.rule.num, .int .i64 x.rule.den, .int .i64 x.rule.pnum, .int .i64 x.rule.pden, .int .i64 x.rule.bnum, .int .i64 x.rule.bden, .int .i64 x.rule.lnum, .int .i64 x.rule.lden, .int .i64 x.rule.least]
  have hW1 : Below w.heap.size w (w.alloc (.cells #[.string x.m.name, .slice x.mA x.mn x.mc, .slice x.hA x.hn x.hc, .int .i64 x.m.cover, .int .i64 x.m.aggr, .int .i64 x.m.poker, .slice x.bA x.bn x.bc, .slice x.rA x.rn x.rc, .slice x.jA x.jn x.jc, .slice x.dA x.dn x.dc, .int .i64 x.rule.num, .int .i64 x.rule.den, .int .i64 x.rule.pnum, .int .i64 x.rule.pden, .int .i64 x.rule.bnum, .int .i64 x.rule.bden, .int .i64 x.rule.lnum, .int .i64 x.rule.lden, .int .i64 x.rule.least] 34)) := ba_alloc (Below.refl _ _) _
  generalize x.jA = jA at *
  go_enter Tryz.func77, Tryz.ntmps77
  go_wp2
  generalize (w.alloc (.cells #[.string x.m.name, .slice x.mA x.mn x.mc, .slice x.hA x.hn x.hc, .int .i64 x.m.cover, .int .i64 x.m.aggr, .int .i64 x.m.poker, .slice x.bA x.bn x.bc, .slice x.rA x.rn x.rc, .slice jA x.jn x.jc, .slice x.dA x.dn x.dc, .int .i64 x.rule.num, .int .i64 x.rule.den, .int .i64 x.rule.pnum, .int .i64 x.rule.pden, .int .i64 x.rule.bnum, .int .i64 x.rule.bden, .int .i64 x.rule.lnum, .int .i64 x.rule.lden, .int .i64 x.rule.least] 34)) = W1 at *
  go_loopw [5] (fun s wr => ∃ k : Nat, k ≤ x.jn ∧ s = .int .i64 k ∧ Hid (∀ m (h : m < x.js.length), m < k → x.js[m].first ≠ i) ∧ Below W1.heap.size W1 wr) (fun s _ => x.jn - (intOf s).toNat)
  case atStart => exact ⟨0, Nat.zero_le _, rfl, Lib.hid fun m _ hm => absurd hm (by omega), Below.refl _ _⟩
  case round =>
    obtain ⟨k, hk, rfl, HNP, hbr⟩ := hrel
    have hbw : Below w.heap.size w wr := ba_via hbr hW1
    have hDr := hDB.via hbr
    have d8 := hDr.cell 8
    have hDl := hDr.lt
    simp only [List.getElem?_toArray, List.getElem?_cons_zero, List.getElem?_cons_succ] at d8
    clear hDr
    by_cases hlt : k < x.jn
    · have hkx : k < x.js.length := by omega
      have hki : (k : Int) < x.jn := by omega
      have hJr := hJ.below (hbw.mono hB)
      obtain ⟨bJ, oJ, hje, hbJ, hxx⟩ := hJr.at_ (by rw [flat_len jnC 2 jnC_len]; omega)
      clear hxx
      subst hje
      have c0 := hJr.row0 jnC_len hkx rfl
      have c1 := hJr.rowj jnC_len hkx 1 rfl
      have HF := Lib.hid (HNF.out k hkx)
      have HGO := Lib.hid (fun (h : x.js[k].first ≠ i) (m : Nat) (hm : m < x.js.length) (hmk : m < k + 1) => show x.js[m].first ≠ i from by
        by_cases hmk' : m = k
        · subst hmk'; exact h
        · exact HNP.out m hm (by omega))
      have hbl : bJ < wr.heap.size := by have := hbw.size; omega
      clear hJr
      generalize x.js[k] = j at *
      cases h1 : (j.first == i)
      · have HG := Lib.hid (HGO.out (by simpa using h1))
        go_wp2
        go_roundw
        case rel => exact ⟨k + 1, by omega, by go_num, HG, (by repeat (first | exact Below.refl _ _ | assumption | refine ba_alloc ?_ _ | refine ba_drew ?_ | refine ba_drewN ?_ _ | refine ba_via (by assumption) ?_ | (refine ba_set ?_ ?_ _; rotate_left; (first | omega | (simp; omega) | simp))))⟩
        case measure => simp [intOf]; omega
      · have he : j.first = i := by simpa using h1
        have HE := Lib.hid (show (S.nextF x.js i).getD (-1) = j.second by rw [← he, HF.out]; rfl)
        clear he
        go_wp2
        go_ret
        exact ⟨ret_i HE.out.symm, hbw⟩
    · have HE := Lib.hid (show (S.nextF x.js i).getD (-1) = -1 by rw [HNO.out (fun q hq => HNP.out q hq (by omega))]; rfl)
      go_wp2
      go_ret
      exact ⟨ret_i HE.out.symm, hbw⟩
end Go.Proofs.YtffkmgjmlahfpaaGreat
set_option linter.unusedVariables false
set_option linter.unusedSimpArgs false
namespace Go.Proofs.YtffkmgjmlahfpaaGreat
open Go.RowKit
set_option maxRecDepth 20000 in
set_option maxHeartbeats 8000000 in
theorem rchains_any (x : Dt) (n : Nat) (rank : Int → Nat) (B : Nat) (w : World) (hB : B ≤ w.heap.size) (hA : DtAt w B x) (hg : LapsGood x.js n rank) (hn : n ≤ 2000) (hj : x.jn ≤ 1000)
    (hCN : ∀ W, Below w.heap.size w W → Calls Tryz.prog 42 #[dtV x] W fun e w' => e = .returned (.int .i64 n) ∧ Below W.heap.size W w') :
    Calls Tryz.prog 23 #[dtV x] w (GivesChs (S.chains x.js n) w) := by
  have hJ := hA.joints
  have hjl := hA.jlen
  have HCN := Lib.hid hCN
  have HNX := Lib.hid (fun (i : Int) (W : World) (hw : Below w.heap.size w W) => rnext_any x n rank i B W (size_via hB hw) (hA.at_ hB hw) hg hj)
  have HIN := Lib.hid (fun (i k : Int) (h : S.nextF x.js i = some k) => (hg.next h).2.1)
  have HEN := Lib.hid (fun i => hg.ends_n i)
  have hTK : x.js.take x.jn = x.js := List.take_of_length_le (by omega)
  have HS1 := Lib.hid (fun (k : Nat) (hk : k < x.js.length) => show S.secF (x.js.take (k + 1)) = fun i => i == x.js[k].second || S.secF (x.js.take k) i by rw [List.take_succ_eq_append_getElem hk, secF_snoc])
  clear hA hg hCN
  unfold dtV at HCN HNX
  unfold dtV
  have hDB := Blk.new w 34 #[.string x.m.name, .slice x.mA x.mn x.mc, .slice x.hA x.hn x.hc, .int .i64 x.m.cover, .int .i64 x.m.aggr, .int .i64 x.m.poker, .slice x.bA x.bn x.bc, .slice x.rA x.rn x.rc, .slice x.jA x.jn x.jc, .slice x.dA x.dn x.dc, .int .i64 x.rule.num, .int .i64 x.rule.den, .int .i64 x.rule.pnum, .int .i64 x.rule.pden, .int .i64 x.rule.bnum, .int .i64 x.rule.bden, .int .i64 x.rule.lnum, .int .i64 x.rule.lden, .int .i64 x.rule.least]
  have hW1 : Below w.heap.size w (w.alloc (.cells #[.string x.m.name, .slice x.mA x.mn x.mc, .slice x.hA x.hn x.hc, .int .i64 x.m.cover, .int .i64 x.m.aggr, .int .i64 x.m.poker, .slice x.bA x.bn x.bc, .slice x.rA x.rn x.rc, .slice x.jA x.jn x.jc, .slice x.dA x.dn x.dc, .int .i64 x.rule.num, .int .i64 x.rule.den, .int .i64 x.rule.pnum, .int .i64 x.rule.pden, .int .i64 x.rule.bnum, .int .i64 x.rule.bden, .int .i64 x.rule.lnum, .int .i64 x.rule.lden, .int .i64 x.rule.least] 34)) := ba_alloc (Below.refl _ _) _
  have hs1 : (w.alloc (.cells #[.string x.m.name, .slice x.mA x.mn x.mc, .slice x.hA x.hn x.hc, .int .i64 x.m.cover, .int .i64 x.m.aggr, .int .i64 x.m.poker, .slice x.bA x.bn x.bc, .slice x.rA x.rn x.rc, .slice x.jA x.jn x.jc, .slice x.dA x.dn x.dc, .int .i64 x.rule.num, .int .i64 x.rule.den, .int .i64 x.rule.pnum, .int .i64 x.rule.pden, .int .i64 x.rule.bnum, .int .i64 x.rule.bden, .int .i64 x.rule.lnum, .int .i64 x.rule.lden, .int .i64 x.rule.least] 34)).heap.size = w.heap.size + 1 := by simp
  generalize x.jA = jA at *
  go_enter Tryz.func23, Tryz.ntmps23
  go_wp2
  generalize (w.alloc (.cells #[.string x.m.name, .slice x.mA x.mn x.mc, .slice x.hA x.hn x.hc, .int .i64 x.m.cover, .int .i64 x.m.aggr, .int .i64 x.m.poker, .slice x.bA x.bn x.bc, .slice x.rA x.rn x.rc, .slice jA x.jn x.jc, .slice x.dA x.dn x.dc, .int .i64 x.rule.num, .int .i64 x.rule.den, .int .i64 x.rule.pnum, .int .i64 x.rule.pden, .int .i64 x.rule.bnum, .int .i64 x.rule.bden, .int .i64 x.rule.lnum, .int .i64 x.rule.lden, .int .i64 x.rule.least] 34)) = W1 at *
  have hDl1 := hDB.lt
  go_loopw [4, 3] (fun s v wr => ∃ (q : Nat) (rs : List Chn), q ≤ n ∧ s = .int .i64 q ∧ rs.map (·.l) = S.chainsTo x.js n q ∧ ChsAt wr W1.heap.size v rs ∧ Below W1.heap.size W1 wr) (fun s _ _ => n - (intOf s).toNat)
  case atStart => exact ⟨0, [], Nat.zero_le _, rfl, rfl, ⟨World.ownsRow_nil _ _ _ _, fun r hr => by cases hr⟩, Below.refl _ _⟩
  case round =>
    generalize wr = wq at *
    obtain ⟨q, rs, hq, rfl, hrs, hC, hbq⟩ := hrel
    have hrl : rs.length ≤ q := by
      have := chains_le x.js n q
      rw [← hrs] at this
      simpa using this
    have hbwq : Below w.heap.size w wq := ba_via hbq hW1
    have HDB := Lib.hid (hDB.via hbq)
    have HCNq := Lib.hid (fun (W : World) (hw : Below wq.heap.size wq W) => HCN.out W (ba_via hw hbwq))
    have HRS := Lib.hid hrs
    have HC := Lib.hid hC
    clear hrs hC
    by_cases hlt2 : q < n
    · have hqi : (q : Int) < n := by omega
      have HQ := Lib.hid (show q + 1 ≤ n by omega)
      clear hq
      go_wp2_with (first
        | (refine wpList_load_mid rfl 34 (.tmp 1) rfl _ _ rfl _ _ (HDB.out.via (by repeat (with_reducible first | exact Below.refl _ _ | assumption | refine ba_alloc ?_ _ | refine ba_drew ?_ | refine ba_drewN ?_ _ | refine ba_via (by assumption) ?_ | (refine ba_set ?_ ?_ _; rotate_left; (first | omega | (simp; omega) | simp))))).range Tryz.underlying34 rfl (by kernel_rfl) ?_)
        | (go_at_call 42; (with_reducible refine (HCNq.out _ (by repeat (with_reducible first | exact Below.refl _ _ | assumption | refine ba_alloc ?_ _ | refine ba_drew ?_ | refine ba_drewN ?_ _ | refine ba_via (by assumption) ?_ | (refine ba_set ?_ ?_ _; rotate_left; (first | omega | (simp; omega) | simp))))).mono ?_); rintro e wc ⟨rfl, hbwc⟩))
      have hbc : Below wq.heap.size wq wc := hbwc
      go_loopw [5, 6] (fun t s wx => ∃ k : Nat, k ≤ x.jn ∧ s = .int .i64 k ∧ t = .bool (S.secF (x.js.take k) q) ∧ Below wc.heap.size wc wx) (fun _ s _ => x.jn - (intOf s).toNat)
      case atStart => exact ⟨0, Nat.zero_le _, rfl, rfl, Below.refl _ _⟩
      case round =>
        generalize wr = wx at *
        obtain ⟨k, hk, rfl, rfl, hbx⟩ := hrel
        have hbqx : Below wq.heap.size wq wx := ba_via hbx hbc
        have hbwx : Below w.heap.size w wx := ba_via hbqx hbwq
        have hDr := HDB.out.via hbqx
        have d8 := hDr.cell 8
        have hDl := hDr.lt
        simp only [List.getElem?_toArray, List.getElem?_cons_zero, List.getElem?_cons_succ] at d8
        clear hDr
        by_cases hlt : k < x.jn
        · have hkx : k < x.js.length := by omega
          have hki : (k : Int) < x.jn := by omega
          have hJr := hJ.below (hbwx.mono hB)
          obtain ⟨bJ, oJ, hje, hbJ, hxx⟩ := hJr.at_ (by rw [flat_len jnC 2 jnC_len]; omega)
          clear hxx
          subst hje
          have c0 := hJr.row0 jnC_len hkx rfl
          have c1 := hJr.rowj jnC_len hkx 1 rfl
          have hbl : bJ < wx.heap.size := by have := hbwx.size; omega
          have HS := Lib.hid (congrFun (HS1.out k hkx) (q : Int))
          clear hJr
          generalize x.js[k] = j at *
          cases hsk : S.secF (x.js.take k) (q : Int)
          · cases h1 : (j.second == (q : Int))
            · have HT := Lib.hid (show S.secF (x.js.take (k + 1)) (q : Int) = false by
                rw [HS.out, hsk, Bool.or_false, beq_eq_false_iff_ne]
                exact fun h => (beq_eq_false_iff_ne.1 h1) h.symm)
              go_wp2
              go_roundw
              case rel => exact ⟨k + 1, by omega, by go_num, by rw [HT.out], (by repeat (first | exact Below.refl _ _ | assumption | refine ba_alloc ?_ _ | refine ba_drew ?_ | refine ba_drewN ?_ _ | refine ba_via (by assumption) ?_ | (refine ba_set ?_ ?_ _; rotate_left; (first | omega | (simp; omega) | simp))))⟩
              case measure => simp [intOf]; omega
            · have HT := Lib.hid (show S.secF (x.js.take (k + 1)) (q : Int) = true by
                rw [HS.out, hsk, Bool.or_false, beq_iff_eq]
                exact (beq_iff_eq.1 h1).symm)
              go_wp2
              go_roundw
              case rel => exact ⟨k + 1, by omega, by go_num, by rw [HT.out], (by repeat (first | exact Below.refl _ _ | assumption | refine ba_alloc ?_ _ | refine ba_drew ?_ | refine ba_drewN ?_ _ | refine ba_via (by assumption) ?_ | (refine ba_set ?_ ?_ _; rotate_left; (first | omega | (simp; omega) | simp))))⟩
              case measure => simp [intOf]; omega
          · have HT := Lib.hid (show S.secF (x.js.take (k + 1)) (q : Int) = true by rw [HS.out, hsk, Bool.or_true])
            go_wp2
            go_roundw
            case rel => exact ⟨k + 1, by omega, by go_num, by rw [HT.out], (by repeat (first | exact Below.refl _ _ | assumption | refine ba_alloc ?_ _ | refine ba_drew ?_ | refine ba_drewN ?_ _ | refine ba_via (by assumption) ?_ | (refine ba_set ?_ ?_ _; rotate_left; (first | omega | (simp; omega) | simp))))⟩
            case measure => simp [intOf]; omega
        · obtain rfl : k = x.jn := by omega
          rw [hTK]
          have hCx := Lib.hid (HC.out.kept hbqx)
          cases hsec : S.secF x.js (q : Int) with
          | true =>
            go_wp2
            go_roundw
            case rel => exact ⟨q + 1, rs, HQ.out, by go_num, by rw [chainsTo_no hsec]; exact HRS.out, hCx.out, ba_via hbqx hbq⟩
            case measure => have := HQ.out; simp [intOf]; omega
          | false =>
            have HE0 := Lib.hid (HEN.out q)
            have HDX := Lib.hid (HDB.out.via hbqx)
            clear HDB HCNq
            have hxs := hbqx.size
            have hqs := hbq.size
            go_wp2
            clear d8
            go_loopw [7, 8] (fun s7 s8 wy => ∃ (m : Nat) (o : Option Int) (xs : List Int) (A : Option Addr) (c : Nat), s7 = .slice A xs.length c ∧ s8 = .int .i64 (o.getD (-1)) ∧ xs ++ S.rest (S.nextF x.js) m o = S.chainOf (S.nextF x.js) n q ∧ S.ends (S.nextF x.js) m o ∧ m + xs.length = n + 1 ∧ (∀ i, o = some i → 0 ≤ i ∧ i < n) ∧ Row wx wy none W1.heap.size 3 1 (.slice A xs.length c) xs.length (i64s xs) ∧ Exc [] wx wy) (fun s _ _ => n + 1 - lenV s)
            case atStart =>
              refine ⟨n + 1, some (q : Int), [], none, 0, rfl, rfl, rfl, HE0.out, by simp, ?_, Row.none_ _ _ _ _, Exc.refl _ _⟩
              intro i hi
              injection hi with hi
              subst hi
              omega
            case round =>
              generalize wr = wy at *
              obtain ⟨m, o, xs, A, c, rfl, rfl, hrest, hends, hm, ho, hR, hX⟩ := hrel
              have hbxy : Below wx.heap.size wx wy := hX.below (Nat.le_refl _) (by simp)
              have hys := hbxy.size
              cases o with
              | some i =>
                obtain ⟨m', rfl, hends', hrest'⟩ := rest_some hends
                rw [hrest'] at hrest
                have hin := ho i rfl
                have hi0 : (0 : Int) ≤ i := hin.1
                have HR := Lib.hid hR
                have HXX := Lib.hid hX
                have HRE := Lib.hid hrest
                have HEE := Lib.hid hends'
                have HO2 := Lib.hid (fun k (h : S.nextF x.js i = some k) => HIN.out i k h)
                have HM := Lib.hid hm
                have HNI := Lib.hid (fun (W : World) (hw : Below w.heap.size w W) => HNX.out i W hw)
                have HXY := Lib.hid hbxy
                clear hR hX hrest hends hends' ho hrest' hm hin
                go_wp2_with (first
                  | (at_builtin; refine wpList_push rfl (.tmp 40) (.tmp 42) _ rfl elemInt (HR.out.alloc _) (HXX.out.alloc _) (by simp) (by omega) rfl wy.heap.size 1 1 [.int .i64 i] rfl rfl ?_ (by simp [Value.oneCell']) (by have := HM.out; unfold maxLen; omega) (by have := HM.out; omega) ?_; (· intro j u hu; exact one_new _ _ _ _ j u hu); intro v1 wD hRD hXD hOD; obtain ⟨A5, c5, rfl, _, _, hCD⟩ := own_form hRD.own (by have := HM.out; unfold maxLen; omega); have hbD : Below wx.heap.size wx wD := hXD.below (Nat.le_refl _) (by simp))
                  | (refine wpList_load_mid rfl 34 (.tmp 1) rfl _ _ rfl _ _ (HDX.out.via hbD).range Tryz.underlying34 rfl (by kernel_rfl) ?_)
                  | (go_at_call 77; (with_reducible refine (HNI.out _ (ba_via hbD hbwx)).mono ?_); rintro e wN ⟨rfl, hbwN⟩))
                go_roundw
                case rel =>
                  refine ⟨m', S.nextF x.js i, xs ++ [i], A5, c5, by simp, rfl, ?_, HEE.out, by have := HM.out; simp; omega, HO2.out, ?_, Exc.via hbwN hXD⟩
                  · rw [List.append_assoc]; exact HRE.out
                  · rw [i64s_snoc, List.length_append]; exact hRD.via hbwN
                case measure => have := HM.out; simp [lenV]; omega
              | none =>
                rw [rest_none, List.append_nil] at hrest
                have hxp : 0 < xs.length := by rw [hrest]; exact Nat.succ_pos _
                have hCy := HC.out.kept (ba_via hbxy hbqx)
                have hnew : ∃ g, A = some ⟨g, 0, none⟩ ∧ W1.heap.size ≤ g ∧ u3.ownBlock ≠ some g ∧ wy.ownsRow W1.heap.size 3 1 (.slice A xs.length c) xs.length (i64s xs) := by
                  have ho := hR.own
                  rcases ho.2 with ⟨_, h0⟩ | ⟨g, cap, cur, hv, hbg, _⟩
                  · omega
                  · injection hv with hA1 _ hc1
                    refine ⟨g, hA1, hbg, fun he => ?_, ho⟩
                    have h1 := (HC.out.own.lt g he).2
                    rcases hR.place g (by rw [hA1]; rfl) with h2 | h2
                    · cases h2
                    · omega
                have HNW := Lib.hid hnew
                have HCX := Lib.hid hCy
                have HRE := Lib.hid hrest
                have hb1y : Below W1.heap.size W1 wy := ba_via hbxy (ba_via hbqx hbq)
                clear hnew hCy hrest hR hX hends hxp
                have hm1 : ¬ ((0 : Int) ≤ -1) := by omega
                go_wp2_with (at_builtin; refine wpList_push rfl (.tmp 44) (.tmp 46) _ rfl elemRow ((show Row wy wy u3.ownBlock W1.heap.size 58 1 u3 rs.length (rs.map chV) from ⟨HCX.out.own, fun k hk => .inl hk.symm⟩).alloc _) ((Exc.refl u3.ownBlock.toList wy).alloc _) (by intro k hk; simp [hk]) (by omega) rfl wy.heap.size 1 1 [.slice A xs.length c] rfl rfl ?_ (by simp [Value.oneCell']) (by unfold maxLen; omega) (by omega) ?_; (· intro j u hu; exact one_new _ _ _ _ j u hu); intro v2 wE hRE hXE hOE)
                have hpush := ChsAt.push (r := ⟨A, c, xs⟩) (w2 := wE) (v2 := v2) HCX.out HNW.out hRE.own (fun k hk hne => (hOE k (by simp; omega) hne).trans (Below.heap_alloc _ _ k hk)) (fun k hk => hRE.place k hk)
                have hbE : Below W1.heap.size W1 wE := hb1y.trans (hXE.below (by omega) (fun g hg => (HCX.out.own.lt g (by simpa using hg)).1))
                go_roundw
                case rel => exact ⟨q + 1, rs ++ [⟨A, c, xs⟩], HQ.out, by go_num, by rw [chainsTo_yes hsec, List.map_append, HRS.out, ← HRE.out]; rfl, hpush, hbE⟩
                case measure => have := HQ.out; simp [intOf]; omega
    · obtain rfl : q = n := by omega
      have hqi : ¬ ((q : Int) < q) := by omega
      go_wp2_with (first
        | (refine wpList_load_mid rfl 34 (.tmp 1) rfl _ _ rfl _ _ (HDB.out.via (by repeat (with_reducible first | exact Below.refl _ _ | assumption | refine ba_alloc ?_ _ | refine ba_drew ?_ | refine ba_drewN ?_ _ | refine ba_via (by assumption) ?_ | (refine ba_set ?_ ?_ _; rotate_left; (first | omega | (simp; omega) | simp))))).range Tryz.underlying34 rfl (by kernel_rfl) ?_)
        | (go_at_call 42; (with_reducible refine (HCNq.out _ (by repeat (with_reducible first | exact Below.refl _ _ | assumption | refine ba_alloc ?_ _ | refine ba_drew ?_ | refine ba_drewN ?_ _ | refine ba_via (by assumption) ?_ | (refine ba_set ?_ ?_ _; rotate_left; (first | omega | (simp; omega) | simp))))).mono ?_); rintro e wc ⟨rfl, hbwc⟩))
      have hCc := HC.out.kept hbwc
      obtain ⟨A5, c5, rfl, hnc5, hxx5, hC5⟩ := own_form hCc.own (by unfold maxLen; omega)
      go_ret
      refine ⟨A5, c5, rs, rfl, HRS.out, hnc5, hC5, fun r hr => ?_, ba_via hbwc hbwq⟩
      obtain ⟨g, h1, h2, h3, h4⟩ := hCc.each r hr
      have hl : r.l ∈ S.chainsTo x.js q q := by rw [← HRS.out]; exact List.mem_map_of_mem hr
      have hll : r.l.length ≤ q + 1 := by
        unfold S.chainsTo at hl
        obtain ⟨i, _, hi⟩ := List.mem_map.1 hl
        rw [← hi]
        exact chainOf_le _ _ _
      have := own_cells h4 (by unfold maxLen; omega)
      exact ⟨this.1, this.2.1⟩
end Go.Proofs.YtffkmgjmlahfpaaGreat
set_option linter.unusedVariables false
set_option linter.unusedSimpArgs false
namespace Go.Proofs.YtffkmgjmlahfpaaGreat
open Go.RowKit
set_option maxHeartbeats 1000000 in
theorem equalF_same (l : List Fd) (A A' : Option Addr) (n c c' : Nat) (B : Nat) (w : World) (hB : B ≤ w.heap.size) (hn : l.length = n) (hm : n ≤ 9223372036854775807) (hx : Cells w B A (l.flatMap fdC)) (hy : Cells w B A' (l.flatMap fdC)) :
    Calls Tryz.prog 20 #[.slice A n c, .slice A' n c'] w fun e w' => e = .returned (.bool true) ∧ Below w.heap.size w w' := by
  have HN := Lib.hid hn
  clear hn
  go_enter Tryz.func20, Tryz.ntmps20
  go_wp2
  go_loopw [13] (fun i wr => ∃ k : Nat, k ≤ n ∧ i = .int .i64 k ∧ Below w.heap.size w wr) (fun i _ => n - (intOf i).toNat)
  case atStart => exact ⟨0, Nat.zero_le _, rfl, Below.refl _ _⟩
  case round =>
    obtain ⟨k, hk, rfl, hbr⟩ := hrel
    by_cases hlt : k < n
    · have hkx : k < l.length := by have := HN.out; omega
      have hkn : (k : Int) < (n : Int) := by omega
      have hx' := hx.below (hbr.mono hB)
      have hy' := hy.below (hbr.mono hB)
      obtain ⟨b1, o1, rfl, hb1, _⟩ := hx'.at_ (by rw [flat_len fdC 2 fdC_len]; omega)
      obtain ⟨b2, o2, rfl, hb2, _⟩ := hy'.at_ (by rw [flat_len fdC 2 fdC_len]; omega)
      have c0 := hx'.row0 fdC_len hkx rfl
      have c1 := hx'.rowj fdC_len hkx 1 rfl
      have d0 := hy'.row0 fdC_len hkx rfl
      have d1 := hy'.rowj fdC_len hkx 1 rfl
      clear hx' hy'
      generalize l[k] = f at *
      go_wp2
      go_quiet (fail)
      go_wp2
      go_roundw
      case rel => exact ⟨k + 1, by omega, by go_num, (by repeat (first | exact Below.refl _ _ | assumption | refine ba_alloc ?_ _ | refine ba_drew ?_ | refine ba_drewN ?_ _ | refine ba_via (by assumption) ?_ | (refine ba_set ?_ ?_ _; rotate_left; (first | omega | (simp; omega) | simp))))⟩
      case measure => simp [intOf]; omega
    · go_wp2
      go_ret
      exact ⟨rfl, (by repeat (first | exact Below.refl _ _ | assumption | refine ba_alloc ?_ _ | refine ba_drew ?_ | refine ba_drewN ?_ _ | refine ba_via (by assumption) ?_ | (refine ba_set ?_ ?_ _; rotate_left; (first | omega | (simp; omega) | simp))))⟩
set_option maxHeartbeats 1000000 in
theorem equalC_same (rs rs' : List Chn) (A A' : Option Addr) (n c c' : Nat) (B : Nat) (w : World) (hB : B ≤ w.heap.size) (hn : rs.length = n) (hm : n ≤ 9223372036854775807) (he : rs.map (·.l) = rs'.map (·.l))
    (hx : Cells w B A (rs.map chV)) (hy : Cells w B A' (rs'.map chV)) (hxe : ∀ r, r ∈ rs → Cells w B r.A (i64s r.l)) (hye : ∀ r, r ∈ rs' → Cells w B r.A (i64s r.l)) (hml : ∀ r, r ∈ rs → r.l.length ≤ 9223372036854775807) :
    Calls Tryz.prog 22 #[.slice A n c, .slice A' n c', .func (.func 24) #[] #[]] w fun e w' => e = .returned (.bool true) ∧ Below w.heap.size w w' := by
  have HN := Lib.hid hn
  have HN' := Lib.hid (show rs'.length = n by have := congrArg List.length he; simp at this; omega)
  have HXE := Lib.hid hxe
  have HYE := Lib.hid hye
  have HML := Lib.hid hml
  have HE := Lib.hid (fun (k : Nat) (h1 : k < rs.length) (h2 : k < rs'.length) => show rs[k].l = rs'[k].l from by
    have := congrArg (fun l => l[k]?) he
    simpa [h1, h2] using this)
  clear hn hxe hye he hml
  go_enter Tryz.func22, Tryz.ntmps22
  go_wp2
  go_loopw [17] (fun i wr => ∃ k : Nat, k ≤ n ∧ i = .int .i64 k ∧ Below w.heap.size w wr) (fun i _ => n - (intOf i).toNat)
  case atStart => exact ⟨0, Nat.zero_le _, rfl, Below.refl _ _⟩
  case round =>
    obtain ⟨k, hk, rfl, hbr⟩ := hrel
    by_cases hlt : k < n
    · have hkx : k < rs.length := by have := HN.out; omega
      have hky : k < rs'.length := by have := HN'.out; omega
      have hkn : (k : Int) < (n : Int) := by omega
      have hx' := hx.below (hbr.mono hB)
      have hy' := hy.below (hbr.mono hB)
      obtain ⟨b1, o1, rfl, hb1, hxx⟩ := hx'.at_ (by rw [List.length_map]; omega)
      obtain ⟨b2, o2, rfl, hb2, hyy⟩ := hy'.at_ (by rw [List.length_map]; omega)
      clear hxx hyy
      have c0 := hx'.get (k := k) (v := chV rs[k]) (by rw [List.getElem?_map, List.getElem?_eq_getElem hkx]; rfl)
      have d0 := hy'.get (k := k) (v := chV rs'[k]) (by rw [List.getElem?_map, List.getElem?_eq_getElem hky]; rfl)
      have e1 := HXE.out rs[k] (List.getElem_mem hkx)
      have e2 := HYE.out rs'[k] (List.getElem_mem hky)
      have hl := HML.out rs[k] (List.getElem_mem hkx)
      unfold chV at c0 d0
      rw [HE.out k hkx hky] at e1 hl c0
      generalize rs[k].A = A1 at *
      generalize rs[k].c = q1 at *
      generalize rs'[k] = r at *
      have HEQ := Lib.hid (fun (W : World) (hw : Below w.heap.size w W) => (show S.eqi r.l r.l = true from by simp [S.eqi]) ▸ equal_any A1 r.A r.l.length r.l.length q1 r.c r.l r.l B W (size_via hB hw) rfl rfl hl hl (e1.below (hw.mono hB)) (e2.below (hw.mono hB)))
      clear hx' hy' e1 e2
      go_wp2_with (first
        | (go_at_call 24; go_loud (with_reducible refine (HEQ.out _ (by repeat (with_reducible first | exact Below.refl _ _ | assumption | refine ba_alloc ?_ _ | refine ba_drew ?_ | refine ba_drewN ?_ _ | refine ba_via (by assumption) ?_ | (refine ba_set ?_ ?_ _; rotate_left; (first | omega | (simp; omega) | simp))))).mono ?_); go_loud (rintro e w2 ⟨rfl, hbw2⟩)))
      go_roundw
      case rel => exact ⟨k + 1, by omega, by go_num, (by repeat (first | exact Below.refl _ _ | assumption | refine ba_alloc ?_ _ | refine ba_drew ?_ | refine ba_drewN ?_ _ | refine ba_via (by assumption) ?_ | (refine ba_set ?_ ?_ _; rotate_left; (first | omega | (simp; omega) | simp))))⟩
      case measure => simp [intOf]; omega
    · go_wp2
      go_ret
      exact ⟨rfl, (by repeat (first | exact Below.refl _ _ | assumption | refine ba_alloc ?_ _ | refine ba_drew ?_ | refine ba_drewN ?_ _ | refine ba_via (by assumption) ?_ | (refine ba_set ?_ ?_ _; rotate_left; (first | omega | (simp; omega) | simp))))⟩
end Go.Proofs.YtffkmgjmlahfpaaGreat
set_option linter.unusedVariables false
set_option linter.unusedSimpArgs false
namespace Go.Proofs.YtffkmgjmlahfpaaGreat
open Go.RowKit
abbrev uV (n : Nat) : Value := .agg #[.int .u64 0, .int .u64 (n : Int)]
theorem g_both (x y : Nat) (hx : x % 2 = 0) (hy : y % 2 = 0) : Nat.gcd (x / 2) (y / 2) * 2 = Nat.gcd x y := by
  have h := Nat.gcd_mul_left 2 (x/2) (y/2)
  rw [show 2 * (x/2) = x by omega, show 2 * (y/2) = y by omega] at h
  omega
theorem g_left (x y : Nat) (hx : x % 2 = 0) (hy : y % 2 = 1) : Nat.gcd (x / 2) y = Nat.gcd x y := by
  have hc : Nat.Coprime 2 y := by
    unfold Nat.Coprime
    rw [Nat.gcd_rec, hy]
    rfl
  have h := Nat.Coprime.gcd_mul_left_cancel (x/2) hc
  rw [show 2 * (x/2) = x by omega] at h
  exact h.symm
theorem g_right (x y : Nat) (hx : x % 2 = 1) (hy : y % 2 = 0) : Nat.gcd x (y / 2) = Nat.gcd x y := by
  rw [Nat.gcd_comm, g_left y x hy hx, Nat.gcd_comm]
theorem g_sub (x y : Nat) (h : y ≤ x) : Nat.gcd (x - y) y = Nat.gcd x y := Nat.gcd_sub_self_left h
theorem rsz2_any (n : Int) (w : World) (h0 : 0 ≤ n) (h1 : n ≤ 1152921504606846976) :
    Calls Tryz.prog 79 #[.int .i64 n] w fun e w' => e = .returned (.int .u64 n) ∧ w = w' := by
  have e := PlainAid.u64_nonneg h0 (by omega)
  go_enter Tryz.func79, Tryz.ntmps79
  go_wp2
  go_ret
  exact ⟨rfl, rfl⟩
theorem u64_nat (n : Nat) (h : n ≤ 1152921504606846976) : IntKind.u64.wrap (n : Int) = n := PlainAid.u64_nonneg (by omega) (by omega)
theorem half_any (a : Nat) (w : World) (h : a ≤ 1152921504606846976) :
    Calls Tryz.prog 194 #[uV a] w fun e w' => e = .returned (uV (a / 2)) ∧ Below w.heap.size w w' := by
  unfold uV
  go_enter Tryz.func194, Tryz.ntmps194
  go_wp2
  exact bodyPost_ret (v := uV (a / 2)) (by simp [results, Tryz.results194, go_sem, *]) rfl ⟨rfl, (by repeat (first | exact Below.refl _ _ | assumption | refine ba_alloc ?_ _ | refine ba_drew ?_ | refine ba_drewN ?_ _ | refine ba_via (by assumption) ?_ | (refine ba_set ?_ ?_ _; rotate_left; (first | omega | (simp; omega) | simp))))⟩
theorem less_any (a b : Nat) (w : World) :
    Calls Tryz.prog 195 #[uV a, uV b] w fun e w' => e = .returned (.bool (decide (a < b))) ∧ Below w.heap.size w w' := by
  unfold uV
  go_enter Tryz.func195, Tryz.ntmps195
  go_wp2
  go_ret
  exact ⟨rfl, (by repeat (first | exact Below.refl _ _ | assumption | refine ba_alloc ?_ _ | refine ba_drew ?_ | refine ba_drewN ?_ _ | refine ba_via (by assumption) ?_ | (refine ba_set ?_ ?_ _; rotate_left; (first | omega | (simp; omega) | simp))))⟩
theorem minus_any (a b : Nat) (w : World) (h : a ≤ 1152921504606846976) (hb : b ≤ a) :
    Calls Tryz.prog 196 #[uV a, uV b] w fun e w' => e = .returned (uV (a - b)) ∧ Below w.heap.size w w' := by
  unfold uV
  have h1 : ¬ (a : Int) < b := by omega
  have e : (a : Int) - (b : Int) = ((a - b : Nat) : Int) := by omega
  go_enter Tryz.func196, Tryz.ntmps196
  go_wp2
  exact bodyPost_ret (v := uV (a - b)) (by simp [results, Tryz.results196, go_sem, *]) rfl ⟨rfl, (by repeat (first | exact Below.refl _ _ | assumption | refine ba_alloc ?_ _ | refine ba_drew ?_ | refine ba_drewN ?_ _ | refine ba_via (by assumption) ?_ | (refine ba_set ?_ ?_ _; rotate_left; (first | omega | (simp; omega) | simp))))⟩
theorem plus02_any (a b : Nat) (w : World) (h : a ≤ 1152921504606846976) (hb : b ≤ 1152921504606846976) :
    Calls Tryz.prog 197 #[uV a, uV b] w fun e w' => e = .returned (uV (a + b)) ∧ Below w.heap.size w w' := by
  unfold uV
  have h1 : ¬ (a : Int) + b < b := by omega
  go_enter Tryz.func197, Tryz.ntmps197
  go_wp2
  exact bodyPost_ret (v := uV (a + b)) (by simp [results, Tryz.results197, go_sem, *]) rfl ⟨rfl, (by repeat (first | exact Below.refl _ _ | assumption | refine ba_alloc ?_ _ | refine ba_drew ?_ | refine ba_drewN ?_ _ | refine ba_via (by assumption) ?_ | (refine ba_set ?_ ?_ _; rotate_left; (first | omega | (simp; omega) | simp))))⟩
set_option maxRecDepth 100000 in
set_option maxHeartbeats 2000000 in
theorem div_any (a b : Nat) (w : World) (h : a ≤ 1152921504606846976) (hb : b ≤ 1152921504606846976) (hb0 : 1 ≤ b) :
    Calls Tryz.prog 135 #[uV a, uV b] w fun e w' => e = .returned (.tuple #[uV (a / b), uV (a % b)]) ∧ Below w.heap.size w w' := by
  unfold uV
  have hz : ((b : Int) == 0) = false := by simp; omega
  have hq : a / b ≤ a := Nat.div_le_self a b
  have e1 : IntKind.u64.wrap ((a : Int) / (b : Int)) = (a : Int) / (b : Int) := by
    have := u64_nat (a / b) (Nat.le_trans hq h)
    rw [Int.natCast_ediv] at this
    exact this
  clear hq
  go_enter Tryz.func135, Tryz.ntmps135
  go_wp2
  go_region
  go_wp2
  exact bodyPost_ret (v := .tuple #[.agg #[.int .u64 0, .int .u64 ((a : Int) / (b : Int))], .agg #[.int .u64 0, .int .u64 ((a : Int) % (b : Int))]]) (by simp [results, Tryz.results135, go_sem, *]) rfl ⟨by rw [Int.natCast_ediv, Int.natCast_emod], (by repeat (first | exact Below.refl _ _ | assumption | refine ba_alloc ?_ _ | refine ba_drew ?_ | refine ba_drewN ?_ _ | refine ba_via (by assumption) ?_ | (refine ba_set ?_ ?_ _; rotate_left; (first | omega | (simp; omega) | simp))))⟩
end Go.Proofs.YtffkmgjmlahfpaaGreat
set_option linter.unusedVariables false
set_option linter.unusedSimpArgs false
namespace Go.Proofs.YtffkmgjmlahfpaaGreat
open Go.RowKit
theorem run_eq_u (a b : Nat) (W : World) : (binOp .eql 144 (uV a) (uV b)).run Tryz.prog W = .ok (.bool (a == b)) W := by
  by_cases h : a = b
  · subst h; simp [go_sem]
  · have h2 : ((a : Int) == (b : Int)) = false := by simp; omega
    have h3 : (a == b) = false := by simp [h]
    simp [go_sem, h2, h3, h]
theorem run_neq_u (a b : Nat) (W : World) : (binOp .neq 144 (uV a) (uV b)).run Tryz.prog W = .ok (.bool (a != b)) W := by
  by_cases h : a = b
  · subst h; simp [go_sem]
  · have h2 : ((a : Int) == (b : Int)) = false := by simp; omega
    have h3 : (a == b) = false := by simp [h]
    simp [go_sem, h2, h3, h, bne]
/-- Two magnitudes in memory: blocks s and s + 1. -/
structure Two (s : Nat) (W0 w : World) (x y : Nat) : Prop where
  fst : Blk w s 144 #[.int .u64 0, .int .u64 (x : Int)]
  snd : Blk w (s + 1) 144 #[.int .u64 0, .int .u64 (y : Int)]
  exc : Exc [s, s + 1] W0 w
theorem Two.via {s : Nat} {W0 w w' : World} {x y : Nat} (h : Two s W0 w x y) (hb : Below w.heap.size w w') : Two s W0 w' x y := ⟨h.fst.via hb, h.snd.via hb, Exc.via hb h.exc⟩
theorem Two.drew {s : Nat} {W0 w : World} {x y : Nat} (h : Two s W0 w x y) : Two s W0 w.drew x y := ⟨h.fst, h.snd, h.exc.drew⟩
theorem Two.drewN {s : Nat} {W0 w : World} {x y : Nat} (h : Two s W0 w x y) (n : Nat) : Two s W0 (w.drewN n) x y := ⟨h.fst, h.snd, h.exc.drewN n⟩
theorem Two.setx {s : Nat} {W0 w : World} {x y : Nat} (h : Two s W0 w x y) (z : Nat) : Two s W0 ((w.setCell ⟨s, 0, none⟩ (.int .u64 0)).setCell ⟨s, 1, none⟩ (.int .u64 (z : Int))) z y := by
  refine ⟨?_, (h.snd.far (by simp) _).far (by simp) _, (h.exc.set (.inl (by simp)) _).set (.inl (by simp)) _⟩
  have h6 := (h.fst.set 0 (.int .u64 0)).set 1 (.int .u64 (z : Int))
  simp only [List.setIfInBounds_toArray, List.set_cons_zero, List.set_cons_succ] at h6
  exact h6
theorem Two.sety {s : Nat} {W0 w : World} {x y : Nat} (h : Two s W0 w x y) (z : Nat) : Two s W0 ((w.setCell ⟨s + 1, 0, none⟩ (.int .u64 0)).setCell ⟨s + 1, 1, none⟩ (.int .u64 (z : Int))) x z := by
  refine ⟨(h.fst.far (by simp) _).far (by simp) _, ?_, (h.exc.set (.inl (by simp)) _).set (.inl (by simp)) _⟩
  have h6 := (h.snd.set 0 (.int .u64 0)).set 1 (.int .u64 (z : Int))
  simp only [List.setIfInBounds_toArray, List.set_cons_zero, List.set_cons_succ] at h6
  exact h6
structure TwoC (s : Nat) (w : World) (x y : Nat) : Prop where
  a0 : w.cell? ⟨s, 0, none⟩ = some (.int .u64 0)
  a1 : w.cell? ⟨s, 1, none⟩ = some (.int .u64 (x : Int))
  b0 : w.cell? ⟨s + 1, 0, none⟩ = some (.int .u64 0)
  b1 : w.cell? ⟨s + 1, 1, none⟩ = some (.int .u64 (y : Int))
  f0 : w.frozen? ⟨s, 0, none⟩ = false
  f1 : w.frozen? ⟨s, 1, none⟩ = false
  g0 : w.frozen? ⟨s + 1, 0, none⟩ = false
  g1 : w.frozen? ⟨s + 1, 1, none⟩ = false
  la : s < w.heap.size
  lb : s + 1 < w.heap.size
theorem Two.cells {s : Nat} {W0 w : World} {x y : Nat} (h : Two s W0 w x y) : TwoC s w x y :=
  ⟨h.fst.cell 0, h.fst.cell 1, h.snd.cell 0, h.snd.cell 1, h.fst.frozen 0, h.fst.frozen 1, h.snd.frozen 0, h.snd.frozen 1, h.fst.lt, h.snd.lt⟩
theorem and_one (x : Nat) (h : x ≤ 1152921504606846976) : bits BinOp.and IntKind.u64 (x : Int) 1 = (x : Int) % 2 := and_one_u64 _ (by omega) (by omega)
theorem even_b {x : Nat} (h : x % 2 = 0) : ((x : Int) % 2 == 0) = true := by simp; omega
theorem odd_b {x : Nat} (h : x % 2 = 1) : ((x : Int) % 2 == 0) = false := by simp; omega
set_option maxRecDepth 100000 in
set_option maxHeartbeats 4000000 in
theorem gcd2_any (a b : Nat) (w : World) (ha : a ≤ 1152921504606846976) (hb : b ≤ 1152921504606846976) (hb0 : 1 ≤ b) :
    Calls Tryz.prog 134 #[uV a, uV b] w fun e w' => e = .returned (uV (Nat.gcd a b)) ∧ Below w.heap.size w w' := by
  have hgb := Nat.gcd_le_right a (show 0 < b by omega)
  have HG := Lib.hid (show Nat.gcd 0 b = b from Nat.gcd_zero_left b)
  have q0 := run_eq_u a 0
  unfold uV at q0 ⊢
  by_cases hz : a = 0
  · have q1 : (a == 0) = true := by simp [hz]
    rw [q1] at q0
    have HZ := Lib.hid hz
    clear hz q1
    go_enter Tryz.func134, Tryz.ntmps134
    go_wp2
    exact bodyPost_ret (v := uV b) (by simp [results, Tryz.results134, go_sem, *]) rfl ⟨by rw [HZ.out, HG.out], (by repeat (first | exact Below.refl _ _ | assumption | refine ba_alloc ?_ _ | refine ba_drew ?_ | refine ba_drewN ?_ _ | refine ba_via (by assumption) ?_ | (refine ba_set ?_ ?_ _; rotate_left; (first | omega | (simp; omega) | simp))))⟩
  · have q1 : (a == 0) = false := by simp [hz]
    rw [q1] at q0
    have ha1 : 1 ≤ a := by omega
    clear hz q1
    generalize hGG : Nat.gcd a b = G at *
    have HGG := Lib.hid hGG
    clear hGG
    go_enter Tryz.func134, Tryz.ntmps134
    go_wp2
    have hW : Below w.heap.size w (((w.alloc (.cells #[.int .u64 0, .int .u64 (a : Int)] 144)).alloc (.cells #[.int .u64 0, .int .u64 (b : Int)] 144)).alloc (.cells #[.int .u64 0, .int .u64 0] 144)) := (by repeat (first | exact Below.refl _ _ | assumption | refine ba_alloc ?_ _ | refine ba_drew ?_ | refine ba_drewN ?_ _ | refine ba_via (by assumption) ?_ | (refine ba_set ?_ ?_ _; rotate_left; (first | omega | (simp; omega) | simp))))
    have hT0 : Two w.heap.size (((w.alloc (.cells #[.int .u64 0, .int .u64 (a : Int)] 144)).alloc (.cells #[.int .u64 0, .int .u64 (b : Int)] 144)).alloc (.cells #[.int .u64 0, .int .u64 0] 144)) (((w.alloc (.cells #[.int .u64 0, .int .u64 (a : Int)] 144)).alloc (.cells #[.int .u64 0, .int .u64 (b : Int)] 144)).alloc (.cells #[.int .u64 0, .int .u64 0] 144)) a b :=
      ⟨((Blk.new w _ _).alloc _).alloc _, by simpa using (Blk.new (w.alloc (.cells #[.int .u64 0, .int .u64 (a : Int)] 144)) 144 #[.int .u64 0, .int .u64 (b : Int)]).alloc (.cells #[.int .u64 0, .int .u64 0] 144), Exc.refl _ _⟩
    have hR0 : Blk (((w.alloc (.cells #[.int .u64 0, .int .u64 (a : Int)] 144)).alloc (.cells #[.int .u64 0, .int .u64 (b : Int)] 144)).alloc (.cells #[.int .u64 0, .int .u64 0] 144)) (w.heap.size + 1 + 1) 144 #[.int .u64 0, .int .u64 0] := by
      simpa using Blk.new ((w.alloc (.cells #[.int .u64 0, .int .u64 (a : Int)] 144)).alloc (.cells #[.int .u64 0, .int .u64 (b : Int)] 144)) 144 #[.int .u64 0, .int .u64 0]
    have HR0 := Lib.hid hR0
    have HT0 := Lib.hid hT0
    clear hR0 hT0
    generalize (((w.alloc (.cells #[.int .u64 0, .int .u64 (a : Int)] 144)).alloc (.cells #[.int .u64 0, .int .u64 (b : Int)] 144)).alloc (.cells #[.int .u64 0, .int .u64 0] 144)) = W0 at *
    go_loopg [5] a (fun g i wr => ∃ t x y : Nat, i = .int .i64 t ∧ g + t = a ∧ t + x ≤ a ∧ 1 ≤ x ∧ 1 ≤ y ∧ y ≤ b ∧ Hid (Nat.gcd x y * 2 ^ t = G) ∧ Hid (Two w.heap.size W0 wr x y))
    case atStart => exact ⟨0, a, b, rfl, by omega, by omega, ha1, hb0, Nat.le_refl _, Lib.hid (by rw [HGG.out]; simp), HT0⟩
    case round =>
      obtain ⟨t, x, y, rfl, hg, htx, hx1, hy1, hyb, HI, HT⟩ := hrel
      obtain ⟨a0, a1, b0, b1, f0, f1, g0, g1, la, lb⟩ := HT.out.cells
      have ex := and_one x (by omega)
      have ey := and_one y (by omega)
      have hcase : (x % 2 = 0 ∧ y % 2 = 0) ∨ x % 2 = 1 ∨ (x % 2 = 0 ∧ y % 2 = 1) := by omega
      rcases hcase with ⟨hx, hy⟩ | hx | ⟨hx, hy⟩
      · have bx := even_b hx
        have by' := even_b hy
        have HX := Lib.hid (fun w => half_any x w (by omega))
        have HY := Lib.hid (fun w => half_any y w (by omega))
        unfold uV at HX HY
        have HN := Lib.hid (show Nat.gcd (x / 2) (y / 2) * 2 ^ (t + 1) = G by
          rw [← HI.out, ← g_both x y hx hy, Nat.pow_succ, Nat.mul_assoc, Nat.mul_comm 2])
        have hti : IntKind.i64.wrap ((t : Int) + 1) = (t : Int) + 1 := IntWalk.i64_in _ (by omega)
        go_wp2
        go_region_with (first | (go_at_call 194; (with_reducible refine (HX.out _).mono ?_); rintro e w1 ⟨rfl, hbw1⟩; have hT1 : Two w.heap.size W0 w1 x y := (by first | exact HT.out.via hbw1 | exact (HT.out.drew).via hbw1 | exact (HT.out.drewN _).via hbw1); obtain ⟨a0, a1, b0, b1, f0, f1, g0, g1, la, lb⟩ := hT1.cells) | (go_at_call 194; (with_reducible refine (HY.out _).mono ?_); rintro e w2 ⟨rfl, hbw2⟩; have hT2 : Two w.heap.size W0 w2 x y := (by first | exact hT1.via hbw2 | exact (hT1.drew).via hbw2 | exact (hT1.drewN _).via hbw2); obtain ⟨a0, a1, b0, b1, f0, f1, g0, g1, la, lb⟩ := hT2.cells))
        all_goals go_wp2
        all_goals (
          go_roundg (a - (t + 1))
          case measure => omega
          case rel => exact ⟨t + 1, x / 2, y / 2, by go_num, by omega, by omega, by omega, by omega, by omega, HN, Lib.hid ((hT2.setx (x / 2)).sety (y / 2))⟩)
      all_goals (
        have hodd : x % 2 = 1 ∨ y % 2 = 1 := (by omega)
        first
          | (have bx := odd_b (by assumption : x % 2 = 1))
          | (have bx := even_b (by assumption : x % 2 = 0); have by' := odd_b (by assumption : y % 2 = 1))
        have HTo := HT
        have HIo := HI
        go_wp2
        go_loopg [26] (x + y) (fun g i wr => ∃ x y : Nat, g = x + y ∧ x ≤ 1152921504606846976 ∧ 1 ≤ y ∧ y ≤ 1152921504606846976 ∧ (x % 2 = 1 ∨ y % 2 = 1) ∧ Hid (Nat.gcd x y * 2 ^ t = G) ∧ Hid (Two w.heap.size W0 wr x y))
        case atStart => exact ⟨x, y, rfl, by omega, hy1, by omega, hodd, HIo, HTo⟩
        case round =>
          obtain ⟨x2, y2, hg2, hx2, hy2, hy2b, hodd2, HI2, HT2⟩ := hrel
          obtain ⟨a0, a1, b0, b1, f0, f1, g0, g1, la, lb⟩ := HT2.out.cells
          have q2 := run_neq_u x2 0
          unfold uV at q2
          by_cases hxz : x2 = 0
          · have q3 : (x2 != 0) = false := by simp [hxz]
            rw [q3] at q2
            have HXZ := Lib.hid hxz
            have hxz' : (x2 : Int) = 0 := by omega
            clear q3
            go_wp2
            go_loopg [5] t (fun g i wr => ∃ s z : Nat, i = .int .i64 s ∧ g = s ∧ s ≤ a ∧ Hid (z * 2 ^ s = G) ∧ Hid (Two w.heap.size W0 wr x2 z))
            case atStart => exact ⟨t, y2, rfl, rfl, by omega, Lib.hid (by rw [← HI2.out, HXZ.out, Nat.gcd_zero_left]), HT2⟩
            case round =>
              obtain ⟨s, z, rfl, hgs, hsa, HI3, HT3⟩ := hrel
              obtain ⟨a0, a1, b0, b1, f0, f1, g0, g1, la, lb⟩ := HT3.out.cells
              by_cases hs0 : s = 0
              · subst hs0
                have hzG : z = G := by have := HI3.out; simpa using this
                have hRr := ((HT3.out.exc).block (w.heap.size + 1 + 1) HR0.out.lt (by simp; omega)).trans HR0.out
                have hRr : Blk wr (w.heap.size + 1 + 1) 144 #[.int .u64 0, .int .u64 0] := hRr
                have r0 := hRr.cell 0
                have r1 := hRr.cell 1
                have s0 := hRr.frozen 0
                have s1 := hRr.frozen 1
                simp only [List.getElem?_toArray, List.getElem?_cons_zero, List.getElem?_cons_succ] at r0 r1
                have hrl := hRr.lt
                have hbel : Below w.heap.size w wr := hW.trans (HT3.out.exc.below (by have := hW.size; omega) (by intro k hk; simp at hk; omega))
                subst hzG
                clear hRr
                go_wp2
                exact bodyPost_ret (v := uV z) (by simp [results, Tryz.results134, go_sem, *]) rfl ⟨rfl, ((hbel.setCell (by simp; omega) _).setCell (by simp; omega) _)⟩
              · have hs1 : (0 : Int) < (s : Int) := by omega
                have hzb : z + z ≤ 1152921504606846976 := by
                  have h := HI3.out
                  have : 2 ≤ 2 ^ s := by
                    have := Nat.pow_le_pow_right (show 0 < 2 by omega) (show 1 ≤ s by omega)
                    omega
                  have h2 := Nat.mul_le_mul_left z this
                  omega
                have HN := Lib.hid (show (z + z) * 2 ^ (s - 1) = G by
                  have h := HI3.out
                  rw [show s = (s - 1) + 1 by omega, Nat.pow_succ] at h
                  rw [← h, ← Nat.two_mul]
                  simp only [Nat.mul_comm, Nat.mul_left_comm, Nat.mul_assoc, Nat.add_sub_cancel])
                have hsw : (s : Int) - 1 = ((s - 1 : Nat) : Int) := by omega
                have HSW := Lib.hid hsw
                clear hsw
                have HP := Lib.hid (fun w => plus02_any z z w (by omega) (by omega))
                unfold uV at HP
                go_wp2_with (go_at_call 197; (with_reducible refine (HP.out _).mono ?_); rintro e w1 ⟨rfl, hbw1⟩; obtain ⟨hcw1, hfw1⟩ := bcell hbw1)
                go_roundg (s - 1)
                case measure => omega
                case rel => exact ⟨s - 1, z + z, by rw [← HSW.out], rfl, by omega, HN, Lib.hid ((HT3.out.via hbw1).sety (z + z))⟩
          · have q3 : (x2 != 0) = true := by simp [hxz]
            rw [q3] at q2
            clear q3
            go_wp2
            go_loopg [29] x2 (fun g i wr => ∃ x3 : Nat, g = x3 ∧ 1 ≤ x3 ∧ x3 ≤ x2 ∧ (x3 % 2 = 1 ∨ y2 % 2 = 1) ∧ Hid (Nat.gcd x3 y2 * 2 ^ t = G) ∧ Hid (Two w.heap.size W0 wr x3 y2))
            case atStart => exact ⟨x2, rfl, by omega, by omega, hodd2, HI2, HT2⟩
            case round =>
              obtain ⟨x3, hg3, hx3, hx3b, hodd3, HI3, HT3⟩ := hrel
              obtain ⟨a0, a1, b0, b1, f0, f1, g0, g1, la, lb⟩ := HT3.out.cells
              have ex3 := and_one x3 (by omega)
              rcases Nat.mod_two_eq_zero_or_one x3 with hx | hx
              · have bx3 := even_b hx
                have HX := Lib.hid (fun w => half_any x3 w (by omega))
                unfold uV at HX
                have HN := Lib.hid (show Nat.gcd (x3 / 2) y2 * 2 ^ t = G by rw [g_left x3 y2 hx (by omega)]; exact HI3.out)
                go_wp2_with (go_at_call 194; (with_reducible refine (HX.out _).mono ?_); rintro e w1 ⟨rfl, hbw1⟩; obtain ⟨hcw1, hfw1⟩ := bcell hbw1)
                go_roundg (x3 / 2)
                case measure => omega
                case rel => exact ⟨x3 / 2, rfl, by omega, by omega, by omega, HN, Lib.hid ((HT3.out.via hbw1).setx (x3 / 2))⟩
              · have bx3 := odd_b hx
                go_wp2
                go_loopg [35] y2 (fun g i wr => ∃ y4 : Nat, g = y4 ∧ 1 ≤ y4 ∧ y4 ≤ y2 ∧ Hid (Nat.gcd x3 y4 * 2 ^ t = G) ∧ Hid (Two w.heap.size W0 wr x3 y4))
                case atStart => exact ⟨y2, rfl, by omega, by omega, HI3, HT3⟩
                case round =>
                  obtain ⟨y4, hg4, hy4, hy4b, HI4, HT4⟩ := hrel
                  obtain ⟨a0, a1, b0, b1, f0, f1, g0, g1, la, lb⟩ := HT4.out.cells
                  have ey4 := and_one y4 (by omega)
                  rcases Nat.mod_two_eq_zero_or_one y4 with hy | hy
                  · have by4 := even_b hy
                    have HY := Lib.hid (fun w => half_any y4 w (by omega))
                    unfold uV at HY
                    have HN := Lib.hid (show Nat.gcd x3 (y4 / 2) * 2 ^ t = G by rw [g_right x3 y4 hx hy]; exact HI4.out)
                    go_wp2_with (go_at_call 194; (with_reducible refine (HY.out _).mono ?_); rintro e w1 ⟨rfl, hbw1⟩; obtain ⟨hcw1, hfw1⟩ := bcell hbw1)
                    go_roundg (y4 / 2)
                    case measure => omega
                    case rel => exact ⟨y4 / 2, rfl, by omega, by omega, HN, Lib.hid ((HT4.out.via hbw1).sety (y4 / 2))⟩
                  · have by4 := odd_b hy
                    have HL := Lib.hid (fun w => less_any x3 y4 w)
                    unfold uV at HL
                    by_cases hlt : x3 < y4
                    · have hd : decide (x3 < y4) = true := by simpa using hlt
                      rw [hd] at HL
                      clear hd
                      have HM := Lib.hid (fun w => minus_any y4 x3 w (by omega) (by omega))
                      unfold uV at HM
                      have HN := Lib.hid (show Nat.gcd (y4 - x3) x3 * 2 ^ t = G by rw [g_sub y4 x3 (by omega), Nat.gcd_comm]; exact HI4.out)
                      go_wp2_with (first
                        | (go_at_call 195; (with_reducible refine (HL.out _).mono ?_); rintro e w1 ⟨rfl, hbw1⟩; obtain ⟨hcw1, hfw1⟩ := bcell hbw1; have hzw1_0 : w.heap.size < w1.heap.size := lt_via hbw1 (by first | omega | (simp; done) | (simp; omega)); have hzw1_1 : w.heap.size + 1 < w1.heap.size := lt_via hbw1 (by first | omega | (simp; done) | (simp; omega)))
                        | (go_at_call 196; (with_reducible refine (HM.out _).mono ?_); rintro e w2 ⟨rfl, hbw2⟩; obtain ⟨hcw2, hfw2⟩ := bcell hbw2; have hzw2_0 : w.heap.size < w2.heap.size := lt_via hbw2 (by first | omega | (simp; done) | (simp; omega)); have hzw2_1 : w.heap.size + 1 < w2.heap.size := lt_via hbw2 (by first | omega | (simp; done) | (simp; omega))))
                      go_roundg (y4 - x3 + x3)
                      case measure => omega
                      case rel => exact ⟨y4 - x3, x3, rfl, by omega, by omega, by omega, .inr hx, HN, Lib.hid ((((((HT4.out.via hbw1).setx y4).sety x3)).via hbw2).setx (y4 - x3))⟩
                    · have hd : decide (x3 < y4) = false := by simpa using hlt
                      rw [hd] at HL
                      clear hd
                      have HM := Lib.hid (fun w => minus_any x3 y4 w (by omega) (by omega))
                      unfold uV at HM
                      have HN := Lib.hid (show Nat.gcd (x3 - y4) y4 * 2 ^ t = G by rw [g_sub x3 y4 (by omega)]; exact HI4.out)
                      go_wp2_with (first
                        | (go_at_call 195; (with_reducible refine (HL.out _).mono ?_); rintro e w1 ⟨rfl, hbw1⟩; obtain ⟨hcw1, hfw1⟩ := bcell hbw1; have hzw1_0 : w.heap.size < w1.heap.size := lt_via hbw1 (by first | omega | (simp; done) | (simp; omega)); have hzw1_1 : w.heap.size + 1 < w1.heap.size := lt_via hbw1 (by first | omega | (simp; done) | (simp; omega)))
                        | (go_at_call 196; (with_reducible refine (HM.out _).mono ?_); rintro e w2 ⟨rfl, hbw2⟩; obtain ⟨hcw2, hfw2⟩ := bcell hbw2; have hzw2_0 : w.heap.size < w2.heap.size := lt_via hbw2 (by first | omega | (simp; done) | (simp; omega)); have hzw2_1 : w.heap.size + 1 < w2.heap.size := lt_via hbw2 (by first | omega | (simp; done) | (simp; omega))))
                      go_roundg (x3 - y4 + y4)
                      case measure => omega
                      case rel => exact ⟨x3 - y4, y4, rfl, by omega, by omega, by omega, .inr hy, HN, Lib.hid (((HT4.out.via hbw1).via hbw2).setx (x3 - y4))⟩)
end Go.Proofs.YtffkmgjmlahfpaaGreat
set_option linter.unusedVariables false
set_option linter.unusedSimpArgs false
namespace Go.Proofs.YtffkmgjmlahfpaaGreat
open Go.RowKit
set_option maxRecDepth 100000 in
set_option maxHeartbeats 4000000 in
theorem made_any (n d : Nat) (w : World) (hn : n ≤ 1152921504606846976) (hd : d ≤ 1152921504606846976) (hd0 : 1 ≤ d) :
    Calls Tryz.prog 78 #[uV n, .bool false, uV d] w fun e w' => e = .returned (.tuple #[.agg #[.int .i64 ((n / Nat.gcd n d : Nat) : Int), .int .i64 ((d / Nat.gcd n d : Nat) : Int)], .int .i64 0]) ∧ Below w.heap.size w w' := by
  have q0 := run_eq_u d 0
  have q1 : (d == 0) = false := by simp; omega
  rw [q1] at q0
  clear q1
  have hg0 : 1 ≤ Nat.gcd n d := Nat.gcd_pos_of_pos_right _ (by omega)
  have hg1 := Nat.gcd_le_right n (show 0 < d by omega)
  have HG := Lib.hid (fun w => gcd2_any n d w hn hd hd0)
  generalize Nat.gcd n d = g at *
  have HN := Lib.hid (fun w => div_any n g w hn (by omega) hg0)
  have HD := Lib.hid (fun w => div_any d g w hd (by omega) hg0)
  have hn1 := Nat.le_trans (Nat.div_le_self n g) hn
  have hd1 := Nat.le_trans (Nat.div_le_self d g) hd
  generalize n / g = p at *
  generalize n % g = p' at *
  generalize d / g = q at *
  generalize d % g = q' at *
  have hp : ¬ (1152921504606846976 : Int) < p := by omega
  have hq : ¬ (1152921504606846976 : Int) < q := by omega
  have e1 : IntKind.i64.wrap (p : Int) = p := IntWalk.i64_in _ (by omega)
  have e2 : IntKind.i64.wrap (q : Int) = q := IntWalk.i64_in _ (by omega)
  unfold uV at *
  go_enter Tryz.func78, Tryz.ntmps78
  go_wp2_with (first
    | (go_at_call 134; (with_reducible refine (HG.out _).mono ?_); rintro e w1 ⟨rfl, hbw1⟩; obtain ⟨hcw1, hfw1⟩ := bcell hbw1; have hzw1_0 : w.heap.size < w1.heap.size := lt_via hbw1 (by first | omega | (simp; done) | (simp; omega)); have hzw1_1 : w.heap.size + 1 < w1.heap.size := lt_via hbw1 (by first | omega | (simp; done) | (simp; omega)); have hzw1_2 : w.heap.size + 1 + 1 < w1.heap.size := lt_via hbw1 (by first | omega | (simp; done) | (simp; omega)))
    | (go_at_call 135; (with_reducible refine (HN.out _).mono ?_); rintro e w2 ⟨rfl, hbw2⟩; obtain ⟨hcw2, hfw2⟩ := bcell hbw2; have hzw2_0 : w.heap.size < w2.heap.size := lt_via hbw2 (by first | omega | (simp; done) | (simp; omega)); have hzw2_1 : w.heap.size + 1 < w2.heap.size := lt_via hbw2 (by first | omega | (simp; done) | (simp; omega)); have hzw2_2 : w.heap.size + 1 + 1 < w2.heap.size := lt_via hbw2 (by first | omega | (simp; done) | (simp; omega)); have hzw2_3 : w1.heap.size < w2.heap.size := lt_via hbw2 (by first | omega | (simp; done) | (simp; omega)))
    | (go_at_call 135; (with_reducible refine (HD.out _).mono ?_); rintro e w3 ⟨rfl, hbw3⟩; obtain ⟨hcw3, hfw3⟩ := bcell hbw3; have hzw3_0 : w.heap.size < w3.heap.size := lt_via hbw3 (by first | omega | (simp; done) | (simp; omega)); have hzw3_1 : w.heap.size + 1 < w3.heap.size := lt_via hbw3 (by first | omega | (simp; done) | (simp; omega)); have hzw3_2 : w.heap.size + 1 + 1 < w3.heap.size := lt_via hbw3 (by first | omega | (simp; done) | (simp; omega)); have hzw3_3 : w1.heap.size < w3.heap.size := lt_via hbw3 (by first | omega | (simp; done) | (simp; omega)); have hzw3_4 : w2.heap.size < w3.heap.size := lt_via hbw3 (by first | omega | (simp; done) | (simp; omega)); have hzw3_5 : w2.heap.size + 1 < w3.heap.size := lt_via hbw3 (by first | omega | (simp; done) | (simp; omega))))
  exact bodyPost_ret (v := .tuple #[.agg #[.int .i64 (p : Int), .int .i64 (q : Int)], .int .i64 0]) (by simp [results, Tryz.results78, go_sem, *]) rfl ⟨rfl, (by repeat (first | exact Below.refl _ _ | assumption | refine ba_alloc ?_ _ | refine ba_drew ?_ | refine ba_drewN ?_ _ | refine ba_via (by assumption) ?_ | (refine ba_set ?_ ?_ _; rotate_left; (first | omega | (simp; omega) | simp))))⟩
set_option maxRecDepth 100000 in
set_option maxHeartbeats 1000000 in
theorem rmake_any (n d : Int) (w : World) (h0 : 0 ≤ n) (h1 : n ≤ 1152921504606846976) (hd0 : 1 ≤ d) (hd : d ≤ 1152921504606846976) :
    Calls Tryz.prog 27 #[.int .i64 n, .int .i64 d] w fun e w' => e = .returned (.tuple #[.agg #[.int .i64 (n / gcdI n d), .int .i64 (d / gcdI n d)], .int .i64 0]) ∧ Below w.heap.size w w' := by
  have HM := Lib.hid (fun w => made_any n.toNat d.toNat w (by omega) (by omega) (by omega))
  have e1 : ((n.toNat / Nat.gcd n.toNat d.toNat : Nat) : Int) = n / gcdI n d := by rw [Int.natCast_ediv, Int.toNat_of_nonneg h0]; rfl
  have e2 : ((d.toNat / Nat.gcd n.toNat d.toNat : Nat) : Int) = d / gcdI n d := by rw [Int.natCast_ediv, Int.toNat_of_nonneg (by omega)]; rfl
  unfold uV at HM
  rw [e1, e2, Int.toNat_of_nonneg h0, Int.toNat_of_nonneg (show 0 ≤ d by omega)] at HM
  clear e1 e2
  generalize n / gcdI n d = p at *
  generalize d / gcdI n d = q at *
  have h2 : decide (n < 0) = false := by simp; omega
  have h3 : decide (d < 0) = false := by simp; omega
  go_enter Tryz.func27, Tryz.ntmps27
  go_wp2_with (first
    | (go_at_call 79; (with_reducible refine (rsz2_any _ _ (by omega) (by omega)).mono ?_); rintro e w' ⟨rfl, rfl⟩)
    | (go_at_call 78; (with_reducible refine (HM.out _).mono ?_); rintro e w1 ⟨rfl, hbw1⟩; obtain ⟨hcw1, hfw1⟩ := bcell hbw1; have hzw1_0 : w.heap.size < w1.heap.size := lt_via hbw1 (by first | omega | (simp; done) | (simp; omega))))
  exact bodyPost_ret (v := .tuple #[.agg #[.int .i64 p, .int .i64 q], .int .i64 0]) (by simp [results, Tryz.results27, go_sem, *]) rfl ⟨rfl, (by repeat (first | exact Below.refl _ _ | assumption | refine ba_alloc ?_ _ | refine ba_drew ?_ | refine ba_drewN ?_ _ | refine ba_via (by assumption) ?_ | (refine ba_set ?_ ?_ _; rotate_left; (first | omega | (simp; omega) | simp))))⟩
end Go.Proofs.YtffkmgjmlahfpaaGreat
set_option linter.unusedVariables false
set_option linter.unusedSimpArgs false
namespace Go.Proofs.YtffkmgjmlahfpaaGreat
open Go.RowKit
set_option maxRecDepth 20000 in
set_option maxHeartbeats 4000000 in
theorem Chains_one (x : Dt) (td : Bool) (B : Nat) (w : World) (hB : B ≤ w.heap.size) (hA : DtAt w B x)
    (hD : ∀ W, Below w.heap.size w W → Calls Tryz.prog 121 #[.slice x.dA x.dn x.dc] W fun e w' => e = .returned (.bool td) ∧ Below W.heap.size W w') (h : S.look x td = true)
    (hj : x.js = [⟨0, 1⟩]) (hl : (S.mains (bars x.bs) x.rs).length = 2) :
    Calls Tryz.prog 18 #[dtV x] w fun e w' => (∃ v, e = .returned (.tuple #[v, .int .i64 0]) ∧ One2 w' v 0 1) ∧ Below w.heap.size w w' := by
  have HL := Lib.hid (fun (W : World) (hw : Below w.heap.size w W) => look_yes x td B W (size_via hB hw) (hA.at_ hB hw) (fun V hV => hD V (hw.trans (hV.mono hw.size))) h)
  have HC := Lib.hid (fun (W : World) (hw : Below w.heap.size w W) => chains_one x B W (size_via hB hw) (hA.at_ hB hw) hj)
  rw [hl] at HL
  clear hA hD h hj hl
  unfold dtV at HL HC
  unfold dtV
  go_enter Tryz.func18, Tryz.ntmps18
  have hDB : Blk (w.alloc (.cells #[.string x.m.name, .slice x.mA x.mn x.mc, .slice x.hA x.hn x.hc, .int .i64 x.m.cover, .int .i64 x.m.aggr, .int .i64 x.m.poker, .slice x.bA x.bn x.bc, .slice x.rA x.rn x.rc, .slice x.jA x.jn x.jc, .slice x.dA x.dn x.dc, .int .i64 x.rule.num, .int .i64 x.rule.den, .int .i64 x.rule.pnum, .int .i64 x.rule.pden, .int .i64 x.rule.bnum, .int .i64 x.rule.bden, .int .i64 x.rule.lnum, .int .i64 x.rule.lden, .int .i64 x.rule.least] 34)) w.heap.size 34 #[.string x.m.name, .slice x.mA x.mn x.mc, .slice x.hA x.hn x.hc, .int .i64 x.m.cover, .int .i64 x.m.aggr, .int .i64 x.m.poker, .slice x.bA x.bn x.bc, .slice x.rA x.rn x.rc, .slice x.jA x.jn x.jc, .slice x.dA x.dn x.dc, .int .i64 x.rule.num, .int .i64 x.rule.den, .int .i64 x.rule.pnum, .int .i64 x.rule.pden, .int .i64 x.rule.bnum, .int .i64 x.rule.bden, .int .i64 x.rule.lnum, .int .i64 x.rule.lden, .int .i64 x.rule.least] := Blk.new w _ _
  have hRG := hDB.range
  go_upto_region 4 with (first
    | (refine wpList_load_mid rfl 34 (.tmp 1) rfl _ _ rfl _ _ hRG Tryz.underlying34 rfl (by kernel_rfl) ?_)
    | (go_at_call 65; (with_reducible refine (HL.out _ (by repeat (first | exact Below.refl _ _ | assumption | refine ba_alloc ?_ _ | refine ba_drew ?_ | refine ba_drewN ?_ _ | refine ba_via (by assumption) ?_ | (refine ba_set ?_ ?_ _; rotate_left; (first | omega | (simp; omega) | simp))))).mono ?_); rintro e w1 ⟨A1, c1', rfl, how1, hbw1⟩; obtain ⟨hcw1, hfw1⟩ := bcell hbw1; have hzw1_0 : w.heap.size < w1.heap.size := lt_via hbw1 (by first | omega | (simp; done) | (simp; omega))))
  have hRG1 := (hDB.via hbw1).range
  clear hRG
  go_wp2_with (first
    | (refine wpList_load_mid rfl 34 (.tmp 1) rfl _ _ rfl _ _ hRG1 Tryz.underlying34 rfl (by kernel_rfl) ?_)
    | (go_at_call 69; (with_reducible refine (HC.out _ (by repeat (first | exact Below.refl _ _ | assumption | refine ba_alloc ?_ _ | refine ba_drew ?_ | refine ba_drewN ?_ _ | refine ba_via (by assumption) ?_ | (refine ba_set ?_ ?_ _; rotate_left; (first | omega | (simp; omega) | simp))))).mono ?_); rintro e w2 ⟨⟨v, rfl, hO⟩, hbw2⟩))
  go_ret2
  exact ⟨⟨v, rfl, hO⟩, (by repeat (first | exact Below.refl _ _ | assumption | refine ba_alloc ?_ _ | refine ba_drew ?_ | refine ba_drewN ?_ _ | refine ba_via (by assumption) ?_ | (refine ba_set ?_ ?_ _; rotate_left; (first | omega | (simp; omega) | simp))))⟩
def exRule : Rule := ⟨40, 1, 10, 7, 7, 10, 3, 2, 100⟩
theorem rule_any (w : World) : Calls Tryz.prog 54 #[] w fun e w' => e = .returned (ruleV exRule) ∧ Below w.heap.size w w' := by
  go_enter Tryz.func54, Tryz.ntmps54
  go_wp2
  exact bodyPost_ret (v := .agg #[.int .i64 40, .int .i64 1, .int .i64 10, .int .i64 7, .int .i64 7, .int .i64 10, .int .i64 3, .int .i64 2, .int .i64 100]) (by simp [results, Tryz.results54, go_sem, *]) rfl ⟨rfl, (by repeat (first | exact Below.refl _ _ | assumption | refine ba_alloc ?_ _ | refine ba_drew ?_ | refine ba_drewN ?_ _ | refine ba_via (by assumption) ?_ | (refine ba_set ?_ ?_ _; rotate_left; (first | omega | (simp; omega) | simp))))⟩
abbrev strA : ByteArray := ⟨#[97]⟩
abbrev strM : ByteArray := ⟨#[109]⟩
abbrev barArr (g : Nat) : Array Value := #[.string strA, .int .i64 12, .int .i64 2, .int .i64 0, .slice (some ⟨g, 0, none⟩) 1 1]
abbrev runArr : Array Value := #[.string strA, .int .i64 1, .int .i64 2, .int .i64 0, .int .i64 100, .int .i64 40, .int .i64 1000, .int .i64 0, .int .i64 12, .int .i64 2]
abbrev exL (b : Nat) (gb gr gj : Nat) : List Value := [.string strM, .slice (some ⟨b + 1, 0, none⟩) 1 1, .slice none 0 0, .int .i64 0, .int .i64 20, .int .i64 40, .slice (some ⟨gb, 0, none⟩) 1 1, .slice (some ⟨gr, 0, none⟩) 1 1, .slice (some ⟨gj, 0, none⟩) 1 1, .slice none 0 0,
  .int .i64 40, .int .i64 1, .int .i64 10, .int .i64 7, .int .i64 7, .int .i64 10, .int .i64 3, .int .i64 2, .int .i64 100]
/-- The lists of the example lie in memory, apart from block b. -/
structure ExBlks (w : World) (b g gb gr gj : Nat) : Prop where
  n0 : g ≠ b
  n1 : gb ≠ b
  n2 : gr ≠ b
  n3 : gj ≠ b
  dims : Blk w g 3 #[.int .i64 2000]
  bar : Blk w gb 158 (barArr g)
  run : Blk w gr 183 runArr
  lap : Blk w gj 124 #[.int .i64 0, .int .i64 1]
def Fin (b : Nat) (w : World) : Prop := ∃ g gb gr gj, w.rangeAt b 0 (exL b gb gr gj) ∧ ExBlks w b g gb gr gj ∧ b < w.heap.size
def Grown (b : Nat) (w w' : World) : Prop := Exc [b] w w' ∧ (Fin b w → Fin b w')
/-- What each operation leaves. -/
def ExV (b : Nat) (i : Nat) (v : Value) (w : World) : Prop :=
  match i with
  | 0 => v = .agg #[.string strM, .slice (some ⟨b + 1, 0, none⟩) 1 1, .slice none 0 0, .int .i64 0, .int .i64 20, .int .i64 40]
  | 1 => ∃ g, v = .slice (some ⟨g, 0, none⟩) 1 1 ∧ g ≠ b ∧ Blk w g 3 #[.int .i64 2000]
  | 2 => ∃ g, v = .agg (barArr g) ∧ g ≠ b ∧ Blk w g 3 #[.int .i64 2000]
  | 3 => ∃ g gb, v = .slice (some ⟨gb, 0, none⟩) 1 1 ∧ g ≠ b ∧ gb ≠ b ∧ Blk w g 3 #[.int .i64 2000] ∧ Blk w gb 158 (barArr g)
  | 4 => v = .agg #[.int .i64 1, .int .i64 2]
  | 5 => v = .agg #[.int .i64 0, .int .i64 100, .int .i64 40]
  | 6 => v = .agg #[.int .i64 1000, .int .i64 0, .int .i64 12]
  | 7 => v = .agg runArr
  | 8 => ∃ gr, v = .slice (some ⟨gr, 0, none⟩) 1 1 ∧ gr ≠ b ∧ Blk w gr 183 runArr
  | 9 => v = .agg #[.int .i64 0, .int .i64 1]
  | 10 => ∃ gj, v = .slice (some ⟨gj, 0, none⟩) 1 1 ∧ gj ≠ b ∧ Blk w gj 124 #[.int .i64 0, .int .i64 1]
  | 11 => v = ruleV exRule
  | 12 => ∃ g gb gr gj, v = .agg (exL b gb gr gj).toArray ∧ ExBlks w b g gb gr gj
  | 13 => Fin b w
  | _ => True
theorem Blk.grown {b : Nat} {w w' : World} (h : Grown b w w') {g : Nat} {t : TypeId} {cs : Array Value} (hB : Blk w g t cs) (hn : g ≠ b) : Blk w' g t cs := hB.exc h.1 (by simpa using hn)
theorem ExBlks.grown {b : Nat} {w w' : World} (h : Grown b w w') {g gb gr gj : Nat} (hB : ExBlks w b g gb gr gj) : ExBlks w' b g gb gr gj :=
  ⟨hB.n0, hB.n1, hB.n2, hB.n3, hB.dims.grown h hB.n0, hB.bar.grown h hB.n1, hB.run.grown h hB.n2, hB.lap.grown h hB.n3⟩
theorem ExV.stable (b : Nat) : ∀ i v w w', ExV b i v w → Grown b w w' → ExV b i v w' := by
  intro i v w w' h hg
  rcases i with _ | _ | _ | _ | _ | _ | _ | _ | _ | _ | _ | _ | _ | _ | i
  · exact h
  · obtain ⟨g, h1, h2, h3⟩ := h; exact ⟨g, h1, h2, h3.grown hg h2⟩
  · obtain ⟨g, h1, h2, h3⟩ := h; exact ⟨g, h1, h2, h3.grown hg h2⟩
  · obtain ⟨g, gb, h1, h2, h3, h4, h5⟩ := h; exact ⟨g, gb, h1, h2, h3, h4.grown hg h2, h5.grown hg h3⟩
  · exact h
  · exact h
  · exact h
  · exact h
  · obtain ⟨g, h1, h2, h3⟩ := h; exact ⟨g, h1, h2, h3.grown hg h2⟩
  · exact h
  · obtain ⟨g, h1, h2, h3⟩ := h; exact ⟨g, h1, h2, h3.grown hg h2⟩
  · exact h
  · obtain ⟨g, gb, gr, gj, h1, h2⟩ := h; exact ⟨g, gb, gr, gj, h1, h2.grown hg⟩
  · exact hg.2 h
  · trivial
theorem Grown.of {b : Nat} {w w' : World} (h : Exc [] w w') : Grown b w w' := by
  refine ⟨⟨h.os, h.tape, h.output, h.size, fun k hk _ => h.block k hk (by simp)⟩, fun hf => ?_⟩
  obtain ⟨g, gb, gr, gj, h1, h2, h3⟩ := hf
  have hB : ∀ {g : Nat} {t : TypeId} {cs : Array Value}, Blk w g t cs → Blk w' g t cs := fun hb => hb.exc h (by simp)
  refine ⟨g, gb, gr, gj, fun j v hv => ?_, ⟨h2.n0, h2.n1, h2.n2, h2.n3, hB h2.dims, hB h2.bar, hB h2.run, hB h2.lap⟩, Nat.lt_of_lt_of_le h3 h.size⟩
  exact (h.cell (p := ⟨b, 0 + j, none⟩) h3 (by simp)).trans (h1 j v hv)
structure ExS (b : Nat) (w3 : World) (a : Act) (w : World) : Prop where
  size : a.tmps.size = 20
  s0 : a.tmps.getD 0 undef = .pointer (some ⟨b, 0, none⟩)
  s1 : a.tmps.getD 1 undef = .pointer (some ⟨b + 1 + 1, 0, none⟩)
  defers : a.defers = []
  exc : Exc [b] w3 w
  there : w.there b 0 19
  lt : b < w.heap.size
theorem there_exc {w w' : World} {b n : Nat} (h : w.there b 0 n) (hX : Exc [] w w') (hb : b < w.heap.size) : w'.there b 0 n := fun j hj => by
  obtain ⟨h1, h2⟩ := h j hj
  rw [hX.cell (p := ⟨b, 0 + j, none⟩) hb (by simp), hX.frozen (p := ⟨b, 0 + j, none⟩) hb (by simp)]
  exact ⟨h1, h2⟩
theorem ExS.put {b : Nat} {w3 : World} {a : Act} {w w' : World} (h : ExS b w3 a w) (hX : Exc [] w w') {d : Nat} (h7 : 7 ≤ d) (v : Value) : ExS b w3 (a.put (some d) v) w' := by
  refine ⟨by simpa [Act.put] using h.size, ?_, ?_, h.defers, h.exc.join hX (by simp), there_exc h.there hX h.lt, Nat.lt_of_lt_of_le h.lt hX.size⟩
  · have := h.s0
    simp only [Act.put, Array.getD_eq_getD_getElem?] at this ⊢
    rw [Array.getElem?_setIfInBounds_ne (by omega)]
    exact this
  · have := h.s1
    simp only [Act.put, Array.getD_eq_getD_getElem?] at this ⊢
    rw [Array.getElem?_setIfInBounds_ne (by omega)]
    exact this
theorem ex_step {b : Nat} {w3 : World} {l : List Oper} {Q : Exit → Act → World → Prop} {j : Nat} {a : Act} {w w' : World} {o : Oper} {v : Value} {d : Nat} (ho : l.toArray[j]? = some o) (hg : o.guard = none) (hd : o.dst = some d) (h7 : 7 ≤ d) (hS : ExS b w3 a w)
    (hr : (execOp a.eval o).run Tryz.prog w = .ok (.value v) w') (hX : Exc [] w w') (hV : ExV b j v w') :
    wpOp Tryz.prog l.toArray Q j (fun a' w' => ∃ v, a' = a.put o.dst v ∧ (o.dst = none → v = undef) ∧ ExV b j v w' ∧ Grown b w w' ∧ ExS b w3 a' w') a w := by
  refine op_val ho hg hr ⟨v, rfl, fun h => ?_, hV, Grown.of hX, ?_⟩
  · rw [hd] at h; cases h
  · rw [hd]; exact hS.put hX h7 v
set_option maxRecDepth 20000 in
set_option maxHeartbeats 4000000 in
theorem example_any (w : World) : Calls Tryz.prog 56 #[] w fun e w' => ∃ g gb gr gj, e = .returned (.agg (exL w.heap.size gb gr gj).toArray) ∧ ExBlks w' w.heap.size g gb gr gj ∧ Blk w' (w.heap.size + 1) 89 #[.int .i64 0, .int .i64 0, .int .i64 0, .int .i64 3000, .int .i64 200, .int .i64 400] ∧ Below w.heap.size w w' := by
  go_enter Tryz.func56, Tryz.ntmps56
  go_wp2
  have hD0 : Blk (((w.alloc (.cells #[.string ⟨#[]⟩, .slice none 0 0, .slice none 0 0, .int .i64 0, .int .i64 0, .int .i64 0, .slice none 0 0, .slice none 0 0, .slice none 0 0, .slice none 0 0, .int .i64 0, .int .i64 0, .int .i64 0, .int .i64 0, .int .i64 0, .int .i64 0, .int .i64 0, .int .i64 0, .int .i64 0] 34)).alloc (.cells #[.int .i64 0, .int .i64 0, .int .i64 0, .int .i64 3000, .int .i64 200, .int .i64 400] 89)).alloc (.cells #[.string ⟨#[109]⟩, .slice (some ⟨w.heap.size + 1, 0, none⟩) 1 1, .slice none 0 0, .int .i64 0, .int .i64 20, .int .i64 40] 26)) w.heap.size 34 #[.string ⟨#[]⟩, .slice none 0 0, .slice none 0 0, .int .i64 0, .int .i64 0, .int .i64 0, .slice none 0 0, .slice none 0 0, .slice none 0 0, .slice none 0 0, .int .i64 0, .int .i64 0, .int .i64 0, .int .i64 0, .int .i64 0, .int .i64 0, .int .i64 0, .int .i64 0, .int .i64 0] := ((Blk.new w _ _).alloc _).alloc _
  have hBx : Blk (((w.alloc (.cells #[.string ⟨#[]⟩, .slice none 0 0, .slice none 0 0, .int .i64 0, .int .i64 0, .int .i64 0, .slice none 0 0, .slice none 0 0, .slice none 0 0, .slice none 0 0, .int .i64 0, .int .i64 0, .int .i64 0, .int .i64 0, .int .i64 0, .int .i64 0, .int .i64 0, .int .i64 0, .int .i64 0] 34)).alloc (.cells #[.int .i64 0, .int .i64 0, .int .i64 0, .int .i64 3000, .int .i64 200, .int .i64 400] 89)).alloc (.cells #[.string ⟨#[109]⟩, .slice (some ⟨w.heap.size + 1, 0, none⟩) 1 1, .slice none 0 0, .int .i64 0, .int .i64 20, .int .i64 40] 26)) (w.heap.size + 1) 89 #[.int .i64 0, .int .i64 0, .int .i64 0, .int .i64 3000, .int .i64 200, .int .i64 400] := by
    have := (Blk.new (w.alloc (.cells #[.string ⟨#[]⟩, .slice none 0 0, .slice none 0 0, .int .i64 0, .int .i64 0, .int .i64 0, .slice none 0 0, .slice none 0 0, .slice none 0 0, .slice none 0 0, .int .i64 0, .int .i64 0, .int .i64 0, .int .i64 0, .int .i64 0, .int .i64 0, .int .i64 0, .int .i64 0, .int .i64 0] 34)) 89 #[.int .i64 0, .int .i64 0, .int .i64 0, .int .i64 3000, .int .i64 200, .int .i64 400]).alloc (.cells #[.string ⟨#[109]⟩, .slice (some ⟨w.heap.size + 1, 0, none⟩) 1 1, .slice none 0 0, .int .i64 0, .int .i64 20, .int .i64 40] 26)
    simpa using this
  have hMb : Blk (((w.alloc (.cells #[.string ⟨#[]⟩, .slice none 0 0, .slice none 0 0, .int .i64 0, .int .i64 0, .int .i64 0, .slice none 0 0, .slice none 0 0, .slice none 0 0, .slice none 0 0, .int .i64 0, .int .i64 0, .int .i64 0, .int .i64 0, .int .i64 0, .int .i64 0, .int .i64 0, .int .i64 0, .int .i64 0] 34)).alloc (.cells #[.int .i64 0, .int .i64 0, .int .i64 0, .int .i64 3000, .int .i64 200, .int .i64 400] 89)).alloc (.cells #[.string ⟨#[109]⟩, .slice (some ⟨w.heap.size + 1, 0, none⟩) 1 1, .slice none 0 0, .int .i64 0, .int .i64 20, .int .i64 40] 26)) (w.heap.size + 1 + 1) 26 #[.string ⟨#[109]⟩, .slice (some ⟨w.heap.size + 1, 0, none⟩) 1 1, .slice none 0 0, .int .i64 0, .int .i64 20, .int .i64 40] := by
    have := Blk.new ((w.alloc (.cells #[.string ⟨#[]⟩, .slice none 0 0, .slice none 0 0, .int .i64 0, .int .i64 0, .int .i64 0, .slice none 0 0, .slice none 0 0, .slice none 0 0, .slice none 0 0, .int .i64 0, .int .i64 0, .int .i64 0, .int .i64 0, .int .i64 0, .int .i64 0, .int .i64 0, .int .i64 0, .int .i64 0] 34)).alloc (.cells #[.int .i64 0, .int .i64 0, .int .i64 0, .int .i64 3000, .int .i64 200, .int .i64 400] 89)) 26 #[.string ⟨#[109]⟩, .slice (some ⟨w.heap.size + 1, 0, none⟩) 1 1, .slice none 0 0, .int .i64 0, .int .i64 20, .int .i64 40]
    simpa using this
  have hb3 : Below w.heap.size w (((w.alloc (.cells #[.string ⟨#[]⟩, .slice none 0 0, .slice none 0 0, .int .i64 0, .int .i64 0, .int .i64 0, .slice none 0 0, .slice none 0 0, .slice none 0 0, .slice none 0 0, .int .i64 0, .int .i64 0, .int .i64 0, .int .i64 0, .int .i64 0, .int .i64 0, .int .i64 0, .int .i64 0, .int .i64 0] 34)).alloc (.cells #[.int .i64 0, .int .i64 0, .int .i64 0, .int .i64 3000, .int .i64 200, .int .i64 400] 89)).alloc (.cells #[.string ⟨#[109]⟩, .slice (some ⟨w.heap.size + 1, 0, none⟩) 1 1, .slice none 0 0, .int .i64 0, .int .i64 20, .int .i64 40] 26)) := ba_alloc (ba_alloc (ba_alloc (Below.refl _ _) _) _) _
  generalize (((w.alloc (.cells #[.string ⟨#[]⟩, .slice none 0 0, .slice none 0 0, .int .i64 0, .int .i64 0, .int .i64 0, .slice none 0 0, .slice none 0 0, .slice none 0 0, .slice none 0 0, .int .i64 0, .int .i64 0, .int .i64 0, .int .i64 0, .int .i64 0, .int .i64 0, .int .i64 0, .int .i64 0, .int .i64 0] 34)).alloc (.cells #[.int .i64 0, .int .i64 0, .int .i64 0, .int .i64 3000, .int .i64 200, .int .i64 400] 89)).alloc (.cells #[.string ⟨#[109]⟩, .slice (some ⟨w.heap.size + 1, 0, none⟩) 1 1, .slice none 0 0, .int .i64 0, .int .i64 20, .int .i64 40] 26)) = w3 at *
  refine wp_region_rel (V := ExV w.heap.size) (S := ExS w.heap.size w3) (G := Grown w.heap.size) (by kernel_rfl) (ExV.stable _) (earlyB_out (by kernel_rfl)) (distB_out (by kernel_rfl)) (fun j oj s a' w' hj hs hS => by rw [hS.size]; exact slotsB_out (N := 20) (by kernel_rfl) hj hs) ?_ ?_ ?_
  · exact ⟨rfl, rfl, rfl, rfl, (Exc.refl _ _).drew, fun j hj => ⟨by rw [show w3.drew.cell? ⟨w.heap.size, 0 + j, none⟩ = w3.cell? ⟨w.heap.size, 0 + j, none⟩ from rfl, hD0.cell]; simp [hj], hD0.frozen _⟩, hD0.lt⟩
  · intro j oj a' w' hj hS hdep
    have hMw := hMb.exc hS.exc (by simp; omega)
    have e0 : a'.eval (.tmp 0) = .pointer (some ⟨w.heap.size, 0, none⟩) := hS.s0
    have e1 : a'.eval (.tmp 1) = .pointer (some ⟨w.heap.size + 1 + 1, 0, none⟩) := hS.s1
    rcases j with _ | _ | _ | _ | _ | _ | _ | _ | _ | _ | _ | _ | _ | _ | j
    all_goals (simp only [List.getElem?_cons_zero, List.getElem?_cons_succ, Option.some.injEq, Nat.zero_add] at hj; try subst hj)
    · refine ex_step rfl rfl rfl (by decide) hS (w' := w') ?_ (Exc.refl _ _) rfl
      simp only [execOp, e1, Instr.loadAt, Instr.sureAddr, Sem.run_bind, Sem.run_pure, Result.andThen_ok, run_loadVar_mid w' (w.heap.size + 1 + 1) 0 26 [.string ⟨#[109]⟩, .slice (some ⟨w.heap.size + 1, 0, none⟩) 1 1, .slice none 0 0, .int .i64 0, .int .i64 20, .int .i64 40] _ hMw.range Tryz.underlying26 rfl (by kernel_rfl)]
    · exact ex_step rfl rfl rfl (by decide) hS (w' := w'.alloc (.cells #[.int .i64 2000] 3)) (by kernel_rfl) ((Exc.refl _ _).alloc _) ⟨_, rfl, by have := hS.lt; omega, Blk.new _ _ _⟩
    · obtain ⟨g, hv, hn, hB⟩ := hdep ⟨1, .data⟩ (by simp) rfl _ rfl
      have e8 : a'.eval (.tmp 8) = .slice (some ⟨g, 0, none⟩) 1 1 := hv
      exact ex_step rfl rfl rfl (by decide) hS (w' := w') (by simp only [execOp, List.map_toArray, List.map_cons, List.map_nil, e8]; kernel_rfl) (Exc.refl _ _) ⟨g, rfl, hn, hB⟩
    · obtain ⟨g, hv, hn, hB⟩ := hdep ⟨2, .data⟩ (by simp) rfl _ rfl
      have e9 : a'.eval (.tmp 9) = .agg (barArr g) := hv
      exact ex_step rfl rfl rfl (by decide) hS (w' := w'.alloc (.cells (barArr g) 158)) (by simp only [execOp, List.map_toArray, List.map_cons, List.map_nil, e9]; kernel_rfl) ((Exc.refl _ _).alloc _) ⟨g, _, rfl, hn, by have := hS.lt; omega, hB.alloc _, Blk.new _ _ _⟩
    · exact ex_step rfl rfl rfl (by decide) hS (w' := w') (by kernel_rfl) (Exc.refl _ _) rfl
    · exact ex_step rfl rfl rfl (by decide) hS (w' := w') (by kernel_rfl) (Exc.refl _ _) rfl
    · exact ex_step rfl rfl rfl (by decide) hS (w' := w') (by kernel_rfl) (Exc.refl _ _) rfl
    · have e11 : a'.eval (.tmp 11) = .agg #[.int .i64 1, .int .i64 2] := hdep ⟨4, .data⟩ (by simp) rfl _ rfl
      have e12 : a'.eval (.tmp 12) = .agg #[.int .i64 0, .int .i64 100, .int .i64 40] := hdep ⟨5, .data⟩ (by simp) rfl _ rfl
      have e13 : a'.eval (.tmp 13) = .agg #[.int .i64 1000, .int .i64 0, .int .i64 12] := hdep ⟨6, .data⟩ (by simp) rfl _ rfl
      exact ex_step rfl rfl rfl (by decide) hS (w' := w') (by simp only [execOp, List.map_toArray, List.map_cons, List.map_nil, e11, e12, e13]; kernel_rfl) (Exc.refl _ _) rfl
    · have e14 : a'.eval (.tmp 14) = .agg runArr := hdep ⟨7, .data⟩ (by simp) rfl _ rfl
      exact ex_step rfl rfl rfl (by decide) hS (w' := w'.alloc (.cells runArr 183)) (by simp only [execOp, List.map_toArray, List.map_cons, List.map_nil, e14]; kernel_rfl) ((Exc.refl _ _).alloc _) ⟨_, rfl, by have := hS.lt; omega, Blk.new _ _ _⟩
    · exact ex_step rfl rfl rfl (by decide) hS (w' := w') (by kernel_rfl) (Exc.refl _ _) rfl
    · have e16 : a'.eval (.tmp 16) = .agg #[.int .i64 0, .int .i64 1] := hdep ⟨9, .data⟩ (by simp) rfl _ rfl
      exact ex_step rfl rfl rfl (by decide) hS (w' := w'.alloc (.cells #[.int .i64 0, .int .i64 1] 124)) (by simp only [execOp, List.map_toArray, List.map_cons, List.map_nil, e16]; kernel_rfl) ((Exc.refl _ _).alloc _) ⟨_, rfl, by have := hS.lt; omega, Blk.new _ _ _⟩
    · refine op_call (f := 54) (args := #[]) rfl rfl (by first | kernel_rfl | (simp [execOp, go_sem, Tryz.call54]; done)) (rule_any w') ?_
      rintro e w'' ⟨rfl, hb⟩
      exact ⟨ruleV exRule, rfl, ruleV exRule, rfl, fun h => by simp at h, rfl, Grown.of (Exc.of_below hb), hS.put (Exc.of_below hb) (d := 18) (by decide) _⟩
    · have e7 : a'.eval (.tmp 7) = .agg #[.string strM, .slice (some ⟨w.heap.size + 1, 0, none⟩) 1 1, .slice none 0 0, .int .i64 0, .int .i64 20, .int .i64 40] := hdep ⟨0, .data⟩ (by simp) rfl _ rfl
      obtain ⟨g, gb, hv3, n0, n1, hB0, hB1⟩ := hdep ⟨3, .data⟩ (by simp) rfl _ rfl
      obtain ⟨gr, hv8, n2, hB2⟩ := hdep ⟨8, .data⟩ (by simp) rfl _ rfl
      obtain ⟨gj, hv10, n3, hB3⟩ := hdep ⟨10, .data⟩ (by simp) rfl _ rfl
      have e10 : a'.eval (.tmp 10) = .slice (some ⟨gb, 0, none⟩) 1 1 := hv3
      have e15 : a'.eval (.tmp 15) = .slice (some ⟨gr, 0, none⟩) 1 1 := hv8
      have e17 : a'.eval (.tmp 17) = .slice (some ⟨gj, 0, none⟩) 1 1 := hv10
      have e18 : a'.eval (.tmp 18) = ruleV exRule := hdep ⟨11, .data⟩ (by simp) rfl _ rfl
      exact ex_step rfl rfl rfl (by decide) hS (w' := w') (by simp only [execOp, List.map_toArray, List.map_cons, List.map_nil, e7, e10, e15, e17, e18]; kernel_rfl) (Exc.refl _ _) ⟨g, gb, gr, gj, rfl, n0, n1, n2, n3, hB0, hB1, hB2, hB3⟩
    · obtain ⟨g, gb, gr, gj, hv, hB⟩ := hdep ⟨12, .data⟩ (by simp) rfl _ rfl
      have e19 : a'.eval (.tmp 19) = .agg (exL w.heap.size gb gr gj).toArray := hv
      have hXs := exc_setCells w.heap.size (exL w.heap.size gb gr gj) 0 w'
      have hblt : w.heap.size < (w'.setCells w.heap.size 0 (exL w.heap.size gb gr gj)).heap.size := Nat.lt_of_lt_of_le hS.lt hXs.size
      have hF : Fin w.heap.size (w'.setCells w.heap.size 0 (exL w.heap.size gb gr gj)) := ⟨g, gb, gr, gj, World.rangeAt_setCells_same _ _ _ _ hS.there, ⟨hB.n0, hB.n1, hB.n2, hB.n3, hB.dims.exc hXs (by simpa using hB.n0), hB.bar.exc hXs (by simpa using hB.n1), hB.run.exc hXs (by simpa using hB.n2), hB.lap.exc hXs (by simpa using hB.n3)⟩, hblt⟩
      refine op_skip (w' := w'.setCells w.heap.size 0 (exL w.heap.size gb gr gj)) rfl rfl ?_ ⟨undef, rfl, fun _ => rfl, hF, ⟨hXs, fun _ => hF⟩, ⟨hS.size, hS.s0, hS.s1, hS.defers, hS.exc.join hXs (fun k hk => .inl hk), World.there_setCells hS.there _ _ _, hblt⟩⟩
      have hst := run_storeAt_mid (P := Tryz.prog) w' w.heap.size 0 34 (exL w.heap.size gb gr gj).toArray hS.there (by kernel_rfl) (by simp [Value.oneCell'])
      change Sem.run Tryz.prog (execOp a'.eval { dst := none, op := Op.store 34 (.tmp 0) (.tmp 19), type := 0, pos := "law.go:25", after := _, guard := none }) w' = _
      simp only [execOp, e0, e19, Sem.run_bind, hst]
      rfl
    · simp at hj
  · intro a' w' hS hall
    obtain ⟨g, gb, gr, gj, hr, hB, hlt⟩ := hall 13 _ rfl
    rename_i K hK
    have hres : (loadVar 34 ⟨w.heap.size, 0, none⟩).run Tryz.prog w' = .ok (.agg (exL w.heap.size gb gr gj).toArray) w' := run_loadVar_mid w' w.heap.size 0 _ _ _ hr Tryz.underlying34 rfl (by kernel_rfl)
    have hBx' := hBx.exc hS.exc (by simp)
    have hbb : Below w.heap.size w w' := by
      have h1 := hS.exc
      exact ⟨h1.os.trans hb3.os, h1.tape.trans hb3.tape, h1.output.trans hb3.output, Nat.le_trans hb3.size h1.size, fun k hk => (h1.block k (Nat.lt_of_lt_of_le hk hb3.size) (by simp; omega)).trans (hb3.block k hk)⟩
    have hs0 := hS.s0
    have hdf := hS.defers
    show K a' w'
    apply hK
    go_wp2
    refine bodyPost_ret (v := .agg (exL w.heap.size gb gr gj).toArray) ?_ hdf ⟨g, gb, gr, gj, rfl, hB, hBx', hbb⟩
    rw [Array.getD_eq_getD_getElem?] at hs0
    have ha : (asAddr (a'.tmps[0]?.getD undef)).run Tryz.prog w' = .ok ⟨w.heap.size, 0, none⟩ w' := by rw [hs0]; kernel_rfl
    simp [results, Tryz.results56, ha, hres, Result.andThen]
def exDt (b g gb gr gj : Nat) : Dt where
  m := ⟨strM, [⟨⟨0, 0, 0⟩, ⟨3000, 200, 400⟩⟩], [], 0, 20, 40⟩
  mA := some ⟨b + 1, 0, none⟩
  mn := 1
  mc := 1
  hA := none
  hn := 0
  hc := 0
  bs := [⟨⟨strA, 12, 2, 0, [2000]⟩, some ⟨g, 0, none⟩, 1, 1⟩]
  bA := some ⟨gb, 0, none⟩
  bn := 1
  bc := 1
  rs := [⟨strA, 1, 2, ⟨0, 100, 40⟩, ⟨1000, 0, 12⟩, 2⟩]
  rA := some ⟨gr, 0, none⟩
  rn := 1
  rc := 1
  js := [⟨0, 1⟩]
  jA := some ⟨gj, 0, none⟩
  jn := 1
  jc := 1
  dA := none
  dn := 0
  dc := 0
  rule := exRule
theorem ex_dtV (b g gb gr gj : Nat) : dtV (exDt b g gb gr gj) = .agg (exL b gb gr gj).toArray := rfl
theorem Blk.cells {w : World} {g : Nat} {t : TypeId} {cs : List Value} (h : Blk w g t cs.toArray) : Cells w w.heap.size (some ⟨g, 0, none⟩) cs := .inr ⟨g, 0, rfl, h.lt, fun j v hv => by
  rw [Nat.zero_add]
  exact (h.cell j).trans (by simpa using hv)⟩
theorem ex_le1 : 1 ≤ 9223372036854775807 := by decide
theorem ex_le0 : 0 ≤ 9223372036854775807 := by decide
theorem ex_at {w : World} {b g gb gr gj : Nat} (h : ExBlks w b g gb gr gj) (hB : Blk w (b + 1) 89 #[.int .i64 0, .int .i64 0, .int .i64 0, .int .i64 3000, .int .i64 200, .int .i64 400]) : DtAt w w.heap.size (exDt b g gb gr gj) := by
  refine ⟨⟨rfl, ex_le1, rfl, ex_le0, hB.cells, Cells.nil⟩, ex_le1, ⟨rfl, ex_le1, h.bar.cells, fun r hr => ?_⟩, ⟨rfl, ex_le1, h.run.cells⟩, rfl, ex_le1, h.lap.cells⟩
  rw [show (exDt b g gb gr gj).bs = [⟨⟨strA, 12, 2, 0, [2000]⟩, some ⟨g, 0, none⟩, 1, 1⟩] from rfl, List.mem_singleton] at hr
  subst hr
  exact ⟨rfl, ex_le1, ex_le1, h.dims.cells⟩
theorem ex_look (b g gb gr gj : Nat) : S.look (exDt b g gb gr gj) true = true := by kernel_rfl
theorem ex_len (b g gb gr gj : Nat) : (S.mains (bars (exDt b g gb gr gj).bs) (exDt b g gb gr gj).rs).length = 2 := by kernel_rfl
theorem ex_m0 (b g gb gr gj : Nat) : (S.mains (bars (exDt b g gb gr gj).bs) (exDt b g gb gr gj).rs)[0]? = some ⟨⟨⟨0, 100, 40⟩, ⟨2000, 100, 40⟩⟩, true, 12, strA⟩ := by kernel_rfl
theorem ex_m1 (b g gb gr gj : Nat) : (S.mains (bars (exDt b g gb gr gj).bs) (exDt b g gb gr gj).rs)[1]? = some ⟨⟨⟨1000, 100, 52⟩, ⟨3000, 100, 52⟩⟩, true, 12, strA⟩ := by kernel_rfl
theorem demand_nil (w : World) : Calls Tryz.prog 121 #[.slice none 0 0] w fun e w' => e = .returned (.bool true) ∧ Below w.heap.size w w' := by
  go_enter Tryz.func121, Tryz.ntmps121
  go_wp2
  refine wp_loop_rounds 1 ?_
  rw [rounds_succ]
  go_wp2
  go_ret
  exact ⟨rfl, (by repeat (first | exact Below.refl _ _ | assumption | refine ba_alloc ?_ _ | refine ba_drew ?_ | refine ba_drewN ?_ _ | refine ba_via (by assumption) ?_ | (refine ba_set ?_ ?_ _; rotate_left; (first | omega | (simp; omega) | simp))))⟩
end Go.Proofs.YtffkmgjmlahfpaaGreat
set_option linter.unusedVariables false
set_option linter.unusedSimpArgs false
namespace Go.Proofs.YtffkmgjmlahfpaaGreat
open Go.RowKit
def S.stagT (l : List Sp) (num den : Int) : Value := .tuple #[.bool (S.stagIs l num den), .int .i64 (S.stagIx l num den), .int .i64 (S.stagErr l num den)]
theorem stagT_err {l : List Sp} {num den e : Int} (h : S.stagErr l num den = e) (he : e ≠ 0) : S.stagT l num den = .tuple #[.bool false, .int .i64 0, .int .i64 e] := by
  unfold S.stagT S.stagIs S.stagIx
  rw [h, if_neg he]
  simp [he]
theorem stagT_hit {l : List Sp} {num den : Int} {k : Nat} (h : S.stagErr l num den = 0) (hk : S.stag l num den = (k : Int)) : S.stagT l num den = .tuple #[.bool false, .int .i64 k, .int .i64 0] := by
  unfold S.stagT S.stagIs S.stagIx
  rw [h, if_pos rfl, hk]
  have : ¬ ((k : Int) < 0) := by omega
  simp [this]
theorem stagT_miss {l : List Sp} {num den : Int} (h : S.stagErr l num den = 0) (hk : S.stag l num den = -1) : S.stagT l num den = .tuple #[.bool true, .int .i64 (-1), .int .i64 0] := by
  unfold S.stagT S.stagIs S.stagIx
  rw [h, if_pos rfl, hk]
  simp
set_option maxRecDepth 8000 in
set_option maxHeartbeats 4000000 in
theorem stag_any (l : List Sp) (num den : Int) (A : Option Addr) (n c : Nat) (B : Nat) (w : World) (hn : l.length = n) (hm : n ≤ 9223372036854775807) (hc : n ≤ c) (hB : B ≤ w.heap.size) (hs : Cells w B A (l.flatMap spC)) :
    Calls Tryz.prog 55 #[.slice A n c, .int .i64 num, .int .i64 den] w fun e w' => e = .returned (S.stagT l num den) ∧ Below w.heap.size w w' := by
  have HN := Lib.hid hn
  have HPL := Lib.hid (fun n w => lplace_any n w)
  clear hn
  go_enter Tryz.func55, Tryz.ntmps55
  go_wp2
  go_loopw [18] (fun i wr => ∃ k : Nat, k ≤ n ∧ i = .int .i64 k ∧ (∀ j (h : j < l.length), j < k → S.spanOk l[j] = true) ∧ Below w.heap.size w wr) (fun i _ => n - (intOf i).toNat)
  case atStart => exact ⟨0, Nat.zero_le _, rfl, fun j _ hj => absurd hj (by omega), Below.refl _ _⟩
  case round =>
    obtain ⟨k, hk, rfl, hno, hbr⟩ := hrel
    have HNO := Lib.hid hno
    clear hno
    by_cases hlt : k < n
    · have hkx : k < l.length := by have := HN.out; omega
      have hs' := hs.below (hbr.mono hB)
      obtain ⟨b, o, rfl, _, _⟩ := hs'.at_ (by rw [flat_len spC 2 spC_len]; omega)
      have c0 := hs'.row0 spC_len hkx rfl
      have c1 := hs'.rowj spC_len hkx 1 rfl
      have HGO := Lib.hid (fun (h : S.spanOk l[k] = true) (j : Nat) (hj : j < l.length) (hjk : j < k + 1) => show S.spanOk l[j] = true from by
        by_cases hjk' : j = k
        · subst hjk'; exact h
        · exact HNO.out j hj (by omega))
      have HBAD := Lib.hid (fun (h : S.spanOk l[k] = false) => stagT_err (l := l) (num := num) (den := den) (e := 1) (by unfold S.stagErr; rw [if_pos (span_bad hkx h)]) (by decide))
      have HSP := Lib.hid (show S.spanOk l[k] = (decide (l[k].lo ≤ l[k].hi) && S.place l[k].lo && S.place l[k].hi) from rfl)
      have HP0 := Lib.hid (HPL.out l[k].lo)
      have HP1 := Lib.hid (HPL.out l[k].hi)
      generalize S.place l[k].lo = t0 at *
      generalize S.place l[k].hi = t1 at *
      generalize l[k] = s at *
      clear hs' HNO
      have hcs : (s.hi < s.lo) ∨ (¬ s.hi < s.lo ∧ t0 = false) ∨ (¬ s.hi < s.lo ∧ t0 = true ∧ t1 = false) ∨ (¬ s.hi < s.lo ∧ t0 = true ∧ t1 = true) := by
        by_cases h : s.hi < s.lo
        · exact .inl h
        · cases t0
          · exact .inr (.inl ⟨h, rfl⟩)
          · cases t1
            · exact .inr (.inr (.inl ⟨h, rfl, rfl⟩))
            · exact .inr (.inr (.inr ⟨h, rfl, rfl⟩))
      rcases hcs with h1 | ⟨h1, rfl⟩ | ⟨h1, rfl, rfl⟩ | ⟨h1, rfl, rfl⟩
      rotate_right
      · have HG := Lib.hid (HGO.out (by rw [HSP.out, decide_eq_true (show s.lo ≤ s.hi by omega)]; rfl))
        go_wp2_with (first
          | (go_at_call 70; (with_reducible refine (HP0.out _).mono ?_); rintro e w' ⟨rfl, rfl⟩)
          | (go_at_call 70; (with_reducible refine (HP1.out _).mono ?_); rintro e w' ⟨rfl, rfl⟩))
        go_roundw
        case rel => exact ⟨k + 1, by omega, by go_num, HG.out, (by repeat (first | exact Below.refl _ _ | assumption | refine ba_alloc ?_ _ | refine ba_drew ?_ | refine ba_drewN ?_ _ | refine ba_via (by assumption) ?_ | (refine ba_set ?_ ?_ _; rotate_left; (first | omega | (simp; omega) | simp))))⟩
        case measure => simp [intOf]; omega
      all_goals (
        have HG := Lib.hid (HBAD.out (by rw [HSP.out]; first | rfl | (rw [decide_eq_false (show ¬ s.lo ≤ s.hi by omega)]; rfl) | (simp; done)))
        go_wp2_with (first
          | (go_at_call 70; (with_reducible refine (HP0.out _).mono ?_); rintro e w' ⟨rfl, rfl⟩)
          | (go_at_call 70; (with_reducible refine (HP1.out _).mono ?_); rintro e w' ⟨rfl, rfl⟩))
        go_ret3
        exact ⟨by rw [HG.out]; rfl, (by repeat (first | exact Below.refl _ _ | assumption | refine ba_alloc ?_ _ | refine ba_drew ?_ | refine ba_drewN ?_ _ | refine ba_via (by assumption) ?_ | (refine ba_set ?_ ?_ _; rotate_left; (first | omega | (simp; omega) | simp))))⟩)
    · have hall : ∀ j (h : j < l.length), S.spanOk l[j] = true := fun j hj => HNO.out j hj (by have := HN.out; omega)
      have HALL := Lib.hid hall
      have hany := span_all hall
      have hE0 : S.stagErr l num den = if S.stagNum num den = true then 2 else if 1000 < l.length then 4 else 0 := by
        unfold S.stagErr; rw [hany]; rfl
      by_cases hsn : S.stagNum num den = true
      · have HT := Lib.hid (stagT_err (l := l) (num := num) (den := den) (e := 2) (by rw [hE0, if_pos hsn]) (by decide))
        have hcs : (if den < num then den else num) < 1 ∨ (¬ (if den < num then den else num) < 1 ∧ 1000 < (if num < den then den else num)) := by
          simp only [S.stagNum, Bool.or_eq_true, decide_eq_true_eq] at hsn
          split <;> split <;> omega
        clear hE0 hsn hany hall
        generalize hlo : (if den < num then den else num) = lo at *
        generalize hhi : (if num < den then den else num) = hi at *
        rcases hcs with h1 | ⟨h1, h2⟩
        all_goals (
          go_wp2
          go_ret3
          exact ⟨by rw [HT.out]; rfl, (by repeat (first | exact Below.refl _ _ | assumption | refine ba_alloc ?_ _ | refine ba_drew ?_ | refine ba_drewN ?_ _ | refine ba_via (by assumption) ?_ | (refine ba_set ?_ ?_ _; rotate_left; (first | omega | (simp; omega) | simp))))⟩)
      have hsn' : (¬ (if den < num then den else num) < 1 ∧ ¬ 1000 < (if num < den then den else num)) ∧ (1 ≤ num ∧ num ≤ 1000) ∧ (1 ≤ den ∧ den ≤ 1000) := by
        simp only [S.stagNum, Bool.or_eq_true, decide_eq_true_eq] at hsn
        split <;> split <;> omega
      obtain ⟨⟨h1, h2⟩, hnum, hden⟩ := hsn'
      rw [if_neg hsn] at hE0
      generalize hlo : (if den < num then den else num) = lo at *
      generalize hhi : (if num < den then den else num) = hi at *
      by_cases h1000 : 1000 < n
      · have HT := Lib.hid (stagT_err (l := l) (num := num) (den := den) (e := 4) (by rw [hE0, if_pos (by have := HN.out; omega)]) (by decide))
        clear hE0 hsn hany hall
        go_wp2
        go_ret3
        exact ⟨by rw [HT.out]; rfl, (by repeat (first | exact Below.refl _ _ | assumption | refine ba_alloc ?_ _ | refine ba_drew ?_ | refine ba_drewN ?_ _ | refine ba_via (by assumption) ?_ | (refine ba_set ?_ ?_ _; rotate_left; (first | omega | (simp; omega) | simp))))⟩
      have HE0 := Lib.hid (show S.stagErr l num den = 0 by rw [hE0, if_neg (by have := HN.out; omega)])
      have HNW := Lib.hid (fun (i j : Nat) (hi : i < l.length) (hj : j < l.length) => near_walk (hall i hi) (hall j hj) hnum hden)
      clear hE0 hsn hany hall
      go_wp2
      have hsr := hs.below (hbr.mono hB)
      have hBr : B ≤ wr.heap.size := by have := hbr.size; omega
      clear hs
      go_loopw [57] (fun i wq => ∃ k : Nat, k ≤ n ∧ i = .int .i64 k ∧ (∀ j, j < k → S.stagP l num den j = false) ∧ Below wr.heap.size wr wq) (fun i _ => n - (intOf i).toNat)
      case atStart => exact ⟨0, Nat.zero_le _, rfl, fun j hj => absurd hj (by omega), Below.refl _ _⟩
      case round =>
        obtain ⟨k2, hk2, rfl, hno2, hbr2⟩ := hrel
        have HNO2 := Lib.hid hno2
        clear hno2
        by_cases hlt2 : k2 < n
        · have hkx : k2 < l.length := by have := HN.out; omega
          have hs' := hsr.below (hbr2.mono hBr)
          obtain ⟨b, o, rfl, hbB, _⟩ := hs'.at_ (by rw [flat_len spC 2 spC_len]; omega)
          have c0 := hs'.row0 spC_len hkx rfl
          have c1 := hs'.rowj spC_len hkx 1 rfl
          have hkc : k2 ≤ c := by omega
          have hk2i : (k2 : Int) < n := by omega
          have HNWk := Lib.hid (fun (j : Nat) (hj : j < l.length) => HNW.out k2 j hkx hj)
          have HYES := Lib.hid (fun (j : Nat) (hj : j < k2) (h : S.nearS num den l[k2] (l[j]'(by omega)) = true) => stagT_hit (l := l) (num := num) (den := den) HE0.out (stag_hit hkx (stagP_yes hkx hj h) HNO2.out))
          have HNON := Lib.hid (fun (h : ∀ j (hj : j < k2), S.nearS num den l[k2] (l[j]'(by omega)) = false) => show ∀ j, j < k2 + 1 → S.stagP l num den j = false from fun j hj => by
            by_cases hjk : j = k2
            · subst hjk; exact stagP_no hkx h
            · exact HNO2.out j (by omega))
          generalize l[k2] = a at *
          go_wp2
          have hbn := hbr2.size
          have hA := Blk.new wr 45 #[.int .i64 a.lo, .int .i64 a.hi]
          have hbw : Below w.heap.size w (wr.alloc (.cells #[.int .i64 a.lo, .int .i64 a.hi] 45)) := ba_alloc (hbr.trans (hbr2.mono hbr.size)) _
          have hsq := hs'.alloc (by omega) (.cells #[.int .i64 a.lo, .int .i64 a.hi] 45)
          have hwa : (wr.alloc (.cells #[.int .i64 a.lo, .int .i64 a.hi] 45)).heap.size = wr.heap.size + 1 := by simp
          have hbra := hbr2.trans ((ba_alloc (Below.refl _ wr) (.cells #[.int .i64 a.lo, .int .i64 a.hi] 45)).mono hbn)
          generalize wr.alloc (.cells #[.int .i64 a.lo, .int .i64 a.hi] 45) = wa at *
          clear hs' c0 c1
          go_loopw [66] (fun i wq => ∃ j : Nat, j ≤ k2 ∧ i = .int .i64 j ∧ (∀ m (hm : m < k2), m < j → S.nearS num den a (l[m]'(by omega)) = false) ∧ Below wa.heap.size wa wq) (fun i _ => k2 - (intOf i).toNat)
          case atStart => exact ⟨0, Nat.zero_le _, rfl, fun m _ hm => absurd hm (by omega), Below.refl _ _⟩
          case round =>
            obtain ⟨j, hj, rfl, hno3, hbq⟩ := hrel
            have HNO3 := Lib.hid hno3
            clear hno3
            by_cases hlt3 : j < k2
            · have hjx : j < l.length := by omega
              have hs3 := hsq.below (hbq.mono (by omega))
              have c0 := hs3.row0 spC_len hjx rfl
              have c1 := hs3.rowj spC_len hjx 1 rfl
              have hAq := hA.via hbq
              have a0 := hAq.cell 0
              have a1 := hAq.cell 1
              have ltA := hAq.lt
              simp only [List.getElem?_toArray, List.getElem?_cons_zero, List.getElem?_cons_succ] at a0 a1
              obtain ⟨x1, x2, d1, y1, y2, d2, M, p, q, v1, v2, W, z, e1, e2, e3, e4, e5, e6, e7, e8, e9, e10, e11, e12, e13, e14⟩ := HNWk.out j hjx
              have HY := Lib.hid (HYES.out j hlt3)
              have HG := Lib.hid (fun (h : S.nearS num den a (l[j]'hjx) = false) (m : Nat) (hm : m < k2) (hmj : m < j + 1) => show S.nearS num den a (l[m]'(by omega)) = false from by
                by_cases hmj' : m = j
                · subst hmj'; exact h
                · exact HNO3.out m hm (by omega))
              have E14 := Lib.hid e14
              clear e14 hs3 hAq
              generalize l[j] = s at *
              generalize S.nearS num den a s = t at *
              cases t
              · have hpz : ¬ p < z := of_decide_eq_false E14.out
                have HG' := Lib.hid (HG.out rfl)
                go_wp2
                go_roundw
                case rel => exact ⟨j + 1, by omega, by go_num, HG'.out, hbq.trans (Below.mono (by repeat (first | exact Below.refl _ _ | assumption | refine ba_alloc ?_ _ | refine ba_drew ?_ | refine ba_drewN ?_ _ | refine ba_via (by assumption) ?_ | (refine ba_set ?_ ?_ _; rotate_left; (first | omega | (simp; omega) | simp)))) hbq.size)⟩
                case measure => simp [intOf]; omega
              · have hpz : p < z := of_decide_eq_true E14.out
                have HG' := Lib.hid (HY.out rfl)
                go_wp2
                go_ret3
                exact ⟨by rw [HG'.out]; rfl, hbw.trans (Below.mono (hbq.trans (Below.mono (by repeat (first | exact Below.refl _ _ | assumption | refine ba_alloc ?_ _ | refine ba_drew ?_ | refine ba_drewN ?_ _ | refine ba_via (by assumption) ?_ | (refine ba_set ?_ ?_ _; rotate_left; (first | omega | (simp; omega) | simp)))) hbq.size)) hbw.size)⟩
            · have HNN := Lib.hid (HNON.out (fun m hm => HNO3.out m hm (by omega)))
              obtain rfl : k2 = j := by omega
              clear hj hlt3
              go_wp2
              go_roundw
              case rel => exact ⟨k2 + 1, by omega, by go_num, HNN.out, hbra.trans (hbq.mono hbra.size)⟩
              case measure => simp [intOf]; omega
        · have HT := Lib.hid (stagT_miss (l := l) (num := num) (den := den) HE0.out (stag_miss (fun j hj => HNO2.out j (by have := HN.out; omega))))
          go_wp2
          go_ret3
          exact ⟨by rw [HT.out]; rfl, hbr.trans (hbr2.mono hbr.size)⟩
end Go.Proofs.YtffkmgjmlahfpaaGreat
set_option linter.unusedVariables false
set_option linter.unusedSimpArgs false
namespace Go.Proofs.YtffkmgjmlahfpaaGreat
open Go.RowKit
abbrev exSp : List Sp := [⟨0, 100⟩, ⟨120, 220⟩]
theorem ex_stag1 : S.stagT exSp 6 5 = .tuple #[.bool true, .int .i64 (-1), .int .i64 0] := by kernel_rfl
theorem ex_stag2 : S.stagT exSp 13 10 = .tuple #[.bool false, .int .i64 1, .int .i64 0] := by kernel_rfl
theorem ex_lap : lLength exRule 12 false = 720 := by kernel_rfl
theorem ex_sized : S.sized exRule 12 = 0 := by kernel_rfl
set_option maxRecDepth 20000 in
set_option maxHeartbeats 4000000 in
theorem awake_any (w : World) : Calls Tryz.prog 12 #[] w fun e w' => e = .returned (.bool true) ∧ Below w.heap.size w w' := by
  have HR := Lib.hid (fun w => rule_any w)
  have HL := Lib.hid (fun w => lLength_any exRule 12 false w)
  rw [ex_lap, ex_sized] at HL
  have HS1 := Lib.hid (fun (W : World) => stag_any exSp 6 5 (some ⟨W.heap.size, 0, none⟩) 2 2 (W.alloc (.cells #[.int .i64 0, .int .i64 100, .int .i64 120, .int .i64 220] 45)).heap.size (W.alloc (.cells #[.int .i64 0, .int .i64 100, .int .i64 120, .int .i64 220] 45)) rfl (by decide) (by decide) (Nat.le_refl _) (Cells.newRow W _ _ _))
  have HS2 := Lib.hid (fun (W : World) => stag_any exSp 13 10 (some ⟨W.heap.size, 0, none⟩) 2 2 (W.alloc (.cells #[.int .i64 0, .int .i64 100, .int .i64 120, .int .i64 220] 45)).heap.size (W.alloc (.cells #[.int .i64 0, .int .i64 100, .int .i64 120, .int .i64 220] 45)) rfl (by decide) (by decide) (Nat.le_refl _) (Cells.newRow W _ _ _))
  rw [ex_stag1] at HS1
  rw [ex_stag2] at HS2
  have HE := Lib.hid (fun w => example_any w)
  have HO : Hid (∀ (W : World) (b g gb gr gj : Nat) (h : ExBlks W b g gb gr gj) (hB : Blk W (b + 1) 89 #[.int .i64 0, .int .i64 0, .int .i64 0, .int .i64 3000, .int .i64 200, .int .i64 400]), Calls Tryz.prog 17 #[.agg (exL b gb gr gj).toArray, .int .i64 0] W fun e w' => e = .returned (.tuple #[.agg #[.int .i64 1000, .int .i64 2000], .int .i64 0]) ∧ Below W.heap.size W w') :=
    Lib.hid (fun W b g gb gr gj h hB => Overlap_yes (exDt b g gb gr gj) true W.heap.size W (Nat.le_refl _) (ex_at h hB) (fun V _ => demand_nil V) (ex_look b g gb gr gj) 0 0 1 _ _ (by show 0 < 1; decide) rfl (ex_m0 b g gb gr gj) (ex_m1 b g gb gr gj))
  have HC : Hid (∀ (W : World) (b g gb gr gj : Nat) (h : ExBlks W b g gb gr gj) (hB : Blk W (b + 1) 89 #[.int .i64 0, .int .i64 0, .int .i64 0, .int .i64 3000, .int .i64 200, .int .i64 400]), Calls Tryz.prog 18 #[.agg (exL b gb gr gj).toArray] W fun e w' => (∃ v, e = .returned (.tuple #[v, .int .i64 0]) ∧ One2 w' v 0 1) ∧ Below W.heap.size W w') :=
    Lib.hid (fun W b g gb gr gj h hB => Chains_one (exDt b g gb gr gj) true W.heap.size W (Nat.le_refl _) (ex_at h hB) (fun V _ => demand_nil V) (ex_look b g gb gr gj) rfl (ex_len b g gb gr gj))
  go_enter Tryz.func12, Tryz.ntmps12
  go_upto_region 6 with (first
    | (go_at_call 54; (with_reducible refine (HR.out _).mono ?_); rintro e w1 ⟨rfl, hbw1⟩; obtain ⟨hcw1, hfw1⟩ := bcell hbw1)
    | (go_at_call 53; (with_reducible refine (HL.out _).mono ?_); rintro e w2 ⟨rfl, hbw2⟩; obtain ⟨hcw2, hfw2⟩ := bcell hbw2)
    | (go_at_call 55; (with_reducible refine (HS1.out _).mono ?_); rintro e w3 ⟨rfl, hbw3⟩; obtain ⟨hcw3, hfw3⟩ := bcell hbw3)
    | (go_at_call 55; (with_reducible refine (HS2.out _).mono ?_); rintro e w4 ⟨rfl, hbw4⟩; obtain ⟨hcw4, hfw4⟩ := bcell hbw4)
    | (go_at_call 17; (with_reducible refine (HO.out _ _ _ _ _ _ hE5 hB5).mono ?_); rintro e w6 ⟨rfl, hbw6⟩)
    | (go_at_call 18; (with_reducible refine (HC.out _ (w6.heap.size + 1) _ _ _ _ (by simpa using hE7) (by simpa using hB7)).mono ?_); rintro e w8 ⟨⟨v8, rfl, hO8⟩, hbw8⟩)
    | (go_at_call 56; (with_reducible refine (HE.out w4).mono ?_); rintro e w5 ⟨g5, gb5, gr5, gj5, rfl, hE5, hB5, hbw5⟩)
    | (go_at_call 56; (with_reducible refine (HE.out _).mono ?_); rintro e w7 ⟨g7, gb7, gr7, gj7, rfl, hE7, hB7, hbw7⟩))
  obtain ⟨g, g2, o, o2, c, c2, rfl, hg, hg2, k0, k1, k2⟩ := hO8
  have hSp := ((Blk.new w6 45 #[.int .i64 1000, .int .i64 2000]).via hbw7).via hbw8
  have s0 := hSp.cell 0
  have s1 := hSp.cell 1
  simp only [List.getElem?_toArray, List.getElem?_cons_zero, List.getElem?_cons_succ] at s0 s1
  have hbel : Below w.heap.size w w8 := (by repeat (first | exact Below.refl _ _ | assumption | refine ba_alloc ?_ _ | refine ba_drew ?_ | refine ba_drewN ?_ _ | refine ba_via (by assumption) ?_ | (refine ba_set ?_ ?_ _; rotate_left; (first | omega | (simp; omega) | simp))))
  have hq : ∀ W, (binOp .eql 45 (.agg #[.int .i64 1000, .int .i64 2000]) (.agg #[.int .i64 1000, .int .i64 2000])).run Tryz.prog W = .ok (.bool true) W := fun W => by kernel_rfl
  have hE := Lib.hid (fun (W : World) (A' : Option Addr) (h1 : Cells W W.heap.size (some ⟨g2, o2, none⟩) (i64s [0, 1])) (h2 : Cells W W.heap.size A' (i64s [0, 1])) => equal_any (some ⟨g2, o2, none⟩) A' 2 2 c2 2 [0, 1] [0, 1] W.heap.size W (Nat.le_refl _) rfl rfl (by decide) (by decide) h1 h2)
  rw [show S.eqi [0, 1] [0, 1] = true from by decide] at hE
  have hc8 : Cells w8 w8.heap.size (some ⟨g2, o2, none⟩) (i64s [0, 1]) := .inr ⟨g2, o2, rfl, hg2, fun j v hv => by
    rcases j with _ | _ | j
    · simp only [i64s, List.map_cons, List.getElem?_cons_zero, Option.some.injEq] at hv
      subst hv
      exact k1
    · simp only [i64s, List.map_cons, List.getElem?_cons_succ, List.getElem?_cons_zero, Option.some.injEq] at hv
      subst hv
      exact k2
    · simp [i64s] at hv⟩
  have hc9 := (hc8.alloc (Nat.le_refl _) (.cells #[.int .i64 0, .int .i64 1] 3)).mono (show w8.heap.size ≤ (w8.alloc (.cells #[.int .i64 0, .int .i64 1] 3)).heap.size by simp)
  have hn9 := Cells.newRow w8 #[.int .i64 0, .int .i64 1] 3 (0, 0)
  clear hbw1 hbw2 hbw3 hbw4 hbw5 hbw6 hbw7 hbw8 hcw1 hfw1 hcw2 hfw2 hcw3 hfw3 hcw4 hfw4 HR HL HS1 HS2 HE HO HC
  go_wp2_with (first
    | (go_at_call 24; (with_reducible refine (hE.out _ _ hc9 hn9).mono ?_); rintro e w9 ⟨rfl, hbw9⟩; obtain ⟨hcw9, hfw9⟩ := bcell hbw9))
  go_ret
  exact ⟨rfl, (by repeat (first | exact Below.refl _ _ | assumption | refine ba_alloc ?_ _ | refine ba_drew ?_ | refine ba_drewN ?_ _ | refine ba_via (by assumption) ?_ | (refine ba_set ?_ ?_ _; rotate_left; (first | omega | (simp; omega) | simp))))⟩
end Go.Proofs.YtffkmgjmlahfpaaGreat
set_option linter.unusedVariables false
set_option linter.unusedSimpArgs false
namespace Go.Proofs.YtffkmgjmlahfpaaGreat
open Go.RowKit
namespace S
def setc (p : Pt) (k : Nat) (n : Int) : Pt := if k = 0 then ⟨n, p.y, p.z⟩ else if k = 1 then ⟨p.x, n, p.z⟩ else ⟨p.x, p.y, n⟩
def mn (a b : Int) : Int := if b < a then b else a
def mx (a b : Int) : Int := if a < b then b else a
def join1 (a b : Bx) (k : Nat) : Bx := ⟨setc a.lo k (mn (co a.lo k) (co b.lo k)), setc a.hi k (mx (co a.hi k) (co b.hi k))⟩
def joinK (a b : Bx) : Nat → Bx
  | 0 => a
  | k + 1 => join1 (joinK a b k) b k
end S
theorem joinK_3 (a b : Bx) : S.joinK a b 3 = S.join a b := by
  simp [S.joinK, S.join1, S.setc, S.co, S.join, S.mn, S.mx]
theorem with_any (p : Pt) (k : Nat) (n : Int) (hk : k < 3) (w : World) :
    Calls Tryz.prog 251 #[ptVal p, .int .i64 k, .int .i64 n] w fun e w' => e = .returned (ptVal (S.setc p k n)) ∧ Below w.heap.size w w' := by
  have : k = 0 ∨ k = 1 ∨ k = 2 := by omega
  unfold ptVal
  rcases this with rfl | rfl | rfl
  · go_enter Tryz.func251, Tryz.ntmps251
    go_wp2
    exact bodyPost_ret (v := ptVal ⟨n, p.y, p.z⟩) (by simp [results, Tryz.results251, go_sem, *]) rfl ⟨rfl, (by repeat (first | exact Below.refl _ _ | assumption | refine ba_alloc ?_ _ | refine ba_drew ?_ | refine ba_drewN ?_ _ | refine ba_via (by assumption) ?_ | (refine ba_set ?_ ?_ _; rotate_left; (first | omega | (simp; omega) | simp))))⟩
  · go_enter Tryz.func251, Tryz.ntmps251
    go_wp2
    exact bodyPost_ret (v := ptVal ⟨p.x, n, p.z⟩) (by simp [results, Tryz.results251, go_sem, *]) rfl ⟨rfl, (by repeat (first | exact Below.refl _ _ | assumption | refine ba_alloc ?_ _ | refine ba_drew ?_ | refine ba_drewN ?_ _ | refine ba_via (by assumption) ?_ | (refine ba_set ?_ ?_ _; rotate_left; (first | omega | (simp; omega) | simp))))⟩
  · go_enter Tryz.func251, Tryz.ntmps251
    go_wp2
    exact bodyPost_ret (v := ptVal ⟨p.x, p.y, n⟩) (by simp [results, Tryz.results251, go_sem, *]) rfl ⟨rfl, (by repeat (first | exact Below.refl _ _ | assumption | refine ba_alloc ?_ _ | refine ba_drew ?_ | refine ba_drewN ?_ _ | refine ba_via (by assumption) ?_ | (refine ba_set ?_ ?_ _; rotate_left; (first | omega | (simp; omega) | simp))))⟩
set_option maxRecDepth 100000 in
set_option maxHeartbeats 4000000 in
theorem rbhull_yes (A : Option Addr) (n c : Nat) (xs : List Bx) (x0 : Bx) (B : Nat) (w : World) (hn : xs.length = n) (hm : n ≤ 1000000) (hB : B ≤ w.heap.size) (hs : Cells w B A (xs.flatMap boxC)) (h0 : xs[0]? = some x0) :
    Calls Tryz.prog 192 #[.slice A n c] w fun e w' => e = .returned (boxV (S.hull x0 xs)) ∧ Below w.heap.size w w' := by
  have hn0 : 0 < n := by have := (List.getElem?_eq_some_iff.1 h0).1; omega
  have hni : (0 : Int) < (n : Int) := by omega
  have HN := Lib.hid hn
  have HS := Lib.hid hs
  have H0 := Lib.hid h0
  obtain ⟨b, o, rfl, hb, _⟩ := hs.at_ (by rw [flat_len boxC 6 boxC_len]; omega)
  obtain ⟨c0, c1, c2, c3, c4, c5⟩ := hs.boxes h0
  simp only [Nat.zero_mul, Nat.add_zero] at c0 c1 c2 c3 c4 c5
  have hbw : b < w.heap.size := by omega
  clear hn hs h0
  go_enter Tryz.func192, Tryz.ntmps192
  go_wp2
  have hW : Below w.heap.size w ((w.alloc (.cells #[.int .i64 0, .int .i64 0, .int .i64 0, .int .i64 0, .int .i64 0, .int .i64 0] 89)).alloc (.cells #[.int .i64 x0.lo.x, .int .i64 x0.lo.y, .int .i64 x0.lo.z, .int .i64 x0.hi.x, .int .i64 x0.hi.y, .int .i64 x0.hi.z] 89)) := (by repeat (first | exact Below.refl _ _ | assumption | refine ba_alloc ?_ _ | refine ba_drew ?_ | refine ba_drewN ?_ _ | refine ba_via (by assumption) ?_ | (refine ba_set ?_ ?_ _; rotate_left; (first | omega | (simp; omega) | simp))))
  have hK0 : Blk ((w.alloc (.cells #[.int .i64 0, .int .i64 0, .int .i64 0, .int .i64 0, .int .i64 0, .int .i64 0] 89)).alloc (.cells #[.int .i64 x0.lo.x, .int .i64 x0.lo.y, .int .i64 x0.lo.z, .int .i64 x0.hi.x, .int .i64 x0.hi.y, .int .i64 x0.hi.z] 89)) (w.heap.size + 1) 89 #[.int .i64 x0.lo.x, .int .i64 x0.lo.y, .int .i64 x0.lo.z, .int .i64 x0.hi.x, .int .i64 x0.hi.y, .int .i64 x0.hi.z] := by simpa using Blk.new (w.alloc (.cells #[.int .i64 0, .int .i64 0, .int .i64 0, .int .i64 0, .int .i64 0, .int .i64 0] 89)) 89 #[.int .i64 x0.lo.x, .int .i64 x0.lo.y, .int .i64 x0.lo.z, .int .i64 x0.hi.x, .int .i64 x0.hi.y, .int .i64 x0.hi.z]
  have hR0 : Blk ((w.alloc (.cells #[.int .i64 0, .int .i64 0, .int .i64 0, .int .i64 0, .int .i64 0, .int .i64 0] 89)).alloc (.cells #[.int .i64 x0.lo.x, .int .i64 x0.lo.y, .int .i64 x0.lo.z, .int .i64 x0.hi.x, .int .i64 x0.hi.y, .int .i64 x0.hi.z] 89)) w.heap.size 89 #[.int .i64 0, .int .i64 0, .int .i64 0, .int .i64 0, .int .i64 0, .int .i64 0] := (Blk.new w _ _).alloc _
  have hzW : ((w.alloc (.cells #[.int .i64 0, .int .i64 0, .int .i64 0, .int .i64 0, .int .i64 0, .int .i64 0] 89)).alloc (.cells #[.int .i64 x0.lo.x, .int .i64 x0.lo.y, .int .i64 x0.lo.z, .int .i64 x0.hi.x, .int .i64 x0.hi.y, .int .i64 x0.hi.z] 89)).heap.size = w.heap.size + 1 + 1 := by simp
  have hC1 := HS.out.below (hW.mono hB)
  have HR0 := Lib.hid hR0
  clear c0 c1 c2 c3 c4 c5 hR0
  generalize (w.alloc (.cells #[.int .i64 0, .int .i64 0, .int .i64 0, .int .i64 0, .int .i64 0, .int .i64 0] 89)).alloc (.cells #[.int .i64 x0.lo.x, .int .i64 x0.lo.y, .int .i64 x0.lo.z, .int .i64 x0.hi.x, .int .i64 x0.hi.y, .int .i64 x0.hi.z] 89) = W1 at *
  go_loopw [4] (fun i wr => ∃ k : Nat, 1 ≤ k ∧ k ≤ n ∧ i = .int .i64 k ∧ Blk wr (w.heap.size + 1) 89 #[.int .i64 (S.hull x0 (xs.take k)).lo.x, .int .i64 (S.hull x0 (xs.take k)).lo.y, .int .i64 (S.hull x0 (xs.take k)).lo.z, .int .i64 (S.hull x0 (xs.take k)).hi.x, .int .i64 (S.hull x0 (xs.take k)).hi.y, .int .i64 (S.hull x0 (xs.take k)).hi.z] ∧ Exc [w.heap.size + 1] W1 wr) (fun i _ => n - (intOf i).toNat)
  case atStart =>
    refine ⟨1, Nat.le_refl _, by omega, rfl, ?_, Exc.refl _ _⟩
    have e1 : S.hull x0 (xs.take 1) = x0 := by
      have hx : xs.take 1 = [x0] := by
        have h0 := H0.out
        cases xs with
        | nil => simp at h0
        | cons y l => simp at h0; simp [h0]
      rw [hx]; simp [S.hull, S.join]
    rw [e1]; exact hK0
  case round =>
    obtain ⟨k, hk1, hk, rfl, hK, hX⟩ := hrel
    by_cases hlt : k < n
    · have hkx : k < xs.length := by have := HN.out; omega
      have HT := Lib.hid (show S.hull x0 (xs.take (k + 1)) = S.joinK (S.hull x0 (xs.take k)) xs[k] 3 by rw [List.take_succ_eq_append_getElem hkx, hull_snoc, joinK_3])
      have HG := Lib.hid (List.getElem?_eq_getElem hkx)
      generalize S.hull x0 (xs.take k) = Hk at *
      generalize xs[k] = X at *
      have hki : (k : Int) < (n : Int) := by omega
      have hXo := hX
      go_wp2
      go_loopw [5] (fun i wr => ∃ m : Nat, m ≤ 3 ∧ i = .int .i64 m ∧ Blk wr (w.heap.size + 1) 89 #[.int .i64 (S.joinK Hk X m).lo.x, .int .i64 (S.joinK Hk X m).lo.y, .int .i64 (S.joinK Hk X m).lo.z, .int .i64 (S.joinK Hk X m).hi.x, .int .i64 (S.joinK Hk X m).hi.y, .int .i64 (S.joinK Hk X m).hi.z] ∧ Exc [w.heap.size + 1] W1 wr) (fun i _ => 3 - (intOf i).toNat)
      case atStart => exact ⟨0, by omega, rfl, hK, hXo⟩
      case round =>
        obtain ⟨m, hm3, rfl, hM, hY⟩ := hrel
        have HM := Lib.hid hM
        have hsz := hY.size
        by_cases hlm : m < 3
        · have hmi : (m : Int) < 3 := by omega
          have HJ := Lib.hid (show S.joinK Hk X (m + 1) = S.join1 (S.joinK Hk X m) X m from rfl)
          obtain ⟨c0, c1, c2, c3, c4, c5⟩ := (hC1.below (hY.below (by have := hW.size; omega) (by intro x hx; simp at hx; omega))).boxes HG.out
          have hbr : b < wr.heap.size := by omega
          generalize S.joinK Hk X m = O at *
          have hgr := hM.lt
          have k0 := hM.cell 0
          have k1 := hM.cell 1
          have k2 := hM.cell 2
          have k3 := hM.cell 3
          have k4 := hM.cell 4
          have k5 := hM.cell 5
          have fk0 := hM.frozen 0
          have fk1 := hM.frozen 1
          have fk2 := hM.frozen 2
          have fk3 := hM.frozen 3
          have fk4 := hM.frozen 4
          have fk5 := hM.frozen 5
          simp only [List.getElem?_toArray, List.getElem?_cons_zero, List.getElem?_cons_succ] at k0 k1 k2 k3 k4 k5
          have HCL := Lib.hid (fun w => coord_any O.lo m hlm w)
          have HCH := Lib.hid (fun w => coord_any O.hi m hlm w)
          have HXL := Lib.hid (fun w => coord_any X.lo m hlm w)
          have HXH := Lib.hid (fun w => coord_any X.hi m hlm w)
          have HWL := Lib.hid (fun n w => with_any O.lo m n hlm w)
          have HWH := Lib.hid (fun n w => with_any O.hi m n hlm w)
          unfold ptVal at HCL HCH HXL HXH HWL HWH
          go_wp2
          obtain ⟨P, hP⟩ : ∃ P, P = S.setc O.lo m (S.mn (S.co O.lo m) (S.co X.lo m)) := ⟨_, rfl⟩
          obtain ⟨Q, hQ⟩ : ∃ P, P = S.setc O.hi m (S.mx (S.co O.hi m) (S.co X.hi m)) := ⟨_, rfl⟩
          have HJ2 := Lib.hid (show S.join1 O X m = ⟨P, Q⟩ by rw [hP, hQ]; rfl)
          refine wp_region_grow_tail 17 (by kernel_rfl) (by kernel_rfl) ?_
          simp only [List.take_succ_cons, List.take_zero, List.drop_succ_cons, List.drop_zero]
          repeat (go_big_quiet_step ((first | (go_at_call 180; with_reducible exact grow_of (HCL.out _)) | (go_at_call 180; with_reducible exact grow_of (HXL.out _)) | (go_at_call 251; with_reducible exact grow_of (HWL.out _ _)))))
          all_goals (refine wpQuiet_nil ?_; intro wg hbwg; obtain ⟨hcwg, hfwg⟩ := bcell hbwg)
          go_wp2
          all_goals (
            first
              | (have e : S.setc O.lo m (S.co X.lo m) = P := (by rw [hP, S.mn, if_pos (by omega)])
                 rw [e])
              | (have e : S.setc O.lo m (S.co O.lo m) = P := (by rw [hP, S.mn, if_neg (by omega)])
                 rw [e])
            have hM1 : Blk (((wg.setCell ⟨w.heap.size + 1, 0, none⟩ (.int .i64 P.x)).setCell ⟨w.heap.size + 1, 1, none⟩ (.int .i64 P.y)).setCell ⟨w.heap.size + 1, 2, none⟩ (.int .i64 P.z)) (w.heap.size + 1) 89 #[.int .i64 P.x, .int .i64 P.y, .int .i64 P.z, .int .i64 O.hi.x, .int .i64 O.hi.y, .int .i64 O.hi.z] := by
              have h6 := (((HM.out.via hbwg).set 0 (.int .i64 P.x)).set 1 (.int .i64 P.y)).set 2 (.int .i64 P.z)
              simp only [List.setIfInBounds_toArray, List.set_cons_zero, List.set_cons_succ] at h6
              exact h6
            have hY1 : Exc [w.heap.size + 1] W1 (((wg.setCell ⟨w.heap.size + 1, 0, none⟩ (.int .i64 P.x)).setCell ⟨w.heap.size + 1, 1, none⟩ (.int .i64 P.y)).setCell ⟨w.heap.size + 1, 2, none⟩ (.int .i64 P.z)) := (((Exc.via hbwg hY).set (.inl (by simp)) _).set (.inl (by simp)) _).set (.inl (by simp)) _
            clear hcwg hfwg
            clear c0 c1 c2 c3 c4 c5 k0 k1 k2 k3 k4 k5 fk0 fk1 fk2 fk3 fk4 fk5 hgr hM hbr
            clear hbwg
            generalize (((wg.setCell ⟨w.heap.size + 1, 0, none⟩ (.int .i64 P.x)).setCell ⟨w.heap.size + 1, 1, none⟩ (.int .i64 P.y)).setCell ⟨w.heap.size + 1, 2, none⟩ (.int .i64 P.z)) = W2 at *
            obtain ⟨c0, c1, c2, c3, c4, c5⟩ := (hC1.below (hY1.below (by have := hW.size; omega) (by intro x hx; simp at hx; omega))).boxes HG.out
            have hsz1 := hY1.size
            have hbr : b < W2.heap.size := by omega
            have hgr := hM1.lt
            have k0 := hM1.cell 0
            have k1 := hM1.cell 1
            have k2 := hM1.cell 2
            have k3 := hM1.cell 3
            have k4 := hM1.cell 4
            have k5 := hM1.cell 5
            have fk0 := hM1.frozen 0
            have fk1 := hM1.frozen 1
            have fk2 := hM1.frozen 2
            have fk3 := hM1.frozen 3
            have fk4 := hM1.frozen 4
            have fk5 := hM1.frozen 5
            simp only [List.getElem?_toArray, List.getElem?_cons_zero, List.getElem?_cons_succ] at k0 k1 k2 k3 k4 k5
            have HM1 := Lib.hid hM1
            refine wp_region_grow_tail 17 (by kernel_rfl) (by kernel_rfl) ?_
            simp only [List.take_succ_cons, List.take_zero, List.drop_succ_cons, List.drop_zero]
            repeat (go_big_quiet_step ((first | (go_at_call 180; with_reducible exact grow_of (HCH.out _)) | (go_at_call 180; with_reducible exact grow_of (HXH.out _)) | (go_at_call 251; with_reducible exact grow_of (HWH.out _ _)))))
            all_goals (refine wpQuiet_nil ?_; intro wh hbwh; obtain ⟨hcwh, hfwh⟩ := bcell hbwh)
            go_wp2)
          all_goals (
            first
              | (have e : S.setc O.hi m (if S.co O.hi m < S.co X.hi m then S.co X.hi m else S.co O.hi m) = Q := hQ.symm
                 rw [e])
              | (have e : S.setc O.hi m (S.co X.hi m) = Q := (by rw [hQ, S.mx, if_pos (by omega)])
                 rw [e])
              | (have e : S.setc O.hi m (S.co O.hi m) = Q := (by rw [hQ, S.mx, if_neg (by omega)])
                 rw [e])
            have hM2 : Blk (((wh.setCell ⟨w.heap.size + 1, 3, none⟩ (.int .i64 Q.x)).setCell ⟨w.heap.size + 1, 4, none⟩ (.int .i64 Q.y)).setCell ⟨w.heap.size + 1, 5, none⟩ (.int .i64 Q.z)) (w.heap.size + 1) 89 #[.int .i64 P.x, .int .i64 P.y, .int .i64 P.z, .int .i64 Q.x, .int .i64 Q.y, .int .i64 Q.z] := by
              have h6 := (((HM1.out.via hbwh).set 3 (.int .i64 Q.x)).set 4 (.int .i64 Q.y)).set 5 (.int .i64 Q.z)
              simp only [List.setIfInBounds_toArray, List.set_cons_zero, List.set_cons_succ] at h6
              exact h6
            have hY2 : Exc [w.heap.size + 1] W1 (((wh.setCell ⟨w.heap.size + 1, 3, none⟩ (.int .i64 Q.x)).setCell ⟨w.heap.size + 1, 4, none⟩ (.int .i64 Q.y)).setCell ⟨w.heap.size + 1, 5, none⟩ (.int .i64 Q.z)) := (((Exc.via hbwh hY1).set (.inl (by simp)) _).set (.inl (by simp)) _).set (.inl (by simp)) _
            clear hcwh hfwh
            go_roundw
            case rel =>
              refine ⟨m + 1, by omega, by go_num, ?_, hY2⟩
              rw [HJ.out, HJ2.out]
              exact hM2
            case measure => simp [intOf]; omega)
        · have he : m = 3 := by omega
          subst he
          go_wp2
          go_roundw
          case rel =>
            refine ⟨k + 1, by omega, by omega, by go_num, ?_, hY⟩
            rw [HT.out]
            exact HM.out
          case measure => simp [intOf]; omega
    · have he : k = n := by omega
      subst he
      have ht : xs.take k = xs := List.take_of_length_le (by have := HN.out; omega)
      rw [ht] at hK
      have hsz := hX.size
      have hgr := hK.lt
      generalize hH : S.hull x0 xs = Hk at *
      have HH := Lib.hid hH
      clear hH
      have hRr := (hX.block w.heap.size (by omega) (by simp)).trans HR0.out
      have hRr : Blk wr w.heap.size 89 #[.int .i64 0, .int .i64 0, .int .i64 0, .int .i64 0, .int .i64 0, .int .i64 0] := hRr
      have k0 := hK.cell 0
      have f0 := hK.frozen 0
      have z0 := hRr.cell 0
      have y0 := hRr.frozen 0
      have k1 := hK.cell 1
      have f1 := hK.frozen 1
      have z1 := hRr.cell 1
      have y1 := hRr.frozen 1
      have k2 := hK.cell 2
      have f2 := hK.frozen 2
      have z2 := hRr.cell 2
      have y2 := hRr.frozen 2
      have k3 := hK.cell 3
      have f3 := hK.frozen 3
      have z3 := hRr.cell 3
      have y3 := hRr.frozen 3
      have k4 := hK.cell 4
      have f4 := hK.frozen 4
      have z4 := hRr.cell 4
      have y4 := hRr.frozen 4
      have k5 := hK.cell 5
      have f5 := hK.frozen 5
      have z5 := hRr.cell 5
      have y5 := hRr.frozen 5
      simp only [List.getElem?_toArray, List.getElem?_cons_zero, List.getElem?_cons_succ] at z0 z1 z2 z3 z4 z5 k0 k1 k2 k3 k4 k5
      have hrl := hRr.lt
      have hbel : Below w.heap.size w wr := hW.trans (hX.below (by omega) (by intro x hx; simp at hx; omega))
      clear hRr
      go_wp2
      exact bodyPost_ret (v := boxV Hk) (by simp [results, Tryz.results192, go_sem, *]) rfl ⟨by rw [HH.out], ((((((hbel.setCell (Nat.le_refl _) _).setCell (Nat.le_refl _) _).setCell (Nat.le_refl _) _).setCell (Nat.le_refl _) _).setCell (Nat.le_refl _) _).setCell (Nat.le_refl _) _)⟩
end Go.Proofs.YtffkmgjmlahfpaaGreat
set_option linter.unusedVariables false
set_option linter.unusedSimpArgs false
namespace Go.Proofs.YtffkmgjmlahfpaaGreat
open Go.RowKit
set_option maxHeartbeats 1000000 in
theorem rshull_yes (A : Option Addr) (n c : Nat) (A' : Option Addr) (n' c' : Nat) (xs hs : List Bx) (x0 : Bx) (B : Nat) (w : World) (hB : B ≤ w.heap.size) (hA : SolAt w B A n A' n' xs hs) (hn : n ≤ 1000000) (h0 : xs[0]? = some x0) :
    Calls Tryz.prog 130 #[solV A n c A' n' c'] w fun e w' => e = .returned (boxV (S.hull x0 xs)) ∧ Below w.heap.size w w' := by
  have HA := Lib.hid hA
  have HH := Lib.hid (fun (W : World) (hw : B ≤ W.heap.size) (hh : Cells W B A (xs.flatMap boxC)) => rbhull_yes A n c xs x0 B W HA.out.len hn hw hh h0)
  clear hA
  generalize S.hull x0 xs = X at *
  unfold solV
  go_enter Tryz.func130, Tryz.ntmps130
  go_wp2_with (go_at_call 192; (with_reducible refine (HH.out _ (size_via hB (by repeat (first | exact Below.refl _ _ | assumption | refine ba_alloc ?_ _ | refine ba_drew ?_ | refine ba_drewN ?_ _ | refine ba_via (by assumption) ?_ | (refine ba_set ?_ ?_ _; rotate_left; (first | omega | (simp; omega) | simp))))) (SolAt.at_ HA.out hB (by repeat (first | exact Below.refl _ _ | assumption | refine ba_alloc ?_ _ | refine ba_drew ?_ | refine ba_drewN ?_ _ | refine ba_via (by assumption) ?_ | (refine ba_set ?_ ?_ _; rotate_left; (first | omega | (simp; omega) | simp))))).cells).mono ?_); rintro e w2 ⟨rfl, hbw2⟩; obtain ⟨hcw2, hfw2⟩ := bcell hbw2; have hzw2_0 : w.heap.size < w2.heap.size := lt_via hbw2 (by first | omega | (simp; done) | (simp; omega)); have hzw2_1 : w.heap.size + 1 < w2.heap.size := lt_via hbw2 (by first | omega | (simp; done) | (simp; omega)))
  have hbel : Below w.heap.size w w2 := (by repeat (first | exact Below.refl _ _ | assumption | refine ba_alloc ?_ _ | refine ba_drew ?_ | refine ba_drewN ?_ _ | refine ba_via (by assumption) ?_ | (refine ba_set ?_ ?_ _; rotate_left; (first | omega | (simp; omega) | simp))))
  have hRs : Blk w2 (w.heap.size + 1) 89 #[.int .i64 0, .int .i64 0, .int .i64 0, .int .i64 0, .int .i64 0, .int .i64 0] := Blk.via (by simpa using Blk.new (w.alloc (.cells #[.slice A n c, .slice A' n' c'] 24)) 89 #[.int .i64 0, .int .i64 0, .int .i64 0, .int .i64 0, .int .i64 0, .int .i64 0]) hbw2
  have z0 := hRs.cell 0
  have z1 := hRs.cell 1
  have z2 := hRs.cell 2
  have z3 := hRs.cell 3
  have z4 := hRs.cell 4
  have z5 := hRs.cell 5
  simp only [List.getElem?_toArray, List.getElem?_cons_zero, List.getElem?_cons_succ] at z0 z1 z2 z3 z4 z5
  exact bodyPost_ret (v := boxV X) (by simp [results, Tryz.results130, go_sem, *]) rfl ⟨rfl, ((((((hbel.setCell (Nat.le_succ _) _).setCell (Nat.le_succ _) _).setCell (Nat.le_succ _) _).setCell (Nat.le_succ _) _).setCell (Nat.le_succ _) _).setCell (Nat.le_succ _) _)⟩
theorem rpoor_yes (m : Mem) (leg : Bx) (A : Option Addr) (n c : Nat) (A' : Option Addr) (n' c' : Nat) (B : Nat) (w : World) (hB : B ≤ w.heap.size) (hA : SolAt w B A n A' n' m.boxes m.holes) (h : S.solid m.boxes m.holes = true) (hl : S.boxOk leg = true) :
    Calls Tryz.prog 73 #[memV m A n c A' n' c', boxV leg] w fun e w' => e = .returned (.bool (S.poor m.boxes leg)) ∧ Below w.heap.size w w' := by
  have HA := Lib.hid hA
  have hn20 : n ≤ 20 := by
    have h1 := hA.len
    simp only [S.solid, Bool.and_eq_true, decide_eq_true_eq] at h
    omega
  obtain ⟨hok, hlen⟩ := solid_ok h
  have h0 : m.boxes[0]? = some (m.boxes.headD ⟨⟨0, 0, 0⟩, ⟨0, 0, 0⟩⟩) := by
    cases hb : m.boxes with
    | nil => rw [hb] at hlen; simp at hlen
    | cons x l => rfl
  have hz := boxOk_z hl
  have hin := hull_lo_in (m.boxes.headD ⟨⟨0, 0, 0⟩, ⟨0, 0, 0⟩⟩) m.boxes (by have := boxOk_z (boxes_ok hok _ (List.mem_of_getElem? h0)); omega) (fun b hb => by have := boxOk_z (boxes_ok hok b hb); omega)
  have HP := Lib.hid (show S.poor m.boxes leg = decide (250 < leg.lo.z - (S.hull (m.boxes.headD ⟨⟨0, 0, 0⟩, ⟨0, 0, 0⟩⟩) m.boxes).lo.z) from rfl)
  have HH := Lib.hid (fun (W : World) (hw : B ≤ W.heap.size) (hh : SolAt W B A n A' n' m.boxes m.holes) => rshull_yes A n c A' n' c' m.boxes m.holes _ B W hw hh (by omega) h0)
  clear hA
  generalize S.hull (m.boxes.headD ⟨⟨0, 0, 0⟩, ⟨0, 0, 0⟩⟩) m.boxes = X at *
  have e1 : IntKind.i64.wrap (leg.lo.z - X.lo.z) = leg.lo.z - X.lo.z := IntWalk.i64_in _ (by omega)
  unfold boxV at HH
  have f0 : ∀ W, (Instr.field 89 (.agg #[.int .i64 X.lo.x, .int .i64 X.lo.y, .int .i64 X.lo.z, .int .i64 X.hi.x, .int .i64 X.hi.y, .int .i64 X.hi.z]) 0).run Tryz.prog W = .ok (.agg #[.int .i64 X.lo.x, .int .i64 X.lo.y, .int .i64 X.lo.z]) W := fun _ => by kernel_rfl
  have f1 : ∀ W, (Instr.field 87 (.agg #[.int .i64 X.lo.x, .int .i64 X.lo.y, .int .i64 X.lo.z]) 2).run Tryz.prog W = .ok (.int .i64 X.lo.z) W := fun _ => by kernel_rfl
  unfold memV boxV
  go_enter Tryz.func73, Tryz.ntmps73
  go_wp2
  refine wp_region_grow (by kernel_rfl) (by kernel_rfl) ?_
  repeat (go_big_quiet_step ((go_at_call 130; exact grow_of (HH.out _ (size_via hB (ba_via (grow_below _ _) (by repeat (first | exact Below.refl _ _ | assumption | refine ba_alloc ?_ _ | refine ba_drew ?_ | refine ba_drewN ?_ _ | refine ba_via (by assumption) ?_ | (refine ba_set ?_ ?_ _; rotate_left; (first | omega | (simp; omega) | simp)))))) (SolAt.at_ HA.out hB (ba_via (grow_below _ _) (by repeat (first | exact Below.refl _ _ | assumption | refine ba_alloc ?_ _ | refine ba_drew ?_ | refine ba_drewN ?_ _ | refine ba_via (by assumption) ?_ | (refine ba_set ?_ ?_ _; rotate_left; (first | omega | (simp; omega) | simp))))))))))
  all_goals (refine wpQuiet_nil ?_; intro wg hbwg; obtain ⟨hcwg, hfwg⟩ := bcell hbwg; have hzwg_0 : w.heap.size < wg.heap.size := lt_via hbwg (by first | omega | (simp; done) | (simp; omega)); have hzwg_1 : w.heap.size + 1 < wg.heap.size := lt_via hbwg (by first | omega | (simp; done) | (simp; omega)))
  go_wp2
  go_ret
  exact ⟨ret_b HP.out.symm, (by repeat (first | exact Below.refl _ _ | assumption | refine ba_alloc ?_ _ | refine ba_drew ?_ | refine ba_drewN ?_ _ | refine ba_via (by assumption) ?_ | (refine ba_set ?_ ?_ _; rotate_left; (first | omega | (simp; omega) | simp))))⟩
end Go.Proofs.YtffkmgjmlahfpaaGreat
set_option linter.unusedVariables false
namespace Go.Proofs.YtffkmgjmlahfpaaGreat
end Go.Proofs.YtffkmgjmlahfpaaGreat
set_option linter.unusedVariables false
set_option linter.unusedSimpArgs false
namespace Go.Proofs.YtffkmgjmlahfpaaGreat
open Go.ChangeShapes Go.WideShapes Go.ChangeAt Go.RowKit
section
variable {H : Type} {enc : TypeId × Value → H} {w : World} {base : Nat} {sp : Nat → Bool} {hd : Bool}
theorem own : ownKnob Tryz.prog.godebug = none := by kernel_rfl
theorem cellsInt : Tryz.prog.cellsOf 3 = 1 := by kernel_rfl
theorem cellsRule : Tryz.prog.cellsOf 32 = 9 := by kernel_rfl
/-- A number that fits an int. -/
def I64 (n : Int) : Prop := -9223372036854775808 ≤ n ∧ n ≤ 9223372036854775807
theorem opn_int {fuel : Nat} {cs : List Value} {y : Option (DataW H × List MemPlace)} (h : DataW.trod enc Tryz.prog w base sp hd fuel 3 cs = y) (hy : y.isSome = true) : ∃ n, cs = [.int .i64 n] ∧ I64 n := by
  obtain ⟨z, rfl⟩ := Option.isSome_iff_exists.1 hy
  obtain ⟨n, rfl, _, hw⟩ := DataW.trod_int Tryz.underlying3 h
  exact ⟨n, rfl, bounds_i64 hw⟩
theorem len9 {α : Type} {l : List α} (h : l.length = 9) : ∃ a b c d e f g i j, l = [a, b, c, d, e, f, g, i, j] := by
  match l, h with
  | [a, b, c, d, e, f, g, i, j], _ => exact ⟨a, b, c, d, e, f, g, i, j, rfl⟩
structure RuleI (r : Rule) : Prop where
  num : I64 r.num
  den : I64 r.den
  pnum : I64 r.pnum
  pden : I64 r.pden
  bnum : I64 r.bnum
  bden : I64 r.bden
  lnum : I64 r.lnum
  lden : I64 r.lden
  least : I64 r.least
theorem open_rule {fuel : Nat} {cs : List Value} {x : DataW H × List MemPlace} (h : DataW.trod enc Tryz.prog w base sp hd fuel 32 cs = some x) :
    ∃ r : Rule, cs = (ruleV r).cells.toList ∧ RuleI r := by
  obtain ⟨xs, n, _, _, hl, hxl, hg⟩ := DataW.trod_struct Tryz.underlying32 h
  rw [cellsRule] at hl
  obtain ⟨c0, c1, c2, c3, c4, c5, c6, c7, c8, rfl⟩ := len9 hl
  have hs : ∀ i, i < 9 → xs[i]?.isSome = true := fun i hi => by
    have : xs.length = 9 := hxl
    simp [this, hi]
  obtain ⟨n0, e0, b0⟩ := opn_int (hg 0 _ rfl) (hs 0 (by decide))
  obtain ⟨n1, e1, b1⟩ := opn_int (hg 1 _ rfl) (hs 1 (by decide))
  obtain ⟨n2, e2, b2⟩ := opn_int (hg 2 _ rfl) (hs 2 (by decide))
  obtain ⟨n3, e3, b3⟩ := opn_int (hg 3 _ rfl) (hs 3 (by decide))
  obtain ⟨n4, e4, b4⟩ := opn_int (hg 4 _ rfl) (hs 4 (by decide))
  obtain ⟨n5, e5, b5⟩ := opn_int (hg 5 _ rfl) (hs 5 (by decide))
  obtain ⟨n6, e6, b6⟩ := opn_int (hg 6 _ rfl) (hs 6 (by decide))
  obtain ⟨n7, e7, b7⟩ := opn_int (hg 7 _ rfl) (hs 7 (by decide))
  obtain ⟨n8, e8, b8⟩ := opn_int (hg 8 _ rfl) (hs 8 (by decide))
  simp [cellsInt] at e0 e1 e2 e3 e4 e5 e6 e7 e8
  subst e0 e1 e2 e3 e4 e5 e6 e7 e8
  exact ⟨⟨n0, n1, n2, n3, n4, n5, n6, n7, n8⟩, rfl, ⟨b0, b1, b2, b3, b4, b5, b6, b7, b8⟩⟩
/-- An argument that is a rule. -/
theorem arg_rule {cs : Array Value} {d : DataW H} {p : List MemPlace} (h : DataW.Trod enc Tryz.prog w base sp hd 32 (.agg cs) d p) :
    ∃ r : Rule, cs = (ruleV r).cells ∧ RuleI r := by
  obtain ⟨fuel, hf⟩ := h
  obtain ⟨r, hr, hi⟩ := open_rule hf
  refine ⟨r, ?_, hi⟩
  have : cs.toList = (ruleV r).cells.toList := hr
  exact Array.toList_inj.1 this
end
end Go.Proofs.YtffkmgjmlahfpaaGreat
set_option linter.unusedVariables false
set_option linter.unusedSimpArgs false
namespace Go.Proofs.YtffkmgjmlahfpaaGreat
open Go.ChangeShapes Go.WideShapes Go.ChangeAt Go.RowKit
section
variable {H : Type} {enc : TypeId × Value → H} {w : World} {base : Nat} {sp : Nat → Bool} {hd : Bool}
theorem cellsStr : Tryz.prog.cellsOf 9 = 1 := by kernel_rfl
theorem cellsPt : Tryz.prog.cellsOf 87 = 3 := by kernel_rfl
theorem cellsBox : Tryz.prog.cellsOf 89 = 6 := by kernel_rfl
theorem cellsBoxes : Tryz.prog.cellsOf 22 = 1 := by kernel_rfl
theorem cellsSolid : Tryz.prog.cellsOf 24 = 2 := by kernel_rfl
theorem cellsMember : Tryz.prog.cellsOf 26 = 6 := by kernel_rfl
theorem opn_str {fuel : Nat} {cs : List Value} {y : Option (DataW H × List MemPlace)} (h : DataW.trod enc Tryz.prog w base sp hd fuel 9 cs = y) (hy : y.isSome = true) : ∃ s : ByteArray, cs = [.string s] ∧ s.size ≤ maxLen := by
  obtain ⟨z, rfl⟩ := Option.isSome_iff_exists.1 hy
  obtain ⟨s, rfl, _, hw⟩ := DataW.trod_string Tryz.underlying9 h
  exact ⟨s, rfl, hw⟩
theorem len3 {α : Type} {l : List α} (h : l.length = 3) : ∃ a b c, l = [a, b, c] := by
  match l, h with
  | [a, b, c], _ => exact ⟨a, b, c, rfl⟩
theorem len2 {α : Type} {l : List α} (h : l.length = 2) : ∃ a b, l = [a, b] := by
  match l, h with
  | [a, b], _ => exact ⟨a, b, rfl⟩
theorem len6 {α : Type} {l : List α} (h : l.length = 6) : ∃ a b c d e f, l = [a, b, c, d, e, f] := by
  match l, h with
  | [a, b, c, d, e, f], _ => exact ⟨a, b, c, d, e, f, rfl⟩
structure PtI (p : Pt) : Prop where
  x : I64 p.x
  y : I64 p.y
  z : I64 p.z
structure BxI (b : Bx) : Prop where
  lo : PtI b.lo
  hi : PtI b.hi
theorem opn_pt {fuel : Nat} {cs : List Value} {y : Option (DataW H × List MemPlace)} (h : DataW.trod enc Tryz.prog w base sp hd fuel 87 cs = y) (hy : y.isSome = true) :
    ∃ p : Pt, cs = [.int .i64 p.x, .int .i64 p.y, .int .i64 p.z] ∧ PtI p := by
  obtain ⟨z, rfl⟩ := Option.isSome_iff_exists.1 hy
  obtain ⟨xs, n, _, _, hl, hxl, hg⟩ := DataW.trod_struct Tryz.underlying87 h
  rw [cellsPt] at hl
  obtain ⟨c0, c1, c2, rfl⟩ := len3 hl
  have hs : ∀ i, i < 3 → xs[i]?.isSome = true := fun i hi => by
    have : xs.length = 3 := hxl
    simp [this, hi]
  obtain ⟨n0, e0, b0⟩ := opn_int (hg 0 _ rfl) (hs 0 (by decide))
  obtain ⟨n1, e1, b1⟩ := opn_int (hg 1 _ rfl) (hs 1 (by decide))
  obtain ⟨n2, e2, b2⟩ := opn_int (hg 2 _ rfl) (hs 2 (by decide))
  simp [cellsInt] at e0 e1 e2
  subst e0 e1 e2
  exact ⟨⟨n0, n1, n2⟩, rfl, ⟨b0, b1, b2⟩⟩
theorem opn_box {fuel : Nat} {cs : List Value} {y : Option (DataW H × List MemPlace)} (h : DataW.trod enc Tryz.prog w base sp hd fuel 89 cs = y) (hy : y.isSome = true) :
    ∃ b : Bx, cs = boxC b ∧ BxI b := by
  obtain ⟨z, rfl⟩ := Option.isSome_iff_exists.1 hy
  obtain ⟨xs, n, _, _, hl, hxl, hg⟩ := DataW.trod_struct Tryz.underlying89 h
  rw [cellsBox] at hl
  obtain ⟨c0, c1, c2, c3, c4, c5, rfl⟩ := len6 hl
  have hs : ∀ i, i < 2 → xs[i]?.isSome = true := fun i hi => by
    have : xs.length = 2 := hxl
    simp [this, hi]
  obtain ⟨p0, e0, b0⟩ := opn_pt (hg 0 _ rfl) (hs 0 (by decide))
  obtain ⟨p1, e1, b1⟩ := opn_pt (hg 1 _ rfl) (hs 1 (by decide))
  simp [cellsPt] at e0 e1
  obtain ⟨rfl, rfl, rfl⟩ := e0
  obtain ⟨rfl, rfl, rfl⟩ := e1
  exact ⟨⟨p0, p1⟩, rfl, ⟨b0, b1⟩⟩
/-- A slice of records, opened. -/
theorem opn_rows {α : Type} [Inhabited α] {t e : TypeId} (ht : Tryz.prog.underlying t = some (.slice e)) (enc' : α → List Value) (m : Nat) (hm0 : 0 < m) (hm : ∀ a, (enc' a).length = m) (ce : Tryz.prog.cellsOf e = m) (ok : α → Prop)
    (hop : ∀ {fuel : Nat} {cs : List Value} {y : Option (DataW H × List MemPlace)}, DataW.trod enc Tryz.prog w base sp hd fuel e cs = y → y.isSome = true → ∃ b : α, cs = enc' b ∧ ok b)
    {fuel : Nat} {cs : List Value} {y : Option (DataW H × List MemPlace)} (h : DataW.trod enc Tryz.prog w base sp hd fuel t cs = y) (hy : y.isSome = true) :
    ∃ (A : Option Addr) (n c : Nat) (xs : List α), cs = [.slice A n c] ∧ xs.length = n ∧ n ≤ c ∧ c ≤ maxLen ∧ Cells w w.heap.size A (xs.flatMap enc') ∧ ∀ x, x ∈ xs → ok x := by
  obtain ⟨z, rfl⟩ := Option.isSome_iff_exists.1 hy
  rcases DataW.trod_slice ht h with ⟨rfl, _⟩ | ⟨a, len, cap, elems, rest, n, _, rfl, _, _, hl, hc, hel, hx, _, _⟩
  · exact ⟨none, 0, 0, [], rfl, rfl, Nat.le_refl _, Nat.zero_le _, .inl rfl, by simp⟩
  · rw [ce] at hx
    have each : ∀ i, i < len → ∃ b : α, ok b ∧ ∀ j, j < m → w.cell? (a.add (i * m + j)) = (enc' b)[j]? := by
      intro i hi
      have h1 := hx i hi
      have h2 : elems[i]?.isSome = true := by simp [hel, hi]
      obtain ⟨q, hq⟩ := Option.isSome_iff_exists.1 h2
      rw [hq] at h1
      obtain ⟨cs', g1, g2⟩ := Option.bind_eq_some_iff.1 h1
      obtain ⟨_, _, hcell⟩ := World.cells?_some g1
      obtain ⟨b, rfl, hb⟩ := hop g2 rfl
      refine ⟨b, hb, fun j hj => ?_⟩
      rw [← Go.Deep.add_add]
      exact hcell j hj
    obtain ⟨q, hq⟩ := Go.Deep.choose_lt each
    refine ⟨some a, len, cap, (List.range len).map q, rfl, by simp, hl, hc, ?_, fun x hx => ?_⟩
    · by_cases h0 : len = 0
      · left; simp [h0]
      · right
        have h1 := (hq 0 (by omega)).2 0 hm0
        rw [List.getElem?_eq_getElem (by rw [hm]; exact hm0)] at h1
        have hsp : a.spot = none := by
          unfold World.cell? at h1
          split at h1
          · split at h1
            · cases h1
            · rename_i hn
              simpa [Addr.add] using hn
          · cases h1
        have hlt : a.block < w.heap.size := by
          unfold World.cell? at h1
          split at h1
          · rename_i hh
            have hh2 := (Array.getElem?_eq_some_iff.1 hh).1
            simpa [Addr.add] using hh2
          · cases h1
        obtain ⟨bb, o, s⟩ := a
        cases hsp
        refine ⟨bb, o, rfl, hlt, fun j v hv => ?_⟩
        have hjl := (List.getElem?_eq_some_iff.1 hv).1
        rw [flat_len enc' m hm] at hjl
        have hj : j < len * m := by simpa using hjl
        have hk : j / m < len := (Nat.div_lt_iff_lt_mul hm0).2 hj
        have hr : j % m < m := Nat.mod_lt _ hm0
        have hd := Nat.div_add_mod j m
        have hjm : j / m * m + j % m = j := by rw [Nat.mul_comm]; exact hd
        have h2 := (hq (j / m) hk).2 (j % m) hr
        have h3 := flat_get enc' m hm ((List.range len).map q) (j / m) (by simpa using hk) (j % m) hr
        rw [hjm] at h2 h3
        rw [h3] at hv
        have e : (Addr.add ⟨bb, o, none⟩ j) = ⟨bb, o + j, none⟩ := by unfold Addr.add; split <;> simp_all
        rw [e] at h2
        rw [h2, ← hv]
        simp
    · obtain ⟨i, hi, rfl⟩ := List.mem_map.1 hx
      exact (hq i (List.mem_range.1 hi)).1
instance : Inhabited Bx := ⟨⟨⟨0, 0, 0⟩, ⟨0, 0, 0⟩⟩⟩
theorem opn_boxes {fuel : Nat} {cs : List Value} {y : Option (DataW H × List MemPlace)} (h : DataW.trod enc Tryz.prog w base sp hd fuel 22 cs = y) (hy : y.isSome = true) :
    ∃ (A : Option Addr) (n c : Nat) (xs : List Bx), cs = [.slice A n c] ∧ xs.length = n ∧ n ≤ c ∧ c ≤ maxLen ∧ Cells w w.heap.size A (xs.flatMap boxC) ∧ ∀ x, x ∈ xs → BxI x :=
  opn_rows Tryz.underlying22 boxC 6 (by decide) boxC_len cellsBox BxI (fun h hy => opn_box h hy) h hy
theorem opn_solid {fuel : Nat} {cs : List Value} {y : Option (DataW H × List MemPlace)} (h : DataW.trod enc Tryz.prog w base sp hd fuel 24 cs = y) (hy : y.isSome = true) :
    ∃ (A : Option Addr) (n c : Nat) (A' : Option Addr) (n' c' : Nat) (xs hs : List Bx), cs = [.slice A n c, .slice A' n' c'] ∧ SolAt w w.heap.size A n A' n' xs hs ∧ n ≤ c ∧ c ≤ maxLen ∧ n' ≤ c' ∧ c' ≤ maxLen ∧ (∀ x, x ∈ xs → BxI x) ∧ ∀ x, x ∈ hs → BxI x := by
  obtain ⟨z, rfl⟩ := Option.isSome_iff_exists.1 hy
  obtain ⟨ys, n, _, _, hl, hxl, hg⟩ := DataW.trod_struct Tryz.underlying24 h
  rw [cellsSolid] at hl
  obtain ⟨c0, c1, rfl⟩ := len2 hl
  have hs : ∀ i, i < 2 → ys[i]?.isSome = true := fun i hi => by
    have : ys.length = 2 := hxl
    simp [this, hi]
  obtain ⟨A, n0, m0, xs, e0, h1, h2, h3, h4, h5⟩ := opn_boxes (hg 0 _ rfl) (hs 0 (by decide))
  obtain ⟨A', n1, m1, hs', e1, g1, g2, g3, g4, g5⟩ := opn_boxes (hg 1 _ rfl) (hs 1 (by decide))
  simp [cellsBoxes] at e0 e1
  subst e0 e1
  have hmx : maxLen ≤ 9223372036854775807 := by unfold maxLen; decide
  exact ⟨A, n0, m0, A', n1, m1, xs, hs', rfl, ⟨h1, by omega, g1, by omega, h4, g4⟩, h2, h3, g2, g3, h5, g5⟩
structure MemI (m : Mem) : Prop where
  name : m.name.size ≤ 9223372036854775807
  boxes : ∀ x, x ∈ m.boxes → BxI x
  holes : ∀ x, x ∈ m.holes → BxI x
  cover : I64 m.cover
  aggr : I64 m.aggr
  poker : I64 m.poker
theorem opn_member {fuel : Nat} {cs : List Value} {y : Option (DataW H × List MemPlace)} (h : DataW.trod enc Tryz.prog w base sp hd fuel 26 cs = y) (hy : y.isSome = true) :
    ∃ (m : Mem) (A : Option Addr) (n c : Nat) (A' : Option Addr) (n' c' : Nat), cs = (memV m A n c A' n' c').cells.toList ∧ SolAt w w.heap.size A n A' n' m.boxes m.holes ∧ n ≤ c ∧ c ≤ maxLen ∧ n' ≤ c' ∧ c' ≤ maxLen ∧ MemI m := by
  obtain ⟨z, rfl⟩ := Option.isSome_iff_exists.1 hy
  obtain ⟨ys, n, _, _, hl, hxl, hg⟩ := DataW.trod_struct Tryz.underlying26 h
  rw [cellsMember] at hl
  obtain ⟨c0, c1, c2, c3, c4, c5, rfl⟩ := len6 hl
  have hs : ∀ i, i < 5 → ys[i]?.isSome = true := fun i hi => by
    have : ys.length = 5 := hxl
    simp [this, hi]
  obtain ⟨s, e0, b0⟩ := opn_str (hg 0 _ rfl) (hs 0 (by decide))
  obtain ⟨A, n0, m0, A', n1, m1, xs, hs', e1, h1, h2, h3, h4, h5, h6, h7⟩ := opn_solid (hg 1 _ rfl) (hs 1 (by decide))
  obtain ⟨k2, e2, b2⟩ := opn_int (hg 2 _ rfl) (hs 2 (by decide))
  obtain ⟨k3, e3, b3⟩ := opn_int (hg 3 _ rfl) (hs 3 (by decide))
  obtain ⟨k4, e4, b4⟩ := opn_int (hg 4 _ rfl) (hs 4 (by decide))
  simp [cellsStr, cellsSolid, cellsInt] at e0 e1 e2 e3 e4
  obtain ⟨rfl, rfl⟩ := e1
  subst e0 e2 e3 e4
  have hmx : maxLen ≤ 9223372036854775807 := by unfold maxLen; decide
  exact ⟨⟨s, xs, hs', k2, k3, k4⟩, A, n0, m0, A', n1, m1, rfl, h1, h2, h3, h4, h5, ⟨by show s.size ≤ _; omega, h6, h7, b2, b3, b4⟩⟩
/-- An argument that is a member. -/
theorem arg_member {cs : Array Value} {d : DataW H} {p : List MemPlace} (h : DataW.Trod enc Tryz.prog w base sp hd 26 (.agg cs) d p) :
    ∃ (m : Mem) (A : Option Addr) (n c : Nat) (A' : Option Addr) (n' c' : Nat), cs = (memV m A n c A' n' c').cells ∧ SolAt w w.heap.size A n A' n' m.boxes m.holes ∧ n ≤ c ∧ c ≤ maxLen ∧ n' ≤ c' ∧ c' ≤ maxLen ∧ MemI m := by
  obtain ⟨fuel, hf⟩ := h
  obtain ⟨m, A, n, c, A', n', c', hr, hi⟩ := opn_member hf rfl
  refine ⟨m, A, n, c, A', n', c', ?_, hi⟩
  have : cs.toList = (memV m A n c A' n' c').cells.toList := hr
  exact Array.toList_inj.1 this
/-- An argument that is a box. -/
theorem arg_box {cs : Array Value} {d : DataW H} {p : List MemPlace} (h : DataW.Trod enc Tryz.prog w base sp hd 89 (.agg cs) d p) :
    ∃ b : Bx, cs = (boxV b).cells ∧ BxI b := by
  obtain ⟨fuel, hf⟩ := h
  obtain ⟨b, hr, hi⟩ := opn_box hf rfl
  refine ⟨b, ?_, hi⟩
  have : cs.toList = (boxV b).cells.toList := hr
  exact Array.toList_inj.1 this
end
end Go.Proofs.YtffkmgjmlahfpaaGreat
set_option linter.unusedVariables false
set_option linter.unusedSimpArgs false
namespace Go.Proofs.YtffkmgjmlahfpaaGreat
open Go.ChangeShapes Go.WideShapes Go.ChangeAt Go.RowKit
section
variable {H : Type} {enc : TypeId × Value → H} {w : World} {base : Nat} {sp : Nat → Bool} {hd : Bool}
theorem cellsInts : Tryz.prog.cellsOf 58 = 1 := by kernel_rfl
theorem cellsBar : Tryz.prog.cellsOf 158 = 5 := by kernel_rfl
/-- A slice of integers, opened. -/
theorem opn_ints {fuel : Nat} {cs : List Value} {y : Option (DataW H × List MemPlace)} (h : DataW.trod enc Tryz.prog w base sp hd fuel 58 cs = y) (hy : y.isSome = true) :
    ∃ (A : Option Addr) (n c : Nat) (xs : List Int), cs = [.slice A n c] ∧ xs.length = n ∧ n ≤ c ∧ c ≤ maxLen ∧ Cells w w.heap.size A (i64s xs) ∧ ∀ x, x ∈ xs → I64 x := by
  obtain ⟨z, rfl⟩ := Option.isSome_iff_exists.1 hy
  rcases open_ints Tryz.underlying58 Tryz.underlying3 cellsInt h with ⟨rfl, _⟩ | ⟨a, len, cap, zs, rfl, _, hl, hm, hz, _, hc, hw⟩
  · exact ⟨none, 0, 0, [], rfl, rfl, Nat.le_refl _, Nat.zero_le _, .inl rfl, by simp⟩
  · have hlz : len ≤ zs.length := by rw [hz]; split <;> omega
    refine ⟨some a, len, cap, zs.take len, rfl, by simp; omega, hl, hm, ?_, fun x hx => bounds_i64 (hw x (List.mem_of_mem_take hx))⟩
    by_cases h0 : len = 0
    · left; simp [h0]
    · right
      have h1 := hc 0 (by omega)
      have hsp : a.spot = none := by
        unfold World.cell? at h1
        split at h1
        · split at h1
          · cases h1
          · rename_i hn
            simpa [Addr.add] using hn
        · cases h1
      have hlt : a.block < w.heap.size := by
        unfold World.cell? at h1
        split at h1
        · rename_i hh
          exact (Array.getElem?_eq_some_iff.1 hh).1
        · cases h1
      obtain ⟨bb, o, s⟩ := a
      cases hsp
      refine ⟨bb, o, rfl, hlt, fun j v hv => ?_⟩
      have hj : j < len := by
        obtain ⟨hj, _⟩ := List.getElem?_eq_some_iff.1 hv
        simp at hj
        omega
      have h2 := hc j (by omega)
      have h3 : (i64s (zs.take len))[j]? = some (.int .i64 (zs.getD j 0)) := by
        simp [hj, List.getElem?_eq_getElem (show j < zs.length by omega)]
      rw [h3] at hv
      injection hv with hv
      subst hv
      have e : (Addr.add ⟨bb, o, none⟩ j) = ⟨bb, o + j, none⟩ := by unfold Addr.add; split <;> simp_all
      rw [e] at h2
      exact h2
theorem len5 {α : Type} {l : List α} (h : l.length = 5) : ∃ a b c d e, l = [a, b, c, d, e] := by
  match l, h with
  | [a, b, c, d, e], _ => exact ⟨a, b, c, d, e, rfl⟩
structure BarI (b : Bar) : Prop where
  size : I64 b.size
  count : I64 b.count
  code : I64 b.code
  dims : ∀ x, x ∈ b.dims → I64 x
theorem open_bar {fuel : Nat} {cs : List Value} {x : DataW H × List MemPlace} (h : DataW.trod enc Tryz.prog w base sp hd fuel 158 cs = some x) :
    ∃ (b : Bar) (A : Option Addr) (n c : Nat), cs = (barV b A n c).cells.toList ∧ BarAt w w.heap.size A n b ∧ n ≤ c ∧ c ≤ maxLen ∧ BarI b := by
  obtain ⟨xs, n, _, _, hl, hxl, hg⟩ := DataW.trod_struct Tryz.underlying158 h
  rw [cellsBar] at hl
  obtain ⟨c0, c1, c2, c3, c4, rfl⟩ := len5 hl
  have hs : ∀ i, i < 5 → xs[i]?.isSome = true := fun i hi => by
    have : xs.length = 5 := hxl
    simp [this, hi]
  obtain ⟨n0, e0, b0⟩ := opn_str (hg 0 _ rfl) (hs 0 (by decide))
  obtain ⟨n1, e1, b1⟩ := opn_int (hg 1 _ rfl) (hs 1 (by decide))
  obtain ⟨n2, e2, b2⟩ := opn_int (hg 2 _ rfl) (hs 2 (by decide))
  obtain ⟨n3, e3, b3⟩ := opn_int (hg 3 _ rfl) (hs 3 (by decide))
  obtain ⟨A, m, c, zs, e4, hz, hmc, hcm, hcl, hzi⟩ := opn_ints (hg 4 _ rfl) (hs 4 (by decide))
  simp [cellsInt, cellsStr, cellsInts] at e0 e1 e2 e3 e4
  subst e0 e1 e2 e3 e4
  have hmx : maxLen ≤ 9223372036854775807 := by unfold maxLen; decide
  exact ⟨⟨n0, n1, n2, n3, zs⟩, A, m, c, rfl, ⟨hz, by omega, by show n0.size ≤ _; omega, hcl⟩, hmc, hcm, ⟨b1, b2, b3, hzi⟩⟩
/-- An argument that is a bar. -/
theorem arg_bar {cs : Array Value} {d : DataW H} {p : List MemPlace} (h : DataW.Trod enc Tryz.prog w base sp hd 158 (.agg cs) d p) :
    ∃ (b : Bar) (A : Option Addr) (n c : Nat), cs = (barV b A n c).cells ∧ BarAt w w.heap.size A n b ∧ n ≤ c ∧ c ≤ maxLen ∧ BarI b := by
  obtain ⟨fuel, hf⟩ := h
  obtain ⟨b, A, n, c, hr, hi⟩ := open_bar hf
  refine ⟨b, A, n, c, ?_, hi⟩
  have : cs.toList = (barV b A n c).cells.toList := hr
  exact Array.toList_inj.1 this
/-- An argument that is a slice of boxes. -/
theorem arg_boxes {A : Option Addr} {n c : Nat} {d : DataW H} {p : List MemPlace} (h : DataW.Trod enc Tryz.prog w base sp hd 22 (.slice A n c) d p) :
    ∃ (xs : List Bx), xs.length = n ∧ n ≤ c ∧ c ≤ maxLen ∧ Cells w w.heap.size A (xs.flatMap boxC) ∧ ∀ x, x ∈ xs → BxI x := by
  obtain ⟨fuel, hf⟩ := h
  obtain ⟨A', n', c', xs, he, h1, h2, h3, h4, h5⟩ := opn_boxes hf rfl
  have he' : [Value.slice A n c] = [Value.slice A' n' c'] := he
  injection he' with he' _
  injection he' with e1 e2 e3
  subst e1 e2 e3
  exact ⟨xs, h1, h2, h3, h4, h5⟩
end
end Go.Proofs.YtffkmgjmlahfpaaGreat
set_option linter.unusedVariables false
set_option linter.unusedSimpArgs false
namespace Go.Proofs.YtffkmgjmlahfpaaGreat
open Go.ChangeShapes Go.WideShapes Go.ChangeAt Go.RowKit
section
variable {H : Type} {enc : TypeId × Value → H} {w : World} {base : Nat} {sp : Nat → Bool} {hd : Bool}
theorem cellsSpan : Tryz.prog.cellsOf 45 = 2 := by kernel_rfl
instance : Inhabited Sp := ⟨⟨0, 0⟩⟩
structure SpI (s : Sp) : Prop where
  lo : I64 s.lo
  hi : I64 s.hi
theorem opn_span {fuel : Nat} {cs : List Value} {y : Option (DataW H × List MemPlace)} (h : DataW.trod enc Tryz.prog w base sp hd fuel 45 cs = y) (hy : y.isSome = true) :
    ∃ p : Sp, cs = spC p ∧ SpI p := by
  obtain ⟨z, rfl⟩ := Option.isSome_iff_exists.1 hy
  obtain ⟨xs, n, _, _, hl, hxl, hg⟩ := DataW.trod_struct Tryz.underlying45 h
  rw [cellsSpan] at hl
  obtain ⟨c0, c1, rfl⟩ := len2 hl
  have hs : ∀ i, i < 2 → xs[i]?.isSome = true := fun i hi => by
    have : xs.length = 2 := hxl
    simp [this, hi]
  obtain ⟨n0, e0, b0⟩ := opn_int (hg 0 _ rfl) (hs 0 (by decide))
  obtain ⟨n1, e1, b1⟩ := opn_int (hg 1 _ rfl) (hs 1 (by decide))
  simp [cellsInt] at e0 e1
  subst e0 e1
  exact ⟨⟨n0, n1⟩, rfl, ⟨b0, b1⟩⟩
theorem opn_spans {fuel : Nat} {cs : List Value} {y : Option (DataW H × List MemPlace)} (h : DataW.trod enc Tryz.prog w base sp hd fuel 113 cs = y) (hy : y.isSome = true) :
    ∃ (A : Option Addr) (n c : Nat) (xs : List Sp), cs = [.slice A n c] ∧ xs.length = n ∧ n ≤ c ∧ c ≤ maxLen ∧ Cells w w.heap.size A (xs.flatMap spC) ∧ ∀ x, x ∈ xs → SpI x :=
  opn_rows Tryz.underlying113 spC 2 (by decide) spC_len cellsSpan SpI (fun h hy => opn_span h hy) h hy
/-- An argument that is a slice of spans. -/
theorem arg_spans {A : Option Addr} {n c : Nat} {d : DataW H} {p : List MemPlace} (h : DataW.Trod enc Tryz.prog w base sp hd 113 (.slice A n c) d p) :
    ∃ (xs : List Sp), xs.length = n ∧ n ≤ c ∧ c ≤ maxLen ∧ Cells w w.heap.size A (xs.flatMap spC) ∧ ∀ x, x ∈ xs → SpI x := by
  obtain ⟨fuel, hf⟩ := h
  obtain ⟨A', n', c', xs, he, h1, h2, h3, h4, h5⟩ := opn_spans hf rfl
  have he' : [Value.slice A n c] = [Value.slice A' n' c'] := he
  injection he' with he' _
  injection he' with e1 e2 e3
  subst e1 e2 e3
  exact ⟨xs, h1, h2, h3, h4, h5⟩
end
end Go.Proofs.YtffkmgjmlahfpaaGreat
set_option linter.unusedVariables false
set_option linter.unusedSimpArgs false
namespace Go.Proofs.YtffkmgjmlahfpaaGreat
open Go.ChangeShapes Go.WideShapes Go.ChangeAt Go.RowKit
section
variable {H : Type} {enc : TypeId × Value → H} {w : World} {base : Nat} {sp : Nat → Bool} {hd : Bool}
theorem cellsBars : Tryz.prog.cellsOf 27 = 1 := by kernel_rfl
theorem cellsRuns : Tryz.prog.cellsOf 28 = 1 := by kernel_rfl
theorem cellsJoints : Tryz.prog.cellsOf 29 = 1 := by kernel_rfl
theorem cellsDems : Tryz.prog.cellsOf 30 = 1 := by kernel_rfl
theorem cellsSteps : Tryz.prog.cellsOf 70 = 1 := by kernel_rfl
theorem cellsRun : Tryz.prog.cellsOf 183 = 10 := by kernel_rfl
theorem cellsTurn : Tryz.prog.cellsOf 181 = 2 := by kernel_rfl
theorem cellsJoint : Tryz.prog.cellsOf 124 = 2 := by kernel_rfl
theorem cellsStep : Tryz.prog.cellsOf 81 = 2 := by kernel_rfl
theorem cellsDem : Tryz.prog.cellsOf 103 = 8 := by kernel_rfl
theorem cellsDetail : Tryz.prog.cellsOf 34 = 19 := by kernel_rfl
instance : Inhabited BarR := ⟨⟨⟨⟨#[]⟩, 0, 0, 0, []⟩, none, 0, 0⟩⟩
instance : Inhabited Rn := ⟨⟨⟨#[]⟩, 0, 0, ⟨0, 0, 0⟩, ⟨0, 0, 0⟩, 0⟩⟩
instance : Inhabited Jn := ⟨⟨0, 0⟩⟩
instance : Inhabited Stp := ⟨⟨0, 0⟩⟩
instance : Inhabited Dm := ⟨⟨⟨#[]⟩, ⟨⟨0, 0, 0⟩, ⟨0, 0, 0⟩⟩, [], none, 0, 0⟩⟩
structure RnI (r : Rn) : Prop where
  tx : I64 r.tx
  ty : I64 r.ty
  at_ : PtI r.at_
  step : PtI r.step
  count : I64 r.count
structure JnI (j : Jn) : Prop where
  first : I64 j.first
  second : I64 j.second
structure StpI (s : Stp) : Prop where
  fro : I64 s.fro
  val : I64 s.val
theorem opn_bar {fuel : Nat} {cs : List Value} {y : Option (DataW H × List MemPlace)} (h : DataW.trod enc Tryz.prog w base sp hd fuel 158 cs = y) (hy : y.isSome = true) :
    ∃ r : BarR, cs = barC r ∧ (BarAt w w.heap.size r.A r.n r.b ∧ r.n ≤ r.c ∧ BarI r.b) := by
  obtain ⟨z, rfl⟩ := Option.isSome_iff_exists.1 hy
  obtain ⟨b, A, n, c, e, h1, h2, _, h3⟩ := open_bar h
  exact ⟨⟨b, A, n, c⟩, e, h1, h2, h3⟩
theorem opn_turn {fuel : Nat} {cs : List Value} {y : Option (DataW H × List MemPlace)} (h : DataW.trod enc Tryz.prog w base sp hd fuel 181 cs = y) (hy : y.isSome = true) :
    ∃ a b : Int, cs = [.int .i64 a, .int .i64 b] ∧ I64 a ∧ I64 b := by
  obtain ⟨z, rfl⟩ := Option.isSome_iff_exists.1 hy
  obtain ⟨xs, n, _, _, hl, hxl, hg⟩ := DataW.trod_struct Tryz.underlying181 h
  rw [cellsTurn] at hl
  obtain ⟨c0, c1, rfl⟩ := len2 hl
  have hs : ∀ i, i < 2 → xs[i]?.isSome = true := fun i hi => by
    have : xs.length = 2 := hxl
    simp [this, hi]
  obtain ⟨n0, e0, b0⟩ := opn_int (hg 0 _ rfl) (hs 0 (by decide))
  obtain ⟨n1, e1, b1⟩ := opn_int (hg 1 _ rfl) (hs 1 (by decide))
  simp [cellsInt] at e0 e1
  subst e0 e1
  exact ⟨n0, n1, rfl, b0, b1⟩
theorem opn_joint {fuel : Nat} {cs : List Value} {y : Option (DataW H × List MemPlace)} (h : DataW.trod enc Tryz.prog w base sp hd fuel 124 cs = y) (hy : y.isSome = true) :
    ∃ j : Jn, cs = jnC j ∧ JnI j := by
  obtain ⟨z, rfl⟩ := Option.isSome_iff_exists.1 hy
  obtain ⟨xs, n, _, _, hl, hxl, hg⟩ := DataW.trod_struct Tryz.underlying124 h
  rw [cellsJoint] at hl
  obtain ⟨c0, c1, rfl⟩ := len2 hl
  have hs : ∀ i, i < 2 → xs[i]?.isSome = true := fun i hi => by
    have : xs.length = 2 := hxl
    simp [this, hi]
  obtain ⟨n0, e0, b0⟩ := opn_int (hg 0 _ rfl) (hs 0 (by decide))
  obtain ⟨n1, e1, b1⟩ := opn_int (hg 1 _ rfl) (hs 1 (by decide))
  simp [cellsInt] at e0 e1
  subst e0 e1
  exact ⟨⟨n0, n1⟩, rfl, ⟨b0, b1⟩⟩
theorem opn_step {fuel : Nat} {cs : List Value} {y : Option (DataW H × List MemPlace)} (h : DataW.trod enc Tryz.prog w base sp hd fuel 81 cs = y) (hy : y.isSome = true) :
    ∃ s : Stp, cs = stC s ∧ StpI s := by
  obtain ⟨z, rfl⟩ := Option.isSome_iff_exists.1 hy
  obtain ⟨xs, n, _, _, hl, hxl, hg⟩ := DataW.trod_struct Tryz.underlying81 h
  rw [cellsStep] at hl
  obtain ⟨c0, c1, rfl⟩ := len2 hl
  have hs : ∀ i, i < 2 → xs[i]?.isSome = true := fun i hi => by
    have : xs.length = 2 := hxl
    simp [this, hi]
  obtain ⟨n0, e0, b0⟩ := opn_int (hg 0 _ rfl) (hs 0 (by decide))
  obtain ⟨n1, e1, b1⟩ := opn_int (hg 1 _ rfl) (hs 1 (by decide))
  simp [cellsInt] at e0 e1
  subst e0 e1
  exact ⟨⟨n0, n1⟩, rfl, ⟨b0, b1⟩⟩
theorem len10 {α : Type} {l : List α} (h : l.length = 10) : ∃ a b c d e f g i j k, l = [a, b, c, d, e, f, g, i, j, k] := by
  match l, h with
  | [a, b, c, d, e, f, g, i, j, k], _ => exact ⟨a, b, c, d, e, f, g, i, j, k, rfl⟩
theorem len8 {α : Type} {l : List α} (h : l.length = 8) : ∃ a b c d e f g i, l = [a, b, c, d, e, f, g, i] := by
  match l, h with
  | [a, b, c, d, e, f, g, i], _ => exact ⟨a, b, c, d, e, f, g, i, rfl⟩
theorem len19 {α : Type} {l : List α} (h : l.length = 19) : ∃ a0 a1 a2 a3 a4 a5 a6 a7 a8 a9 b0 b1 b2 b3 b4 b5 b6 b7 b8, l = [a0, a1, a2, a3, a4, a5, a6, a7, a8, a9, b0, b1, b2, b3, b4, b5, b6, b7, b8] := by
  match l, h with
  | [a0, a1, a2, a3, a4, a5, a6, a7, a8, a9, b0, b1, b2, b3, b4, b5, b6, b7, b8], _ => exact ⟨a0, a1, a2, a3, a4, a5, a6, a7, a8, a9, b0, b1, b2, b3, b4, b5, b6, b7, b8, rfl⟩
theorem opn_run {fuel : Nat} {cs : List Value} {y : Option (DataW H × List MemPlace)} (h : DataW.trod enc Tryz.prog w base sp hd fuel 183 cs = y) (hy : y.isSome = true) :
    ∃ r : Rn, cs = rnC r ∧ (r.mark.size ≤ 9223372036854775807 ∧ RnI r) := by
  obtain ⟨z, rfl⟩ := Option.isSome_iff_exists.1 hy
  obtain ⟨xs, n, _, _, hl, hxl, hg⟩ := DataW.trod_struct Tryz.underlying183 h
  rw [cellsRun] at hl
  obtain ⟨c0, c1, c2, c3, c4, c5, c6, c7, c8, c9, rfl⟩ := len10 hl
  have hs : ∀ i, i < 5 → xs[i]?.isSome = true := fun i hi => by
    have : xs.length = 5 := hxl
    simp [this, hi]
  obtain ⟨m, e0, b0⟩ := opn_str (hg 0 _ rfl) (hs 0 (by decide))
  obtain ⟨t0, t1, e1, b1, b1'⟩ := opn_turn (hg 1 _ rfl) (hs 1 (by decide))
  obtain ⟨p, e2, b2⟩ := opn_pt (hg 2 _ rfl) (hs 2 (by decide))
  obtain ⟨q, e3, b3⟩ := opn_pt (hg 3 _ rfl) (hs 3 (by decide))
  obtain ⟨k, e4, b4⟩ := opn_int (hg 4 _ rfl) (hs 4 (by decide))
  simp [cellsStr, cellsTurn, cellsPt, cellsInt] at e0 e1 e2 e3 e4
  obtain ⟨rfl, rfl⟩ := e1
  obtain ⟨rfl, rfl, rfl⟩ := e2
  obtain ⟨rfl, rfl, rfl⟩ := e3
  subst e0 e4
  have hmx : maxLen ≤ 9223372036854775807 := by unfold maxLen; decide
  exact ⟨⟨m, t0, t1, p, q, k⟩, rfl, by show m.size ≤ _; omega, ⟨b1, b1', b2, b3, b4⟩⟩
theorem opn_steps {fuel : Nat} {cs : List Value} {y : Option (DataW H × List MemPlace)} (h : DataW.trod enc Tryz.prog w base sp hd fuel 70 cs = y) (hy : y.isSome = true) :
    ∃ (A : Option Addr) (n c : Nat) (xs : List Stp), cs = [.slice A n c] ∧ xs.length = n ∧ n ≤ c ∧ c ≤ maxLen ∧ Cells w w.heap.size A (xs.flatMap stC) ∧ ∀ x, x ∈ xs → StpI x :=
  opn_rows Tryz.underlying70 stC 2 (by decide) stC_len cellsStep StpI (fun h hy => opn_step h hy) h hy
theorem opn_dem {fuel : Nat} {cs : List Value} {y : Option (DataW H × List MemPlace)} (h : DataW.trod enc Tryz.prog w base sp hd fuel 103 cs = y) (hy : y.isSome = true) :
    ∃ d : Dm, cs = dmC d ∧ (StepsAt w w.heap.size d.A d.n d.st ∧ d.n ≤ d.c ∧ d.name.size ≤ 9223372036854775807 ∧ BxI d.zone ∧ ∀ s, s ∈ d.st → StpI s) := by
  obtain ⟨z, rfl⟩ := Option.isSome_iff_exists.1 hy
  obtain ⟨xs, n, _, _, hl, hxl, hg⟩ := DataW.trod_struct Tryz.underlying103 h
  rw [cellsDem] at hl
  obtain ⟨c0, c1, c2, c3, c4, c5, c6, c7, rfl⟩ := len8 hl
  have hs : ∀ i, i < 3 → xs[i]?.isSome = true := fun i hi => by
    have : xs.length = 3 := hxl
    simp [this, hi]
  obtain ⟨m, e0, b0⟩ := opn_str (hg 0 _ rfl) (hs 0 (by decide))
  obtain ⟨z, e1, b1⟩ := opn_box (hg 1 _ rfl) (hs 1 (by decide))
  obtain ⟨A, k, c, st, e2, h1, h2, h3, h4, h5⟩ := opn_steps (hg 2 _ rfl) (hs 2 (by decide))
  simp [cellsStr, cellsBox, cellsSteps] at e0 e1 e2
  obtain ⟨rfl, rfl, rfl, rfl, rfl, rfl⟩ := e1
  subst e0 e2
  have hmx : maxLen ≤ 9223372036854775807 := by unfold maxLen; decide
  exact ⟨⟨m, z, st, A, k, c⟩, rfl, ⟨h1, by show k ≤ _; omega, h4⟩, h2, by show m.size ≤ _; omega, b1, h5⟩
theorem opn_bars {fuel : Nat} {cs : List Value} {y : Option (DataW H × List MemPlace)} (h : DataW.trod enc Tryz.prog w base sp hd fuel 27 cs = y) (hy : y.isSome = true) :
    ∃ (A : Option Addr) (n c : Nat) (xs : List BarR), cs = [.slice A n c] ∧ xs.length = n ∧ n ≤ c ∧ c ≤ maxLen ∧ Cells w w.heap.size A (xs.flatMap barC) ∧ ∀ r, r ∈ xs → (BarAt w w.heap.size r.A r.n r.b ∧ r.n ≤ r.c ∧ BarI r.b) :=
  opn_rows Tryz.underlying27 barC 5 (by decide) barC_len cellsBar _ (fun h hy => opn_bar h hy) h hy
theorem opn_runs {fuel : Nat} {cs : List Value} {y : Option (DataW H × List MemPlace)} (h : DataW.trod enc Tryz.prog w base sp hd fuel 28 cs = y) (hy : y.isSome = true) :
    ∃ (A : Option Addr) (n c : Nat) (xs : List Rn), cs = [.slice A n c] ∧ xs.length = n ∧ n ≤ c ∧ c ≤ maxLen ∧ Cells w w.heap.size A (xs.flatMap rnC) ∧ ∀ r, r ∈ xs → (r.mark.size ≤ 9223372036854775807 ∧ RnI r) :=
  opn_rows Tryz.underlying28 rnC 10 (by decide) rnC_len cellsRun _ (fun h hy => opn_run h hy) h hy
theorem opn_joints {fuel : Nat} {cs : List Value} {y : Option (DataW H × List MemPlace)} (h : DataW.trod enc Tryz.prog w base sp hd fuel 29 cs = y) (hy : y.isSome = true) :
    ∃ (A : Option Addr) (n c : Nat) (xs : List Jn), cs = [.slice A n c] ∧ xs.length = n ∧ n ≤ c ∧ c ≤ maxLen ∧ Cells w w.heap.size A (xs.flatMap jnC) ∧ ∀ j, j ∈ xs → JnI j :=
  opn_rows Tryz.underlying29 jnC 2 (by decide) jnC_len cellsJoint JnI (fun h hy => opn_joint h hy) h hy
theorem opn_dems {fuel : Nat} {cs : List Value} {y : Option (DataW H × List MemPlace)} (h : DataW.trod enc Tryz.prog w base sp hd fuel 30 cs = y) (hy : y.isSome = true) :
    ∃ (A : Option Addr) (n c : Nat) (xs : List Dm), cs = [.slice A n c] ∧ xs.length = n ∧ n ≤ c ∧ c ≤ maxLen ∧ Cells w w.heap.size A (xs.flatMap dmC) ∧ ∀ d, d ∈ xs → (StepsAt w w.heap.size d.A d.n d.st ∧ d.n ≤ d.c ∧ d.name.size ≤ 9223372036854775807 ∧ BxI d.zone ∧ ∀ s, s ∈ d.st → StpI s) :=
  opn_rows Tryz.underlying30 dmC 8 (by decide) dmC_len cellsDem _ (fun h hy => opn_dem h hy) h hy
/-- What a detail that was handed in holds besides. -/
structure DtI (x : Dt) (ds : List Dm) : Prop where
  mem : MemI x.m
  bars : ∀ r, r ∈ x.bs → r.n ≤ r.c ∧ BarI r.b
  runs : ∀ r, r ∈ x.rs → r.mark.size ≤ 9223372036854775807 ∧ RnI r
  laps : ∀ j, j ∈ x.js → JnI j
  dems : ∀ d, d ∈ ds → d.n ≤ d.c ∧ BxI d.zone ∧ ∀ s, s ∈ d.st → StpI s
  rule : RuleI x.rule
  caps : x.mn ≤ x.mc ∧ x.hn ≤ x.hc ∧ x.bn ≤ x.bc ∧ x.rn ≤ x.rc ∧ x.jn ≤ x.jc ∧ x.dn ≤ x.dc
/-- An argument that is a detail. -/
theorem arg_detail {cs : Array Value} {d : DataW H} {p : List MemPlace} (h : DataW.Trod enc Tryz.prog w base sp hd 34 (.agg cs) d p) :
    ∃ (x : Dt) (ds : List Dm), cs = (dtV x).cells ∧ DtOk w x ds ∧ DtI x ds := by
  obtain ⟨fuel, hf⟩ := h
  obtain ⟨xs, n, _, _, hl, hxl, hg⟩ := DataW.trod_struct Tryz.underlying34 hf
  rw [cellsDetail] at hl
  generalize hcl : cs.toList = cl at *
  have hcl2 : (Value.agg cs).cells.toList = cl := hcl
  rw [hcl2] at hl hg
  obtain ⟨a0, a1, a2, a3, a4, a5, a6, a7, a8, a9, b0, b1, b2, b3, b4, b5, b6, b7, b8, rfl⟩ := len19 hl
  have hs : ∀ i, i < 6 → xs[i]?.isSome = true := fun i hi => by
    have : xs.length = 6 := hxl
    simp [this, hi]
  obtain ⟨m, mA, mn, mc, hA, hn, hc, e0, g0, g1, g2, g3, g4, g5⟩ := opn_member (hg 0 _ rfl) (hs 0 (by decide))
  obtain ⟨bA, bn, bc, bs, e1, k1, k2, k3, k4, k5⟩ := opn_bars (hg 1 _ rfl) (hs 1 (by decide))
  obtain ⟨rA, rn, rc, rs, e2, r1, r2, r3, r4, r5⟩ := opn_runs (hg 2 _ rfl) (hs 2 (by decide))
  obtain ⟨jA, jn, jc, js, e3, j1, j2, j3, j4, j5⟩ := opn_joints (hg 3 _ rfl) (hs 3 (by decide))
  obtain ⟨dA, dn, dc, ds, e4, d1, d2, d3, d4, d5⟩ := opn_dems (hg 4 _ rfl) (hs 4 (by decide))
  obtain ⟨q5, hq5⟩ := Option.isSome_iff_exists.1 (hs 5 (by decide))
  have h5 := hg 5 _ rfl
  rw [hq5] at h5
  obtain ⟨rule, e5, u1⟩ := open_rule h5
  simp [cellsMember, cellsBars, cellsRuns, cellsJoints, cellsDems, cellsRule] at e0 e1 e2 e3 e4 e5
  obtain ⟨rfl, rfl, rfl, rfl, rfl, rfl⟩ := e0
  obtain ⟨rfl, rfl, rfl, rfl, rfl, rfl, rfl, rfl, rfl⟩ := e5
  subst e1 e2 e3 e4
  have hmx : maxLen ≤ 9223372036854775807 := by unfold maxLen; decide
  refine ⟨⟨m, mA, mn, mc, hA, hn, hc, bs, bA, bn, bc, rs, rA, rn, rc, js, jA, jn, jc, dA, dn, dc, rule⟩, ds, ?_, ⟨⟨g0, g5.name, ⟨k1, by show bn ≤ _; omega, k4, fun r hr => (k5 r hr).1⟩, ⟨r1, by show rn ≤ _; omega, r4⟩, j1, by show jn ≤ _; omega, j4⟩, ⟨d1, by show dn ≤ _; omega, d4, fun d hd => (d5 d hd).1, fun d hd => (d5 d hd).2.2.1⟩, d2⟩, ⟨g5, fun r hr => (k5 r hr).2, r5, j5, fun d hd => ⟨(d5 d hd).2.1, (d5 d hd).2.2.2⟩, u1, g1, g3, k2, r2, j2, d2⟩⟩
  exact Array.toList_inj.1 hcl
end
end Go.Proofs.YtffkmgjmlahfpaaGreat
