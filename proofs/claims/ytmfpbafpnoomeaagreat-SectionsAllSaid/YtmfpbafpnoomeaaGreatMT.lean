/- Lemmas. -/
import Derived.Deep.Slices
import Derived.Test.YtmfpbafpnoomeaaGreatMS
import Derived.Test.YtmfpbafpnoomeaaGreatMO
import Derived.Test.YtmfpbafpnoomeaaGreatMC
set_option linter.unusedVariables false
set_option linter.unusedSimpArgs false
namespace Go.Proofs.YtmfpbafpnoomeaaGreat
open Go.RowKit
def S.rrun (l : List Bar) (r : Rn) : Bool := S.rightHead l r && S.rightStep r && (match S.barAt l r.mark with | some b => S.near (S.laidPath b r 0) 1048576 && S.near (S.laidPath b r (r.count - 1).toNat) 1048576 | none => false)
theorem placed_zero (x y : Int) (q a s : Pt) (k : Int) : S.plus (S.plus (S.placed x y ⟨0, 0, 0⟩ q) a 1) s k = S.placed x y (S.plus a s k) q := by
 rw [show S.placed x y ⟨0, 0, 0⟩ q = ⟨0 + (S.image x y q).x, 0 + (S.image x y q).y, 0 + (S.image x y q).z⟩ from rfl,
  show S.placed x y (S.plus a s k) q = ⟨a.x + k * s.x + (S.image x y q).x, a.y + k * s.y + (S.image x y q).y, a.z + k * s.z + (S.image x y q).z⟩ from rfl]
 simp only [S.plus, Pt.mk.injEq]
 omega
theorem plus_zero (p s : Pt) : S.plus p s 0 = p := by
 simp [S.plus]
theorem laid_pts {b : Bar} {r : Rn} (ht : S.turn r.tx r.ty = true) (h : S.bar b = true) (k : Nat) : (S.turned b r).all (S.ptOk r k) = S.near (S.laidPath b r k) 1048576 := by
 rw [turned_eq ht h]
 unfold S.near S.laidPath
 rw [List.all_map, List.all_map]
 congr 1
 funext q
 show S.near1 (S.laidPt r k (S.placed r.tx r.ty ⟨0, 0, 0⟩ q)) 1048576 = S.near1 (S.placed r.tx r.ty (S.plus r.at_ r.step k) q) 1048576
 congr 1
 unfold S.laidPt
 split
 ·exact placed_zero _ _ _ _ _ _
 ·have e : ((k : Nat) : Int) = 0 := by omega
  rw [e, <- placed_zero, plus_zero]
theorem rrun_eq {l : List Bar} {r : Rn} (hs : S.sched l = true) : S.rrun l r = S.right l r := by
 unfold S.rrun S.right
 cases hh : S.rightHead l r
 ·rfl
 ·obtain ⟨⟨h0, h1, h2⟩, h3, h4⟩ := rightHead_out hh
  cases hb : S.barAt l r.mark with
  | none => rfl
  | some b =>
   obtain ⟨k, hk⟩ : ∃ k : Nat, S.index l r.mark = (k : Int) := ⟨(S.index l r.mark).toNat, by omega⟩
   have hg : l[k]? = some b := by
    unfold S.barAt at hb
    rw [hk] at hb
    simpa using hb
   have hv := (sched_bar hs hg).1
   have e1 : (r.count - 1) = (((r.count - 1).toNat : Nat) : Int) := by omega
   have e2 := laid_pts h1 hv (r.count - 1).toNat
   rw [<- e1] at e2
   have e3 := laid_pts h1 hv 0
   simp only [S.rightPts]
   rw [e2]
   rw [show (0 : Int) = ((0 : Nat) : Int) from rfl, e3]
def S.sumTo (rs : List Rn) (k : Nat) : Int := (rs.take k).foldl (fun s r => s + r.count) 0
theorem sumTo_succ (rs : List Rn) {k : Nat} (hk : k < rs.length) : S.sumTo rs (k + 1) = S.sumTo rs k + rs[k].count := by
 unfold S.sumTo
 rw [List.take_succ_eq_append_getElem hk, List.foldl_append]
 rfl
theorem sumTo_zero (rs : List Rn) : S.sumTo rs 0 = 0 := rfl
theorem sumTo_mono {rs : List Rn} (h : ∀ k (hk : k < rs.length), 0 <= rs[k].count) : ∀ {k m : Nat}, k <= m -> m <= rs.length -> S.sumTo rs k <= S.sumTo rs m := by
 intro k m hkm
 induction m with
 | zero => intro _; obtain rfl : k = 0 := by omega
           exact Int.le_refl _
 | succ m ih =>
  intro hm
  by_cases e : k = m + 1
  ·subst e; exact Int.le_refl _
  ·have := ih (by omega) (by omega)
   have h1 := h m (by omega)
   rw [sumTo_succ rs (by omega)]
   omega
def S.sumAll (rs : List Rn) : Int := S.sumTo rs rs.length
theorem foldl_count (rs : List Rn) : ∀ a : Int, rs.foldl (fun s r => s + r.count) a = a + rs.foldl (fun s r => s + r.count) 0 := by
 induction rs with
 | nil => intro a; simp
 | cons r rs ih => intro a; simp only [List.foldl_cons]; rw [ih (a + r.count), ih (0 + r.count)]; omega
theorem sumAll_cons (r : Rn) (rs : List Rn) : S.sumAll (r :: rs) = r.count + S.sumAll rs := by
 unfold S.sumAll S.sumTo
 rw [List.take_length, List.take_length, List.foldl_cons, foldl_count]
 omega
theorem runsOk_iff {bs : List Bar} : ∀ {rs : List Rn} {rest : Int}, 0 <= rest -> S.runsOk bs rest rs = (rs.all (S.right bs) && decide (S.sumAll rs <= rest)) := by
 intro rs
 induction rs with
 | nil => intro rest h; simp [S.runsOk, S.sumAll, S.sumTo, h]
 | cons r rs ih =>
  intro rest h
  rw [show S.runsOk bs rest (r :: rs) = (S.right bs r && decide (r.count <= rest) && S.runsOk bs (rest - r.count) rs) from rfl, List.all_cons, sumAll_cons]
  cases hr : S.right bs r
  ·rfl
  ·have hc := right_count hr
   by_cases h1 : r.count <= rest
   ·rw [ih (by omega), decide_eq_true h1]
    cases ha : rs.all (S.right bs)
    ·rfl
    ·simp only [Bool.true_and]
     rw [Bool.eq_iff_iff]
     simp only [decide_eq_true_eq]
     omega
   ·rw [decide_eq_false h1]
    cases ha : rs.all (S.right bs)
    ·rfl
    ·have hpos : 0 <= S.sumAll rs := by
      have := sumTo_mono (rs := rs) (fun k hk => by
       rw [List.all_eq_true] at ha
       have := right_count (ha _ (List.getElem_mem hk))
       omega) (Nat.zero_le rs.length) (Nat.le_refl _)
      rwa [sumTo_zero] at this
     simp only [Bool.true_and, Bool.and_true, Bool.false_and]
     symm
     exact decide_eq_false (by omega)
structure Stands (bs : List Bar) (rs : List Rn) (i : Nat) (k j : Nat) (k0 : Nat) (b : Bar) : Prop where
 lt : k < rs.length
 ok : RunOk bs rs[k] k0 b
 sum : (i : Int) = S.sumTo rs k + j
 inr : (j : Int) < rs[k].count
 get : (S.mains bs rs)[i]? = some (S.mnOf b.size b.mark (S.mainLeg (S.laidPath b rs[k] j)))
theorem mains_sum {bs : List Bar} {rs : List Rn} (hs : S.sched bs = true) (h : ∀ r, r ∈ rs -> S.right bs r = true) : ∀ {k : Nat}, k <= rs.length -> ((S.mains bs (rs.take k)).length : Int) = S.sumTo rs k := by
 intro k
 induction k with
 | zero => intro _; simp [S.mains, sumTo_zero]
 | succ k ih =>
  intro hk
  have hk' : k < rs.length := by omega
  obtain ⟨k0, b, ho⟩ := right_ok hs (h _ (List.getElem_mem hk'))
  have := ih (by omega)
  have hc := ho.count
  rw [mains_snoc bs rs hk' ho.at_, List.length_append, mainsOf_len, sumTo_succ rs hk']
  omega
theorem stands_of {bs : List Bar} {rs : List Rn} (h : S.laid bs rs = true) {i : Nat} (hi : i < (S.mains bs rs).length) : ∃ k j k0 b, Stands bs rs i k j k0 b := by
 simp only [S.laid, Bool.and_eq_true, decide_eq_true_eq] at h
 obtain ⟨⟨hs, hl⟩, hr⟩ := h
 have hin : ∀ r, r ∈ rs -> S.right bs r = true := fun r hr' => runs_in hr hr'
 have key : ∀ m, m <= rs.length -> i < (S.mains bs (rs.take m)).length -> ∃ k j k0 b, ∃ hk : k < rs.length, k < m /\ RunOk bs rs[k] k0 b /\ (i : Int) = S.sumTo rs k + (j : Nat) /\ ((j : Nat) : Int) < rs[k].count /\ (S.mains bs (rs.take m))[i]? = some (S.mnOf b.size b.mark (S.mainLeg (S.laidPath b rs[k] j))) := by
  intro m
  induction m with
  | zero => intro _ h0; simp [S.mains] at h0
  | succ m ih =>
   intro hm h0
   have hm' : m < rs.length := by omega
   obtain ⟨k0, b, ho⟩ := right_ok hs (hin _ (List.getElem_mem hm'))
   have e := mains_snoc bs rs hm' ho.at_
   have hsum := mains_sum hs hin (k := m) (by omega)
   by_cases hlt : i < (S.mains bs (rs.take m)).length
   ·obtain ⟨k, j, k1, b1, hk, hkm, h1, h2, h3, h4⟩ := ih (by omega) hlt
    refine ⟨k, j, k1, b1, hk, by omega, h1, h2, h3, ?_⟩
    rw [e, List.getElem?_append_left hlt, h4]
   ·rw [e, List.length_append, mainsOf_len] at h0
    have hc := ho.count
    refine ⟨m, i - (S.mains bs (rs.take m)).length, k0, b, hm', by omega, ho, by omega, by omega, ?_⟩
    rw [e, List.getElem?_append_right (by omega)]
    unfold S.mainsOf
    rw [List.getElem?_map, List.getElem?_range (by omega)]
    rfl
 obtain ⟨k, j, k0, b, hk, _, h1, h2, h3, h4⟩ := key rs.length (Nat.le_refl _) (by rwa [List.take_length])
 rw [List.take_length] at h4
 exact ⟨k, j, k0, b, hk, h1, h2, h3, h4⟩
theorem rtimes16_any (p : Pt) (n : Int) (h : S.near1 (S.times n p) 1000000000000 = true) (w : World) : Calls Tryz.prog 222 #[ptV p, .int .i64 n] w fun e w' => e = .returned (ptV (S.times n p)) /\ Below w.heap.size w w' := by
 obtain ⟨hx, hy, hz⟩ := near1_out h
 clear h
 have x0 : (S.times n p).x = p.x * n := Int.mul_comm _ _
 have x1 : (S.times n p).y = p.y * n := Int.mul_comm _ _
 have x2 : (S.times n p).z = p.z * n := Int.mul_comm _ _
 rw [x0] at hx
 rw [x1] at hy
 rw [x2] at hz
 unfold ptV
 go_enter Tryz.func222, Tryz.ntmps222
 go_wp2
 exact bodyPost_ret (v := .agg #[.int .i64 (S.times n p).x, .int .i64 (S.times n p).y, .int .i64 (S.times n p).z]) (by simp [results, Tryz.results222, go_sem, *]) rfl ⟨rfl, bel⟩
set_option maxHeartbeats 1000000 in
theorem rtwice_any (p : Pt) (w : World) : Calls Tryz.prog 171 #[ptV p] w fun e w' => e = .returned (.bool (S.near1 p 2097152)) /\ Below w.heap.size w w' := by
 have H := lh (show ∀ t : Bool, (t = true ↔ (-2097152 <= p.x /\ p.x <= 2097152) /\ (-2097152 <= p.y /\ p.y <= 2097152) /\ (-2097152 <= p.z /\ p.z <= 2097152)) -> t = S.near1 p 2097152 from fun t ht => by
  rw [Bool.eq_iff_iff, ht]
  simp only [S.near1, Bool.and_eq_true, decide_eq_true_eq]
  constructor <;> (intro h; omega))
 unfold ptV
 go_enter Tryz.func171, Tryz.ntmps171
 go_wp2
 all_goals (go_ret; exact ⟨ret_b (H.out _ (by simp only [decide_eq_true_eq, decide_eq_false_iff_not, Bool.false_eq_true, true_iff, false_iff] at *; omega)), bel⟩)
theorem rnearL_any (l : List Pt) (A : Option Addr) (n c : Nat) (B : Nat) (w : World) (hn : l.length = n) (hm : n <= 9223372036854775807) (hB : B <= w.heap.size) (hs : Cells w B A (l.flatMap ptC)) :
 Calls Tryz.prog 172 #[.slice A n c] w fun e w' => e = .returned (.bool (S.near l 1048576)) /\ Below w.heap.size w w' := by
 have HN := lh hn
 clear hn
 go_enter Tryz.func172, Tryz.ntmps172
 go_wp2
 go_loopw [3] (fun i wr => ∃ k : Nat, k <= n /\ i = .int .i64 k /\ Hid (∀ j (h : j < l.length), j < k -> S.near1 l[j] 1048576 = true) /\ Below w.heap.size w wr) (fun i _ => n - (intOf i).toNat)
 case atStart => exact ⟨0, Nat.zero_le _, rfl, lh fun j _ hj => absurd hj (by omega), Below.refl _ _⟩
 case round =>
  obtain ⟨k, hk, rfl, HNO, hbr⟩ := hrel
  by_cases hlt : k < n
  ·have hki : (k : Int) < (n : Int) := by omega
   have hkx : k < l.length := by have := HN.out; omega
   have hs' := hs.below (hbr.mono hB)
   obtain ⟨b, o, rfl, _, _⟩ := hs'.at_ (by rw [flat_len ptC 3 ptC_len]; omega)
   obtain ⟨c0, c1, c2⟩ := hs'.pts (List.getElem?_eq_getElem hkx)
   have HT := lh (rnear1_any l[k])
   have HX := lh (fun h => near_bad (m := 1048576) hkx h)
   unfold ptV at HT
   generalize hq : S.near1 l[k] 1048576 = q at *
   have HQ := lh hq
   clear hq hs'
   cases q
   ·go_wp2_with (go_at_call 170; (with_reducible refine (HT.out _).mono ?_); rintro e w1 ⟨rfl, hbw1⟩; obtain ⟨hcw1, hfw1⟩ := bcell hbw1)
    go_ret
    exact ⟨ret_b (HX.out trivial).symm, ba_via hbw1 hbr⟩
   ·go_wp2_with (go_at_call 170; (with_reducible refine (HT.out _).mono ?_); rintro e w1 ⟨rfl, hbw1⟩; obtain ⟨hcw1, hfw1⟩ := bcell hbw1)
    go_roundw
    case rel =>
     refine ⟨k + 1, by omega, by go_num, lh fun j hj hjk => ?_, ba_via hbw1 hbr⟩
     by_cases hjk' : j = k
     ·subst hjk'; exact HQ.out
     ·exact HNO.out j hj (by omega)
    case measure => simp [intOf]; omega
  ·have HX := lh (near_all (m := 1048576) (l := l) fun j hj => HNO.out j hj (by have := HN.out; omega))
   go_wp2
   go_ret
   exact ⟨ret_b HX.out.symm, hbr⟩
theorem rfind14_any (l : List BarR) (m : ByteArray) (A : Option Addr) (n c : Nat) (B : Nat) (w : World) (hB : B <= w.heap.size) (hA : BarsAt w B A n l) :
 Calls Tryz.prog 168 #[.slice A n c, .string m] w fun e w' => e = .returned (.int .i64 (S.index (bars l) m)) /\ Below w.heap.size w w' := by
 have HN := lh (show (bars l).length = n by simpa using hA.len)
 have hm := hA.max
 have hs := hA.cells
 clear hA
 go_enter Tryz.func168, Tryz.ntmps168
 go_wp2
 go_loopw [5] (fun i wr => ∃ k : Nat, k <= n /\ i = .int .i64 k /\ Hid (∀ j (h : j < (bars l).length), j < k -> S.isMark m (bars l)[j] = false) /\ Below w.heap.size w wr) (fun i _ => n - (intOf i).toNat)
 case atStart => exact ⟨0, Nat.zero_le _, rfl, lh fun j _ hj => absurd hj (by omega), Below.refl _ _⟩
 case round =>
  obtain ⟨k, hk, rfl, HNO, hbr⟩ := hrel
  by_cases hlt : k < n
  ·have hki : (k : Int) < (n : Int) := by omega
   have hkx : k < (bars l).length := by have := HN.out; omega
   have hkl : k < l.length := by simpa using hkx
   have hs' := hs.below (hbr.mono hB)
   obtain ⟨b, o, rfl, _, _⟩ := hs'.at_ (by rw [flat_len barC 5 barC_len]; omega)
   have c0 := hs'.row0 barC_len hkl rfl
   have HE := lh (show S.isMark m (bars l)[k] = (l[k].b.mark.toList == m.toList) by simp [S.isMark])
   have HX := lh (fun hx => idxf_hit (p := S.isMark m) hkx hx HNO.out)
   generalize hq : S.isMark m (bars l)[k] = q at *
   have HQ := lh hq
   clear hq hs'
   generalize hmk : l[k].b.mark = mk at *
   have HMK := lh hmk
   clear hmk
   by_cases hx : (mk.toList == m.toList) = true
   ·have hq : q = true := HE.out.trans hx
    subst hq
    go_wp2
    go_ret
    exact ⟨ret_i (HX.out trivial).symm, hbr⟩
   ·have hx' : (mk.toList == m.toList) = false := by simpa using hx
    have hq : q = false := HE.out.trans hx'
    subst hq
    clear hx
    go_wp2
    go_roundw
    case rel =>
     refine ⟨k + 1, by omega, by go_num, lh fun j hj hjk => ?_, hbr⟩
     by_cases hjk' : j = k
     ·subst hjk'; exact HQ.out
     ·exact HNO.out j hj (by omega)
    case measure => simp [intOf]; omega
  ·have HX := lh (idxf_miss (p := S.isMark m) (xs := bars l) fun j hj => HNO.out j hj (by have := HN.out; omega))
   go_wp2
   go_ret
   exact ⟨ret_i HX.out.symm, hbr⟩
theorem rcount16_any (rs : List Rn) (A : Option Addr) (n c : Nat) (B : Nat) (w : World) (hB : B <= w.heap.size) (hR : RunsAt w B A n rs) (h60 : n <= 60) (hc : ∀ k (hk : k < rs.length), 0 <= rs[k].count /\ rs[k].count <= 1000) :
 Calls Tryz.prog 121 #[.slice A n c] w fun e w' => e = .returned (.int .i64 (S.sumAll rs)) /\ w = w' := by
 have HN := lh hR.len
 have HS := lh hR.cells
 have HB : ∀ k, k <= rs.length -> 0 <= S.sumTo rs k /\ S.sumTo rs k <= 1000 * (k : Int) := by
  intro k
  induction k with
  | zero => intro _; rw [sumTo_zero]; omega
  | succ k ih =>
   intro hk
   have h1 := ih (by omega)
   have h2 := hc k (by omega)
   rw [sumTo_succ rs (by omega)]
   omega
 have HBD := lh HB
 clear HB hR
 have HC := lh hc
 clear hc
 go_enter Tryz.func121, Tryz.ntmps121
 go_wp2
 go_loop [3, 4] (fun s i => ∃ k : Nat, k <= n /\ i = .int .i64 k /\ s = .int .i64 (S.sumTo rs k)) (fun _ i => n - (intOf i).toNat)
 case atStart => exact ⟨0, Nat.zero_le _, rfl, rfl⟩
 case round =>
  obtain ⟨k, hk, rfl, rfl⟩ := hrel
  have hl := HN.out
  by_cases hlt : k < n
  ·have hki : (k : Int) < (n : Int) := by omega
   have hkx : k < rs.length := by omega
   have hs' := HS.out
   obtain ⟨b, o, rfl, _, _⟩ := hs'.at_ (by rw [flat_len rnC 10 rnC_len]; omega)
   have c9 := hs'.rowj rnC_len hkx 9 rfl
   have h1 := HBD.out k (by omega)
   have h2 := HC.out k hkx
   have HT := lh (sumTo_succ rs hkx)
   clear hs' hl
   generalize S.sumTo rs k = s at *
   generalize rs[k].count = q at *
   have e1 : IntKind.i64.wrap (s + q) = s + q := IntWalk.i64_in _ (by omega)
   go_wp2
   go_round
   case rel => exact ⟨k + 1, by omega, by go_num, by rw [HT.out]⟩
   case measure => simp [intOf]; omega
  ·have he : k = rs.length := by omega
   have HE := lh (show S.sumTo rs k = S.sumAll rs by rw [he]; rfl)
   clear hl he
   go_wp2
   go_ret
   exact ⟨ret_i HE.out, rfl⟩
theorem size_cases {d : Int} (h : S.size d = true) : d = 6 ∨ d = 8 ∨ d = 10 ∨ d = 12 ∨ d = 16 ∨ d = 20 ∨ d = 25 ∨ d = 32 ∨ d = 40 := by
 simpa [S.size, S.has, S.sizes] using h
theorem boxOk_x {b : Bx} (h : S.boxOk b = true) : -1048576 <= b.lo.x /\ b.lo.x <= b.hi.x /\ b.hi.x <= 1048576 := by
 simp only [S.boxOk, S.okAx, Bool.and_eq_true, decide_eq_true_eq] at h
 omega
end Go.Proofs.YtmfpbafpnoomeaaGreat
namespace Go.Proofs.YtmfpbafpnoomeaaGreat
open Go.ChangeShapes Go.WideShapes Go.ChangeAt Go.RowKit
section
variable {H : Type} {enc : TypeId × Value -> H} {w : World} {base : Nat} {sp : Nat -> Bool} {hd : Bool}
theorem own : ownKnob Tryz.prog.godebug = none := by kernel_rfl
theorem cellsInt : Tryz.prog.cellsOf 3 = 1 := by kernel_rfl
theorem cellsRule : Tryz.prog.cellsOf 32 = 9 := by kernel_rfl
def I64 (n : Int) : Prop := -9223372036854775808 <= n /\ n <= 9223372036854775807
theorem opn_int {fuel : Nat} {cs : List Value} {y : Option (DataW H × List MemPlace)} (h : DataW.trod enc Tryz.prog w base sp hd fuel 3 cs = y) (hy : y.isSome = true) : ∃ n, cs = [.int .i64 n] /\ I64 n := by
 obtain ⟨z, rfl⟩ := Option.isSome_iff_exists.1 hy
 obtain ⟨n, rfl, _, hw⟩ := DataW.trod_int Tryz.underlying3 h
 exact ⟨n, rfl, bounds_i64 hw⟩
theorem len9 {α : Type} {l : List α} (h : l.length = 9) : ∃ a b c d e f g i j, l = [a, b, c, d, e, f, g, i, j] := by
 match l, h with
 | [a, b, c, d, e, f, g, i, j], _ => exact ⟨a, b, c, d, e, f, g, i, j, rfl⟩
structure RuleI (r : Rule) : Prop where
 num : I64 r.num
 den : I64 r.den
 pnum : I64 r.pnum
 pden : I64 r.pden
 bnum : I64 r.bnum
 bden : I64 r.bden
 lnum : I64 r.lnum
 lden : I64 r.lden
 least : I64 r.least
theorem open_rule {fuel : Nat} {cs : List Value} {x : DataW H × List MemPlace} (h : DataW.trod enc Tryz.prog w base sp hd fuel 32 cs = some x) :
 ∃ r : Rule, cs = (ruleV r).cells.toList /\ RuleI r := by
 obtain ⟨xs, n, _, _, hl, hxl, hg⟩ := DataW.trod_struct Tryz.underlying32 h
 rw [cellsRule] at hl
 obtain ⟨c0, c1, c2, c3, c4, c5, c6, c7, c8, rfl⟩ := len9 hl
 have hs : ∀ i, i < 9 -> xs[i]?.isSome = true := fun i hi => by
  have : xs.length = 9 := hxl
  simp [this, hi]
 obtain ⟨n0, e0, b0⟩ := opn_int (hg 0 _ rfl) (hs 0 (by decide))
 obtain ⟨n1, e1, b1⟩ := opn_int (hg 1 _ rfl) (hs 1 (by decide))
 obtain ⟨n2, e2, b2⟩ := opn_int (hg 2 _ rfl) (hs 2 (by decide))
 obtain ⟨n3, e3, b3⟩ := opn_int (hg 3 _ rfl) (hs 3 (by decide))
 obtain ⟨n4, e4, b4⟩ := opn_int (hg 4 _ rfl) (hs 4 (by decide))
 obtain ⟨n5, e5, b5⟩ := opn_int (hg 5 _ rfl) (hs 5 (by decide))
 obtain ⟨n6, e6, b6⟩ := opn_int (hg 6 _ rfl) (hs 6 (by decide))
 obtain ⟨n7, e7, b7⟩ := opn_int (hg 7 _ rfl) (hs 7 (by decide))
 obtain ⟨n8, e8, b8⟩ := opn_int (hg 8 _ rfl) (hs 8 (by decide))
 simp [cellsInt] at e0 e1 e2 e3 e4 e5 e6 e7 e8
 subst e0 e1 e2 e3 e4 e5 e6 e7 e8
 exact ⟨⟨n0, n1, n2, n3, n4, n5, n6, n7, n8⟩, rfl, ⟨b0, b1, b2, b3, b4, b5, b6, b7, b8⟩⟩
end
end Go.Proofs.YtmfpbafpnoomeaaGreat
namespace Go.Proofs.YtmfpbafpnoomeaaGreat
open Go.ChangeShapes Go.WideShapes Go.ChangeAt Go.RowKit
section
variable {H : Type} {enc : TypeId × Value -> H} {w : World} {base : Nat} {sp : Nat -> Bool} {hd : Bool}
theorem cellsStr : Tryz.prog.cellsOf 9 = 1 := by kernel_rfl
theorem cellsPt : Tryz.prog.cellsOf 76 = 3 := by kernel_rfl
theorem cellsBox : Tryz.prog.cellsOf 78 = 6 := by kernel_rfl
theorem cellsBoxes : Tryz.prog.cellsOf 22 = 1 := by kernel_rfl
theorem cellsSolid : Tryz.prog.cellsOf 24 = 2 := by kernel_rfl
theorem cellsMember : Tryz.prog.cellsOf 26 = 6 := by kernel_rfl
theorem opn_str {fuel : Nat} {cs : List Value} {y : Option (DataW H × List MemPlace)} (h : DataW.trod enc Tryz.prog w base sp hd fuel 9 cs = y) (hy : y.isSome = true) : ∃ s : ByteArray, cs = [.string s] /\ s.size <= maxLen := by
 obtain ⟨z, rfl⟩ := Option.isSome_iff_exists.1 hy
 obtain ⟨s, rfl, _, hw⟩ := DataW.trod_string Tryz.underlying9 h
 exact ⟨s, rfl, hw⟩
theorem len3 {α : Type} {l : List α} (h : l.length = 3) : ∃ a b c, l = [a, b, c] := by
 match l, h with
 | [a, b, c], _ => exact ⟨a, b, c, rfl⟩
theorem len2 {α : Type} {l : List α} (h : l.length = 2) : ∃ a b, l = [a, b] := by
 match l, h with
 | [a, b], _ => exact ⟨a, b, rfl⟩
theorem len6 {α : Type} {l : List α} (h : l.length = 6) : ∃ a b c d e f, l = [a, b, c, d, e, f] := by
 match l, h with
 | [a, b, c, d, e, f], _ => exact ⟨a, b, c, d, e, f, rfl⟩
structure PtI (p : Pt) : Prop where
 x : I64 p.x
 y : I64 p.y
 z : I64 p.z
structure BxI (b : Bx) : Prop where
 lo : PtI b.lo
 hi : PtI b.hi
theorem opn_pt {fuel : Nat} {cs : List Value} {y : Option (DataW H × List MemPlace)} (h : DataW.trod enc Tryz.prog w base sp hd fuel 76 cs = y) (hy : y.isSome = true) :
 ∃ p : Pt, cs = [.int .i64 p.x, .int .i64 p.y, .int .i64 p.z] /\ PtI p := by
 obtain ⟨z, rfl⟩ := Option.isSome_iff_exists.1 hy
 obtain ⟨xs, n, _, _, hl, hxl, hg⟩ := DataW.trod_struct Tryz.underlying76 h
 rw [cellsPt] at hl
 obtain ⟨c0, c1, c2, rfl⟩ := len3 hl
 have hs : ∀ i, i < 3 -> xs[i]?.isSome = true := fun i hi => by
  have : xs.length = 3 := hxl
  simp [this, hi]
 obtain ⟨n0, e0, b0⟩ := opn_int (hg 0 _ rfl) (hs 0 (by decide))
 obtain ⟨n1, e1, b1⟩ := opn_int (hg 1 _ rfl) (hs 1 (by decide))
 obtain ⟨n2, e2, b2⟩ := opn_int (hg 2 _ rfl) (hs 2 (by decide))
 simp [cellsInt] at e0 e1 e2
 subst e0 e1 e2
 exact ⟨⟨n0, n1, n2⟩, rfl, ⟨b0, b1, b2⟩⟩
theorem opn_box {fuel : Nat} {cs : List Value} {y : Option (DataW H × List MemPlace)} (h : DataW.trod enc Tryz.prog w base sp hd fuel 78 cs = y) (hy : y.isSome = true) :
 ∃ b : Bx, cs = boxC b /\ BxI b := by
 obtain ⟨z, rfl⟩ := Option.isSome_iff_exists.1 hy
 obtain ⟨xs, n, _, _, hl, hxl, hg⟩ := DataW.trod_struct Tryz.underlying78 h
 rw [cellsBox] at hl
 obtain ⟨c0, c1, c2, c3, c4, c5, rfl⟩ := len6 hl
 have hs : ∀ i, i < 2 -> xs[i]?.isSome = true := fun i hi => by
  have : xs.length = 2 := hxl
  simp [this, hi]
 obtain ⟨p0, e0, b0⟩ := opn_pt (hg 0 _ rfl) (hs 0 (by decide))
 obtain ⟨p1, e1, b1⟩ := opn_pt (hg 1 _ rfl) (hs 1 (by decide))
 simp [cellsPt] at e0 e1
 obtain ⟨rfl, rfl, rfl⟩ := e0
 obtain ⟨rfl, rfl, rfl⟩ := e1
 exact ⟨⟨p0, p1⟩, rfl, ⟨b0, b1⟩⟩
theorem opn_rows {α : Type} [Inhabited α] {t e : TypeId} (ht : Tryz.prog.underlying t = some (.slice e)) (enc' : α -> List Value) (m : Nat) (hm0 : 0 < m) (hm : ∀ a, (enc' a).length = m) (ce : Tryz.prog.cellsOf e = m) (ok : α -> Prop)
 (hop : ∀ {fuel : Nat} {cs : List Value} {y : Option (DataW H × List MemPlace)}, DataW.trod enc Tryz.prog w base sp hd fuel e cs = y -> y.isSome = true -> ∃ b : α, cs = enc' b /\ ok b)
 {fuel : Nat} {cs : List Value} {y : Option (DataW H × List MemPlace)} (h : DataW.trod enc Tryz.prog w base sp hd fuel t cs = y) (hy : y.isSome = true) :
 ∃ (A : Option Addr) (n c : Nat) (xs : List α), cs = [.slice A n c] /\ xs.length = n /\ n <= c /\ c <= maxLen /\ Cells w w.heap.size A (xs.flatMap enc') /\ ∀ x, x ∈ xs -> ok x := by
 obtain ⟨z, rfl⟩ := Option.isSome_iff_exists.1 hy
 rcases DataW.trod_slice ht h with ⟨rfl, _⟩ | ⟨a, len, cap, elems, rest, n, _, rfl, _, _, hl, hc, hel, hx, _, _⟩
 ·exact ⟨none, 0, 0, [], rfl, rfl, Nat.le_refl _, Nat.zero_le _, .inl rfl, by simp⟩
 ·rw [ce] at hx
  have each : ∀ i, i < len -> ∃ b : α, ok b /\ ∀ j, j < m -> w.cell? (a.add (i * m + j)) = (enc' b)[j]? := by
   intro i hi
   have h1 := hx i hi
   have h2 : elems[i]?.isSome = true := by simp [hel, hi]
   obtain ⟨q, hq⟩ := Option.isSome_iff_exists.1 h2
   rw [hq] at h1
   obtain ⟨cs', g1, g2⟩ := Option.bind_eq_some_iff.1 h1
   obtain ⟨_, _, hcell⟩ := World.cells?_some g1
   obtain ⟨b, rfl, hb⟩ := hop g2 rfl
   refine ⟨b, hb, fun j hj => ?_⟩
   rw [<- Go.Deep.add_add]
   exact hcell j hj
  obtain ⟨q, hq⟩ := Go.Deep.choose_lt each
  refine ⟨some a, len, cap, (List.range len).map q, rfl, by simp, hl, hc, ?_, fun x hx => ?_⟩
  ·by_cases h0 : len = 0
   ·left; simp [h0]
   ·right
    have h1 := (hq 0 (by omega)).2 0 hm0
    rw [List.getElem?_eq_getElem (by rw [hm]; exact hm0)] at h1
    have hsp : a.spot = none := by
     unfold World.cell? at h1
     split at h1
     ·split at h1
      ·cases h1
      ·rename_i hn
       simpa [Addr.add] using hn
     ·cases h1
    have hlt : a.block < w.heap.size := by
     unfold World.cell? at h1
     split at h1
     ·rename_i hh
      have hh2 := (Array.getElem?_eq_some_iff.1 hh).1
      simpa [Addr.add] using hh2
     ·cases h1
    obtain ⟨bb, o, s⟩ := a
    cases hsp
    refine ⟨bb, o, rfl, hlt, fun j v hv => ?_⟩
    have hjl := (List.getElem?_eq_some_iff.1 hv).1
    rw [flat_len enc' m hm] at hjl
    have hj : j < len * m := by simpa using hjl
    have hk : j / m < len := (Nat.div_lt_iff_lt_mul hm0).2 hj
    have hr : j % m < m := Nat.mod_lt _ hm0
    have hd := Nat.div_add_mod j m
    have hjm : j / m * m + j % m = j := by rw [Nat.mul_comm]; exact hd
    have h2 := (hq (j / m) hk).2 (j % m) hr
    have h3 := flat_get enc' m hm ((List.range len).map q) (j / m) (by simpa using hk) (j % m) hr
    rw [hjm] at h2 h3
    rw [h3] at hv
    have e : (Addr.add ⟨bb, o, none⟩ j) = ⟨bb, o + j, none⟩ := by unfold Addr.add; split <;> simp_all
    rw [e] at h2
    rw [h2, <- hv]
    simp
  ·obtain ⟨i, hi, rfl⟩ := List.mem_map.1 hx
   exact (hq i (List.mem_range.1 hi)).1
instance : Inhabited Bx := ⟨⟨⟨0, 0, 0⟩, ⟨0, 0, 0⟩⟩⟩
theorem opn_boxes {fuel : Nat} {cs : List Value} {y : Option (DataW H × List MemPlace)} (h : DataW.trod enc Tryz.prog w base sp hd fuel 22 cs = y) (hy : y.isSome = true) :
 ∃ (A : Option Addr) (n c : Nat) (xs : List Bx), cs = [.slice A n c] /\ xs.length = n /\ n <= c /\ c <= maxLen /\ Cells w w.heap.size A (xs.flatMap boxC) /\ ∀ x, x ∈ xs -> BxI x :=
 opn_rows Tryz.underlying22 boxC 6 (by decide) boxC_len cellsBox BxI (fun h hy => opn_box h hy) h hy
theorem opn_solid {fuel : Nat} {cs : List Value} {y : Option (DataW H × List MemPlace)} (h : DataW.trod enc Tryz.prog w base sp hd fuel 24 cs = y) (hy : y.isSome = true) :
 ∃ (A : Option Addr) (n c : Nat) (A' : Option Addr) (n' c' : Nat) (xs hs : List Bx), cs = [.slice A n c, .slice A' n' c'] /\ SolAt w w.heap.size A n A' n' xs hs /\ n <= c /\ c <= maxLen /\ n' <= c' /\ c' <= maxLen /\ (∀ x, x ∈ xs -> BxI x) /\ ∀ x, x ∈ hs -> BxI x := by
 obtain ⟨z, rfl⟩ := Option.isSome_iff_exists.1 hy
 obtain ⟨ys, n, _, _, hl, hxl, hg⟩ := DataW.trod_struct Tryz.underlying24 h
 rw [cellsSolid] at hl
 obtain ⟨c0, c1, rfl⟩ := len2 hl
 have hs : ∀ i, i < 2 -> ys[i]?.isSome = true := fun i hi => by
  have : ys.length = 2 := hxl
  simp [this, hi]
 obtain ⟨A, n0, m0, xs, e0, h1, h2, h3, h4, h5⟩ := opn_boxes (hg 0 _ rfl) (hs 0 (by decide))
 obtain ⟨A', n1, m1, hs', e1, g1, g2, g3, g4, g5⟩ := opn_boxes (hg 1 _ rfl) (hs 1 (by decide))
 simp [cellsBoxes] at e0 e1
 subst e0 e1
 have hmx : maxLen <= 9223372036854775807 := by unfold maxLen; decide
 exact ⟨A, n0, m0, A', n1, m1, xs, hs', rfl, ⟨h1, by omega, g1, by omega, h4, g4⟩, h2, h3, g2, g3, h5, g5⟩
structure MemI (m : Mem) : Prop where
 name : m.name.size <= 9223372036854775807
 boxes : ∀ x, x ∈ m.boxes -> BxI x
 holes : ∀ x, x ∈ m.holes -> BxI x
 cover : I64 m.cover
 aggr : I64 m.aggr
 poker : I64 m.poker
theorem opn_member {fuel : Nat} {cs : List Value} {y : Option (DataW H × List MemPlace)} (h : DataW.trod enc Tryz.prog w base sp hd fuel 26 cs = y) (hy : y.isSome = true) :
 ∃ (m : Mem) (A : Option Addr) (n c : Nat) (A' : Option Addr) (n' c' : Nat), cs = (memV m A n c A' n' c').cells.toList /\ SolAt w w.heap.size A n A' n' m.boxes m.holes /\ n <= c /\ c <= maxLen /\ n' <= c' /\ c' <= maxLen /\ MemI m := by
 obtain ⟨z, rfl⟩ := Option.isSome_iff_exists.1 hy
 obtain ⟨ys, n, _, _, hl, hxl, hg⟩ := DataW.trod_struct Tryz.underlying26 h
 rw [cellsMember] at hl
 obtain ⟨c0, c1, c2, c3, c4, c5, rfl⟩ := len6 hl
 have hs : ∀ i, i < 5 -> ys[i]?.isSome = true := fun i hi => by
  have : ys.length = 5 := hxl
  simp [this, hi]
 obtain ⟨s, e0, b0⟩ := opn_str (hg 0 _ rfl) (hs 0 (by decide))
 obtain ⟨A, n0, m0, A', n1, m1, xs, hs', e1, h1, h2, h3, h4, h5, h6, h7⟩ := opn_solid (hg 1 _ rfl) (hs 1 (by decide))
 obtain ⟨k2, e2, b2⟩ := opn_int (hg 2 _ rfl) (hs 2 (by decide))
 obtain ⟨k3, e3, b3⟩ := opn_int (hg 3 _ rfl) (hs 3 (by decide))
 obtain ⟨k4, e4, b4⟩ := opn_int (hg 4 _ rfl) (hs 4 (by decide))
 simp [cellsStr, cellsSolid, cellsInt] at e0 e1 e2 e3 e4
 obtain ⟨rfl, rfl⟩ := e1
 subst e0 e2 e3 e4
 have hmx : maxLen <= 9223372036854775807 := by unfold maxLen; decide
 exact ⟨⟨s, xs, hs', k2, k3, k4⟩, A, n0, m0, A', n1, m1, rfl, h1, h2, h3, h4, h5, ⟨by show s.size <= _; omega, h6, h7, b2, b3, b4⟩⟩
end
end Go.Proofs.YtmfpbafpnoomeaaGreat
