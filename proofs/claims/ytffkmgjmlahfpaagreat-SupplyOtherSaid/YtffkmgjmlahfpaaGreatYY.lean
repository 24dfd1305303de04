/- The reference's rule on runs is the program's (no walk). Contracts of the reference for layers 14 and 16: Find, Valid; times, twice, near, Count. Contract: points of the reference for layer 16. Contra -/
import Derived.BigRegion
import Derived.OrdersHeld
import Derived.Test.YtffkmgjmlahfpaaGreatYQ
import Derived.Test.YtffkmgjmlahfpaaGreatYX
import Derived.Test.YtffkmgjmlahfpaaGreatYT
import Derived.Test.YtffkmgjmlahfpaaGreatYA
import Derived.Test.YtffkmgjmlahfpaaGreatYI
import Derived.Test.YtffkmgjmlahfpaaGreatYD
import Derived.Test.YtffkmgjmlahfpaaGreatYP
import Derived.Test.YtffkmgjmlahfpaaGreatYK
import Derived.Test.YtffkmgjmlahfpaaGreatYO
import Derived.Test.YtffkmgjmlahfpaaGreatYN
set_option linter.unusedVariables false
set_option linter.unusedSimpArgs false
namespace Go.Proofs.YtffkmgjmlahfpaaGreat
open Go.RowKit
theorem placed_zero (x y : Int) (q a s : Pt) (k : Int) : S.plus (S.plus (S.placed x y ⟨0, 0, 0⟩ q) a 1) s k = S.placed x y (S.plus a s k) q := by
  rw [show S.placed x y ⟨0, 0, 0⟩ q = ⟨0 + (S.image x y q).x, 0 + (S.image x y q).y, 0 + (S.image x y q).z⟩ from rfl,
    show S.placed x y (S.plus a s k) q = ⟨a.x + k * s.x + (S.image x y q).x, a.y + k * s.y + (S.image x y q).y, a.z + k * s.z + (S.image x y q).z⟩ from rfl]
  simp only [S.plus, Pt.mk.injEq]
  omega
theorem plus_zero (p s : Pt) : S.plus p s 0 = p := by
  simp [S.plus]
theorem laid_pts {b : Bar} {r : Rn} (ht : S.turn r.tx r.ty = true) (h : S.bar b = true) (k : Nat) : (S.turned b r).all (S.ptOk r k) = S.near (S.laidPath b r k) 1048576 := by
  rw [turned_eq ht h]
  unfold S.near S.laidPath
  rw [List.all_map, List.all_map]
  congr 1
  funext q
  show S.near1 (S.laidPt r k (S.placed r.tx r.ty ⟨0, 0, 0⟩ q)) 1048576 = S.near1 (S.placed r.tx r.ty (S.plus r.at_ r.step k) q) 1048576
  congr 1
  unfold S.laidPt
  split
  · exact placed_zero _ _ _ _ _ _
  · have e : ((k : Nat) : Int) = 0 := by omega
    rw [e, ← placed_zero, plus_zero]
def S.sumTo (rs : List Rn) (k : Nat) : Int := (rs.take k).foldl (fun s r => s + r.count) 0
theorem sumTo_succ (rs : List Rn) {k : Nat} (hk : k < rs.length) : S.sumTo rs (k + 1) = S.sumTo rs k + rs[k].count := by
  unfold S.sumTo
  rw [List.take_succ_eq_append_getElem hk, List.foldl_append]
  rfl
theorem sumTo_zero (rs : List Rn) : S.sumTo rs 0 = 0 := rfl
theorem sumTo_mono {rs : List Rn} (h : ∀ k (hk : k < rs.length), 0 ≤ rs[k].count) : ∀ {k m : Nat}, k ≤ m → m ≤ rs.length → S.sumTo rs k ≤ S.sumTo rs m := by
  intro k m hkm
  induction m with
  | zero => intro _; obtain rfl : k = 0 := by omega
            exact Int.le_refl _
  | succ m ih =>
    intro hm
    by_cases e : k = m + 1
    · subst e; exact Int.le_refl _
    · have := ih (by omega) (by omega)
      have h1 := h m (by omega)
      rw [sumTo_succ rs (by omega)]
      omega
def S.sumAll (rs : List Rn) : Int := S.sumTo rs rs.length
structure Stands (bs : List Bar) (rs : List Rn) (i : Nat) (k j : Nat) (k0 : Nat) (b : Bar) : Prop where
  lt : k < rs.length
  ok : RunOk bs rs[k] k0 b
  sum : (i : Int) = S.sumTo rs k + j
  inr : (j : Int) < rs[k].count
  get : (S.mains bs rs)[i]? = some (S.mnOf b.size b.mark (S.mainLeg (S.laidPath b rs[k] j)))
theorem mains_sum {bs : List Bar} {rs : List Rn} (hs : S.sched bs = true) (h : ∀ r, r ∈ rs → S.right bs r = true) : ∀ {k : Nat}, k ≤ rs.length → ((S.mains bs (rs.take k)).length : Int) = S.sumTo rs k := by
  intro k
  induction k with
  | zero => intro _; simp [S.mains, sumTo_zero]
  | succ k ih =>
    intro hk
    have hk' : k < rs.length := by omega
    obtain ⟨k0, b, ho⟩ := right_ok hs (h _ (List.getElem_mem hk'))
    have := ih (by omega)
    have hc := ho.count
    rw [mains_snoc bs rs hk' ho.at_, List.length_append, mainsOf_len, sumTo_succ rs hk']
    omega
theorem stands_of {bs : List Bar} {rs : List Rn} (h : S.laid bs rs = true) {i : Nat} (hi : i < (S.mains bs rs).length) : ∃ k j k0 b, Stands bs rs i k j k0 b := by
  simp only [S.laid, Bool.and_eq_true, decide_eq_true_eq] at h
  obtain ⟨⟨hs, hl⟩, hr⟩ := h
  have hin : ∀ r, r ∈ rs → S.right bs r = true := fun r hr' => runs_in hr hr'
  have key : ∀ m, m ≤ rs.length → i < (S.mains bs (rs.take m)).length → ∃ k j k0 b, ∃ hk : k < rs.length, k < m ∧ RunOk bs rs[k] k0 b ∧ (i : Int) = S.sumTo rs k + (j : Nat) ∧ ((j : Nat) : Int) < rs[k].count ∧ (S.mains bs (rs.take m))[i]? = some (S.mnOf b.size b.mark (S.mainLeg (S.laidPath b rs[k] j))) := by
    intro m
    induction m with
    | zero => intro _ h0; simp [S.mains] at h0
    | succ m ih =>
      intro hm h0
      have hm' : m < rs.length := by omega
      obtain ⟨k0, b, ho⟩ := right_ok hs (hin _ (List.getElem_mem hm'))
      have e := mains_snoc bs rs hm' ho.at_
      have hsum := mains_sum hs hin (k := m) (by omega)
      by_cases hlt : i < (S.mains bs (rs.take m)).length
      · obtain ⟨k, j, k1, b1, hk, hkm, h1, h2, h3, h4⟩ := ih (by omega) hlt
        refine ⟨k, j, k1, b1, hk, by omega, h1, h2, h3, ?_⟩
        rw [e, List.getElem?_append_left hlt, h4]
      · rw [e, List.length_append, mainsOf_len] at h0
        have hc := ho.count
        refine ⟨m, i - (S.mains bs (rs.take m)).length, k0, b, hm', by omega, ho, by omega, by omega, ?_⟩
        rw [e, List.getElem?_append_right (by omega)]
        unfold S.mainsOf
        rw [List.getElem?_map, List.getElem?_range (by omega)]
        rfl
  obtain ⟨k, j, k0, b, hk, _, h1, h2, h3, h4⟩ := key rs.length (Nat.le_refl _) (by rwa [List.take_length])
  rw [List.take_length] at h4
  exact ⟨k, j, k0, b, hk, h1, h2, h3, h4⟩
theorem rnearL_any (l : List Pt) (A : Option Addr) (n c : Nat) (B : Nat) (w : World) (hn : l.length = n) (hm : n ≤ 9223372036854775807) (hB : B ≤ w.heap.size) (hs : Cells w B A (l.flatMap ptC)) :
    Calls Tryz.prog 178 #[.slice A n c] w fun e w' => e = .returned (.bool (S.near l 1048576)) ∧ Below w.heap.size w w' := by
  have HN := Lib.hid hn
  clear hn
  go_enter Tryz.func178, Tryz.ntmps178
  go_wp2
  go_loopw [3] (fun i wr => ∃ k : Nat, k ≤ n ∧ i = .int .i64 k ∧ Hid (∀ j (h : j < l.length), j < k → S.near1 l[j] 1048576 = true) ∧ Below w.heap.size w wr) (fun i _ => n - (intOf i).toNat)
  case atStart => exact ⟨0, Nat.zero_le _, rfl, Lib.hid fun j _ hj => absurd hj (by omega), Below.refl _ _⟩
  case round =>
    obtain ⟨k, hk, rfl, HNO, hbr⟩ := hrel
    by_cases hlt : k < n
    · have hki : (k : Int) < (n : Int) := by omega
      have hkx : k < l.length := by have := HN.out; omega
      have hs' := hs.below (hbr.mono hB)
      obtain ⟨b, o, rfl, _, _⟩ := hs'.at_ (by rw [flat_len ptC 3 ptC_len]; omega)
      obtain ⟨c0, c1, c2⟩ := hs'.pts (List.getElem?_eq_getElem hkx)
      have HT := Lib.hid (rnear1_any l[k])
      have HX := Lib.hid (fun h => near_bad (m := 1048576) hkx h)
      unfold ptV at HT
      generalize hq : S.near1 l[k] 1048576 = q at *
      have HQ := Lib.hid hq
      clear hq hs'
      cases q
      · go_wp2_with (go_at_call 176; (with_reducible refine (HT.out _).mono ?_); rintro e w1 ⟨rfl, hbw1⟩; obtain ⟨hcw1, hfw1⟩ := bcell hbw1)
        go_ret
        exact ⟨ret_b (HX.out trivial).symm, ba_via hbw1 hbr⟩
      · go_wp2_with (go_at_call 176; (with_reducible refine (HT.out _).mono ?_); rintro e w1 ⟨rfl, hbw1⟩; obtain ⟨hcw1, hfw1⟩ := bcell hbw1)
        go_roundw
        case rel =>
          refine ⟨k + 1, by omega, by go_num, Lib.hid fun j hj hjk => ?_, ba_via hbw1 hbr⟩
          by_cases hjk' : j = k
          · subst hjk'; exact HQ.out
          · exact HNO.out j hj (by omega)
        case measure => simp [intOf]; omega
    · have HX := Lib.hid (near_all (m := 1048576) (l := l) fun j hj => HNO.out j hj (by have := HN.out; omega))
      go_wp2
      go_ret
      exact ⟨ret_b HX.out.symm, hbr⟩
theorem rfind14_any (l : List BarR) (m : ByteArray) (A : Option Addr) (n c : Nat) (B : Nat) (w : World) (hB : B ≤ w.heap.size) (hA : BarsAt w B A n l) :
    Calls Tryz.prog 162 #[.slice A n c, .string m] w fun e w' => e = .returned (.int .i64 (S.index (bars l) m)) ∧ Below w.heap.size w w' := by
  have HN := Lib.hid (show (bars l).length = n by simpa using hA.len)
  have hm := hA.max
  have hs := hA.cells
  clear hA
  go_enter Tryz.func162, Tryz.ntmps162
  go_wp2
  go_loopw [5] (fun i wr => ∃ k : Nat, k ≤ n ∧ i = .int .i64 k ∧ Hid (∀ j (h : j < (bars l).length), j < k → S.isMark m (bars l)[j] = false) ∧ Below w.heap.size w wr) (fun i _ => n - (intOf i).toNat)
  case atStart => exact ⟨0, Nat.zero_le _, rfl, Lib.hid fun j _ hj => absurd hj (by omega), Below.refl _ _⟩
  case round =>
    obtain ⟨k, hk, rfl, HNO, hbr⟩ := hrel
    by_cases hlt : k < n
    · have hki : (k : Int) < (n : Int) := by omega
      have hkx : k < (bars l).length := by have := HN.out; omega
      have hkl : k < l.length := by simpa using hkx
      have hs' := hs.below (hbr.mono hB)
      obtain ⟨b, o, rfl, _, _⟩ := hs'.at_ (by rw [flat_len barC 5 barC_len]; omega)
      have c0 := hs'.row0 barC_len hkl rfl
      have HE := Lib.hid (show S.isMark m (bars l)[k] = (l[k].b.mark.toList == m.toList) by simp [S.isMark])
      have HX := Lib.hid (fun hx => idxf_hit (p := S.isMark m) hkx hx HNO.out)
      generalize hq : S.isMark m (bars l)[k] = q at *
      have HQ := Lib.hid hq
      clear hq hs'
      generalize hmk : l[k].b.mark = mk at *
      have HMK := Lib.hid hmk
      clear hmk
      by_cases hx : (mk.toList == m.toList) = true
      · have hq : q = true := HE.out.trans hx
        subst hq
        go_wp2
        go_ret
        exact ⟨ret_i (HX.out trivial).symm, hbr⟩
      · have hx' : (mk.toList == m.toList) = false := by simpa using hx
        have hq : q = false := HE.out.trans hx'
        subst hq
        clear hx
        go_wp2
        go_roundw
        case rel =>
          refine ⟨k + 1, by omega, by go_num, Lib.hid fun j hj hjk => ?_, hbr⟩
          by_cases hjk' : j = k
          · subst hjk'; exact HQ.out
          · exact HNO.out j hj (by omega)
        case measure => simp [intOf]; omega
    · have HX := Lib.hid (idxf_miss (p := S.isMark m) (xs := bars l) fun j hj => HNO.out j hj (by have := HN.out; omega))
      go_wp2
      go_ret
      exact ⟨ret_i HX.out.symm, hbr⟩
theorem rcount16_any (rs : List Rn) (A : Option Addr) (n c : Nat) (B : Nat) (w : World) (hB : B ≤ w.heap.size) (hR : RunsAt w B A n rs) (h60 : n ≤ 60) (hc : ∀ k (hk : k < rs.length), 0 ≤ rs[k].count ∧ rs[k].count ≤ 1000) :
    Calls Tryz.prog 94 #[.slice A n c] w fun e w' => e = .returned (.int .i64 (S.sumAll rs)) ∧ w = w' := by
  have HN := Lib.hid hR.len
  have HS := Lib.hid hR.cells
  have HB : ∀ k, k ≤ rs.length → 0 ≤ S.sumTo rs k ∧ S.sumTo rs k ≤ 1000 * (k : Int) := by
    intro k
    induction k with
    | zero => intro _; rw [sumTo_zero]; omega
    | succ k ih =>
      intro hk
      have h1 := ih (by omega)
      have h2 := hc k (by omega)
      rw [sumTo_succ rs (by omega)]
      omega
  have HBD := Lib.hid HB
  clear HB hR
  have HC := Lib.hid hc
  clear hc
  go_enter Tryz.func94, Tryz.ntmps94
  go_wp2
  go_loop [3, 4] (fun s i => ∃ k : Nat, k ≤ n ∧ i = .int .i64 k ∧ s = .int .i64 (S.sumTo rs k)) (fun _ i => n - (intOf i).toNat)
  case atStart => exact ⟨0, Nat.zero_le _, rfl, rfl⟩
  case round =>
    obtain ⟨k, hk, rfl, rfl⟩ := hrel
    have hl := HN.out
    by_cases hlt : k < n
    · have hki : (k : Int) < (n : Int) := by omega
      have hkx : k < rs.length := by omega
      have hs' := HS.out
      obtain ⟨b, o, rfl, _, _⟩ := hs'.at_ (by rw [flat_len rnC 10 rnC_len]; omega)
      have c9 := hs'.rowj rnC_len hkx 9 rfl
      have h1 := HBD.out k (by omega)
      have h2 := HC.out k hkx
      have HT := Lib.hid (sumTo_succ rs hkx)
      clear hs' hl
      generalize S.sumTo rs k = s at *
      generalize rs[k].count = q at *
      have e1 : IntKind.i64.wrap (s + q) = s + q := IntWalk.i64_in _ (by omega)
      go_wp2
      go_round
      case rel => exact ⟨k + 1, by omega, by go_num, by rw [HT.out]⟩
      case measure => simp [intOf]; omega
    · have he : k = rs.length := by omega
      have HE := Lib.hid (show S.sumTo rs k = S.sumAll rs by rw [he]; rfl)
      clear hl he
      go_wp2
      go_ret
      exact ⟨ret_i HE.out, rfl⟩
theorem laidPath_len (b : Bar) (r : Rn) (k : Nat) : (S.laidPath b r k).length = (S.legsOf b.code).length + 1 := by
  unfold S.laidPath; rw [List.length_map, path_len]
theorem rplace_any (rs : List Rn) (A : Option Addr) (n c : Nat) (B : Nat) (w : World) (hB : B ≤ w.heap.size) (hR : RunsAt w B A n rs) (hc : ∀ k (hk : k < rs.length), 0 ≤ rs[k].count) (i k j : Nat) (hk : k < rs.length) (hi : (i : Int) = S.sumTo rs k + j) (hj : (j : Int) < rs[k].count) (hi64 : i ≤ 1000000) :
    Calls Tryz.prog 161 #[.slice A n c, .int .i64 i] w fun e w' => e = .returned (.tuple #[.int .i64 k, .int .i64 j]) ∧ w = w' := by
  have HN := Lib.hid hR.len
  have HS := Lib.hid hR.cells
  have hnm := hR.max
  have hkn : k < n := by have := hR.len; omega
  have HSM := Lib.hid (fun (m : Nat) (hm : m ≤ k) => sumTo_mono (rs := rs) hc hm (by omega))
  have HSZ := Lib.hid (fun (m : Nat) (hm : m ≤ rs.length) => sumTo_mono (rs := rs) hc (Nat.zero_le m) hm)
  have HSS := Lib.hid (fun (m : Nat) (hm : m < rs.length) => sumTo_succ rs hm)
  have HI := Lib.hid hi
  have HJ := Lib.hid hj
  clear hR hi hj
  go_enter Tryz.func161, Tryz.ntmps161
  go_wp2
  go_loop [1, 6] (fun v m => ∃ q : Nat, q ≤ k ∧ m = .int .i64 q ∧ v = .int .i64 ((i : Int) - S.sumTo rs q)) (fun _ m => k - (intOf m).toNat)
  case atStart => exact ⟨0, Nat.zero_le _, rfl, by rw [sumTo_zero]; simp⟩
  case round =>
    obtain ⟨q, hq, rfl, rfl⟩ := hrel
    have hl := HN.out
    have hqx : q < rs.length := by omega
    have hqi : (q : Int) < (n : Int) := by omega
    have hs' := HS.out
    obtain ⟨b, o, rfl, _, _⟩ := hs'.at_ (by rw [flat_len rnC 10 rnC_len]; omega)
    have c9 := hs'.rowj rnC_len hqx 9 rfl
    have h0 := HSZ.out q (by omega)
    rw [sumTo_zero] at h0
    have h1 := HI.out
    have h2 := HSM.out q hq
    have h3 := HSS.out q hqx
    have h5 := hc q hqx
    clear hs' hl
    by_cases hlt : q < k
    · have h4 := HSM.out (q + 1) (by omega)
      have hge : rs[q].count ≤ (i : Int) - S.sumTo rs q := by omega
      have e1 : IntKind.i64.wrap ((i : Int) - S.sumTo rs q - rs[q].count) = (i : Int) - S.sumTo rs (q + 1) := by
        rw [IntWalk.i64_in _ (by omega)]; omega
      have hd : decide (rs[q].count ≤ (i : Int) - S.sumTo rs q) = true := decide_eq_true hge
      clear h0 h1 h2 h3 h4 h5
      generalize hs1 : S.sumTo rs (q + 1) = s1 at *
      have HS1 := Lib.hid hs1
      clear hs1
      generalize S.sumTo rs q = s0 at *
      generalize rs[q].count = cq at *
      go_wp2
      go_round
      case rel => exact ⟨q + 1, by omega, by go_num, by rw [HS1.out]⟩
      case measure => simp [intOf]; omega
    · have hqk : q = k := by omega
      subst hqk
      have hj' := HJ.out
      have hlt2 : ¬ rs[q].count ≤ (i : Int) - S.sumTo rs q := by omega
      have HE := Lib.hid (show (i : Int) - S.sumTo rs q = j by omega)
      clear h0 h1 h2 h3 hj'
      generalize (i : Int) - S.sumTo rs q = v at *
      generalize rs[q].count = cq at *
      go_wp2
      go_ret2
      exact ⟨ret_2 rfl HE.out, rfl⟩
structure Lies (l : List BarR) (rs : List Rn) (i k j k0 : Nat) (r : BarR) : Prop where
  st : Stands (bars l) rs i k j k0 r.b
  get : l[k0]? = some r
  cnt : ∀ k (hk : k < rs.length), 0 ≤ rs[k].count ∧ rs[k].count ≤ 1000
  lim : i ≤ 1000000
theorem lies_of {l : List BarR} {rs : List Rn} (h : S.laid (bars l) rs = true) {i : Nat} (hi : i < (S.mains (bars l) rs).length) : ∃ k j k0 r, Lies l rs i k j k0 r := by
  obtain ⟨k, j, k0, b, hs⟩ := stands_of h hi
  have hg := hs.ok.get
  rw [List.getElem?_map] at hg
  cases hr : l[k0]? with
  | none => rw [hr] at hg; cases hg
  | some r =>
    rw [hr] at hg
    simp only [Option.map_some, Option.some.injEq] at hg
    subst hg
    simp only [S.laid, Bool.and_eq_true, decide_eq_true_eq] at h
    have hml := mains_len h.2 (by omega)
    exact ⟨k, j, k0, r, hs, hr, fun k hk => by have := right_count (runs_in h.2 (List.getElem_mem hk)); omega, by omega⟩
set_option maxHeartbeats 1000000 in
theorem rbar16_any (l : List BarR) (rs : List Rn) (A : Option Addr) (n c : Nat) (A' : Option Addr) (n' c' : Nat) (B : Nat) (w : World) (hB : B ≤ w.heap.size) (hA : BarsAt w B A n l) (hR : RunsAt w B A' n' rs) (i k j k0 : Nat) (r : BarR) (hL : Lies l rs i k j k0 r) :
    Calls Tryz.prog 102 #[.slice A n c, .slice A' n' c', .int .i64 i] w fun e w' => e = .returned (barV r.b r.A r.n r.c) ∧ Below w.heap.size w w' := by
  have HA := Lib.hid hA
  have hkx := hL.st.lt
  have hkn : k < n' := by have := hR.len; omega
  have hki : (k : Int) < (n' : Int) := by omega
  have HP := Lib.hid (fun (W : World) (hw : B ≤ W.heap.size) (hh : RunsAt W B A' n' rs) => rplace_any rs A' n' c' B W hw hh (fun k hk => (hL.cnt k hk).1) i k j hkx hL.st.sum hL.st.inr hL.lim)
  have HR := Lib.hid hR
  have hix := hL.st.ok.index
  obtain ⟨hk0, hrg⟩ := List.getElem?_eq_some_iff.1 hL.get
  have hk0n : k0 < n := by have := hA.len; omega
  have hk0i : (k0 : Int) < (n : Int) := by omega
  have HF := Lib.hid (fun (W : World) (hw : B ≤ W.heap.size) (hh : BarsAt W B A n l) => hix ▸ rfind14_any l rs[k].mark A n c B W hw hh)
  have hs' := hR.cells
  obtain ⟨b, o, hAe, hbB, _⟩ := hs'.at_ (by rw [flat_len rnC 10 rnC_len]; omega)
  subst hAe
  have c0 := hs'.row0 rnC_len hkx rfl
  have hs2 := hA.cells
  obtain ⟨b2, o2, hAe2, hbB2, _⟩ := hs2.at_ (by rw [flat_len barC 5 barC_len]; omega)
  subst hAe2
  have d0 := hs2.row0 barC_len hk0 rfl
  have d1 := hs2.rowj barC_len hk0 1 rfl
  have d2 := hs2.rowj barC_len hk0 2 rfl
  have d3 := hs2.rowj barC_len hk0 3 rfl
  have d4 := hs2.rowj barC_len hk0 4 rfl
  rw [hrg] at d0 d1 d2 d3 d4
  have hb1 : b < w.heap.size := by omega
  have hb2 : b2 < w.heap.size := by omega
  clear hA hR hs' hs2 hix hrg
  clear hL
  generalize rs[k].mark = mk at *
  unfold barV
  go_enter Tryz.func102, Tryz.ntmps102
  go_wp2_with (first
    | (go_at_call 161; (with_reducible refine (HP.out _ (size_via hB bel) (HR.out.at_ hB bel)).mono ?_); rintro e w' ⟨rfl, rfl⟩)
    | (go_at_call 162; (with_reducible refine (HF.out _ (size_via hB bel) (HA.out.at_ hB bel)).mono ?_); rintro e w2 ⟨rfl, hbw2⟩; obtain ⟨hcw2, hfw2⟩ := bcell hbw2; have hzw2_0 : w.heap.size < w2.heap.size := lt_via hbw2 (by first | omega | (simp; done) | (simp; omega))))
  have hbel : Below w.heap.size w w2 := bel
  exact bodyPost_ret (v := .agg #[.string r.b.mark, .int .i64 r.b.size, .int .i64 r.b.count, .int .i64 r.b.code, .slice r.A r.n r.c]) (by simp [results, Tryz.results102, go_sem, *]) rfl ⟨rfl, (((((hbel.setCell (Nat.le_refl _) _).setCell (Nat.le_refl _) _).setCell (Nat.le_refl _) _).setCell (Nat.le_refl _) _).setCell (Nat.le_refl _) _)⟩
def S.ptBox (p : Pt) : Bx := ⟨p, p⟩
theorem join_self (p : Pt) : S.join (S.ptBox p) (S.ptBox p) = S.ptBox p := by simp [S.join, S.ptBox]
def S.legB (p q : Pt) : Bx := S.join (S.ptBox p) (S.ptBox q)
def S.ptD (l : List Pt) (k : Nat) : Pt := (l[k]?).getD ⟨0, 0, 0⟩
def S.legsTo (l : List Pt) (m : Nat) : List Bx := (List.range m).map fun k => S.legB (S.ptD l k) (S.ptD l (k + 1))
def S.legsL (l : List Pt) : List Bx := S.legsTo l (l.length - 1)
theorem legsTo_len (l : List Pt) (m : Nat) : (S.legsTo l m).length = m := by simp [S.legsTo]
theorem legsTo_snoc (l : List Pt) (m : Nat) : S.legsTo l (m + 1) = S.legsTo l m ++ [S.legB (S.ptD l m) (S.ptD l (m + 1))] := by simp [S.legsTo, List.range_succ]
theorem hull_two (p q : Pt) : S.hull (S.ptBox p) [S.ptBox p, S.ptBox q] = S.legB p q := by
  show S.join (S.join (S.ptBox p) (S.ptBox p)) (S.ptBox q) = _
  rw [join_self]
  rfl
theorem isMainB_iff {b : Bx} : S.isMainB b = true ↔ b.lo.x < b.hi.x ∧ b.lo.y = b.hi.y ∧ b.lo.z = b.hi.z := by simp [S.isMainB, and_assoc]
theorem ptD_get {l : List Pt} {k : Nat} (h : k < l.length) : l[k]? = some (S.ptD l k) := by simp [S.ptD, List.getElem?_eq_getElem h]
theorem Cells.two {w : World} {B b o : Nat} {l : List Pt} (h : Cells w B (some ⟨b, o, none⟩) (l.flatMap ptC)) {k : Nat} (hk : k + 1 < l.length) : Cells w B (some ⟨b, o + k * 3, none⟩) ([S.ptD l k, S.ptD l (k + 1)].flatMap ptC) := by
  obtain ⟨b', o', he, hb, _⟩ := h.at_ (by rw [flat_len ptC 3 ptC_len]; omega)
  injection he with he
  injection he with h1 h2
  subst h1 h2
  obtain ⟨c0, c1, c2⟩ := h.pts (ptD_get (show k < l.length by omega))
  obtain ⟨d0, d1, d2⟩ := h.pts (ptD_get hk)
  refine .inr ⟨b, o + k * 3, rfl, hb, fun j v hv => ?_⟩
  have e : o + (k + 1) * 3 = o + k * 3 + 3 := by omega
  rw [e] at d0 d1 d2
  simp only [List.flatMap_cons, List.flatMap_nil, List.append_nil, List.cons_append, List.nil_append] at hv
  have hj : j < 6 := by
    have := (List.getElem?_eq_some_iff.1 hv).1
    simpa using this
  have : j = 0 ∨ j = 1 ∨ j = 2 ∨ j = 3 ∨ j = 4 ∨ j = 5 := by omega
  rcases this with rfl | rfl | rfl | rfl | rfl | rfl
  all_goals (simp only [List.getElem?_cons_zero, List.getElem?_cons_succ, Option.some.injEq] at hv; subst hv)
  · exact c0
  · exact c1
  · exact c2
  · exact d0
  · exact d1
  · exact d2
theorem isMain_any (b : Bx) (w : World) :
    Calls Tryz.prog 219 #[boxV b] w fun e w' => e = .returned (.bool (S.isMainB b)) ∧ Below w.heap.size w w' := by
  have H := Lib.hid (show S.isMainB b = (decide (b.lo.x < b.hi.x) && decide (b.lo.y = b.hi.y) && decide (b.lo.z = b.hi.z)) from rfl)
  unfold boxV
  go_enter Tryz.func219, Tryz.ntmps219
  go_wp2
  all_goals (go_ret; exact ⟨ret_b (by rw [H.out, Bool.eq_iff_iff]; all_goals (first | (simp at *; done) | (simp at *; omega))), bel⟩)
theorem notok_any (b : Bx) (w : World) : Calls Tryz.prog 217 #[boxV b] w fun e w' => e = .returned (.bool (S.boxNot b)) ∧ Below w.heap.size w w' := by
  have HV := Lib.hid (fun w => bvalid_any b w)
  unfold boxV
  go_enter Tryz.func217, Tryz.ntmps217
  go_wp2_with (go_at_call 107; (with_reducible refine (HV.out _).mono ?_); rintro e w1 ⟨rfl, hbw1⟩; obtain ⟨hcw1, hfw1⟩ := bcell hbw1; have hzw1_0 : w.heap.size < w1.heap.size := lt_via hbw1 (by first | omega | (simp; done) | (simp; omega)))
  go_ret
  exact ⟨rfl, bel⟩
abbrev S.pbox (p : Pt) : Bx := ⟨p, p⟩
def S.touch (xs : List Bx) (j : Nat) (p : Pt) : Bool := S.cont (xs.getD j S.zbox) (S.pbox p)
def S.bent (xs : List Bx) (k : Nat) (p : Pt) : Bool := (decide (0 < k) && S.touch xs (k - 1) p) || (decide (k + 1 < xs.length) && S.touch xs (k + 1) p)
def S.heads (r : Rule) (m : Mem) (b : Bar) : Bool := S.rule r && S.member m && S.bar b
def S.given (r : Rule) (m : Mem) (b : Bar) (xs : List Bx) : Int :=
  if S.heads r m b = false then 1 else if anyb xs S.boxNot = true then 1 else if xs.length = (S.legsOf b.code).length then (if idxf xs S.isMainB < 0 then 12 else 0) else 3
structure EndsAt (w : World) (B : Nat) (A : Option Addr) (n : Nat) (A' : Option Addr) (n' : Nat) (m : Mem) (D : Option Addr) (dn : Nat) (b : Bar) (L : Option Addr) (k : Nat) (xs : List Bx) : Prop where
  sol : SolAt w B A n A' n' m.boxes m.holes
  bar : BarAt w B D dn b
  legs : Cells w B L (xs.flatMap boxC)
  len : xs.length = k
  max : k ≤ 9223372036854775807
  name : m.name.size ≤ 9223372036854775807
theorem EndsAt.at_ {w w' : World} {B : Nat} {A : Option Addr} {n : Nat} {A' : Option Addr} {n' : Nat} {m : Mem} {D : Option Addr} {dn : Nat} {b : Bar} {L : Option Addr} {k : Nat} {xs : List Bx}
    (h : EndsAt w B A n A' n' m D dn b L k xs) (hB : B ≤ w.heap.size) (hb : Below w.heap.size w w') : EndsAt w' B A n A' n' m D dn b L k xs :=
  ⟨h.sol.at_ hB hb, h.bar.at_ hB hb, h.legs.below (hb.mono hB), h.len, h.max, h.name⟩
theorem given_zero {r : Rule} {m : Mem} {b : Bar} {xs : List Bx} (h : S.given r m b xs = 0) : S.heads r m b = true ∧ anyb xs S.boxNot = false ∧ xs.length = (S.legsOf b.code).length ∧ 0 ≤ idxf xs S.isMainB := by
  unfold S.given at h
  cases h1 : S.heads r m b
  · rw [h1] at h; simp at h
  · cases h2 : anyb xs S.boxNot
    · by_cases h3 : xs.length = (S.legsOf b.code).length
      · by_cases h4 : idxf xs S.isMainB < 0
        · simp [h1, h2, h3, h4] at h
        · exact ⟨rfl, rfl, h3, by omega⟩
      · simp [h1, h2, h3] at h
    · simp [h1, h2] at h
theorem idxf_some {α : Type} {xs : List α} {p : α → Bool} (h : 0 ≤ idxf xs p) : ∃ k : Nat, ∃ hk : k < xs.length, idxf xs p = k ∧ p xs[k] = true := by
  unfold idxf at h ⊢
  cases hf : xs.findIdx? p with
  | none => rw [hf] at h; simp at h
  | some k =>
    obtain ⟨hk, hp, _⟩ := List.findIdx?_eq_some_iff_getElem.1 hf
    exact ⟨k, hk, rfl, hp⟩
def S.endLen (r : Rule) (m : Mem) (b : Bar) (xs : List Bx) (k : Nat) (p : Pt) : Int := S.length r b.size (S.poor m.boxes (xs.getD k S.zbox)) (S.bent xs k p)
theorem bar_size {b : Bar} (h : S.bar b = true) : S.size b.size = true := by
  simp only [S.bar, S.barHead, Bool.and_eq_true] at h
  exact h.1.1.1.1.2
theorem right_pts {bs : List Bar} {r : Rn} {k0 : Nat} {b : Bar} (ho : RunOk bs r k0 b) (hr : S.right bs r = true) : S.rightPts b r = true := by
  unfold S.right at hr
  rw [Bool.and_eq_true, ho.at_] at hr
  exact hr.2
theorem laid_near {bs : List Bar} {r : Rn} {k0 : Nat} {b : Bar} (ho : RunOk bs r k0 b) (hr : S.right bs r = true) {n : Nat} (hn : (n : Int) < r.count) : S.near (S.laidPath b r n) 1048576 = true := by
  have hp := right_pts ho hr
  unfold S.rightPts at hp
  rw [Bool.and_eq_true, List.all_eq_true, List.all_eq_true] at hp
  rw [← laid_pts ho.turn ho.bar, List.all_eq_true]
  intro p hpm
  have h0 := hp.1 p hpm
  have h1 := hp.2 p hpm
  unfold S.ptOk S.laidPt at *
  by_cases hz : n = 0
  · subst hz
    exact h0
  · rw [if_pos (by omega)] at h1
    rw [if_neg (by omega)] at h0
    rw [if_pos (by omega)]
    generalize S.plus p r.at_ 1 = q at *
    obtain ⟨ax, ay, az⟩ := near1_out h0
    obtain ⟨bx, by', bz⟩ := near1_out h1
    rw [show S.plus q r.step n = ⟨q.x + n * r.step.x, q.y + n * r.step.y, q.z + n * r.step.z⟩ from rfl]
    have cx := conv ax bx (show (0 : Int) ≤ n by omega) (show (n : Int) ≤ r.count - 1 by omega)
    have cy := conv ay by' (show (0 : Int) ≤ n by omega) (show (n : Int) ≤ r.count - 1 by omega)
    have cz := conv az bz (show (0 : Int) ≤ n by omega) (show (n : Int) ≤ r.count - 1 by omega)
    simp only [S.near1, Bool.and_eq_true, decide_eq_true_eq]
    omega
def BlkE7 (W : World) (g : Nat) (t : TypeId) : Prop := ∃ c0 c1 c2 c3 c4 c5 c6 : Value, Blk W g t #[c0, c1, c2, c3, c4, c5, c6]
theorem BlkE7.newN {W : World} {n : Nat} (hn : W.heap.size = n) (t : TypeId) (c0 c1 c2 c3 c4 c5 c6 : Value) : BlkE7 (W.alloc (.cells #[c0, c1, c2, c3, c4, c5, c6] t)) n t := ⟨c0, c1, c2, c3, c4, c5, c6, Blk.newN hn t _⟩
theorem BlkE7.map {W w : World} {g : Nat} {t : TypeId} (h : BlkE7 W g t) (f : ∀ cs, Blk W g t cs → Blk w g t cs) : BlkE7 w g t := by
  obtain ⟨c0, c1, c2, c3, c4, c5, c6, h⟩ := h
  exact ⟨c0, c1, c2, c3, c4, c5, c6, f _ h⟩
theorem BlkE7.alloc {W : World} {g : Nat} {t : TypeId} (h : BlkE7 W g t) (o : Obj) : BlkE7 (W.alloc o) g t := h.map fun _ h => h.alloc o
theorem BlkE7.drew {W : World} {g : Nat} {t : TypeId} (h : BlkE7 W g t) : BlkE7 W.drew g t := h
theorem BlkE7.via {W w : World} {g : Nat} {t : TypeId} (h : BlkE7 W g t) (hb : Below W.heap.size W w) : BlkE7 w g t := h.map fun _ h => h.via hb
theorem Blk.set7 {W : World} {g : Nat} {t : TypeId} (h : BlkE7 W g t) (v0 v1 v2 v3 v4 v5 v6 : Value) : Blk (((((((W.setCell ⟨g, 0, none⟩ v0).setCell ⟨g, 1, none⟩ v1).setCell ⟨g, 2, none⟩ v2).setCell ⟨g, 3, none⟩ v3).setCell ⟨g, 4, none⟩ v4).setCell ⟨g, 5, none⟩ v5).setCell ⟨g, 6, none⟩ v6) g t #[v0, v1, v2, v3, v4, v5, v6] := by
  obtain ⟨c0, c1, c2, c3, c4, c5, c6, hB⟩ := h
  have h9 := ((((((hB.set 0 v0).set 1 v1).set 2 v2).set 3 v3).set 4 v4).set 5 v5).set 6 v6
  simp only [List.setIfInBounds_toArray, List.set_cons_zero, List.set_cons_succ] at h9
  exact h9
theorem Blk.far7 {W : World} {g g' : Nat} {t : TypeId} {cs : Array Value} (h : Blk W g' t cs) (hn : g ≠ g') (v0 v1 v2 v3 v4 v5 v6 : Value) : Blk (((((((W.setCell ⟨g, 0, none⟩ v0).setCell ⟨g, 1, none⟩ v1).setCell ⟨g, 2, none⟩ v2).setCell ⟨g, 3, none⟩ v3).setCell ⟨g, 4, none⟩ v4).setCell ⟨g, 5, none⟩ v5).setCell ⟨g, 6, none⟩ v6) g' t cs :=
  ((((((h.far hn.symm _).far hn.symm _).far hn.symm _).far hn.symm _).far hn.symm _).far hn.symm _).far hn.symm _
theorem BlkE7.far7 {W : World} {g g' : Nat} {t : TypeId} (h : BlkE7 W g' t) (hn : g ≠ g') (v0 v1 v2 v3 v4 v5 v6 : Value) : BlkE7 (((((((W.setCell ⟨g, 0, none⟩ v0).setCell ⟨g, 1, none⟩ v1).setCell ⟨g, 2, none⟩ v2).setCell ⟨g, 3, none⟩ v3).setCell ⟨g, 4, none⟩ v4).setCell ⟨g, 5, none⟩ v5).setCell ⟨g, 6, none⟩ v6) g' t := h.map fun _ h => h.far7 hn _ _ _ _ _ _ _
theorem at_load {P : Program} {ops : Array Oper} {Q : Exit → Act → World → Prop} {rest : List Oper} {a : Act} {w : World} (ty : TypeId) (s : Nat) {dst : Option Nat} {t : TypeId} {pos : String} {after : Array Edge}
    (h : wpList P ops Q ({ dst := dst, op := .load ty (.tmp s), type := t, pos := pos, after := after, guard := none } :: rest) a w) : wpList P ops Q ({ dst := dst, op := .load ty (.tmp s), type := t, pos := pos, after := after, guard := none } :: rest) a w := h
theorem Blk.there {w : World} {g : Nat} {t : TypeId} {cs : Array Value} (h : Blk w g t cs) {n : Nat} (hn : n ≤ cs.size) : w.there g 0 n := fun j hj => ⟨by rw [Nat.zero_add, h.cell]; simp; omega, h.frozen _⟩
theorem Blk.put {t : TypeId} {g : Nat} : ∀ (vs : List Value) (o : Nat) (w : World) (cs : Array Value), Blk w g t cs → o + vs.length ≤ cs.size →
    ∃ cs', Blk (w.setCells g o vs) g t cs' ∧ cs'.size = cs.size ∧ ∀ j, cs'[j]? = if o ≤ j ∧ j < o + vs.length then vs[j - o]? else cs[j]? := by
  intro vs
  induction vs with
  | nil => intro o w cs h _; exact ⟨cs, h, rfl, fun j => by rw [if_neg (by simp)]⟩
  | cons v r ih =>
    intro o w cs h hl
    simp only [List.length_cons] at hl
    obtain ⟨cs', h1, h2, h3⟩ := ih (o + 1) _ _ (h.set o v) (by simp; omega)
    refine ⟨cs', h1, by simpa using h2, fun j => ?_⟩
    rw [h3 j, Array.getElem?_setIfInBounds]
    simp only [List.length_cons]
    by_cases e : o = j
    · subst e
      rw [if_neg (by omega), if_pos rfl, if_pos (by omega), if_pos (by omega), Nat.sub_self]
      rfl
    · by_cases e2 : o + 1 ≤ j ∧ j < o + 1 + r.length
      · rw [if_pos e2, if_pos (by omega)]
        obtain ⟨m, rfl⟩ : ∃ m, j = o + 1 + m := ⟨j - (o + 1), by omega⟩
        rw [show o + 1 + m - (o + 1) = m by omega, show o + 1 + m - o = m + 1 by omega]
        rfl
      · rw [if_neg e2, if_neg e, if_neg (by omega)]
theorem Blk.put0 {t : TypeId} {g : Nat} {w : World} {cs : Array Value} (h : Blk w g t cs) (vs : Array Value) (hl : vs.size = cs.size) : Blk (w.setCells g 0 vs.toList) g t vs := by
  obtain ⟨cs', h1, h2, h3⟩ := Blk.put vs.toList 0 w cs h (by simp; omega)
  have : cs' = vs := by
    apply Array.ext_getElem?
    intro j
    rw [h3 j]
    by_cases hj : j < vs.size
    · rw [if_pos ⟨by omega, by simpa using hj⟩]
      simp
    · rw [if_neg (by simp; omega), Array.getElem?_eq_none (by omega), Array.getElem?_eq_none (by omega)]
  rw [this] at h1
  exact h1
end Go.Proofs.YtffkmgjmlahfpaaGreat
