/- Contracts of the reference for layers 10 and 23: between, Place, Valid; Find, Valid. Opening arguments: details. -/
import Derived.Test.YtffkmgjmlahfpaaGreatYAC
import Derived.Test.YtffkmgjmlahfpaaGreatYR
import Derived.Test.YtffkmgjmlahfpaaGreatYA
import Derived.Test.YtffkmgjmlahfpaaGreatYP
import Derived.Test.YtffkmgjmlahfpaaGreatYAA
set_option linter.unusedVariables false
set_option linter.unusedSimpArgs false
namespace Go.Proofs.YtffkmgjmlahfpaaGreat
open Go.RowKit
def S.btw (n lo hi : Int) : Bool := decide (lo ≤ n) && decide (n ≤ hi)
theorem rbetween_any (n lo hi : Int) (w : World) : Calls Tryz.prog 103 #[.int .i64 n, .int .i64 lo, .int .i64 hi] w fun e w' => e = .returned (.bool (S.btw n lo hi)) ∧ w = w' := by
  have H := Lib.hid (show S.btw n lo hi = (decide (lo ≤ n) && decide (n ≤ hi)) from rfl)
  go_enter Tryz.func103, Tryz.ntmps103
  go_wp2
  all_goals (go_ret; exact ⟨ret_b (by rw [H.out, Bool.eq_iff_iff]; all_goals (first | (simp; done) | (simp; omega))), rfl⟩)
theorem rplace10_any (n : Int) (w : World) : Calls Tryz.prog 88 #[.int .i64 n] w fun e w' => e = .returned (.bool (S.place n)) ∧ w = w' := by
  have H := Lib.hid (show S.place n = S.btw n (-1048576) 1048576 from rfl)
  have HB := Lib.hid (rbetween_any n (-1048576) 1048576)
  generalize S.btw n (-1048576) 1048576 = t at *
  go_enter Tryz.func88, Tryz.ntmps88
  go_wp2_with (go_at_call 103; (with_reducible refine (HB.out _).mono ?_); rintro e w' ⟨rfl, rfl⟩)
  go_ret
  exact ⟨ret_b H.out.symm, rfl⟩
set_option maxHeartbeats 1000000 in
theorem rsteps_any (l : List Stp) (A : Option Addr) (n c : Nat) (B : Nat) (w : World) (hB : B ≤ w.heap.size) (hA : StepsAt w B A n l) :
    Calls Tryz.prog 50 #[.slice A n c] w fun e w' => e = .returned (.bool (S.steps l)) ∧ Below w.heap.size w w' := by
  have HA := Lib.hid hA
  have HPL := Lib.hid (fun n w => rplace10_any n w)
  have hmx := hA.max
  have hL := hA.len
  clear hA
  by_cases h200 : 200 < n
  · have HS := Lib.hid (show S.steps l = false from by unfold S.steps; rw [hL]; simp; omega)
    clear hL
    go_enter Tryz.func50, Tryz.ntmps50
    go_wp2
    go_ret
    exact ⟨ret_b HS.out.symm, bel⟩
  clear hL
  go_enter Tryz.func50, Tryz.ntmps50
  go_wp2
  go_loopw [3] (fun i wr => ∃ k : Nat, k ≤ n ∧ i = .int .i64 k ∧ (∀ j, j < k → S.stepAt l j = true) ∧ Below w.heap.size w wr) (fun i _ => n - (intOf i).toNat)
  case atStart => exact ⟨0, Nat.zero_le _, rfl, fun j hj => absurd hj (by omega), Below.refl _ _⟩
  case round =>
    obtain ⟨k, hk, rfl, hno, hbr⟩ := hrel
    have HNO := Lib.hid hno
    clear hno
    by_cases hlt : k < n
    · have hkx : k < l.length := by have := HA.out.len; omega
      have hs' := HA.out.cells.below (hbr.mono hB)
      obtain ⟨b, o, rfl, hbB, _⟩ := hs'.at_ (by rw [flat_len stC 2 stC_len]; omega)
      have hbw : b < wr.heap.size := by have := hbr.size; omega
      have c0 := hs'.row0 stC_len hkx rfl
      have c1 := hs'.rowj stC_len hkx 1 rfl
      have HNS := Lib.hid (fun h => show S.steps l = false from rng_no (p := S.stepAt l) (k := k) hkx h)
      have HGO := Lib.hid (fun (h : S.stepAt l k = true) => show ∀ j, j < k + 1 → S.stepAt l j = true from fun j hj => by
        by_cases hjk : j = k
        · subst hjk; exact h
        · exact HNO.out j (by omega))
      have hge : l[k]? = some l[k] := List.getElem?_eq_getElem hkx
      cases k with
      | zero =>
        have HAT := Lib.hid (show S.stepAt l 0 = (S.place l[0].fro && S.btw l[0].val 0 1099511627776) by unfold S.stepAt S.btw; rw [hge]; simp [Bool.and_assoc])
        have HP0 := Lib.hid (HPL.out l[0].fro)
        have HB0 := Lib.hid (fun w => rbetween_any l[0].val 0 1099511627776 w)
        rw [Nat.zero_mul, Nat.add_zero] at c0 c1
        generalize S.place l[0].fro = t0 at *
        generalize S.btw l[0].val 0 1099511627776 = t1 at *
        generalize l[0] = s at *
        clear hs' hge
        have hcs : t0 = false ∨ (t0 = true ∧ t1 = false) ∨ (t0 = true ∧ t1 = true) := by
          cases t0 <;> cases t1 <;> simp
        rcases hcs with rfl | ⟨rfl, rfl⟩ | ⟨rfl, rfl⟩
        rotate_right
        · have HG := Lib.hid (HGO.out (by rw [HAT.out]; rfl))
          go_upto_region 6 with fail
          refine wp_region_grow (by kernel_rfl) (by kernel_rfl) ?_
          repeat (go_big_quiet_step ((first | (go_at_call 88; exact grow_of_eq (HP0.out _)) | (go_at_call 103; exact grow_of_eq (HB0.out _)))))
          all_goals (refine wpQuiet_nil ?_; intro wg hbwg; obtain ⟨hcwg, hfwg⟩ := bcell hbwg)
          go_wp2
          go_roundw
          case rel => exact ⟨0 + 1, by omega, by go_num, HG.out, bel⟩
          case measure => simp [intOf]; omega
        all_goals (
          have HG := Lib.hid (HNS.out (by rw [HAT.out]; rfl))
          go_upto_region 6 with fail
          refine wp_region_grow (by kernel_rfl) (by kernel_rfl) ?_
          repeat (go_big_quiet_step ((first | (go_at_call 88; exact grow_of_eq (HP0.out _)) | (go_at_call 103; exact grow_of_eq (HB0.out _)))))
          all_goals (refine wpQuiet_nil ?_; intro wg hbwg; obtain ⟨hcwg, hfwg⟩ := bcell hbwg)
          go_wp2
          go_ret
          exact ⟨ret_b HG.out.symm, bel⟩)
      | succ j =>
        have hjx : j < l.length := by omega
        have d0 := hs'.row0 stC_len hjx rfl
        have HAT := Lib.hid (show S.stepAt l (j + 1) = (S.place l[j + 1].fro && S.btw l[j + 1].val 0 1099511627776 && decide (l[j].fro < l[j + 1].fro)) by unfold S.stepAt S.btw; rw [hge]; simp only []; rw [List.getElem?_eq_getElem hjx]; simp [Bool.and_assoc])
        have HP0 := Lib.hid (HPL.out l[j + 1].fro)
        have HB0 := Lib.hid (fun w => rbetween_any l[j + 1].val 0 1099511627776 w)
        generalize S.place l[j + 1].fro = t0 at *
        generalize S.btw l[j + 1].val 0 1099511627776 = t1 at *
        generalize l[j + 1] = s at *
        generalize l[j] = p at *
        clear hs' hge
        have hk0 : (0 : Int) < ((j + 1 : Nat) : Int) := by omega
        have e1 : IntKind.i64.wrap (((j + 1 : Nat) : Int) - 1) = (j : Nat) := by rw [IntWalk.i64_in _ (by omega)]; omega
        have hjn : (j : Int) < n := by omega
        have hcs : t0 = false ∨ (t0 = true ∧ t1 = false) ∨ (t0 = true ∧ t1 = true ∧ s.fro ≤ p.fro) ∨ (t0 = true ∧ t1 = true ∧ ¬ s.fro ≤ p.fro) := by
          cases t0 <;> cases t1 <;> simp <;> omega
        rcases hcs with rfl | ⟨rfl, rfl⟩ | ⟨rfl, rfl, h3⟩ | ⟨rfl, rfl, h3⟩
        rotate_right
        · have HG := Lib.hid (HGO.out (by rw [HAT.out]; simp; omega))
          go_upto_region 6 with fail
          refine wp_region_grow (by kernel_rfl) (by kernel_rfl) ?_
          repeat (go_big_quiet_step ((first | (go_at_call 88; exact grow_of_eq (HP0.out _)) | (go_at_call 103; exact grow_of_eq (HB0.out _)))))
          all_goals (refine wpQuiet_nil ?_; intro wg hbwg; obtain ⟨hcwg, hfwg⟩ := bcell hbwg)
          go_wp2
          go_roundw
          case rel => exact ⟨j + 1 + 1, by omega, by go_num, HG.out, bel⟩
          case measure => simp [intOf]; omega
        all_goals (
          have HG := Lib.hid (HNS.out (by rw [HAT.out]; simp; try omega))
          go_upto_region 6 with fail
          refine wp_region_grow (by kernel_rfl) (by kernel_rfl) ?_
          repeat (go_big_quiet_step ((first | (go_at_call 88; exact grow_of_eq (HP0.out _)) | (go_at_call 103; exact grow_of_eq (HB0.out _)))))
          all_goals (refine wpQuiet_nil ?_; intro wg hbwg; obtain ⟨hcwg, hfwg⟩ := bcell hbwg)
          go_wp2
          go_ret
          exact ⟨ret_b HG.out.symm, bel⟩)
    · have HG := Lib.hid (show S.steps l = true from rng_yes (p := S.stepAt l) (by have := HA.out.len; simp; omega) (fun j hj => HNO.out j (by have := HA.out.len; omega)))
      go_wp2
      go_ret
      exact ⟨ret_b HG.out.symm, bel⟩
end Go.Proofs.YtffkmgjmlahfpaaGreat
namespace Go.Proofs.YtffkmgjmlahfpaaGreat
open Go.ChangeShapes Go.WideShapes Go.ChangeAt Go.RowKit
section
variable {H : Type} {enc : TypeId × Value → H} {w : World} {base : Nat} {sp : Nat → Bool} {hd : Bool}
theorem cellsBars : Tryz.prog.cellsOf 27 = 1 := by kernel_rfl
theorem cellsRuns : Tryz.prog.cellsOf 28 = 1 := by kernel_rfl
theorem cellsJoints : Tryz.prog.cellsOf 29 = 1 := by kernel_rfl
theorem cellsDems : Tryz.prog.cellsOf 30 = 1 := by kernel_rfl
theorem cellsSteps : Tryz.prog.cellsOf 70 = 1 := by kernel_rfl
theorem cellsRun : Tryz.prog.cellsOf 183 = 10 := by kernel_rfl
theorem cellsTurn : Tryz.prog.cellsOf 181 = 2 := by kernel_rfl
theorem cellsJoint : Tryz.prog.cellsOf 124 = 2 := by kernel_rfl
theorem cellsStep : Tryz.prog.cellsOf 81 = 2 := by kernel_rfl
theorem cellsDem : Tryz.prog.cellsOf 103 = 8 := by kernel_rfl
theorem cellsDetail : Tryz.prog.cellsOf 34 = 19 := by kernel_rfl
instance : Inhabited BarR := ⟨⟨⟨⟨#[]⟩, 0, 0, 0, []⟩, none, 0, 0⟩⟩
instance : Inhabited Rn := ⟨⟨⟨#[]⟩, 0, 0, ⟨0, 0, 0⟩, ⟨0, 0, 0⟩, 0⟩⟩
instance : Inhabited Jn := ⟨⟨0, 0⟩⟩
instance : Inhabited Stp := ⟨⟨0, 0⟩⟩
instance : Inhabited Dm := ⟨⟨⟨#[]⟩, ⟨⟨0, 0, 0⟩, ⟨0, 0, 0⟩⟩, [], none, 0, 0⟩⟩
structure RnI (r : Rn) : Prop where
  tx : I64 r.tx
  ty : I64 r.ty
  at_ : PtI r.at_
  step : PtI r.step
  count : I64 r.count
structure JnI (j : Jn) : Prop where
  first : I64 j.first
  second : I64 j.second
structure StpI (s : Stp) : Prop where
  fro : I64 s.fro
  val : I64 s.val
theorem opn_bar {fuel : Nat} {cs : List Value} {y : Option (DataW H × List MemPlace)} (h : DataW.trod enc Tryz.prog w base sp hd fuel 158 cs = y) (hy : y.isSome = true) :
    ∃ r : BarR, cs = barC r ∧ (BarAt w w.heap.size r.A r.n r.b ∧ r.n ≤ r.c ∧ BarI r.b) := by
  obtain ⟨z, rfl⟩ := Option.isSome_iff_exists.1 hy
  obtain ⟨b, A, n, c, e, h1, h2, _, h3⟩ := open_bar h
  exact ⟨⟨b, A, n, c⟩, e, h1, h2, h3⟩
theorem opn_turn {fuel : Nat} {cs : List Value} {y : Option (DataW H × List MemPlace)} (h : DataW.trod enc Tryz.prog w base sp hd fuel 181 cs = y) (hy : y.isSome = true) :
    ∃ a b : Int, cs = [.int .i64 a, .int .i64 b] ∧ I64 a ∧ I64 b := by
  obtain ⟨z, rfl⟩ := Option.isSome_iff_exists.1 hy
  obtain ⟨xs, n, _, _, hl, hxl, hg⟩ := DataW.trod_struct Tryz.underlying181 h
  rw [cellsTurn] at hl
  obtain ⟨c0, c1, rfl⟩ := len2 hl
  have hs : ∀ i, i < 2 → xs[i]?.isSome = true := fun i hi => by
    have : xs.length = 2 := hxl
    simp [this, hi]
  obtain ⟨n0, e0, b0⟩ := opn_int (hg 0 _ rfl) (hs 0 (by decide))
  obtain ⟨n1, e1, b1⟩ := opn_int (hg 1 _ rfl) (hs 1 (by decide))
  simp [cellsInt] at e0 e1
  subst e0 e1
  exact ⟨n0, n1, rfl, b0, b1⟩
theorem opn_joint {fuel : Nat} {cs : List Value} {y : Option (DataW H × List MemPlace)} (h : DataW.trod enc Tryz.prog w base sp hd fuel 124 cs = y) (hy : y.isSome = true) :
    ∃ j : Jn, cs = jnC j ∧ JnI j := by
  obtain ⟨z, rfl⟩ := Option.isSome_iff_exists.1 hy
  obtain ⟨xs, n, _, _, hl, hxl, hg⟩ := DataW.trod_struct Tryz.underlying124 h
  rw [cellsJoint] at hl
  obtain ⟨c0, c1, rfl⟩ := len2 hl
  have hs : ∀ i, i < 2 → xs[i]?.isSome = true := fun i hi => by
    have : xs.length = 2 := hxl
    simp [this, hi]
  obtain ⟨n0, e0, b0⟩ := opn_int (hg 0 _ rfl) (hs 0 (by decide))
  obtain ⟨n1, e1, b1⟩ := opn_int (hg 1 _ rfl) (hs 1 (by decide))
  simp [cellsInt] at e0 e1
  subst e0 e1
  exact ⟨⟨n0, n1⟩, rfl, ⟨b0, b1⟩⟩
theorem opn_step {fuel : Nat} {cs : List Value} {y : Option (DataW H × List MemPlace)} (h : DataW.trod enc Tryz.prog w base sp hd fuel 81 cs = y) (hy : y.isSome = true) :
    ∃ s : Stp, cs = stC s ∧ StpI s := by
  obtain ⟨z, rfl⟩ := Option.isSome_iff_exists.1 hy
  obtain ⟨xs, n, _, _, hl, hxl, hg⟩ := DataW.trod_struct Tryz.underlying81 h
  rw [cellsStep] at hl
  obtain ⟨c0, c1, rfl⟩ := len2 hl
  have hs : ∀ i, i < 2 → xs[i]?.isSome = true := fun i hi => by
    have : xs.length = 2 := hxl
    simp [this, hi]
  obtain ⟨n0, e0, b0⟩ := opn_int (hg 0 _ rfl) (hs 0 (by decide))
  obtain ⟨n1, e1, b1⟩ := opn_int (hg 1 _ rfl) (hs 1 (by decide))
  simp [cellsInt] at e0 e1
  subst e0 e1
  exact ⟨⟨n0, n1⟩, rfl, ⟨b0, b1⟩⟩
theorem len10 {α : Type} {l : List α} (h : l.length = 10) : ∃ a b c d e f g i j k, l = [a, b, c, d, e, f, g, i, j, k] := by
  match l, h with
  | [a, b, c, d, e, f, g, i, j, k], _ => exact ⟨a, b, c, d, e, f, g, i, j, k, rfl⟩
theorem len8 {α : Type} {l : List α} (h : l.length = 8) : ∃ a b c d e f g i, l = [a, b, c, d, e, f, g, i] := by
  match l, h with
  | [a, b, c, d, e, f, g, i], _ => exact ⟨a, b, c, d, e, f, g, i, rfl⟩
theorem len19 {α : Type} {l : List α} (h : l.length = 19) : ∃ a0 a1 a2 a3 a4 a5 a6 a7 a8 a9 b0 b1 b2 b3 b4 b5 b6 b7 b8, l = [a0, a1, a2, a3, a4, a5, a6, a7, a8, a9, b0, b1, b2, b3, b4, b5, b6, b7, b8] := by
  match l, h with
  | [a0, a1, a2, a3, a4, a5, a6, a7, a8, a9, b0, b1, b2, b3, b4, b5, b6, b7, b8], _ => exact ⟨a0, a1, a2, a3, a4, a5, a6, a7, a8, a9, b0, b1, b2, b3, b4, b5, b6, b7, b8, rfl⟩
theorem opn_run {fuel : Nat} {cs : List Value} {y : Option (DataW H × List MemPlace)} (h : DataW.trod enc Tryz.prog w base sp hd fuel 183 cs = y) (hy : y.isSome = true) :
    ∃ r : Rn, cs = rnC r ∧ (r.mark.size ≤ 9223372036854775807 ∧ RnI r) := by
  obtain ⟨z, rfl⟩ := Option.isSome_iff_exists.1 hy
  obtain ⟨xs, n, _, _, hl, hxl, hg⟩ := DataW.trod_struct Tryz.underlying183 h
  rw [cellsRun] at hl
  obtain ⟨c0, c1, c2, c3, c4, c5, c6, c7, c8, c9, rfl⟩ := len10 hl
  have hs : ∀ i, i < 5 → xs[i]?.isSome = true := fun i hi => by
    have : xs.length = 5 := hxl
    simp [this, hi]
  obtain ⟨m, e0, b0⟩ := opn_str (hg 0 _ rfl) (hs 0 (by decide))
  obtain ⟨t0, t1, e1, b1, b1'⟩ := opn_turn (hg 1 _ rfl) (hs 1 (by decide))
  obtain ⟨p, e2, b2⟩ := opn_pt (hg 2 _ rfl) (hs 2 (by decide))
  obtain ⟨q, e3, b3⟩ := opn_pt (hg 3 _ rfl) (hs 3 (by decide))
  obtain ⟨k, e4, b4⟩ := opn_int (hg 4 _ rfl) (hs 4 (by decide))
  simp [cellsStr, cellsTurn, cellsPt, cellsInt] at e0 e1 e2 e3 e4
  obtain ⟨rfl, rfl⟩ := e1
  obtain ⟨rfl, rfl, rfl⟩ := e2
  obtain ⟨rfl, rfl, rfl⟩ := e3
  subst e0 e4
  have hmx : maxLen ≤ 9223372036854775807 := by unfold maxLen; decide
  exact ⟨⟨m, t0, t1, p, q, k⟩, rfl, by show m.size ≤ _; omega, ⟨b1, b1', b2, b3, b4⟩⟩
theorem opn_steps {fuel : Nat} {cs : List Value} {y : Option (DataW H × List MemPlace)} (h : DataW.trod enc Tryz.prog w base sp hd fuel 70 cs = y) (hy : y.isSome = true) :
    ∃ (A : Option Addr) (n c : Nat) (xs : List Stp), cs = [.slice A n c] ∧ xs.length = n ∧ n ≤ c ∧ c ≤ maxLen ∧ Cells w w.heap.size A (xs.flatMap stC) ∧ ∀ x, x ∈ xs → StpI x :=
  opn_rows Tryz.underlying70 stC 2 (by decide) stC_len cellsStep StpI (fun h hy => opn_step h hy) h hy
theorem opn_dem {fuel : Nat} {cs : List Value} {y : Option (DataW H × List MemPlace)} (h : DataW.trod enc Tryz.prog w base sp hd fuel 103 cs = y) (hy : y.isSome = true) :
    ∃ d : Dm, cs = dmC d ∧ (StepsAt w w.heap.size d.A d.n d.st ∧ d.n ≤ d.c ∧ d.name.size ≤ 9223372036854775807 ∧ BxI d.zone ∧ ∀ s, s ∈ d.st → StpI s) := by
  obtain ⟨z, rfl⟩ := Option.isSome_iff_exists.1 hy
  obtain ⟨xs, n, _, _, hl, hxl, hg⟩ := DataW.trod_struct Tryz.underlying103 h
  rw [cellsDem] at hl
  obtain ⟨c0, c1, c2, c3, c4, c5, c6, c7, rfl⟩ := len8 hl
  have hs : ∀ i, i < 3 → xs[i]?.isSome = true := fun i hi => by
    have : xs.length = 3 := hxl
    simp [this, hi]
  obtain ⟨m, e0, b0⟩ := opn_str (hg 0 _ rfl) (hs 0 (by decide))
  obtain ⟨z, e1, b1⟩ := opn_box (hg 1 _ rfl) (hs 1 (by decide))
  obtain ⟨A, k, c, st, e2, h1, h2, h3, h4, h5⟩ := opn_steps (hg 2 _ rfl) (hs 2 (by decide))
  simp [cellsStr, cellsBox, cellsSteps] at e0 e1 e2
  obtain ⟨rfl, rfl, rfl, rfl, rfl, rfl⟩ := e1
  subst e0 e2
  have hmx : maxLen ≤ 9223372036854775807 := by unfold maxLen; decide
  exact ⟨⟨m, z, st, A, k, c⟩, rfl, ⟨h1, by show k ≤ _; omega, h4⟩, h2, by show m.size ≤ _; omega, b1, h5⟩
theorem opn_bars {fuel : Nat} {cs : List Value} {y : Option (DataW H × List MemPlace)} (h : DataW.trod enc Tryz.prog w base sp hd fuel 27 cs = y) (hy : y.isSome = true) :
    ∃ (A : Option Addr) (n c : Nat) (xs : List BarR), cs = [.slice A n c] ∧ xs.length = n ∧ n ≤ c ∧ c ≤ maxLen ∧ Cells w w.heap.size A (xs.flatMap barC) ∧ ∀ r, r ∈ xs → (BarAt w w.heap.size r.A r.n r.b ∧ r.n ≤ r.c ∧ BarI r.b) :=
  opn_rows Tryz.underlying27 barC 5 (by decide) barC_len cellsBar _ (fun h hy => opn_bar h hy) h hy
theorem opn_runs {fuel : Nat} {cs : List Value} {y : Option (DataW H × List MemPlace)} (h : DataW.trod enc Tryz.prog w base sp hd fuel 28 cs = y) (hy : y.isSome = true) :
    ∃ (A : Option Addr) (n c : Nat) (xs : List Rn), cs = [.slice A n c] ∧ xs.length = n ∧ n ≤ c ∧ c ≤ maxLen ∧ Cells w w.heap.size A (xs.flatMap rnC) ∧ ∀ r, r ∈ xs → (r.mark.size ≤ 9223372036854775807 ∧ RnI r) :=
  opn_rows Tryz.underlying28 rnC 10 (by decide) rnC_len cellsRun _ (fun h hy => opn_run h hy) h hy
theorem opn_joints {fuel : Nat} {cs : List Value} {y : Option (DataW H × List MemPlace)} (h : DataW.trod enc Tryz.prog w base sp hd fuel 29 cs = y) (hy : y.isSome = true) :
    ∃ (A : Option Addr) (n c : Nat) (xs : List Jn), cs = [.slice A n c] ∧ xs.length = n ∧ n ≤ c ∧ c ≤ maxLen ∧ Cells w w.heap.size A (xs.flatMap jnC) ∧ ∀ j, j ∈ xs → JnI j :=
  opn_rows Tryz.underlying29 jnC 2 (by decide) jnC_len cellsJoint JnI (fun h hy => opn_joint h hy) h hy
theorem opn_dems {fuel : Nat} {cs : List Value} {y : Option (DataW H × List MemPlace)} (h : DataW.trod enc Tryz.prog w base sp hd fuel 30 cs = y) (hy : y.isSome = true) :
    ∃ (A : Option Addr) (n c : Nat) (xs : List Dm), cs = [.slice A n c] ∧ xs.length = n ∧ n ≤ c ∧ c ≤ maxLen ∧ Cells w w.heap.size A (xs.flatMap dmC) ∧ ∀ d, d ∈ xs → (StepsAt w w.heap.size d.A d.n d.st ∧ d.n ≤ d.c ∧ d.name.size ≤ 9223372036854775807 ∧ BxI d.zone ∧ ∀ s, s ∈ d.st → StpI s) :=
  opn_rows Tryz.underlying30 dmC 8 (by decide) dmC_len cellsDem _ (fun h hy => opn_dem h hy) h hy
structure DtI (x : Dt) (ds : List Dm) : Prop where
  mem : MemI x.m
  bars : ∀ r, r ∈ x.bs → r.n ≤ r.c ∧ BarI r.b
  runs : ∀ r, r ∈ x.rs → r.mark.size ≤ 9223372036854775807 ∧ RnI r
  laps : ∀ j, j ∈ x.js → JnI j
  dems : ∀ d, d ∈ ds → d.n ≤ d.c ∧ BxI d.zone ∧ ∀ s, s ∈ d.st → StpI s
  rule : RuleI x.rule
  caps : x.mn ≤ x.mc ∧ x.hn ≤ x.hc ∧ x.bn ≤ x.bc ∧ x.rn ≤ x.rc ∧ x.jn ≤ x.jc ∧ x.dn ≤ x.dc
theorem arg_detail {cs : Array Value} {d : DataW H} {p : List MemPlace} (h : DataW.Trod enc Tryz.prog w base sp hd 34 (.agg cs) d p) :
    ∃ (x : Dt) (ds : List Dm), cs = (dtV x).cells ∧ DtOk w x ds ∧ DtI x ds := by
  obtain ⟨fuel, hf⟩ := h
  obtain ⟨xs, n, _, _, hl, hxl, hg⟩ := DataW.trod_struct Tryz.underlying34 hf
  rw [cellsDetail] at hl
  generalize hcl : cs.toList = cl at *
  have hcl2 : (Value.agg cs).cells.toList = cl := hcl
  rw [hcl2] at hl hg
  obtain ⟨a0, a1, a2, a3, a4, a5, a6, a7, a8, a9, b0, b1, b2, b3, b4, b5, b6, b7, b8, rfl⟩ := len19 hl
  have hs : ∀ i, i < 6 → xs[i]?.isSome = true := fun i hi => by
    have : xs.length = 6 := hxl
    simp [this, hi]
  obtain ⟨m, mA, mn, mc, hA, hn, hc, e0, g0, g1, g2, g3, g4, g5⟩ := opn_member (hg 0 _ rfl) (hs 0 (by decide))
  obtain ⟨bA, bn, bc, bs, e1, k1, k2, k3, k4, k5⟩ := opn_bars (hg 1 _ rfl) (hs 1 (by decide))
  obtain ⟨rA, rn, rc, rs, e2, r1, r2, r3, r4, r5⟩ := opn_runs (hg 2 _ rfl) (hs 2 (by decide))
  obtain ⟨jA, jn, jc, js, e3, j1, j2, j3, j4, j5⟩ := opn_joints (hg 3 _ rfl) (hs 3 (by decide))
  obtain ⟨dA, dn, dc, ds, e4, d1, d2, d3, d4, d5⟩ := opn_dems (hg 4 _ rfl) (hs 4 (by decide))
  obtain ⟨q5, hq5⟩ := Option.isSome_iff_exists.1 (hs 5 (by decide))
  have h5 := hg 5 _ rfl
  rw [hq5] at h5
  obtain ⟨rule, e5, u1⟩ := open_rule h5
  simp [cellsMember, cellsBars, cellsRuns, cellsJoints, cellsDems, cellsRule] at e0 e1 e2 e3 e4 e5
  obtain ⟨rfl, rfl, rfl, rfl, rfl, rfl⟩ := e0
  obtain ⟨rfl, rfl, rfl, rfl, rfl, rfl, rfl, rfl, rfl⟩ := e5
  subst e1 e2 e3 e4
  have hmx : maxLen ≤ 9223372036854775807 := by unfold maxLen; decide
  refine ⟨⟨m, mA, mn, mc, hA, hn, hc, bs, bA, bn, bc, rs, rA, rn, rc, js, jA, jn, jc, dA, dn, dc, rule⟩, ds, ?_, ⟨⟨g0, g5.name, ⟨k1, by show bn ≤ _; omega, k4, fun r hr => (k5 r hr).1⟩, ⟨r1, by show rn ≤ _; omega, r4⟩, j1, by show jn ≤ _; omega, j4⟩, ⟨d1, by show dn ≤ _; omega, d4, fun d hd => (d5 d hd).1, fun d hd => (d5 d hd).2.2.1⟩, d2⟩, ⟨g5, fun r hr => (k5 r hr).2, r5, j5, fun d hd => ⟨(d5 d hd).2.1, (d5 d hd).2.2.2⟩, u1, g1, g3, k2, r2, j2, d2⟩⟩
  exact Array.toList_inj.1 hcl
end
end Go.Proofs.YtffkmgjmlahfpaaGreat
