/- Contracts: steps.short, steps.Short. Opening arguments: details. Contracts of the reference for layers 10 and 23: between, Place, Valid; Find, Valid. -/
import Derived.Test.YtnmolefblaahmaaGreatMT
import Derived.Test.YtnmolefblaahmaaGreatMS
set_option linter.unusedVariables false
set_option linter.unusedSimpArgs false
namespace Go.Proofs.YtnmolefblaahmaaGreat
open Go.RowKit
theorem elemSt : Elem Tryz.prog 66 69 (.agg #[.int .i64 0, .int .i64 0]) 2 16 := ⟨Tryz.underlying66, by kernel_rfl, rfl, by decide⟩
def S.shortStF (l : List Stp) : Int × List Stp := l.foldl (fun x s => (s.val, if s.val = x.1 then x.2 else x.2 ++ [s])) (0, [])
def S.shortSt (l : List Stp) : List Stp := (S.shortStF l).2
theorem shortStF_next {l : List Stp} {k : Nat} (h : k < l.length) : S.shortStF (l.take (k + 1)) = (l[k].val, if l[k].val = (S.shortStF (l.take k)).1 then (S.shortStF (l.take k)).2 else (S.shortStF (l.take k)).2 ++ [l[k]]) := by
 have e : l.take (k + 1) = l.take k ++ [l[k]] := by rw [List.take_add_one, List.getElem?_eq_getElem h]; rfl
 unfold S.shortStF
 rw [e, List.foldl_append]
 rfl
theorem shortStF_len (l : List Stp) : (S.shortStF l).2.length ≤ l.length := by
 suffices hs : ∀ (l : List Stp) (x : Int × List Stp), (l.foldl (fun x s => (s.val, if s.val = x.1 then x.2 else x.2 ++ [s])) x).2.length ≤ x.2.length + l.length by
  have := hs l (0, [])
  unfold S.shortStF
  simpa using this
 intro l
 induction l with
 | nil => intro x; simp
 | cons s t ih =>
  intro x
  simp only [List.foldl_cons, List.length_cons]
  have h1 := ih (s.val, if s.val = x.1 then x.2 else x.2 ++ [s])
  have h2 : (if s.val = x.1 then x.2 else x.2 ++ [s]).length ≤ x.2.length + 1 := by split <;> simp
  simp only [] at h1
  generalize (if s.val = x.1 then x.2 else x.2 ++ [s]) = y at *
  generalize (List.foldl (fun x s => (s.val, if s.val = x.1 then x.2 else x.2 ++ [s])) (s.val, y) t).2.length = z at *
  omega
set_option maxHeartbeats 2000000 in
theorem short_any' (l : List Stp) (A : Option Addr) (n c : Nat) (B : Nat) (w : World) (hB : B ≤ w.heap.size) (hA : StepsAt w B A n l) (hm : n ≤ 10000) :
 Calls Tryz.prog 135 #[.slice A n c] w fun e w' => ∃ (A' : Option Addr) (c' : Nat), e = .returned (.slice A' (S.shortSt l).length c') ∧ w'.ownsRow w.heap.size 69 2 (.slice A' (S.shortSt l).length c') (S.shortSt l).length ((S.shortSt l).flatMap stC) ∧ Below w.heap.size w w' := by
 have HN := Lib.hid hA.len
 have hs := hA.cells
 clear hA
 go_enter Tryz.func135, Tryz.ntmps135
 go_wp2
 go_loopw [3, 4, 9] (fun v u i wr => ∃ k : Nat, k ≤ n ∧ i = .int .i64 k ∧ ∃ (la : Int) (out : List Stp), u = .int .i64 la ∧ Hid ((la, out) = S.shortStF (l.take k)) ∧ Row w wr none w.heap.size 69 2 v out.length (out.flatMap stC) ∧ Exc [] w wr) (fun _ _ i _ => n - (intOf i).toNat)
 case atStart => exact ⟨0, Nat.zero_le _, rfl, 0, [], rfl, Lib.hid rfl, Row.none_ _ _ _ _, Exc.refl _ _⟩
 case round =>
  obtain ⟨k, hk, rfl, la, out, rfl, hu, hR, hX⟩ := hrel
  have hbr : Below w.heap.size w wr := hX.below (Nat.le_refl _) (by simp)
  by_cases hlt : k < n
  ·have hkx : k < l.length := by have := HN.out; omega
   have hs' := hs.below (hbr.mono hB)
   obtain ⟨b, o, rfl, hbB, hx⟩ := hs'.at_ (by rw [flat_len stC 2 stC_len]; omega)
   clear hx
   have c0 := hs'.row0 stC_len hkx rfl
   have c1 := hs'.rowj stC_len hkx 1 rfl
   clear hs'
   have hbl : b < wr.heap.size := by have := hbr.size; omega
   have hki : (k : Int) < n := by omega
   have HV := Lib.hid (shortStF_next hkx)
   have hol : out.length ≤ 10000 := by
    have h1 := shortStF_len (l.take k)
    rw [← hu.out, List.length_take] at h1
    simp only [] at h1
    omega
   rw [← hu.out] at HV
   generalize l[k] = r at *
   by_cases h1 : r.val = la
   ·have hb1 : (r.val != la) = false := by simp [h1]
    have HV2 := Lib.hid (HV.out.trans (by rw [if_pos h1]))
    clear h1
    go_wp2
    go_roundw
    case rel => exact ⟨k + 1, by omega, by go_num, r.val, out, rfl, Lib.hid HV2.out.symm, Row.alloc hR _, hX.alloc _⟩
    case measure => simp [intOf]; omega
   ·have hb1 : (r.val != la) = true := by simp [h1]
    have HV2 := Lib.hid (HV.out.trans (by rw [if_neg h1]))
    clear h1
    go_upto_region 6 with fail
    have hS := Blk.new wr 69 #[.int .i64 r.fro, .int .i64 r.val]
    have hR1 := hR.alloc (.cells #[.int .i64 r.fro, .int .i64 r.val] 69)
    have hX1 := hX.alloc (.cells #[.int .i64 r.fro, .int .i64 r.val] 69)
    generalize (wr.alloc (.cells #[.int .i64 r.fro, .int .i64 r.val] 69)) = W1 at *
    have x0 := hS.cell 0
    have x1 := hS.cell 1
    have xl := hS.lt
    simp only [List.getElem?_toArray, List.getElem?_cons_zero, List.getElem?_cons_succ] at x0 x1
    have HR1 := Lib.hid hR1
    have HS := Lib.hid hS
    have HX1 := Lib.hid hX1
    have hss := hX.size
    have HLT := Lib.hid hR.own.lt
    generalize wr.heap.size = gs at *
    have hbE : w.heap.size ≤ W1.heap.size := by omega
    clear hR hX hR1 hX1 hbr c0 c1 hbl
    go_wp2_with (at_builtin; refine wpList_push rfl (.tmp 17) (.tmp 19) _ rfl elemSt (HR1.out.alloc _) (HX1.out.alloc _) (by simp) (Nat.le_refl _) rfl W1.heap.size 1 1 [.int .i64 r.fro, .int .i64 r.val] rfl rfl ?_ (by simp [Value.oneCell']) (by unfold maxLen; omega) (by omega) ?_; (· intro j u hu; have := (Cells.newRow W1 #[.int .i64 r.fro, .int .i64 r.val] 69 (0, 0)).get (k := j) (v := u) hu; simpa using this); intro v2 wE hRE hXE hOE; have y1 := (hOE gs (by simp; omega) (fun he => by have := (HLT.out gs he).2; omega)).trans (Below.heap_alloc _ _ gs xl); have hSE : Blk wE gs 69 #[.int .i64 r.fro, .int .i64 r.val] := y1.trans HS.out; have x1E := hSE.cell 1; have xlE := hSE.lt; simp only [List.getElem?_toArray, List.getElem?_cons_zero, List.getElem?_cons_succ] at x1E; clear hSE y1)
    go_roundw
    case rel => exact ⟨k + 1, by omega, by go_num, r.val, out ++ [r], rfl, Lib.hid HV2.out.symm, by simpa using hRE, hXE⟩
    case measure => simp [intOf]; omega
  ·have hr2 := hR.own
   have HE := Lib.hid (show out = S.shortSt l by have := hu.out; rw [List.take_of_length_le (by have := HN.out; omega)] at this; unfold S.shortSt; rw [← this])
   clear hu
   have hol : out.length ≤ 10000 := by
    rw [HE.out]
    have h1 := shortStF_len l
    have := HN.out
    unfold S.shortSt
    omega
   obtain ⟨A5, c5, rfl, _, _, _⟩ := own_form hr2 (by unfold maxLen; omega)
   go_wp2
   go_ret
   rw [← HE.out]
   exact ⟨A5, c5, rfl, hr2, hbr⟩
theorem Short_any (l : List Stp) (A : Option Addr) (n c : Nat) (B : Nat) (w : World) (hB : B ≤ w.heap.size) (hA : StepsAt w B A n l) (hm : n ≤ 10000) (h : S.steps l = true) :
 Calls Tryz.prog 92 #[.slice A n c] w fun e w' => ∃ (A' : Option Addr) (c' : Nat), e = .returned (.tuple #[.slice A' (S.shortSt l).length c', .int .i64 0]) ∧ w'.ownsRow w.heap.size 69 2 (.slice A' (S.shortSt l).length c') (S.shortSt l).length ((S.shortSt l).flatMap stC) ∧ Below w.heap.size w w' := by
 have HV := Lib.hid (fun (W : World) (hw : Below w.heap.size w W) => h ▸ steps_any l A n c B W (dsize hB hw) (hA.below (hw.mono hB)))
 have HT := Lib.hid (fun (W : World) (hw : Below w.heap.size w W) => short_any' l A n c B W (dsize hB hw) (hA.below (hw.mono hB)) hm)
 clear hA h
 go_enter Tryz.func92, Tryz.ntmps92
 go_wp2_with (first
  | (go_at_call 82; (with_reducible refine (HV.out _ belr).mono ?_); rintro e w1 ⟨rfl, hbw1⟩; obtain ⟨hcw1, hfw1⟩ := bcell hbw1)
  | (go_at_call 135; (with_reducible refine (HT.out _ belr).mono ?_); rintro e w2 ⟨A2, c2, rfl, ho2, hbw2⟩))
 go_ret2
 exact ⟨A2, c2, rfl, own_mono ho2 hbw1.size, bel⟩
end Go.Proofs.YtnmolefblaahmaaGreat
namespace Go.Proofs.YtnmolefblaahmaaGreat
open Go.ChangeShapes Go.WideShapes Go.ChangeAt Go.RowKit
section
variable {H : Type} {enc : TypeId × Value → H} {w : World} {base : Nat} {sp : Nat → Bool} {hd : Bool}
theorem cellsSteps : Tryz.prog.cellsOf 66 = 1 := by kernel_rfl
theorem cellsStep : Tryz.prog.cellsOf 69 = 2 := by kernel_rfl
instance : Inhabited BarR := ⟨⟨⟨⟨#[]⟩, 0, 0, 0, []⟩, none, 0, 0⟩⟩
instance : Inhabited Rn := ⟨⟨⟨#[]⟩, 0, 0, ⟨0, 0, 0⟩, ⟨0, 0, 0⟩, 0⟩⟩
instance : Inhabited Jn := ⟨⟨0, 0⟩⟩
instance : Inhabited Stp := ⟨⟨0, 0⟩⟩
instance : Inhabited Dm := ⟨⟨⟨#[]⟩, ⟨⟨0, 0, 0⟩, ⟨0, 0, 0⟩⟩, [], none, 0, 0⟩⟩
structure RnI (r : Rn) : Prop where
 tx : I64 r.tx
 ty : I64 r.ty
 at_ : PtI r.at_
 step : PtI r.step
 count : I64 r.count
structure JnI (j : Jn) : Prop where
 first : I64 j.first
 second : I64 j.second
structure StpI (s : Stp) : Prop where
 fro : I64 s.fro
 val : I64 s.val
theorem opn_step {fuel : Nat} {cs : List Value} {y : Option (DataW H × List MemPlace)} (h : DataW.trod enc Tryz.prog w base sp hd fuel 69 cs = y) (hy : y.isSome = true) :
 ∃ s : Stp, cs = stC s ∧ StpI s := by
 obtain ⟨z, rfl⟩ := Option.isSome_iff_exists.1 hy
 obtain ⟨xs, n, _, _, hl, hxl, hg⟩ := DataW.trod_struct Tryz.underlying69 h
 rw [cellsStep] at hl
 obtain ⟨c0, c1, rfl⟩ := len2 hl
 have hs : ∀ i, i < 2 → xs[i]?.isSome = true := fun i hi => by
  have : xs.length = 2 := hxl
  simp [this, hi]
 obtain ⟨n0, e0, b0⟩ := opn_int (hg 0 _ rfl) (hs 0 (by decide))
 obtain ⟨n1, e1, b1⟩ := opn_int (hg 1 _ rfl) (hs 1 (by decide))
 simp [cellsInt] at e0 e1
 subst e0 e1
 exact ⟨⟨n0, n1⟩, rfl, ⟨b0, b1⟩⟩
theorem opn_steps {fuel : Nat} {cs : List Value} {y : Option (DataW H × List MemPlace)} (h : DataW.trod enc Tryz.prog w base sp hd fuel 66 cs = y) (hy : y.isSome = true) :
 ∃ (A : Option Addr) (n c : Nat) (xs : List Stp), cs = [.slice A n c] ∧ xs.length = n ∧ n ≤ c ∧ c ≤ maxLen ∧ Cells w w.heap.size A (xs.flatMap stC) ∧ ∀ x, x ∈ xs → StpI x :=
 opn_rows Tryz.underlying66 stC 2 (by decide) stC_len cellsStep StpI (fun h hy => opn_step h hy) h hy
structure DtI (x : Dt) (ds : List Dm) : Prop where
 mem : MemI x.m
 bars : ∀ r, r ∈ x.bs → r.n ≤ r.c ∧ BarI r.b
 runs : ∀ r, r ∈ x.rs → r.mark.size ≤ 9223372036854775807 ∧ RnI r
 laps : ∀ j, j ∈ x.js → JnI j
 dems : ∀ d, d ∈ ds → d.n ≤ d.c ∧ BxI d.zone ∧ ∀ s, s ∈ d.st → StpI s
 rule : RuleI x.rule
 caps : x.mn ≤ x.mc ∧ x.hn ≤ x.hc ∧ x.bn ≤ x.bc ∧ x.rn ≤ x.rc ∧ x.jn ≤ x.jc ∧ x.dn ≤ x.dc
end
end Go.Proofs.YtnmolefblaahmaaGreat
namespace Go.Proofs.YtnmolefblaahmaaGreat
open Go.RowKit
def S.btw (n lo hi : Int) : Bool := decide (lo ≤ n) && decide (n ≤ hi)
theorem rbetween_any (n lo hi : Int) (w : World) : Calls Tryz.prog 87 #[.int .i64 n, .int .i64 lo, .int .i64 hi] w fun e w' => e = .returned (.bool (S.btw n lo hi)) ∧ w = w' := by
 have H := Lib.hid (show S.btw n lo hi = (decide (lo ≤ n) && decide (n ≤ hi)) from rfl)
 go_enter Tryz.func87, Tryz.ntmps87
 go_wp2
 all_goals (go_ret; exact ⟨ret_b (by rw [H.out, Bool.eq_iff_iff]; all_goals (first | (simp; done) | (simp; omega))), rfl⟩)
theorem rplace10_any (n : Int) (w : World) : Calls Tryz.prog 86 #[.int .i64 n] w fun e w' => e = .returned (.bool (S.place n)) ∧ w = w' := by
 have H := Lib.hid (show S.place n = S.btw n (-1048576) 1048576 from rfl)
 have HB := Lib.hid (rbetween_any n (-1048576) 1048576)
 generalize S.btw n (-1048576) 1048576 = t at *
 go_enter Tryz.func86, Tryz.ntmps86
 go_wp2_with (go_at_call 87; (with_reducible refine (HB.out _).mono ?_); rintro e w' ⟨rfl, rfl⟩)
 go_ret
 exact ⟨ret_b H.out.symm, rfl⟩
set_option maxHeartbeats 1000000 in
theorem rsteps_any (l : List Stp) (A : Option Addr) (n c : Nat) (B : Nat) (w : World) (hB : B ≤ w.heap.size) (hA : StepsAt w B A n l) :
 Calls Tryz.prog 54 #[.slice A n c] w fun e w' => e = .returned (.bool (S.steps l)) ∧ Below w.heap.size w w' := by
 have HA := Lib.hid hA
 have HPL := Lib.hid (fun n w => rplace10_any n w)
 have hmx := hA.max
 have hL := hA.len
 clear hA
 by_cases h200 : 200 < n
 ·have HS := Lib.hid (show S.steps l = false from by unfold S.steps; rw [hL]; simp; omega)
  clear hL
  go_enter Tryz.func54, Tryz.ntmps54
  go_wp2
  go_ret
  exact ⟨ret_b HS.out.symm, bel⟩
 clear hL
 go_enter Tryz.func54, Tryz.ntmps54
 go_wp2
 go_loopw [3] (fun i wr => ∃ k : Nat, k ≤ n ∧ i = .int .i64 k ∧ (∀ j, j < k → S.stepAt l j = true) ∧ Below w.heap.size w wr) (fun i _ => n - (intOf i).toNat)
 case atStart => exact ⟨0, Nat.zero_le _, rfl, fun j hj => absurd hj (by omega), Below.refl _ _⟩
 case round =>
  obtain ⟨k, hk, rfl, hno, hbr⟩ := hrel
  have HNO := Lib.hid hno
  clear hno
  by_cases hlt : k < n
  ·have hkx : k < l.length := by have := HA.out.len; omega
   have hs' := HA.out.cells.below (hbr.mono hB)
   obtain ⟨b, o, rfl, hbB, _⟩ := hs'.at_ (by rw [flat_len stC 2 stC_len]; omega)
   have hbw : b < wr.heap.size := by have := hbr.size; omega
   have c0 := hs'.row0 stC_len hkx rfl
   have c1 := hs'.rowj stC_len hkx 1 rfl
   have HNS := Lib.hid (fun h => show S.steps l = false from rng_no (p := S.stepAt l) (k := k) hkx h)
   have HGO := Lib.hid (fun (h : S.stepAt l k = true) => show ∀ j, j < k + 1 → S.stepAt l j = true from fun j hj => by
    by_cases hjk : j = k
    ·subst hjk; exact h
    ·exact HNO.out j (by omega))
   have hge : l[k]? = some l[k] := List.getElem?_eq_getElem hkx
   cases k with
   | zero =>
    have HAT := Lib.hid (show S.stepAt l 0 = (S.place l[0].fro && S.btw l[0].val 0 1099511627776) by unfold S.stepAt S.btw; rw [hge]; simp [Bool.and_assoc])
    have HP0 := Lib.hid (HPL.out l[0].fro)
    have HB0 := Lib.hid (fun w => rbetween_any l[0].val 0 1099511627776 w)
    rw [Nat.zero_mul, Nat.add_zero] at c0 c1
    generalize S.place l[0].fro = t0 at *
    generalize S.btw l[0].val 0 1099511627776 = t1 at *
    generalize l[0] = s at *
    clear hs' hge
    have hcs : t0 = false ∨ (t0 = true ∧ t1 = false) ∨ (t0 = true ∧ t1 = true) := by
     cases t0 <;> cases t1 <;> simp
    rcases hcs with rfl | ⟨rfl, rfl⟩ | ⟨rfl, rfl⟩
    rotate_right
    ·have HG := Lib.hid (HGO.out (by rw [HAT.out]; rfl))
     go_upto_region 6 with fail
     refine wp_region_grow (by kernel_rfl) (by kernel_rfl) ?_
     repeat (go_big_quiet_step ((first | (go_at_call 86; exact grow_of_eq (HP0.out _)) | (go_at_call 87; exact grow_of_eq (HB0.out _)))))
     all_goals (refine wpQuiet_nil ?_; intro wg hbwg; obtain ⟨hcwg, hfwg⟩ := bcell hbwg)
     go_wp2
     go_roundw
     case rel => exact ⟨0 + 1, by omega, by go_num, HG.out, bel⟩
     case measure => simp [intOf]; omega
    all_goals (
     have HG := Lib.hid (HNS.out (by rw [HAT.out]; rfl))
     go_upto_region 6 with fail
     refine wp_region_grow (by kernel_rfl) (by kernel_rfl) ?_
     repeat (go_big_quiet_step ((first | (go_at_call 86; exact grow_of_eq (HP0.out _)) | (go_at_call 87; exact grow_of_eq (HB0.out _)))))
     all_goals (refine wpQuiet_nil ?_; intro wg hbwg; obtain ⟨hcwg, hfwg⟩ := bcell hbwg)
     go_wp2
     go_ret
     exact ⟨ret_b HG.out.symm, bel⟩)
   | succ j =>
    have hjx : j < l.length := by omega
    have d0 := hs'.row0 stC_len hjx rfl
    have HAT := Lib.hid (show S.stepAt l (j + 1) = (S.place l[j + 1].fro && S.btw l[j + 1].val 0 1099511627776 && decide (l[j].fro < l[j + 1].fro)) by unfold S.stepAt S.btw; rw [hge]; simp only []; rw [List.getElem?_eq_getElem hjx]; simp [Bool.and_assoc])
    have HP0 := Lib.hid (HPL.out l[j + 1].fro)
    have HB0 := Lib.hid (fun w => rbetween_any l[j + 1].val 0 1099511627776 w)
    generalize S.place l[j + 1].fro = t0 at *
    generalize S.btw l[j + 1].val 0 1099511627776 = t1 at *
    generalize l[j + 1] = s at *
    generalize l[j] = p at *
    clear hs' hge
    have hk0 : (0 : Int) < ((j + 1 : Nat) : Int) := by omega
    have e1 : IntKind.i64.wrap (((j + 1 : Nat) : Int) - 1) = (j : Nat) := by rw [IntWalk.i64_in _ (by omega)]; omega
    have hjn : (j : Int) < n := by omega
    have hcs : t0 = false ∨ (t0 = true ∧ t1 = false) ∨ (t0 = true ∧ t1 = true ∧ s.fro ≤ p.fro) ∨ (t0 = true ∧ t1 = true ∧ ¬ s.fro ≤ p.fro) := by
     cases t0 <;> cases t1 <;> simp <;> omega
    rcases hcs with rfl | ⟨rfl, rfl⟩ | ⟨rfl, rfl, h3⟩ | ⟨rfl, rfl, h3⟩
    rotate_right
    ·have HG := Lib.hid (HGO.out (by rw [HAT.out]; simp; omega))
     go_upto_region 6 with fail
     refine wp_region_grow (by kernel_rfl) (by kernel_rfl) ?_
     repeat (go_big_quiet_step ((first | (go_at_call 86; exact grow_of_eq (HP0.out _)) | (go_at_call 87; exact grow_of_eq (HB0.out _)))))
     all_goals (refine wpQuiet_nil ?_; intro wg hbwg; obtain ⟨hcwg, hfwg⟩ := bcell hbwg)
     go_wp2
     go_roundw
     case rel => exact ⟨j + 1 + 1, by omega, by go_num, HG.out, bel⟩
     case measure => simp [intOf]; omega
    all_goals (
     have HG := Lib.hid (HNS.out (by rw [HAT.out]; simp; try omega))
     go_upto_region 6 with fail
     refine wp_region_grow (by kernel_rfl) (by kernel_rfl) ?_
     repeat (go_big_quiet_step ((first | (go_at_call 86; exact grow_of_eq (HP0.out _)) | (go_at_call 87; exact grow_of_eq (HB0.out _)))))
     all_goals (refine wpQuiet_nil ?_; intro wg hbwg; obtain ⟨hcwg, hfwg⟩ := bcell hbwg)
     go_wp2
     go_ret
     exact ⟨ret_b HG.out.symm, bel⟩)
  ·have HG := Lib.hid (show S.steps l = true from rng_yes (p := S.stepAt l) (by have := HA.out.len; simp; omega) (fun j hj => HNO.out j (by have := HA.out.len; omega)))
   go_wp2
   go_ret
   exact ⟨ret_b HG.out.symm, bel⟩
end Go.Proofs.YtnmolefblaahmaaGreat
