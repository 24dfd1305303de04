/- Contracts: steps.short, steps.Short. Contract: supply.Of of a valid detail. Contract: slices.DeleteFunc over chains. -/
import Derived.Test.YtffkmgjmlahfpaaGreatQQ
import Derived.Test.YtffkmgjmlahfpaaGreatQU
set_option linter.unusedVariables false
set_option linter.unusedSimpArgs false
namespace Go.Proofs.YtffkmgjmlahfpaaGreat
open Go.RowKit
theorem elemSt : Elem Tryz.prog 70 81 (.agg #[.int .i64 0, .int .i64 0]) 2 16 := ⟨Tryz.underlying70, by kernel_rfl, rfl, by decide⟩
/-- The last value, and the short steps. -/
def S.shortStF (l : List Stp) : Int × List Stp := l.foldl (fun x s => (s.val, if s.val = x.1 then x.2 else x.2 ++ [s])) (0, [])
def S.shortSt (l : List Stp) : List Stp := (S.shortStF l).2
theorem shortStF_next {l : List Stp} {k : Nat} (h : k < l.length) : S.shortStF (l.take (k + 1)) = (l[k].val, if l[k].val = (S.shortStF (l.take k)).1 then (S.shortStF (l.take k)).2 else (S.shortStF (l.take k)).2 ++ [l[k]]) := by
  have e : l.take (k + 1) = l.take k ++ [l[k]] := by rw [List.take_add_one, List.getElem?_eq_getElem h]; rfl
  unfold S.shortStF
  rw [e, List.foldl_append]
  rfl
theorem shortStF_len (l : List Stp) : (S.shortStF l).2.length ≤ l.length := by
  suffices hs : ∀ (l : List Stp) (x : Int × List Stp), (l.foldl (fun x s => (s.val, if s.val = x.1 then x.2 else x.2 ++ [s])) x).2.length ≤ x.2.length + l.length by
    have := hs l (0, [])
    unfold S.shortStF
    simpa using this
  intro l
  induction l with
  | nil => intro x; simp
  | cons s t ih =>
    intro x
    simp only [List.foldl_cons, List.length_cons]
    have h1 := ih (s.val, if s.val = x.1 then x.2 else x.2 ++ [s])
    have h2 : (if s.val = x.1 then x.2 else x.2 ++ [s]).length ≤ x.2.length + 1 := by split <;> simp
    simp only [] at h1
    generalize (if s.val = x.1 then x.2 else x.2 ++ [s]) = y at *
    generalize (List.foldl (fun x s => (s.val, if s.val = x.1 then x.2 else x.2 ++ [s])) (s.val, y) t).2.length = z at *
    omega
set_option maxHeartbeats 2000000 in
theorem short_any' (l : List Stp) (A : Option Addr) (n c : Nat) (B : Nat) (w : World) (hB : B ≤ w.heap.size) (hA : StepsAt w B A n l) (hm : n ≤ 10000) :
    Calls Tryz.prog 143 #[.slice A n c] w fun e w' => ∃ (A' : Option Addr) (c' : Nat), e = .returned (.slice A' (S.shortSt l).length c') ∧ w'.ownsRow w.heap.size 81 2 (.slice A' (S.shortSt l).length c') (S.shortSt l).length ((S.shortSt l).flatMap stC) ∧ Below w.heap.size w w' := by
  have HN := Lib.hid hA.len
  have hs := hA.cells
  clear hA
  go_enter Tryz.func143, Tryz.ntmps143
  go_wp2
  go_loopw [3, 4, 9] (fun v u i wr => ∃ k : Nat, k ≤ n ∧ i = .int .i64 k ∧ ∃ (la : Int) (out : List Stp), u = .int .i64 la ∧ Hid ((la, out) = S.shortStF (l.take k)) ∧ Row w wr none w.heap.size 81 2 v out.length (out.flatMap stC) ∧ Exc [] w wr) (fun _ _ i _ => n - (intOf i).toNat)
  case atStart => exact ⟨0, Nat.zero_le _, rfl, 0, [], rfl, Lib.hid rfl, Row.none_ _ _ _ _, Exc.refl _ _⟩
  case round =>
    obtain ⟨k, hk, rfl, la, out, rfl, hu, hR, hX⟩ := hrel
    have hbr : Below w.heap.size w wr := hX.below (Nat.le_refl _) (by simp)
    by_cases hlt : k < n
    · have hkx : k < l.length := by have := HN.out; omega
      have hs' := hs.below (hbr.mono hB)
      obtain ⟨b, o, rfl, hbB, hx⟩ := hs'.at_ (by rw [flat_len stC 2 stC_len]; omega)
      clear hx
      have c0 := hs'.row0 stC_len hkx rfl
      have c1 := hs'.rowj stC_len hkx 1 rfl
      clear hs'
      have hbl : b < wr.heap.size := by have := hbr.size; omega
      have hki : (k : Int) < n := by omega
      have HV := Lib.hid (shortStF_next hkx)
      have hol : out.length ≤ 10000 := by
        have h1 := shortStF_len (l.take k)
        rw [← hu.out, List.length_take] at h1
        simp only [] at h1
        omega
      rw [← hu.out] at HV
      generalize l[k] = r at *
      by_cases h1 : r.val = la
      · have hb1 : (r.val != la) = false := by simp [h1]
        have HV2 := Lib.hid (HV.out.trans (by rw [if_pos h1]))
        clear h1
        go_wp2
        go_roundw
        case rel => exact ⟨k + 1, by omega, by go_num, r.val, out, rfl, Lib.hid HV2.out.symm, Row.alloc hR _, hX.alloc _⟩
        case measure => simp [intOf]; omega
      · have hb1 : (r.val != la) = true := by simp [h1]
        have HV2 := Lib.hid (HV.out.trans (by rw [if_neg h1]))
        clear h1
        go_upto_region 6 with fail
        have hS := Blk.new wr 81 #[.int .i64 r.fro, .int .i64 r.val]
        have hR1 := hR.alloc (.cells #[.int .i64 r.fro, .int .i64 r.val] 81)
        have hX1 := hX.alloc (.cells #[.int .i64 r.fro, .int .i64 r.val] 81)
        generalize (wr.alloc (.cells #[.int .i64 r.fro, .int .i64 r.val] 81)) = W1 at *
        have x0 := hS.cell 0
        have x1 := hS.cell 1
        have xl := hS.lt
        simp only [List.getElem?_toArray, List.getElem?_cons_zero, List.getElem?_cons_succ] at x0 x1
        have HR1 := Lib.hid hR1
        have HS := Lib.hid hS
        have HX1 := Lib.hid hX1
        have hss := hX.size
        have HLT := Lib.hid hR.own.lt
        generalize wr.heap.size = gs at *
        have hbE : w.heap.size ≤ W1.heap.size := by omega
        clear hR hX hR1 hX1 hbr c0 c1 hbl
        go_wp2_with (at_builtin; refine wpList_push rfl (.tmp 17) (.tmp 19) _ rfl elemSt (HR1.out.alloc _) (HX1.out.alloc _) (by simp) (Nat.le_refl _) rfl W1.heap.size 1 1 [.int .i64 r.fro, .int .i64 r.val] rfl rfl ?_ (by simp [Value.oneCell']) (by unfold maxLen; omega) (by omega) ?_; (· intro j u hu; have := (Cells.newRow W1 #[.int .i64 r.fro, .int .i64 r.val] 81 (0, 0)).get (k := j) (v := u) hu; simpa using this); intro v2 wE hRE hXE hOE; have y1 := (hOE gs (by simp; omega) (fun he => by have := (HLT.out gs he).2; omega)).trans (Below.heap_alloc _ _ gs xl); have hSE : Blk wE gs 81 #[.int .i64 r.fro, .int .i64 r.val] := y1.trans HS.out; have x1E := hSE.cell 1; have xlE := hSE.lt; simp only [List.getElem?_toArray, List.getElem?_cons_zero, List.getElem?_cons_succ] at x1E; clear hSE y1)
        go_roundw
        case rel => exact ⟨k + 1, by omega, by go_num, r.val, out ++ [r], rfl, Lib.hid HV2.out.symm, by simpa using hRE, hXE⟩
        case measure => simp [intOf]; omega
    · have hr2 := hR.own
      have HE := Lib.hid (show out = S.shortSt l by have := hu.out; rw [List.take_of_length_le (by have := HN.out; omega)] at this; unfold S.shortSt; rw [← this])
      clear hu
      have hol : out.length ≤ 10000 := by
        rw [HE.out]
        have h1 := shortStF_len l
        have := HN.out
        unfold S.shortSt
        omega
      obtain ⟨A5, c5, rfl, _, _, _⟩ := own_form hr2 (by unfold maxLen; omega)
      go_wp2
      go_ret
      rw [← HE.out]
      exact ⟨A5, c5, rfl, hr2, hbr⟩
theorem Short_any (l : List Stp) (A : Option Addr) (n c : Nat) (B : Nat) (w : World) (hB : B ≤ w.heap.size) (hA : StepsAt w B A n l) (hm : n ≤ 10000) (h : S.steps l = true) :
    Calls Tryz.prog 86 #[.slice A n c] w fun e w' => ∃ (A' : Option Addr) (c' : Nat), e = .returned (.tuple #[.slice A' (S.shortSt l).length c', .int .i64 0]) ∧ w'.ownsRow w.heap.size 81 2 (.slice A' (S.shortSt l).length c') (S.shortSt l).length ((S.shortSt l).flatMap stC) ∧ Below w.heap.size w w' := by
  have HV := Lib.hid (fun (W : World) (hw : Below w.heap.size w W) => h ▸ steps_any l A n c B W (dsize hB hw) (hA.below (hw.mono hB)))
  have HT := Lib.hid (fun (W : World) (hw : Below w.heap.size w W) => short_any' l A n c B W (dsize hB hw) (hA.below (hw.mono hB)) hm)
  clear hA h
  go_enter Tryz.func86, Tryz.ntmps86
  go_wp2_with (first
    | (go_at_call 104; (with_reducible refine (HV.out _ (by repeat (with_reducible first | exact Below.refl _ _ | assumption | refine ba_alloc ?_ _ | refine ba_drew ?_ | refine ba_drewN ?_ _ | refine ba_via (by assumption) ?_ | (refine ba_set ?_ ?_ _; rotate_left; (first | omega | (simp; omega) | simp))))).mono ?_); rintro e w1 ⟨rfl, hbw1⟩; obtain ⟨hcw1, hfw1⟩ := bcell hbw1)
    | (go_at_call 143; (with_reducible refine (HT.out _ (by repeat (with_reducible first | exact Below.refl _ _ | assumption | refine ba_alloc ?_ _ | refine ba_drew ?_ | refine ba_drewN ?_ _ | refine ba_via (by assumption) ?_ | (refine ba_set ?_ ?_ _; rotate_left; (first | omega | (simp; omega) | simp))))).mono ?_); rintro e w2 ⟨A2, c2, rfl, ho2, hbw2⟩))
  go_ret2
  exact ⟨A2, c2, rfl, own_mono ho2 hbw1.size, (by repeat (first | exact Below.refl _ _ | assumption | refine ba_alloc ?_ _ | refine ba_drew ?_ | refine ba_drewN ?_ _ | refine ba_via (by assumption) ?_ | (refine ba_set ?_ ?_ _; rotate_left; (first | omega | (simp; omega) | simp))))⟩
end Go.Proofs.YtffkmgjmlahfpaaGreat
set_option linter.unusedVariables false
set_option linter.unusedSimpArgs false
namespace Go.Proofs.YtffkmgjmlahfpaaGreat
open Go.RowKit
def S.ends2 (l : List SCh) : List Int := l.flatMap fun c => [c.lo, c.hi]
def S.places (l : List SCh) : List Int := Go.Lib.compact (S.sortI (S.ends2 l))
def S.ofF (l : List SCh) (ps : List Int) : Int × List Stp := ps.foldl (fun x p => if S.valueAt p l = x.1 then x else (S.valueAt p l, x.2 ++ [⟨p, S.valueAt p l⟩])) (0, [])
def S.ofL (l : List SCh) : List Stp := (S.ofF l (S.places l)).2
theorem ends2_len (l : List SCh) : (S.ends2 l).length = l.length * 2 := by
  unfold S.ends2
  induction l with
  | nil => rfl
  | cons a t ih => rw [List.flatMap_cons, List.length_append, ih, List.length_cons]; simp only [List.length_cons, List.length_nil]; omega
theorem ends2_next {l : List SCh} {k : Nat} (h : k < l.length) : S.ends2 (l.take (k + 1)) = S.ends2 (l.take k) ++ [l[k].lo, l[k].hi] := by
  have e : l.take (k + 1) = l.take k ++ [l[k]] := by rw [List.take_add_one, List.getElem?_eq_getElem h]; rfl
  unfold S.ends2
  rw [e, List.flatMap_append]
  simp
theorem places_len (l : List SCh) : (S.places l).length ≤ l.length * 2 := by
  unfold S.places
  have := Go.Lib.compact_length_le (S.sortI (S.ends2 l))
  rw [sortI_len, ends2_len] at this
  exact this
theorem ofF_next (l : List SCh) {ps : List Int} {k : Nat} (h : k < ps.length) : S.ofF l (ps.take (k + 1)) = if S.valueAt ps[k] l = (S.ofF l (ps.take k)).1 then S.ofF l (ps.take k) else (S.valueAt ps[k] l, (S.ofF l (ps.take k)).2 ++ [⟨ps[k], S.valueAt ps[k] l⟩]) := by
  have e : ps.take (k + 1) = ps.take k ++ [ps[k]] := by rw [List.take_add_one, List.getElem?_eq_getElem h]; rfl
  unfold S.ofF
  rw [e, List.foldl_append]
  rfl
theorem ofF_len (l : List SCh) (ps : List Int) : (S.ofF l ps).2.length ≤ ps.length := by
  suffices hs : ∀ (ps : List Int) (x : Int × List Stp), (ps.foldl (fun x p => if S.valueAt p l = x.1 then x else (S.valueAt p l, x.2 ++ [⟨p, S.valueAt p l⟩])) x).2.length ≤ x.2.length + ps.length by
    have := hs ps (0, [])
    unfold S.ofF
    simpa using this
  intro ps
  induction ps with
  | nil => intro x; simp
  | cons a t ih =>
    intro x
    rw [List.foldl_cons]
    refine Nat.le_trans (ih _) ?_
    split
    · simp only [List.length_cons]; omega
    · simp only [List.length_cons, List.length_append, List.length_nil]; omega
set_option maxRecDepth 20000 in
set_option maxHeartbeats 8000000 in
theorem Of_any (x : Dt) (C : List (List Int)) (n : Nat) (z : Bx) (k : Nat) (w : World) (hC : C.length ≤ 100)
    (har : ∀ (rs : List Rod) (l : List Int) (c : SCh), (∀ (i : Nat) (hi : i < rs.length), RodOk x i rs[i]) → rs.length = n → l ∈ C → SchOk x rs l c → 0 ≤ c.area ∧ c.area ≤ 1000000)
    (hst : ∀ (rs : List Rod) (cs : List SCh), (∀ (i : Nat) (hi : i < rs.length), RodOk x i rs[i]) → rs.length = n → cs.length = C.length → (∀ (i : Nat) (hi : i < cs.length) (hj : i < C.length), SchOk x rs C[i] cs[i]) → S.steps (S.ofL (cs.filter (S.sup rs z))) = true)
    (hSU : ∀ W, Below w.heap.size w W → Calls Tryz.prog 83 #[dtV x, .int .i64 k] W (GivesSups x C n (fun rs => S.sup rs z) W)) :
    Calls Tryz.prog 31 #[dtV x, .int .i64 k] w fun e w' => ∃ (A : Option Addr) (c : Nat) (rs : List Rod) (cs : List SCh), e = .returned (.tuple #[.slice A (S.shortSt (S.ofL (cs.filter (S.sup rs z)))).length c, .int .i64 0]) ∧ rs.length = n ∧ (∀ (i : Nat) (hi : i < rs.length), RodOk x i rs[i]) ∧ cs.length = C.length ∧ (∀ (i : Nat) (hi : i < cs.length) (hj : i < C.length), SchOk x rs C[i] cs[i]) ∧
      w'.ownsRow w.heap.size 81 2 (.slice A (S.shortSt (S.ofL (cs.filter (S.sup rs z)))).length c) (S.shortSt (S.ofL (cs.filter (S.sup rs z)))).length ((S.shortSt (S.ofL (cs.filter (S.sup rs z)))).flatMap stC) ∧ Below w.heap.size w w' := by
  have HSU := Lib.hid hSU
  have HAR := Lib.hid har
  have HST := Lib.hid hst
  clear hSU har hst
  unfold dtV at HSU
  unfold dtV
  have hDB := Blk.new w 34 #[.string x.m.name, .slice x.mA x.mn x.mc, .slice x.hA x.hn x.hc, .int .i64 x.m.cover, .int .i64 x.m.aggr, .int .i64 x.m.poker, .slice x.bA x.bn x.bc, .slice x.rA x.rn x.rc, .slice x.jA x.jn x.jc, .slice x.dA x.dn x.dc, .int .i64 x.rule.num, .int .i64 x.rule.den, .int .i64 x.rule.pnum, .int .i64 x.rule.pden, .int .i64 x.rule.bnum, .int .i64 x.rule.bden, .int .i64 x.rule.lnum, .int .i64 x.rule.lden, .int .i64 x.rule.least]
  have hW1 : Below w.heap.size w (w.alloc (.cells #[.string x.m.name, .slice x.mA x.mn x.mc, .slice x.hA x.hn x.hc, .int .i64 x.m.cover, .int .i64 x.m.aggr, .int .i64 x.m.poker, .slice x.bA x.bn x.bc, .slice x.rA x.rn x.rc, .slice x.jA x.jn x.jc, .slice x.dA x.dn x.dc, .int .i64 x.rule.num, .int .i64 x.rule.den, .int .i64 x.rule.pnum, .int .i64 x.rule.pden, .int .i64 x.rule.bnum, .int .i64 x.rule.bden, .int .i64 x.rule.lnum, .int .i64 x.rule.lden, .int .i64 x.rule.least] 34)) := ba_alloc (Below.refl _ _) _
  go_enter Tryz.func31, Tryz.ntmps31
  go_upto_region 1 with fail
  generalize (w.alloc (.cells #[.string x.m.name, .slice x.mA x.mn x.mc, .slice x.hA x.hn x.hc, .int .i64 x.m.cover, .int .i64 x.m.aggr, .int .i64 x.m.poker, .slice x.bA x.bn x.bc, .slice x.rA x.rn x.rc, .slice x.jA x.jn x.jc, .slice x.dA x.dn x.dc, .int .i64 x.rule.num, .int .i64 x.rule.den, .int .i64 x.rule.pnum, .int .i64 x.rule.pden, .int .i64 x.rule.bnum, .int .i64 x.rule.bden, .int .i64 x.rule.lnum, .int .i64 x.rule.lden, .int .i64 x.rule.least] 34)) = W1 at *
  have HDB := Lib.hid hDB
  clear hDB
  go_upto_region 2 with (first
    | ((with_reducible refine at_load 34 2 ?_); refine wpList_load_mid rfl 34 (.tmp 2) rfl _ _ rfl _ _ (HDB.out.via (by repeat (with_reducible first | exact Below.refl _ _ | assumption | refine ba_alloc ?_ _ | refine ba_drew ?_ | refine ba_drewN ?_ _ | refine ba_via (by assumption) ?_ | (refine ba_set ?_ ?_ _; rotate_left; (first | omega | (simp; omega) | simp))))).range Tryz.underlying34 rfl (by kernel_rfl) ?_)
    | (go_at_call 83; (with_reducible refine (HSU.out _ (by repeat (with_reducible first | exact Below.refl _ _ | assumption | refine ba_alloc ?_ _ | refine ba_drew ?_ | refine ba_drewN ?_ _ | refine ba_via (by assumption) ?_ | (refine ba_set ?_ ?_ _; rotate_left; (first | omega | (simp; omega) | simp))))).mono ?_); rintro e w2 ⟨A1, c1, rs, A2, c2, cs, b2, rfl, hrl, hok, hb1, hb2, hRC, hRL, hOW, hcl, hsch, hcc, hbw2⟩; have HRL := Lib.hid hrl; have HOK := Lib.hid hok; have HOW := Lib.hid hOW; have HCL := Lib.hid hcl; have HSC := Lib.hid hsch; clear hrl hok hRC hRL hOW hcl hsch hcc))
  have hw2 : Below w.heap.size w w2 := ba_via hbw2 hW1
  have hfl := List.length_filter_le (S.sup rs z) cs
  have hfl2 : (cs.filter (S.sup rs z)).length ≤ 100 := by rw [HCL.out] at hfl; omega
  have HSE := Lib.hid (HST.out rs cs HOK.out HRL.out HCL.out HSC.out)
  have HA := Lib.hid (show ∀ c, c ∈ cs.filter (S.sup rs z) → 0 ≤ c.area ∧ c.area ≤ 1000000 from fun c hc => by
    obtain ⟨i, hi, rfl⟩ := List.getElem_of_mem (List.mem_filter.1 hc).1
    exact HAR.out rs _ _ HOK.out HRL.out (List.getElem_mem _) (HSC.out i hi (by rw [← HCL.out]; exact hi)))
  have HCS := Lib.hid (own_cells HOW.out (by unfold maxLen; omega)).1
  have HEX := Lib.hid (show ∃ (rs' : List Rod) (cs' : List SCh), rs'.length = n ∧ (∀ (i : Nat) (hi : i < rs'.length), RodOk x i rs'[i]) ∧ cs'.length = C.length ∧ (∀ (i : Nat) (hi : i < cs'.length) (hj : i < C.length), SchOk x rs' C[i] cs'[i]) ∧ cs'.filter (S.sup rs' z) = cs.filter (S.sup rs z) from ⟨rs, cs, HRL.out, HOK.out, HCL.out, HSC.out, rfl⟩)
  have hs2 := hw2.size
  clear hfl HSC HCL HOK HRL HAR HST HOW hb1 hb2 HDB HSU
  generalize cs.filter (S.sup rs z) = cl at *
  have hcli : (cl.length : Int) ≤ 100 := by omega
  go_wp2
  go_loopw [9, 29] (fun v i wr => ∃ q : Nat, q ≤ cl.length ∧ i = .int .i64 q ∧ wr.ownsRow w2.heap.size 3 1 v (S.ends2 (cl.take q)).length (i64s (S.ends2 (cl.take q))) ∧ Below w2.heap.size w2 wr) (fun _ i _ => cl.length - (intOf i).toNat)
  case atStart => exact ⟨0, Nat.zero_le _, rfl, World.ownsRow_nil _ _ _ _, Below.refl _ _⟩
  case round =>
    obtain ⟨q, hq, rfl, hO, hbr⟩ := hrel
    have HO := Lib.hid hO
    clear hO
    by_cases hlt : q < cl.length
    · have hqi : (q : Int) < cl.length := by omega
      have hCS := HCS.out.below hbr
      obtain ⟨b2, o2, hA2, hbb2, hxx⟩ := hCS.at_ (by rw [flat_len schC 5 schC_len]; omega)
      clear hxx
      subst hA2
      have c0 := hCS.row0 schC_len hlt rfl
      have c1' := hCS.rowj schC_len hlt 1 rfl
      have c2' := hCS.rowj schC_len hlt 2 rfl
      have c3' := hCS.rowj schC_len hlt 3 rfl
      have c4' := hCS.rowj schC_len hlt 4 rfl
      have hsr := hbr.size
      have hb2l : b2 < wr.heap.size := by omega
      have HEN := Lib.hid (ends2_next hlt)
      have hel := ends2_len (cl.take q)
      rw [List.length_take] at hel
      have hel2 : (S.ends2 (cl.take q)).length ≤ 200 := by omega
      clear hCS hel
      generalize cl[q] = c at *
      go_upto_region 8 with fail
      have hC12 := Blk.new wr 152 #[.slice c.A c.l.length c.c, .int .i64 c.lo, .int .i64 c.hi, .bool c.is, .int .i64 c.area]
      have hb12 : Below wr.heap.size wr (wr.alloc (.cells #[.slice c.A c.l.length c.c, .int .i64 c.lo, .int .i64 c.hi, .bool c.is, .int .i64 c.area] 152)) := ba_alloc (Below.refl _ _) _
      generalize (wr.alloc (.cells #[.slice c.A c.l.length c.c, .int .i64 c.lo, .int .i64 c.hi, .bool c.is, .int .i64 c.area] 152)) = W12 at *
      clear c0 c1' c2' c3' c4'
      have h12s := hb12.size
      have HO5 := Lib.hid (own_kept HO.out (fun k hk => hb12.block k (HO.out.lt k hk).2))
      have s1 := hC12.cell 1
      have s2 := hC12.cell 2
      have sl := hC12.lt
      simp only [List.getElem?_toArray, List.getElem?_cons_zero, List.getElem?_cons_succ] at s1 s2
      have HB := Lib.hid (hbr.trans (hb12.mono hsr))
      have hbE1 : w2.heap.size ≤ W12.heap.size := by omega
      clear hC12 hb12
      go_wp2_with (at_builtin; refine wpList_push rfl (.tmp 33) (.tmp 40) _ rfl elemInt ((show Row W12 W12 u9.ownBlock w2.heap.size 3 1 u9 (S.ends2 (cl.take q)).length (i64s (S.ends2 (cl.take q))) from ⟨HO5.out, fun k hk => .inl hk.symm⟩).alloc _) ((Exc.refl u9.ownBlock.toList W12).alloc _) (by intro k hk; simp [hk]) hbE1 rfl W12.heap.size 2 2 [.int .i64 c.lo, .int .i64 c.hi] rfl rfl ?_ (by simp [Value.oneCell']) (by unfold maxLen; omega) (by omega) ?_; (· intro j u hu; have := (Cells.newRow W12 #[.int .i64 c.lo, .int .i64 c.hi] 3 (0, 0)).get (k := j) (v := u) hu; simpa using this); intro v2 wE hRE hXE hOE)
      have hown := hRE.own
      have hbE : Below w2.heap.size w2 wE := HB.out.trans (hXE.below (by omega) (fun g hg => (HO5.out.lt g (by simpa using hg)).1))
      go_roundw
      case rel => exact ⟨q + 1, by omega, by go_num, by rw [HEN.out]; simpa using hown, hbE⟩
      case measure => simp [intOf]; omega
    · have hqn : q = cl.length := by omega
      have hO := HO.out
      rw [hqn, List.take_length] at hO
      have hqi : ¬ ((q : Int) < cl.length) := by omega
      have hel := ends2_len cl
      have hel2 : (S.ends2 cl).length ≤ 200 := by omega
      clear hel
      have hsr := hbr.size
      have HSO := Lib.hid (sort_own (S.ends2 cl) u9 (S.ends2 cl).length w2.heap.size wr hO (by omega))
      have HCSr := Lib.hid (HCS.out.below hbr)
      have HOr := Lib.hid hO
      clear hO HO hqn
      go_upto_region 11 with (go_at_call 84; (with_reducible refine HSO.out.mono ?_); rintro e w3 ⟨rfl, hO3, hX3⟩)
      have hb3 : Below w2.heap.size wr w3 := hX3.below (by omega) (fun k hk => (HOr.out.lt k (by simpa using hk)).1)
      have h3s := hX3.size
      obtain ⟨A3, c3, hu9, _, _, _⟩ := own_form hO3 (by unfold maxLen; omega)
      subst hu9
      have HCO := Lib.hid (compact_own (S.sortI (S.ends2 cl)) A3 c3 (S.ends2 cl).length w2.heap.size w3 hO3 (by omega))
      have HCS3 := Lib.hid (HCSr.out.below hb3)
      have hw3 : Below w2.heap.size w2 w3 := hbr.trans hb3
      have HLT3 := Lib.hid hO3.lt
      have HPL := Lib.hid (show Go.Lib.compact (S.sortI (S.ends2 cl)) = S.places cl from rfl)
      rw [HPL.out] at HCO
      clear hO3 hX3 HSO HCSr HOr hb3 HPL
      have hpl := places_len cl
      have hpl2 : (S.places cl).length ≤ 200 := by omega
      go_upto_region 14 with (go_at_call 85; (with_reducible refine HCO.out.mono ?_); rintro e w4 ⟨rfl, hO4, hX4⟩)
      have hb4 : Below w2.heap.size w3 w4 := hX4.below (by omega) (fun k hk => (HLT3.out k (by simpa using hk)).1)
      have h4s := hX4.size
      have HPC := Lib.hid (own_cells hO4 (by unfold maxLen; omega)).1
      have HCS4 := Lib.hid ((HCS3.out.below hb4).mono (show w2.heap.size ≤ w4.heap.size by omega))
      have hw4 : Below w2.heap.size w2 w4 := hw3.trans hb4
      have h24 := hw4.size
      clear hO4 hX4 HCO HLT3 hb4 HCS3 HCS hw3 hbr hqi
      obtain ⟨m, hm⟩ : ∃ m, m = (S.places cl).length := ⟨_, rfl⟩
      have HM := Lib.hid hm
      rw [← hm] at hpl2
      rw [← hm]
      clear hm hpl
      go_loopw [12, 13, 48] (fun v u i wr => ∃ q : Nat, q ≤ m ∧ i = .int .i64 q ∧ ∃ (la : Int) (out : List Stp), u = .int .i64 la ∧ Hid ((la, out) = S.ofF cl ((S.places cl).take q)) ∧ wr.ownsRow w4.heap.size 81 2 v out.length (out.flatMap stC) ∧ Below w4.heap.size w4 wr) (fun _ _ i _ => m - (intOf i).toNat)
      case atStart => exact ⟨0, Nat.zero_le _, rfl, 0, [], rfl, Lib.hid rfl, World.ownsRow_nil _ _ _ _, Below.refl _ _⟩
      case round =>
        obtain ⟨q, hq, rfl, la, out, rfl, hu, hO, hbr⟩ := hrel
        have HO := Lib.hid hO
        clear hO
        have hol : out.length ≤ 200 := by
          have h1 := ofF_len cl ((S.places cl).take q)
          rw [← hu.out, List.length_take] at h1
          simp only [] at h1
          omega
        by_cases hlt : q < m
        · have hqx : q < (S.places cl).length := by rw [← HM.out]; exact hlt
          have hqi : (q : Int) < m := by omega
          obtain ⟨b, o, hA3, hbb, hcc⟩ := (HPC.out.below hbr).at_ (by simp; omega)
          subst hA3
          have hck := hcc q _ (i64s_get hqx)
          have hsr := hbr.size
          have hbl : b < wr.heap.size := by omega
          have HNX := Lib.hid (ofF_next cl hqx)
          rw [← hu.out] at HNX
          have HV := Lib.hid (fun (W : World) (hw : Below wr.heap.size wr W) => value_any cl A2 cl.length c2 (S.places cl)[q] w4.heap.size W (Nat.le_trans hsr hw.size) rfl (by omega) (HCS4.out.below (hbr.trans (hw.mono hsr))) HA.out)
          clear hcc
          generalize (S.places cl)[q] = p at *
          generalize S.valueAt p cl = nv at *
          go_upto_region 17 with (go_at_call 82; (with_reducible refine (HV.out _ (by repeat (with_reducible first | exact Below.refl _ _ | assumption | refine ba_alloc ?_ _ | refine ba_drew ?_ | refine ba_drewN ?_ _ | refine ba_via (by assumption) ?_ | (refine ba_set ?_ ?_ _; rotate_left; (first | omega | (simp; omega) | simp))))).mono ?_); rintro e w5 ⟨rfl, hbw5⟩)
          have hb5 : Below wr.heap.size wr w5 := (by repeat (with_reducible first | exact Below.refl _ _ | assumption | refine ba_alloc ?_ _ | refine ba_drew ?_ | refine ba_drewN ?_ _ | refine ba_via (by assumption) ?_ | (refine ba_set ?_ ?_ _; rotate_left; (first | omega | (simp; omega) | simp))))
          have HO5 := Lib.hid (own_kept HO.out (fun k hk => hb5.block k (HO.out.lt k hk).2))
          have HB5 := Lib.hid (hbr.trans (hb5.mono hsr))
          have h5s := hb5.size
          clear hb5 hbw5 HV hck
          by_cases h1 : nv = la
          · have hb1 : (nv != la) = false := by simp [h1]
            have HV2 := Lib.hid (HNX.out.trans (by rw [if_pos h1]))
            clear h1
            go_wp2
            go_roundw
            case rel => exact ⟨q + 1, by omega, by go_num, la, out, rfl, Lib.hid HV2.out.symm, HO5.out, HB5.out⟩
            case measure => simp [intOf]; omega
          · have hb1 : (nv != la) = true := by simp [h1]
            have HV2 := Lib.hid (HNX.out.trans (by rw [if_neg h1]))
            clear h1
            have hbE1 : w4.heap.size ≤ w5.heap.size := by omega
            go_wp2_with (at_builtin; refine wpList_push rfl (.tmp 58) (.tmp 62) _ rfl elemSt ((show Row w5 w5 u12.ownBlock w4.heap.size 81 2 u12 out.length (out.flatMap stC) from ⟨HO5.out, fun k hk => .inl hk.symm⟩).alloc _) ((Exc.refl u12.ownBlock.toList w5).alloc _) (by intro k hk; simp [hk]) hbE1 rfl w5.heap.size 1 1 [.int .i64 p, .int .i64 nv] rfl rfl ?_ (by simp [Value.oneCell']) (by unfold maxLen; omega) (by omega) ?_; (· intro j u hu; have := (Cells.newRow w5 #[.int .i64 p, .int .i64 nv] 81 (0, 0)).get (k := j) (v := u) hu; simpa using this); intro v2 wE hRE hXE hOE)
            have hown := hRE.own
            have hbE : Below w4.heap.size w4 wE := HB5.out.trans (hXE.below (by omega) (fun g hg => (HO5.out.lt g (by simpa using hg)).1))
            go_roundw
            case rel => exact ⟨q + 1, by omega, by go_num, nv, out ++ [⟨p, nv⟩], rfl, Lib.hid HV2.out.symm, by simpa using hown, hbE⟩
            case measure => simp [intOf]; omega
        · have hqm : q = m := by omega
          have HE := Lib.hid (show out = S.ofL cl by have h := hu.out; rw [List.take_of_length_le (by rw [← HM.out]; omega)] at h; unfold S.ofL; rw [← h])
          clear hu
          have hO := HO.out
          obtain ⟨A5, c5, hu12, _, _, hC5⟩ := own_form hO (by unfold maxLen; omega)
          subst hu12
          have hqi : ¬ ((q : Int) < m) := by omega
          have hoi : ¬ ((200 : Int) < out.length) := by omega
          have hsr := hbr.size
          have HSH := Lib.hid (fun (W : World) (hw : Below wr.heap.size wr W) => Short_any out A5 out.length c5 wr.heap.size W hw.size ⟨rfl, by omega, hC5.below hw⟩ (by omega) (by rw [HE.out]; exact HSE.out))
          have HBR := Lib.hid (hw4.trans (hbr.mono h24))
          clear hO hC5 HO hbr hqm
          go_wp2_with (go_at_call 86; (with_reducible refine (HSH.out _ (by repeat (with_reducible first | exact Below.refl _ _ | assumption | refine ba_alloc ?_ _ | refine ba_drew ?_ | refine ba_drewN ?_ _ | refine ba_via (by assumption) ?_ | (refine ba_set ?_ ?_ _; rotate_left; (first | omega | (simp; omega) | simp))))).mono ?_); rintro e w6 ⟨A6, c6, rfl, hO6, hb6⟩)
          go_ret2
          obtain ⟨rs', cs', e1, e2, e3, e4, e5⟩ := HEX.out
          have h2r := HBR.out.size
          refine ⟨A6, c6, rs', cs', ?_, e1, e2, e3, e4, ?_, hw2.trans ((HBR.out.trans (hb6.mono h2r)).mono hs2)⟩
          · rw [e5, ← HE.out]
            rfl
          · rw [e5, ← HE.out]
            exact own_mono hO6 (by omega)
end Go.Proofs.YtffkmgjmlahfpaaGreat
set_option linter.unusedVariables false
set_option linter.unusedSimpArgs false
namespace Go.Proofs.YtffkmgjmlahfpaaGreat
open Go.RowKit
set_option maxHeartbeats 8000000 in
theorem delf_own (cs : List SCh) (p : Int) (gp : Nat) (A : Option Addr) (n c base : Nat) (w : World) (ho : w.ownsRow base 152 5 (.slice A n c) n (cs.flatMap schC)) (hm : n ≤ 2000)
    (hc : w.cell? ⟨gp, 0, none⟩ = some (.int .i64 p)) (hg : gp < w.heap.size) (hne : (Value.slice A n c).ownBlock ≠ some gp) :
    Calls Tryz.prog 137 #[.slice A n c, .func (.func 138) #[] #[.pointer (some ⟨gp, 0, none⟩)]] w fun e w' => e = .returned (.slice A (cs.filter (S.atPl p)).length c) ∧
      w'.ownsRow base 152 5 (.slice A (cs.filter (S.atPl p)).length c) (cs.filter (S.atPl p)).length ((cs.filter (S.atPl p)).flatMap schC) ∧ Exc (Value.slice A n c).ownBlock.toList w w' := by
  have hl : cs.length = n := by have h := ho.1; rw [flat5_len] at h; omega
  have HIX := Lib.hid (fun (W : World) (hw : Below w.heap.size w W) => indexSch_any p gp A n c cs w.heap.size W hl hm hw.size ((own_cells ho (by unfold maxLen; omega)).1.below hw) ((hw.cell (p := ⟨gp, 0, none⟩) hg).trans hc) (Nat.lt_of_lt_of_le hg hw.size))
  have HO := Lib.hid ho
  rcases idxf_cases cs (fun r => !S.atPl p r) with ⟨hi, hno⟩ | ⟨i, hix, hi, hpi, hno⟩
  · have HF := Lib.hid (show cs.filter (S.atPl p) = cs from List.filter_eq_self.2 fun r hr => by
      obtain ⟨j, hj, rfl⟩ := List.getElem_of_mem hr
      have := hno j hj
      simpa using this)
    rw [HF.out, hl]
    rw [hi] at HIX
    clear hi hno ho hc hne hl
    go_enter Tryz.func137, Tryz.ntmps137
    go_wp2_with (go_at_call 198; (with_reducible refine (HIX.out _ (by repeat (with_reducible first | exact Below.refl _ _ | assumption | refine ba_alloc ?_ _ | refine ba_drew ?_ | refine ba_drewN ?_ _ | refine ba_via (by assumption) ?_ | (refine ba_set ?_ ?_ _; rotate_left; (first | omega | (simp; omega) | simp))))).mono ?_); rintro e w1 ⟨rfl, hbw1⟩)
    go_ret
    exact ⟨rfl, own_kept HO.out (fun k hk => hbw1.block k (HO.out.lt k hk).2), (Exc.of_below hbw1).into (by simp)⟩
  · have hpi' : S.atPl p cs[i] = false := by simpa using hpi
    have hno' : ∀ j (h : j < cs.length), j < i → S.atPl p cs[j] = true := fun j h hj => by simpa using hno j h hj
    rcases ho.2 with ⟨_, h0⟩ | ⟨g, cap, cur, hv, hbg, hh, hnc, hcm, hcs, htk⟩
    · omega
    injection hv with hA _ hcap
    subst hcap
    have hcur : ∀ q, q < cs.length * 5 → cur[q]? = (cs.flatMap schC)[q]? := fun q hq => by
      rw [← htk, List.getElem?_take, if_pos (by omega), Array.getElem?_toList]
    have HK0 := Lib.hid (Kept.first hix hcur hpi' hno')
    have HB0 := Lib.hid (show Blk w g 152 cur from hh)
    have HCUR := Lib.hid hcur
    have hgne : gp ≠ g := fun h => hne (by rw [hA, h]; rfl)
    obtain ⟨o, ho0⟩ : ∃ o : Nat, o = 0 := ⟨0, rfl⟩
    have HO0 := Lib.hid ho0
    rw [hA, show (⟨g, 0, none⟩ : Addr) = ⟨g, o, none⟩ by rw [ho0]] at HIX ⊢
    rw [hi] at HIX
    have HL := Lib.hid hl
    have hin : i < n := by omega
    have hib : ((i : Int) == -1) = false := by first | (simp; done) | (simp; omega)
    have hib2 : ¬ ((i : Int) = -1) := by omega
    have hgl : g < w.heap.size := HB0.out.lt
    have HHC := Lib.hid hc
    have HCS := Lib.hid hcs
    have HIX0 := Lib.hid hix
    clear hno hno' hpi hpi' hcur hh htk hi ho hc ho0 hl hcs hne hix hA
    go_enter Tryz.func137, Tryz.ntmps137
    go_wp2_with (go_at_call 198; (with_reducible refine (HIX.out _ (by repeat (with_reducible first | exact Below.refl _ _ | assumption | refine ba_alloc ?_ _ | refine ba_drew ?_ | refine ba_drewN ?_ _ | refine ba_via (by assumption) ?_ | (refine ba_set ?_ ?_ _; rotate_left; (first | omega | (simp; omega) | simp))))).mono ?_); rintro e w1 ⟨rfl, hbw1⟩)
    go_loopw [5, 6] (fun s5 s6 wr => ∃ (a b : Nat) (cur' : Array Value), s5 = .int .i64 a ∧ s6 = .int .i64 b ∧ Kept cs p cur cur' a b ∧ Blk wr g 152 cur' ∧ Exc [g] w wr) (fun _ s6 _ => n - (intOf s6).toNat)
    case atStart => exact ⟨i, i + 1, cur, rfl, by go_num, HK0.out, HB0.out.via hbw1, (Exc.of_below hbw1).into (by simp)⟩
    case round =>
      obtain ⟨a, b, cur', rfl, rfl, hkp, hblk, hex⟩ := hrel
      have hab := hkp.lt
      have hbl := hkp.le
      rw [HL.out] at hbl
      have HKP := Lib.hid hkp
      have HBK := Lib.hid hblk
      have HEX := Lib.hid hex
      have hgw : g < wr.heap.size := hblk.lt
      have hcp : wr.cell? ⟨gp, 0, none⟩ = some (.int .i64 p) := (hex.cell (p := ⟨gp, 0, none⟩) hg (by simpa using hgne)).trans HHC.out
      have hgpw : gp < wr.heap.size := Nat.lt_of_lt_of_le hg hex.size
      clear hkp hblk hex
      by_cases hlt : b < n
      · have hbx : b < cs.length := by have := HL.out; omega
        have hbi : (b : Int) < n := by omega
        have hg5 : ∀ k v, k < 5 → (schC cs[b])[k]? = some v → wr.cell? ⟨g, o + b * 5 + k, none⟩ = some v := fun k v hk hv => by
          rw [HBK.out.cell, HO0.out, Nat.zero_add, HKP.out.rest _ (by omega), HCUR.out _ (by omega), flat5_get hbx hk]
          exact hv
        have e0 := hg5 0 _ (by omega) rfl
        have e1 := hg5 1 _ (by omega) rfl
        have e2 := hg5 2 _ (by omega) rfl
        have e3 := hg5 3 _ (by omega) rfl
        have e4 := hg5 4 _ (by omega) rfl
        rw [Nat.add_zero] at e0
        have HSK := Lib.hid (fun h => HKP.out.skip hbx h)
        have HKE := Lib.hid (fun cur2 h => HKP.out.keep (cur2 := cur2) hbx h)
        clear hg5
        generalize cs[b] = r at *
        have hT := Blk.new wr 152 #[.slice r.A r.l.length r.c, .int .i64 r.lo, .int .i64 r.hi, .bool r.is, .int .i64 r.area]
        have hbT : Below wr.heap.size wr (wr.alloc (.cells #[.slice r.A r.l.length r.c, .int .i64 r.lo, .int .i64 r.hi, .bool r.is, .int .i64 r.area] 152)) := ba_alloc (Below.refl _ _) _
        go_upto_region 8 with fail
        generalize (wr.alloc (.cells #[.slice r.A r.l.length r.c, .int .i64 r.lo, .int .i64 r.hi, .bool r.is, .int .i64 r.area] 152)) = W8 at *
        have hgp8 : W8.cell? ⟨gp, 0, none⟩ = some (.int .i64 p) := (hbT.cell (p := ⟨gp, 0, none⟩) hgpw).trans hcp
        have h8s := hbT.size
        have HN := Lib.hid (fun (W : World) (hw : Below W8.heap.size W8 W) => notat_any r p gp W ((hw.cell (p := ⟨gp, 0, none⟩) (show gp < W8.heap.size by omega)).trans hgp8) (by have := hw.size; omega))
        have t0 := hT.cell 0
        have t1 := hT.cell 1
        have t2 := hT.cell 2
        have t3 := hT.cell 3
        have t4 := hT.cell 4
        have tl := hT.lt
        simp only [List.getElem?_toArray, List.getElem?_cons_zero, List.getElem?_cons_succ] at t0 t1 t2 t3 t4
        clear e0 e1 e2 e3 e4 hcp hgp8
        generalize ht : S.atPl p r = t at *
        clear ht
        cases t
        · go_wp2_with (go_at_call 138; (with_reducible refine (HN.out _ (by repeat (with_reducible first | exact Below.refl _ _ | assumption | refine ba_alloc ?_ _ | refine ba_drew ?_ | refine ba_drewN ?_ _ | refine ba_via (by assumption) ?_ | (refine ba_set ?_ ?_ _; rotate_left; (first | omega | (simp; omega) | simp))))).mono ?_); rintro e w5 ⟨rfl, hbw5⟩)
          go_roundw
          case rel =>
            have hb5 : Below wr.heap.size wr w5 := ba_via hbw5 hbT
            exact ⟨a, b + 1, cur', rfl, by go_num, HSK.out trivial, HBK.out.via hb5, HEX.out.trans5 ((Exc.of_below hb5).into (by simp))⟩
          case measure => simp [intOf]; omega
        · have HT := Lib.hid hT
          clear hT
          go_upto_region 9 with (go_at_call 138; (with_reducible refine (HN.out _ (by repeat (with_reducible first | exact Below.refl _ _ | assumption | refine ba_alloc ?_ _ | refine ba_drew ?_ | refine ba_drewN ?_ _ | refine ba_via (by assumption) ?_ | (refine ba_set ?_ ?_ _; rotate_left; (first | omega | (simp; omega) | simp))))).mono ?_); rintro e w5 ⟨rfl, hbw5⟩)
          have hT5 := HT.out.via hbw5
          have hb5 : Below wr.heap.size wr w5 := ba_via hbw5 hbT
          have hB5 := HBK.out.via hb5
          have s0 := hT5.cell 0
          have s1 := hT5.cell 1
          have s2 := hT5.cell 2
          have s3 := hT5.cell 3
          have s4 := hT5.cell 4
          have sl := hT5.lt
          simp only [List.getElem?_toArray, List.getElem?_cons_zero, List.getElem?_cons_succ] at s0 s1 s2 s3 s4
          have hsz : a * 5 + 5 ≤ cur'.size := by have h1 := HKP.out.size; have h2 := HCS.out; omega
          have HTH := Lib.hid (show w5.there g (o + a * 5) (#[.slice r.A r.l.length r.c, .int .i64 r.lo, .int .i64 r.hi, .bool r.is, .int .i64 r.area] : Array Value).size from by rw [HO0.out, Nat.zero_add]; exact hB5.thereAt5 (a * 5) hsz)
          have hgl5 : g < w5.heap.size := hB5.lt
          obtain ⟨cur2, hp1, hp2, hp3⟩ := Blk.put [.slice r.A r.l.length r.c, .int .i64 r.lo, .int .i64 r.hi, .bool r.is, .int .i64 r.area] (a * 5) w5 cur' hB5 hsz
          have HP1 := Lib.hid (show Blk (w5.setCells g (o + a * 5) (#[.slice r.A r.l.length r.c, .int .i64 r.lo, .int .i64 r.hi, .bool r.is, .int .i64 r.area] : Array Value).toList) g 152 cur2 from by rw [HO0.out, Nat.zero_add]; exact hp1)
          have HX6 := Lib.hid (show Exc [g] w5 (w5.setCells g (o + a * 5) (#[.slice r.A r.l.length r.c, .int .i64 r.lo, .int .i64 r.hi, .bool r.is, .int .i64 r.area] : Array Value).toList) from exc_put g _ _ w5)
          have HKE2 := Lib.hid (HKE.out cur2 trivial hp2 hp3)
          have hai : (a : Int) < n := by omega
          have HB5 := Lib.hid hb5
          clear hp1 hp2 hp3 hB5 hT5 hb5 t0 t1 t2 t3 t4 tl hbw5 hbT
          have HX5 := Lib.hid (HEX.out.trans5 ((Exc.of_below HB5.out).into (M' := [g]) (by simp)))
          clear HEX HB5 HBK HKP HSK HKE HN HT
          go_wp2_with (with_reducible refine at_store 152 33 32 ?_; refine wpList_store_mid rfl 152 (.tmp 33) (.tmp 32) rfl g (o + a * 5) #[.slice r.A r.l.length r.c, .int .i64 r.lo, .int .i64 r.hi, .bool r.is, .int .i64 r.area] rfl rfl HTH.out (by kernel_rfl) (all_oneCell_toArray (by simp [Value.oneCell'])) ?_; generalize (w5.setCells g (o + a * 5) (#[.slice r.A r.l.length r.c, .int .i64 r.lo, .int .i64 r.hi, .bool r.is, .int .i64 r.area] : Array Value).toList) = W6 at *)
          go_roundw
          case rel => exact ⟨a + 1, b + 1, cur2, by go_num, by go_num, HKE2.out, HP1.out, HX5.out.trans5 HX6.out⟩
          case measure => simp [intOf]; omega
      · have hbn : b = n := by omega
        have hna : 0 < n - a := by omega
        have hcz : (a * 5) + (n - a) * 5 ≤ cur'.size := by
          have h1 := HKP.out.size
          have h2 := HCS.out
          have h3 : n * 5 ≤ c * 5 := Nat.mul_le_mul_right 5 hnc
          omega
        have hcl : ∀ ty, (Builtin.clear_ #[146] ty #[.slice (some ⟨g, o + a * 5, none⟩) (n - a) (c - a)]).run Tryz.prog wr = .ok (.tuple #[]) (wr.setCells g (o + a * 5) (Builtin.zeroCells zeroSch (n - a)).toList) := fun ty => clear5_run g (o + a * 5) (n - a) (c - a) hna wr (by rw [HO0.out, Nat.zero_add]; exact HBK.out.thereAt5 (a * 5) hcz) ty
        obtain ⟨cur2, hp1, hp2, hp3⟩ := Blk.put (Builtin.zeroCells zeroSch (n - a)).toList (a * 5) wr cur' HBK.out (by rw [zeroSch_len]; exact hcz)
        have HP1 := Lib.hid hp1
        have HP3 := Lib.hid hp3
        have HFN := Lib.hid (show (cs.take b).filter (S.atPl p) = cs.filter (S.atPl p) by rw [List.take_of_length_le (by have := HL.out; omega)])
        have HFL := Lib.hid (show (cs.filter (S.atPl p)).length = a by rw [← HFN.out]; exact HKP.out.len)
        have HSZ := Lib.hid (show cur2.size = c * 5 by rw [hp2, HKP.out.size]; exact HCS.out)
        have hai : (a : Int) ≤ n := by omega
        have hai2 : (a : Int) ≤ c := by omega
        have hnci : (n : Int) ≤ c := by omega
        have hac : a ≤ n := by omega
        have hac2 : a ≤ c := by omega
        have hca : ¬ (c = a) := by omega
        have hbi : ¬ ((b : Int) < n) := by omega
        have hcx : c ≤ 9223372036854775807 := by have : c ≤ maxLen := hcm; unfold maxLen at this; omega
        clear hp1 hp2 hp3 hcz
        generalize (Builtin.zeroCells zeroSch (n - a)).toList = Z at *
        go_wp2
        go_ret
        rw [HFL.out]
        refine ⟨rfl, ⟨by rw [flat5_len, HFL.out], .inr ⟨g, c, cur2, by rw [HO0.out], hbg, ?_, hac2, hcm, HSZ.out, ?_⟩⟩, HEX.out.trans5 (exc_put g _ _ wr)⟩
        · have h := HP1.out
          rw [HO0.out, Nat.zero_add]
          exact h
        · apply List.ext_getElem?
          intro q
          rw [List.getElem?_take]
          split
          · rename_i hq
            rw [Array.getElem?_toList, HP3.out q, if_neg (by omega), HKP.out.done q hq, HFN.out]
          · rename_i hq
            rw [List.getElem?_eq_none (by rw [flat5_len, HFL.out]; omega)]
end Go.Proofs.YtffkmgjmlahfpaaGreat
