/- Contracts: slices.Equal of steps, slices.EqualFunc of lists of steps, claim.equal, Same of any claims. Contract: claim.Same of any claims. The example of the law of layer 51: stirruplaw51.example; lap -/
import Derived.Test.YtnmolefblaahmaaGreatMAD
set_option linter.unusedVariables false
set_option linter.unusedSimpArgs false
namespace Go.Proofs.YtnmolefblaahmaaGreat
open Go.RowKit
def S.eqS : List Stp → List Stp → Bool
 | [], [] => true
 | a :: t, b :: u => (a.fro == b.fro && a.val == b.val) && S.eqS t u
 | _, _ => false
theorem eqS_iff : ∀ (l m : List Stp), S.eqS l m = true ↔ l = m := by
 intro l
 induction l with
 | nil => intro m; cases m <;> simp [S.eqS]
 | cons a t ih =>
  intro m
  cases m with
  | nil => simp [S.eqS]
  | cons b u =>
   unfold S.eqS
   simp only [Bool.and_eq_true, beq_iff_eq]
   rw [ih u]
   cases a
   cases b
   simp [and_assoc]
theorem eqS_false {l m : List Stp} (h : l ≠ m) : S.eqS l m = false := by
 cases hq : S.eqS l m
 ·rfl
 ·exact absurd ((eqS_iff l m).1 hq) h
set_option maxRecDepth 20000 in
set_option maxHeartbeats 1500000 in
theorem equalSt_any (l m : List Stp) (A A' : Option Addr) (n n' c c' : Nat) (B : Nat) (w : World) (hB : B ≤ w.heap.size) (hx : StepsAt w B A n l) (hy : StepsAt w B A' n' m) :
 Calls Tryz.prog 29 #[.slice A n c, .slice A' n' c'] w fun e w' => e = .returned (.bool (S.eqS l m)) ∧ Below w.heap.size w w' := by
 have HX := Lib.hid hx
 have HY := Lib.hid hy
 have hm1 := hx.max
 clear hx hy
 by_cases hnn : n = n'
 ·subst hnn
  have bnn : ((n : Int) != (n : Int)) = false := by simp
  go_enter Tryz.func29, Tryz.ntmps29
  go_wp2
  go_loopw [13] (fun i wr => ∃ k : Nat, k ≤ n ∧ i = .int .i64 k ∧ Hid (l.take k = m.take k) ∧ Below w.heap.size w wr) (fun i _ => n - (intOf i).toNat)
  case atStart => exact ⟨0, Nat.zero_le _, rfl, Lib.hid rfl, Below.refl _ _⟩
  case round =>
   obtain ⟨k, hk, rfl, hT, hbr⟩ := hrel
   by_cases hlt : k < n
   ·have hkx : k < l.length := by have := HX.out.len; omega
    have hky : k < m.length := by have := HY.out.len; omega
    have hkn : (k : Int) < (n : Int) := by omega
    have hx' := HX.out.cells.below (hbr.mono hB)
    have hy' := HY.out.cells.below (hbr.mono hB)
    obtain ⟨b1, o1, rfl, hb1, hxx⟩ := hx'.at_ (by rw [flat_len stC 2 stC_len]; omega)
    obtain ⟨b2, o2, rfl, hb2, hyy⟩ := hy'.at_ (by rw [flat_len stC 2 stC_len]; omega)
    clear hxx hyy
    have c0 := hx'.row0 stC_len hkx rfl
    have c1 := hx'.rowj stC_len hkx 1 rfl
    have d0 := hy'.row0 stC_len hky rfl
    have d1 := hy'.rowj stC_len hky 1 rfl
    have HTK := Lib.hid (fun (h : l[k] = m[k]) => show l.take (k + 1) = m.take (k + 1) from by rw [List.take_add_one, List.take_add_one, hT.out, List.getElem?_eq_getElem hkx, List.getElem?_eq_getElem hky, h])
    have HNE := Lib.hid (fun (h : l[k] ≠ m[k]) => show false = S.eqS l m from (eqS_false (fun e => h (by subst e; rfl))).symm)
    clear hx' hy'
    generalize l[k] = f at *
    generalize m[k] = g at *
    by_cases hf : f.fro = g.fro
    ·have b1 : (f.fro == g.fro) = true := by simp [hf]
     by_cases hv : f.val = g.val
     ·have b2 : (f.val == g.val) = true := by simp [hv]
      have HFG := Lib.hid (HTK.out (by cases f; cases g; simp_all))
      have HF := Lib.hid hf
      have HV := Lib.hid hv
      clear hf hv
      go_wp2
      go_quiet (fail)
      go_wp2
      go_roundw
      case rel => exact ⟨k + 1, by omega, by go_num, HFG, bel⟩
      case measure => simp [intOf]; omega
     ·have b2 : (f.val == g.val) = false := by simp [hv]
      have HFG := Lib.hid (HNE.out (fun e => hv (by rw [e])))
      have HF := Lib.hid hf
      clear hf
      go_wp2
      go_quiet (fail)
      go_wp2
      go_ret
      exact ⟨ret_b HFG.out, bel⟩
    ·have b1 : (f.fro == g.fro) = false := by simp [hf]
     have HFG := Lib.hid (HNE.out (fun e => hf (by rw [e])))
     go_wp2
     go_quiet (fail)
     go_wp2
     go_ret
     exact ⟨ret_b HFG.out, bel⟩
   ·have hkn : ¬ ((k : Int) < (n : Int)) := by omega
    have H3 := Lib.hid (show true = S.eqS l m from ((eqS_iff l m).2 (by
     have h1 := hT.out
     rw [List.take_of_length_le (by have := HX.out.len; omega), List.take_of_length_le (by have := HY.out.len; omega)] at h1
     exact h1)).symm)
    go_wp2
    go_ret
    exact ⟨ret_b H3.out, bel⟩
 ·have bnn : ((n : Int) == (n' : Int)) = false := by simp; omega
  have H3 := Lib.hid (show false = S.eqS l m from (eqS_false (fun e => hnn (by have h1 := HX.out.len; have h2 := HY.out.len; subst e; omega))).symm)
  go_enter Tryz.func29, Tryz.ntmps29
  go_wp2
  go_ret
  exact ⟨ret_b H3.out, bel⟩
def S.eqA : List (List Stp) → List (List Stp) → Bool
 | [], [] => true
 | a :: t, b :: u => S.eqS a b && S.eqA t u
 | _, _ => false
theorem eqA_iff : ∀ (l m : List (List Stp)), S.eqA l m = true ↔ l = m := by
 intro l
 induction l with
 | nil => intro m; cases m <;> simp [S.eqA]
 | cons a t ih =>
  intro m
  cases m with
  | nil => simp [S.eqA]
  | cons b u =>
   unfold S.eqA
   rw [Bool.and_eq_true, ih u, eqS_iff]
   simp
theorem eqA_false {l m : List (List Stp)} (h : l ≠ m) : S.eqA l m = false := by
 cases hq : S.eqA l m
 ·rfl
 ·exact absurd ((eqA_iff l m).1 hq) h
set_option maxRecDepth 20000 in
set_option maxHeartbeats 1500000 in
theorem equalK_any (L M : List Sk) (A A' : Option Addr) (n n' c c' : Nat) (B : Nat) (w : World) (hB : B ≤ w.heap.size) (hx : AreasAt w B A n L) (hy : AreasAt w B A' n' M) :
 Calls Tryz.prog 28 #[.slice A n c, .slice A' n' c', .func (.func 29) #[] #[]] w fun e w' => e = .returned (.bool (S.eqA (L.map (·.l)) (M.map (·.l)))) ∧ Below w.heap.size w w' := by
 have HX := Lib.hid hx
 have HY := Lib.hid hy
 have hm1 := hx.max
 clear hx hy
 by_cases hnn : n = n'
 ·subst hnn
  have bnn : ((n : Int) != (n : Int)) = false := by simp
  go_enter Tryz.func28, Tryz.ntmps28
  go_wp2
  go_loopw [17] (fun i wr => ∃ k : Nat, k ≤ n ∧ i = .int .i64 k ∧ Hid ((L.map (·.l)).take k = (M.map (·.l)).take k) ∧ Below w.heap.size w wr) (fun i _ => n - (intOf i).toNat)
  case atStart => exact ⟨0, Nat.zero_le _, rfl, Lib.hid rfl, Below.refl _ _⟩
  case round =>
   obtain ⟨k, hk, rfl, hT, hbr⟩ := hrel
   by_cases hlt : k < n
   ·have hkx : k < L.length := by have := HX.out.len; omega
    have hky : k < M.length := by have := HY.out.len; omega
    have hkn : (k : Int) < (n : Int) := by omega
    have hx' := HX.out.cells.below (hbr.mono hB)
    have hy' := HY.out.cells.below (hbr.mono hB)
    obtain ⟨b1, o1, rfl, hb1, hxx⟩ := hx'.at_ (by simp; omega)
    obtain ⟨b2, o2, rfl, hb2, hyy⟩ := hy'.at_ (by simp; omega)
    have c0 := hxx k _ (skV_get hkx)
    have d0 := hyy k _ (skV_get hky)
    clear hxx hyy hx' hy'
    have HEQ := Lib.hid (equalSt_any L[k].l M[k].l L[k].A M[k].A L[k].n M[k].n L[k].c M[k].c B wr (Nat.le_trans hB hbr.size) ((HX.out.each _ (List.getElem_mem hkx)).below (hbr.mono hB)) ((HY.out.each _ (List.getElem_mem hky)).below (hbr.mono hB)))
    have HTK := Lib.hid (fun (h : L[k].l = M[k].l) => show (L.map (·.l)).take (k + 1) = (M.map (·.l)).take (k + 1) from by rw [List.take_add_one, List.take_add_one, hT.out, List.getElem?_map, List.getElem?_map, List.getElem?_eq_getElem hkx, List.getElem?_eq_getElem hky, Option.map_some, Option.map_some, h])
    have HNE := Lib.hid (fun (h : L[k].l ≠ M[k].l) => show false = S.eqA (L.map (·.l)) (M.map (·.l)) from (eqA_false (fun e => h (by
     have h1 := congrArg (fun q => q[k]?) e
     simpa [hkx, hky] using h1))).symm)
    generalize L[k] = f at *
    generalize M[k] = g at *
    by_cases hf : f.l = g.l
    ·have HFG := Lib.hid (HTK.out hf)
     rw [(eqS_iff _ _).2 hf] at HEQ
     clear hf HTK HNE
     go_wp2_with (go_at_call 29; (with_reducible refine HEQ.out.mono ?_); rintro e w1 ⟨rfl, hb1⟩)
     go_roundw
     case rel => exact ⟨k + 1, by omega, by go_num, HFG, hbr.trans (hb1.mono hbr.size)⟩
     case measure => simp [intOf]; omega
    ·have HFG := Lib.hid (HNE.out hf)
     rw [eqS_false hf] at HEQ
     clear hf HTK HNE
     go_wp2_with (go_at_call 29; (with_reducible refine HEQ.out.mono ?_); rintro e w1 ⟨rfl, hb1⟩)
     go_ret
     exact ⟨ret_b HFG.out, hbr.trans (hb1.mono hbr.size)⟩
   ·have hkn : ¬ ((k : Int) < (n : Int)) := by omega
    have H3 := Lib.hid (show true = S.eqA (L.map (·.l)) (M.map (·.l)) from ((eqA_iff _ _).2 (by
     have h1 := hT.out
     rw [List.take_of_length_le (by have := HX.out.len; simp; omega), List.take_of_length_le (by have := HY.out.len; simp; omega)] at h1
     exact h1)).symm)
    go_wp2
    go_ret
    exact ⟨ret_b H3.out, hbr⟩
 ·have bnn : ((n : Int) == (n' : Int)) = false := by simp; omega
  have H3 := Lib.hid (show false = S.eqA (L.map (·.l)) (M.map (·.l)) from (eqA_false (fun e => hnn (by have h1 := HX.out.len; have h2 := HY.out.len; have h3 := congrArg List.length e; simp at h3; omega))).symm)
  go_enter Tryz.func28, Tryz.ntmps28
  go_wp2
  go_ret
  exact ⟨ret_b H3.out, bel⟩
theorem equal_any (L M : List Sk) (A A' : Option Addr) (n n' c c' : Nat) (B : Nat) (w : World) (hB : B ≤ w.heap.size) (hx : AreasAt w B A n L) (hy : AreasAt w B A' n' M) :
 Calls Tryz.prog 49 #[.slice A n c, .slice A' n' c'] w fun e w' => e = .returned (.bool (S.eqA (L.map (·.l)) (M.map (·.l)))) ∧ Below w.heap.size w w' := by
 have H := Lib.hid (equalK_any L M A A' n n' c c' B w hB hx hy)
 clear hx hy
 go_enter Tryz.func49, Tryz.ntmps49
 go_wp2_with (go_at_call 28; (with_reducible refine (H.out).mono ?_); rintro e w1 ⟨rfl, hbw1⟩; obtain ⟨hcw1, hfw1⟩ := bcell hbw1)
 go_ret
 exact ⟨rfl, bel⟩
def S.same (a b : Cl) : Bool := S.eqA a.areas b.areas && (a.first == b.first) && (a.second == b.second) && (a.square == b.square)
theorem same_iff (a b : Cl) : S.same a b = true ↔ a = b := by
 unfold S.same
 simp only [Bool.and_eq_true, beq_iff_eq]
 rw [eqA_iff]
 cases a
 cases b
 simp [and_assoc]
set_option maxRecDepth 20000 in
set_option maxHeartbeats 2000000 in
theorem same_any (x y : Ck) (B : Nat) (w : World) (hB : B ≤ w.heap.size) (hx : CkAt w B x) (hy : CkAt w B y) :
 Calls Tryz.prog 19 #[ckV x, ckV y] w fun e w' => e = .returned (.bool (S.same x.cl y.cl)) ∧ Below w.heap.size w w' := by
 have H := Lib.hid (show S.same x.cl y.cl = (S.eqA (x.L.map (·.l)) (y.L.map (·.l)) && (x.first == y.first) && (x.second == y.second) && (x.square == y.square)) from rfl)
 have HEQ := Lib.hid (fun W (hw : Below w.heap.size w W) => equal_any x.L y.L x.A y.A x.n y.n x.c y.c B W (Nat.le_trans hB hw.size) (hx.below (hw.mono hB)) (hy.below (hw.mono hB)))
 clear hx hy
 generalize S.eqA (x.L.map (·.l)) (y.L.map (·.l)) = ea at *
 unfold ckV
 have hDX := (Blk.new w 39 #[.slice x.A x.n x.c, .int .i64 x.first, .int .i64 x.second, .int .i64 x.square]).alloc (.cells #[.slice y.A y.n y.c, .int .i64 y.first, .int .i64 y.second, .int .i64 y.square] 39)
 have hDY := Blk.newN (W := w.alloc (.cells #[.slice x.A x.n x.c, .int .i64 x.first, .int .i64 x.second, .int .i64 x.square] 39)) (n := w.heap.size + 1) (by simp) 39 #[.slice y.A y.n y.c, .int .i64 y.first, .int .i64 y.second, .int .i64 y.square]
 have hW1 : Below w.heap.size w ((w.alloc (.cells #[.slice x.A x.n x.c, .int .i64 x.first, .int .i64 x.second, .int .i64 x.square] 39)).alloc (.cells #[.slice y.A y.n y.c, .int .i64 y.first, .int .i64 y.second, .int .i64 y.square] 39)) := ba_alloc (ba_alloc (Below.refl _ _) _) _
 go_enter Tryz.func19, Tryz.ntmps19
 go_upto_region 1 with fail
 generalize ((w.alloc (.cells #[.slice x.A x.n x.c, .int .i64 x.first, .int .i64 x.second, .int .i64 x.square] 39)).alloc (.cells #[.slice y.A y.n y.c, .int .i64 y.first, .int .i64 y.second, .int .i64 y.square] 39)) = W1 at *
 have d0 := hDX.cell 0
 have dl := hDX.lt
 have f0 := hDY.cell 0
 have fl := hDY.lt
 simp only [List.getElem?_toArray, List.getElem?_cons_zero, List.getElem?_cons_succ] at d0 f0
 have HDX := Lib.hid hDX
 have HDY := Lib.hid hDY
 clear hDX hDY
 cases ea
 ·have H4 := Lib.hid (show false = S.same x.cl y.cl by rw [H.out]; rfl)
  go_wp2_with (go_at_call 49; (with_reducible refine (HEQ.out _ hW1).mono ?_); rintro e w2 ⟨rfl, hbw2⟩; have hX2 := HDX.out.via hbw2; have hY2 := HDY.out.via hbw2; have d1 := hX2.cell 1; have d2 := hX2.cell 2; have d3 := hX2.cell 3; have dl2 := hX2.lt; have f1 := hY2.cell 1; have f2 := hY2.cell 2; have f3 := hY2.cell 3; have fl2 := hY2.lt; simp only [List.getElem?_toArray, List.getElem?_cons_zero, List.getElem?_cons_succ] at d1 d2 d3 f1 f2 f3)
  go_ret
  exact ⟨ret_b H4.out, ba_via hbw2 hW1⟩
 ·by_cases h1 : x.first = y.first
  ·have b1 : (x.first == y.first) = true := by simp [h1]
   by_cases h2 : x.second = y.second
   ·have b2 : (x.second == y.second) = true := by simp [h2]
    by_cases h3 : x.square = y.square
    ·have b3 : (x.square == y.square) = true := by simp [h3]
     have H4 := Lib.hid (show true = S.same x.cl y.cl by rw [H.out, b1, b2, b3]; rfl)
     go_wp2_with (go_at_call 49; (with_reducible refine (HEQ.out _ hW1).mono ?_); rintro e w2 ⟨rfl, hbw2⟩; have hX2 := HDX.out.via hbw2; have hY2 := HDY.out.via hbw2; have d1 := hX2.cell 1; have d2 := hX2.cell 2; have d3 := hX2.cell 3; have dl2 := hX2.lt; have f1 := hY2.cell 1; have f2 := hY2.cell 2; have f3 := hY2.cell 3; have fl2 := hY2.lt; simp only [List.getElem?_toArray, List.getElem?_cons_zero, List.getElem?_cons_succ] at d1 d2 d3 f1 f2 f3)
     go_ret
     exact ⟨ret_b H4.out, ba_via hbw2 hW1⟩
    ·have b3 : (x.square == y.square) = false := by simp [h3]
     have H4 := Lib.hid (show false = S.same x.cl y.cl by rw [H.out, b1, b2, b3]; rfl)
     go_wp2_with (go_at_call 49; (with_reducible refine (HEQ.out _ hW1).mono ?_); rintro e w2 ⟨rfl, hbw2⟩; have hX2 := HDX.out.via hbw2; have hY2 := HDY.out.via hbw2; have d1 := hX2.cell 1; have d2 := hX2.cell 2; have d3 := hX2.cell 3; have dl2 := hX2.lt; have f1 := hY2.cell 1; have f2 := hY2.cell 2; have f3 := hY2.cell 3; have fl2 := hY2.lt; simp only [List.getElem?_toArray, List.getElem?_cons_zero, List.getElem?_cons_succ] at d1 d2 d3 f1 f2 f3)
     go_ret
     exact ⟨ret_b H4.out, ba_via hbw2 hW1⟩
   ·have b2 : (x.second == y.second) = false := by simp [h2]
    have H4 := Lib.hid (show false = S.same x.cl y.cl by rw [H.out, b1, b2]; rfl)
    go_wp2_with (go_at_call 49; (with_reducible refine (HEQ.out _ hW1).mono ?_); rintro e w2 ⟨rfl, hbw2⟩; have hX2 := HDX.out.via hbw2; have hY2 := HDY.out.via hbw2; have d1 := hX2.cell 1; have d2 := hX2.cell 2; have d3 := hX2.cell 3; have dl2 := hX2.lt; have f1 := hY2.cell 1; have f2 := hY2.cell 2; have f3 := hY2.cell 3; have fl2 := hY2.lt; simp only [List.getElem?_toArray, List.getElem?_cons_zero, List.getElem?_cons_succ] at d1 d2 d3 f1 f2 f3)
    go_ret
    exact ⟨ret_b H4.out, ba_via hbw2 hW1⟩
  ·have b1 : (x.first == y.first) = false := by simp [h1]
   have H4 := Lib.hid (show false = S.same x.cl y.cl by rw [H.out, b1]; rfl)
   go_wp2_with (go_at_call 49; (with_reducible refine (HEQ.out _ hW1).mono ?_); rintro e w2 ⟨rfl, hbw2⟩; have hX2 := HDX.out.via hbw2; have hY2 := HDY.out.via hbw2; have d1 := hX2.cell 1; have d2 := hX2.cell 2; have d3 := hX2.cell 3; have dl2 := hX2.lt; have f1 := hY2.cell 1; have f2 := hY2.cell 2; have f3 := hY2.cell 3; have fl2 := hY2.lt; simp only [List.getElem?_toArray, List.getElem?_cons_zero, List.getElem?_cons_succ] at d1 d2 d3 f1 f2 f3)
   go_ret
   exact ⟨ret_b H4.out, ba_via hbw2 hW1⟩
abbrev strM5 : ByteArray := ⟨#[109]⟩
abbrev box5 : Array Value := #[.int .i64 0, .int .i64 0, .int .i64 0, .int .i64 1000, .int .i64 200, .int .i64 300]
abbrev exL5 (gx : Nat) : List Value := [.string strM5, .slice (some ⟨gx, 0, none⟩) 1 1, .slice none 0 0, .int .i64 0, .int .i64 16, .int .i64 40, .slice none 0 0, .slice none 0 0, .slice none 0 0, .slice none 0 0, .int .i64 40, .int .i64 1, .int .i64 1, .int .i64 1, .int .i64 1, .int .i64 1, .int .i64 1, .int .i64 1, .int .i64 0]
theorem ba_exc5 {w W W' : World} (h : Below w.heap.size w W) (hX : Exc [w.heap.size] W W') : Below w.heap.size w W' :=
 ⟨hX.os.trans h.os, hX.tape.trans h.tape, hX.output.trans h.output, Nat.le_trans h.size hX.size, fun k hk => (hX.block k (Nat.lt_of_lt_of_le hk h.size) (by simp; omega)).trans (h.block k hk)⟩
set_option maxRecDepth 20000 in
set_option maxHeartbeats 800000 in
theorem example51_any (w : World) : Calls Tryz.prog 36 #[] w fun e w' => ∃ gx, e = .returned (.agg (exL5 gx).toArray) ∧ Blk w' gx 122 box5 ∧ Below w.heap.size w w' := by
 go_enter Tryz.func36, Tryz.ntmps36
 go_upto_region 1 with fail
 have hD0 : Blk (w.alloc (.cells #[.string ⟨#[]⟩, .slice none 0 0, .slice none 0 0, .int .i64 0, .int .i64 0, .int .i64 0, .slice none 0 0, .slice none 0 0, .slice none 0 0, .slice none 0 0, .int .i64 0, .int .i64 0, .int .i64 0, .int .i64 0, .int .i64 0, .int .i64 0, .int .i64 0, .int .i64 0, .int .i64 0] 34)) w.heap.size 34 #[.string ⟨#[]⟩, .slice none 0 0, .slice none 0 0, .int .i64 0, .int .i64 0, .int .i64 0, .slice none 0 0, .slice none 0 0, .slice none 0 0, .slice none 0 0, .int .i64 0, .int .i64 0, .int .i64 0, .int .i64 0, .int .i64 0, .int .i64 0, .int .i64 0, .int .i64 0, .int .i64 0] := Blk.new _ _ _
 have hb3 : Below w.heap.size w (w.alloc (.cells #[.string ⟨#[]⟩, .slice none 0 0, .slice none 0 0, .int .i64 0, .int .i64 0, .int .i64 0, .slice none 0 0, .slice none 0 0, .slice none 0 0, .slice none 0 0, .int .i64 0, .int .i64 0, .int .i64 0, .int .i64 0, .int .i64 0, .int .i64 0, .int .i64 0, .int .i64 0, .int .i64 0] 34)) := ba_alloc (Below.refl _ _) _
 generalize (w.alloc (.cells #[.string ⟨#[]⟩, .slice none 0 0, .slice none 0 0, .int .i64 0, .int .i64 0, .int .i64 0, .slice none 0 0, .slice none 0 0, .slice none 0 0, .slice none 0 0, .int .i64 0, .int .i64 0, .int .i64 0, .int .i64 0, .int .i64 0, .int .i64 0, .int .i64 0, .int .i64 0, .int .i64 0] 34)) = w1 at *
 go_wp2_with (
  (with_reducible refine at_store 34 0 7 ?_
   go_loud (
   have hBox := Blk.new w1 122 box5
   have hDz : Blk (w1.alloc (.cells box5 122)) w.heap.size 34 #[.string ⟨#[]⟩, .slice none 0 0, .slice none 0 0, .int .i64 0, .int .i64 0, .int .i64 0, .slice none 0 0, .slice none 0 0, .slice none 0 0, .slice none 0 0, .int .i64 0, .int .i64 0, .int .i64 0, .int .i64 0, .int .i64 0, .int .i64 0, .int .i64 0, .int .i64 0, .int .i64 0] := hD0.alloc _
   have hgb : w.heap.size < w1.heap.size := hD0.lt
   have hbel : Below w.heap.size w (w1.alloc (.cells box5 122)) := ba_alloc hb3 _
   clear hD0 hb3
   generalize (w1.alloc (.cells box5 122)) = WD at *
   generalize w1.heap.size = g1 at *
   have hPut : Blk (WD.setCells w.heap.size 0 (exL5 g1).toArray.toList) w.heap.size 34 (exL5 g1).toArray := Blk.put0 hDz (exL5 g1).toArray rfl
   have hXs : Exc [w.heap.size] WD (WD.setCells w.heap.size 0 (exL5 g1).toArray.toList) := exc_setCells _ _ _ _
   have hTh : WD.there w.heap.size 0 (exL5 g1).toArray.size := hDz.there (by simp)
   refine wpList_store_mid rfl 34 (.tmp 0) (.tmp 7) rfl w.heap.size 0 (exL5 g1).toArray rfl rfl hTh (by kernel_rfl) (all_oneCell_toArray (by simp [Value.oneCell'])) ?_
   generalize (WD.setCells w.heap.size 0 (exL5 g1).toArray.toList) = WF at *)))
 have hbF : Below w.heap.size w WF := ba_exc5 hbel hXs
 refine bodyPost_ret (v := .agg (exL5 g1).toArray) ?_ rfl ⟨g1, rfl, hBox.exc hXs (by simp; omega), hbF⟩
 have hres : (loadVar 34 ⟨w.heap.size, 0, none⟩).run Tryz.prog WF = .ok (.agg (exL5 g1).toArray) WF := run_loadVar_mid WF w.heap.size 0 _ _ _ hPut.range Tryz.underlying34 rfl (by kernel_rfl)
 have ha : (asAddr (.pointer (some ⟨w.heap.size, 0, none⟩))).run Tryz.prog WF = .ok ⟨w.heap.size, 0, none⟩ WF := by kernel_rfl
 simp [results, Tryz.results36, Act.put, ha, hres, Result.andThen]
theorem Blk.cells {w : World} {g : Nat} {t : TypeId} {cs : List Value} (h : Blk w g t cs.toArray) : Cells w w.heap.size (some ⟨g, 0, none⟩) cs := .inr ⟨g, 0, rfl, h.lt, fun j v hv => by
 rw [Nat.zero_add]
 exact (h.cell j).trans (by simpa using hv)⟩
theorem ex5_le1 : 1 ≤ 9223372036854775807 := by decide
theorem ex5_le0 : 0 ≤ 9223372036854775807 := by decide
def exDt5 (gx : Nat) : Dt where
 m := ⟨strM5, [⟨⟨0, 0, 0⟩, ⟨1000, 200, 300⟩⟩], [], 0, 16, 40⟩
 mA := some ⟨gx, 0, none⟩
 mn := 1
 mc := 1
 hA := none
 hn := 0
 hc := 0
 bs := []
 bA := none
 bn := 0
 bc := 0
 rs := []
 rA := none
 rn := 0
 rc := 0
 js := []
 jA := none
 jn := 0
 jc := 0
 dA := none
 dn := 0
 dc := 0
 rule := ⟨40, 1, 1, 1, 1, 1, 1, 1, 0⟩
theorem ex5_dtV (gx : Nat) : dtV (exDt5 gx) = .agg (exL5 gx).toArray := rfl
theorem ex5_at {w : World} {gx : Nat} (h : Blk w gx 122 box5) : DtAt w w.heap.size (exDt5 gx) :=
 ⟨⟨rfl, ex5_le1, rfl, ex5_le0, h.cells, Cells.nil⟩, ex5_le1, ⟨rfl, ex5_le0, Cells.nil, fun r hr => (by cases hr)⟩, ⟨rfl, ex5_le0, Cells.nil⟩, rfl, ex5_le0, Cells.nil⟩
theorem ex5_look (gx : Nat) : S.look (exDt5 gx) (S.dems []) = true := by kernel_rfl
theorem ex5_laid (gx : Nat) : S.laid (bars (exDt5 gx).bs) (exDt5 gx).rs = true := by kernel_rfl
section
variable {gx : Nat} {w : World}
theorem ex5_dv (W : World) : Calls Tryz.prog 107 #[.slice none 0 0] W fun e w' => e = .returned (.bool (S.dems [])) ∧ Below W.heap.size W w' :=
 dvalid_any [] none 0 0 W.heap.size W (Nat.le_refl _) (Nat.le_refl _) ⟨rfl, ex5_le0, Cells.nil, fun d hd => (by cases hd), fun d hd => (by cases hd)⟩
theorem ex5_Valid (h : Blk w gx 122 box5) (W : World) (hw : Below w.heap.size w W) : Calls Tryz.prog 41 #[.agg (exL5 gx).toArray] W fun e w' => e = .returned (.bool true) ∧ Below W.heap.size W w' := by
 have := lvalid_any (exDt5 gx) true w.heap.size _ _ W hw.size (fun V hV => look_yes (exDt5 gx) (S.dems []) w.heap.size V (hw.trans (hV.mono hw.size)).size ((ex5_at h).at_ (Nat.le_refl _) (hw.trans (hV.mono hw.size))) (fun U hU => ex5_dv U) (ex5_look gx))
 rw [ex5_dtV] at this
 exact this
set_option maxRecDepth 20000 in
set_option maxHeartbeats 1000000 in
theorem ex5_All (h : Blk w gx 122 box5) (W : World) (hw : Below w.heap.size w W) : Calls Tryz.prog 26 #[.agg (exL5 gx).toArray] W fun e w' => e = .returned (.tuple #[.slice none 0 0, .int .i64 0]) ∧ Below W.heap.size W w' := by
 have HV := Lib.hid (fun V (hV : Below W.heap.size W V) => ex5_Valid h V (hw.trans (hV.mono hw.size)))
 clear h hw
 have hDB := Blk.new W 34 (exL5 gx).toArray
 have hW1 : Below W.heap.size W (W.alloc (.cells (exL5 gx).toArray 34)) := ba_alloc (Below.refl _ _) _
 go_enter Tryz.func26, Tryz.ntmps26
 go_upto_region 1 with fail
 generalize (W.alloc (.cells (exL5 gx).toArray 34)) = W1 at *
 have HDB := Lib.hid hDB
 clear hDB
 go_upto_region 4 with (first
  | ((with_reducible refine at_load 34 1 ?_); refine wpList_load_mid rfl 34 (.tmp 1) rfl _ _ rfl _ _ (HDB.out.via belr).range Tryz.underlying34 rfl (by kernel_rfl) ?_)
  | (go_at_call 41; (with_reducible refine (HV.out _ hW1).mono ?_); rintro e w2 ⟨rfl, hbw2⟩))
 have hD2 := HDB.out.via hbw2
 have d9 := hD2.cell 9
 have dl := hD2.lt
 simp only [List.getElem?_toArray, List.getElem?_cons_zero, List.getElem?_cons_succ] at d9
 have hw2 : Below W.heap.size W w2 := ba_via hbw2 hW1
 clear hD2 hbw2 HV HDB
 go_wp2
 go_loopw [4, 14] (fun v i wr => v = .slice none 0 0 ∧ i = .int .i64 0 ∧ w2 = wr) (fun _ i _ => 0)
 case atStart => exact ⟨rfl, rfl, rfl⟩
 case round =>
  obtain ⟨rfl, rfl, rfl⟩ := hrel
  go_wp2
  go_ret2
  exact ⟨rfl, hw2⟩
theorem ex5_Count (W : World) : Calls Tryz.prog 27 #[.slice none 0 0, .slice none 0 0] W fun e w' => e = .returned (.tuple #[.int .i64 0, .int .i64 0]) ∧ Below W.heap.size W w' := by
 have hA := ex5_at (Blk.new W 122 box5)
 have hat : DtAt W W.heap.size { exDt5 0 with mA := none, mn := 0, m := { (exDt5 0).m with boxes := [] } } := ⟨⟨rfl, ex5_le0, rfl, ex5_le0, Cells.nil, Cells.nil⟩, ex5_le1, ⟨rfl, ex5_le0, Cells.nil, fun r hr => (by cases hr)⟩, ⟨rfl, ex5_le0, Cells.nil⟩, rfl, ex5_le0, Cells.nil⟩
 exact count_yes _ W.heap.size W (Nat.le_refl _) hat (ex5_laid 0)
set_option maxRecDepth 20000 in
set_option maxHeartbeats 1000000 in
theorem ex5_of (W : World) : Calls Tryz.prog 62 #[.slice none 0 0, .slice none 0 0] W fun e w' => ∃ g, e = .returned (.tuple #[.pointer (some ⟨g, 0, none⟩), .int .i64 0]) ∧ Blk w' g 116 #[.slice none 0 0, .slice none 0 0] ∧ Below W.heap.size W w' := by
 have HC := Lib.hid (fun V => ex5_Count V)
 have hmk : ∀ V, (Instr.makeMap 165 none).run Tryz.prog V = .ok (.map (some V.heap.size)) (V.alloc (.map #[] 0)) := fun _ => by kernel_rfl
 go_enter Tryz.func62, Tryz.ntmps62
 go_upto_region 5 with (go_at_call 27; (with_reducible refine (HC.out _).mono ?_); rintro e w2 ⟨rfl, hbw2⟩)
 have hw3 : Below W.heap.size W (w2.alloc (.map #[] 0)) := ba_alloc hbw2 _
 generalize (w2.alloc (.map #[] 0)) = w3 at *
 go_wp2
 go_loopw [28] (fun i wr => i = .int .i64 0 ∧ w3 = wr) (fun i _ => 0)
 case atStart => exact ⟨rfl, rfl⟩
 case round =>
  obtain ⟨rfl, rfl⟩ := hrel
  go_upto_region 11 with fail
  have hS := Blk.new w3 116 #[.slice none 0 0, .slice none 0 0]
  have hw4 : Below W.heap.size W (w3.alloc (.cells #[.slice none 0 0, .slice none 0 0] 116)) := ba_alloc hw3 _
  generalize (w3.alloc (.cells #[.slice none 0 0, .slice none 0 0] 116)) = w4 at *
  generalize w3.heap.size = g3 at *
  go_wp2
  go_loopw [41] (fun i wr => i = .int .i64 0 ∧ w4 = wr) (fun i _ => 0)
  case atStart => exact ⟨rfl, rfl⟩
  case round =>
   obtain ⟨rfl, rfl⟩ := hrel
   go_wp2
   go_ret2
   exact ⟨g3, rfl, hS, hw4⟩
set_option maxRecDepth 20000 in
set_option maxHeartbeats 1000000 in
theorem ex5_Nearest (W : World) : Calls Tryz.prog 42 #[.slice none 0 0, .slice none 0 0] W fun e w' => e = .returned (.tuple #[.agg #[.int .i64 0, .int .i64 0, .int .i64 0, .int .i64 0, .int .i64 0, .int .i64 0, .int .i64 0, .int .i64 0], .int .i64 0, .int .i64 12]) ∧ Below W.heap.size W w' := by
 have HO := Lib.hid (fun V => ex5_of V)
 have hRB := Blk.new W 87 #[.int .i64 0, .int .i64 0, .int .i64 0, .int .i64 0, .int .i64 0, .int .i64 0, .int .i64 0, .int .i64 0]
 have hW1 : Below W.heap.size W (W.alloc (.cells #[.int .i64 0, .int .i64 0, .int .i64 0, .int .i64 0, .int .i64 0, .int .i64 0, .int .i64 0, .int .i64 0] 87)) := ba_alloc (Below.refl _ _) _
 go_enter Tryz.func42, Tryz.ntmps42
 go_upto_region 1 with fail
 generalize (W.alloc (.cells #[.int .i64 0, .int .i64 0, .int .i64 0, .int .i64 0, .int .i64 0, .int .i64 0, .int .i64 0, .int .i64 0] 87)) = W1 at *
 have HRB := Lib.hid hRB
 clear hRB
 go_upto_region 2 with (go_at_call 62; (with_reducible refine (HO.out _).mono ?_); rintro e w2 ⟨g2, rfl, hS2, hb2⟩)
 have hR2 := HRB.out.via hb2
 have s0 := hS2.cell 0
 have sl := hS2.lt
 have r0 := hR2.cell 0
 have z0 := hR2.frozen 0
 have r1 := hR2.cell 1
 have z1 := hR2.frozen 1
 have r2 := hR2.cell 2
 have z2 := hR2.frozen 2
 have r3 := hR2.cell 3
 have z3 := hR2.frozen 3
 have r4 := hR2.cell 4
 have z4 := hR2.frozen 4
 have r5 := hR2.cell 5
 have z5 := hR2.frozen 5
 have r6 := hR2.cell 6
 have z6 := hR2.frozen 6
 have r7 := hR2.cell 7
 have z7 := hR2.frozen 7
 have hrl := hR2.lt
 simp only [List.getElem?_toArray, List.getElem?_cons_zero, List.getElem?_cons_succ] at s0 r0 r1 r2 r3 r4 r5 r6 r7
 have hw2 : Below W.heap.size W w2 := ba_via hb2 hW1
 clear hR2 hS2 hb2 HRB HO
 go_wp2
 exact bodyPost_ret (v := .tuple #[.agg #[.int .i64 0, .int .i64 0, .int .i64 0, .int .i64 0, .int .i64 0, .int .i64 0, .int .i64 0, .int .i64 0], .int .i64 0, .int .i64 12]) (by simp [results, Tryz.results42, go_sem, *]) rfl ⟨rfl, by (repeat (refine Below.setCell ?_ (by simp) _)); exact hw2⟩
end
def exK5 : Ck := ⟨[], none, 0, 0, -1, -1, -1⟩
theorem exK5_formed : S.formed exK5.cl = true := by decide
theorem exK5_at (W : World) (B : Nat) : CkAt W B exK5 := ⟨rfl, ex5_le0, Cells.nil, fun r hr => by cases hr⟩
set_option maxRecDepth 20000 in
set_option maxHeartbeats 1500000 in
theorem ex5_Make {gx : Nat} {w : World} (h : Blk w gx 122 box5) (W : World) (hw : Below w.heap.size w W) : Calls Tryz.prog 12 #[.agg (exL5 gx).toArray] W fun e w' => e = .returned (.tuple #[.agg #[.slice none 0 0, .int .i64 (-1), .int .i64 (-1), .int .i64 (-1)], .int .i64 0]) ∧ Below W.heap.size W w' := by
 have HV := Lib.hid (fun V (hV : Below W.heap.size W V) => ex5_Valid h V (hw.trans (hV.mono hw.size)))
 have HA := Lib.hid (fun V (hV : Below W.heap.size W V) => ex5_All h V (hw.trans (hV.mono hw.size)))
 have HN := Lib.hid (fun V => ex5_Nearest V)
 clear h hw
 have hDB := (Blk.new W 34 (exL5 gx).toArray).alloc (.cells #[.slice none 0 0, .int .i64 0, .int .i64 0, .int .i64 0] 39)
 have hRB := Blk.newN (W := W.alloc (.cells (exL5 gx).toArray 34)) (n := W.heap.size + 1) (by simp) 39 #[.slice none 0 0, .int .i64 0, .int .i64 0, .int .i64 0]
 have hW1 : Below W.heap.size W ((W.alloc (.cells (exL5 gx).toArray 34)).alloc (.cells #[.slice none 0 0, .int .i64 0, .int .i64 0, .int .i64 0] 39)) := ba_alloc (ba_alloc (Below.refl _ _) _) _
 go_enter Tryz.func12, Tryz.ntmps12
 go_upto_region 1 with fail
 generalize ((W.alloc (.cells (exL5 gx).toArray 34)).alloc (.cells #[.slice none 0 0, .int .i64 0, .int .i64 0, .int .i64 0] 39)) = W1 at *
 have HDB := Lib.hid hDB
 have HRB := Lib.hid hRB
 clear hDB hRB
 go_upto_region 6 with (first
  | ((with_reducible refine at_load 34 1 ?_); refine wpList_load_mid rfl 34 (.tmp 1) rfl _ _ rfl _ _ (HDB.out.via belr).range Tryz.underlying34 rfl (by kernel_rfl) ?_)
  | (go_at_call 41; (with_reducible refine (HV.out _ hW1).mono ?_); rintro e w2 ⟨rfl, hbw2⟩)
  | (go_at_call 26; (with_reducible refine (HA.out _ (ba_via hbw2 hW1)).mono ?_); rintro e w3 ⟨rfl, hbw3⟩))
 have h13 : Below W1.heap.size W1 w3 := ba_via hbw3 hbw2
 have hw3 : Below W.heap.size W w3 := ba_via h13 hW1
 have HD3 := Lib.hid (HDB.out.via h13)
 have HR3 := Lib.hid (HRB.out.via h13)
 clear HDB HRB hbw2 hbw3 h13 HV HA
 go_upto_region 7 with fail
 have hC4 := Blk.new w3 39 #[.slice none 0 0, .int .i64 (-1), .int .i64 (-1), .int .i64 (-1)]
 have hb4 : Below w3.heap.size w3 (w3.alloc (.cells #[.slice none 0 0, .int .i64 (-1), .int .i64 (-1), .int .i64 (-1)] 39)) := ba_alloc (Below.refl _ _) _
 generalize (w3.alloc (.cells #[.slice none 0 0, .int .i64 (-1), .int .i64 (-1), .int .i64 (-1)] 39)) = w4 at *
 have hD4 := HD3.out.via hb4
 have d6 := hD4.cell 6
 have d7 := hD4.cell 7
 have dl := hD4.lt
 simp only [exL5, List.getElem?_toArray, List.getElem?_cons_zero, List.getElem?_cons_succ] at d6 d7
 have hw4 : Below W.heap.size W w4 := hw3.trans (hb4.mono hw3.size)
 have HC4 := Lib.hid hC4
 have HR4 := Lib.hid (HR3.out.via hb4)
 clear hD4 hC4 hb4 HD3 HR3
 generalize w3.heap.size = g4 at *
 go_upto_region 8 with (go_at_call 42; (with_reducible refine (HN.out _).mono ?_); rintro e w5 ⟨rfl, hbw5⟩)
 have hC6 := Blk.new w5 87 #[.int .i64 0, .int .i64 0, .int .i64 0, .int .i64 0, .int .i64 0, .int .i64 0, .int .i64 0, .int .i64 0]
 have hb6 : Below w4.heap.size w4 (w5.alloc (.cells #[.int .i64 0, .int .i64 0, .int .i64 0, .int .i64 0, .int .i64 0, .int .i64 0, .int .i64 0, .int .i64 0] 87)) := ba_alloc hbw5 _
 generalize (w5.alloc (.cells #[.int .i64 0, .int .i64 0, .int .i64 0, .int .i64 0, .int .i64 0, .int .i64 0, .int .i64 0, .int .i64 0] 87)) = w6 at *
 have HC6 := Lib.hid (HC4.out.via hb6)
 have hR6 := HR4.out.via hb6
 have hw6 : Below W.heap.size W w6 := hw4.trans (hb6.mono hw4.size)
 have r0 := hR6.cell 0
 have z0 := hR6.frozen 0
 have r1 := hR6.cell 1
 have z1 := hR6.frozen 1
 have r2 := hR6.cell 2
 have z2 := hR6.frozen 2
 have r3 := hR6.cell 3
 have z3 := hR6.frozen 3
 have hrl := hR6.lt
 simp only [List.getElem?_toArray, List.getElem?_cons_zero, List.getElem?_cons_succ] at r0 r1 r2 r3
 clear hR6 hb6 hbw5 hC6 d6 d7 dl HC4 HR4
 go_wp2_with ((with_reducible refine at_load 39 6 ?_); refine wpList_load_mid rfl 39 (.tmp 6) rfl _ _ rfl _ _ (HC6.out.via belr).range Tryz.underlying39 rfl (by kernel_rfl) ?_)
 exact bodyPost_ret (v := .tuple #[.agg #[.slice none 0 0, .int .i64 (-1), .int .i64 (-1), .int .i64 (-1)], .int .i64 0]) (by simp [results, Tryz.results12, go_sem, *]) rfl ⟨rfl, by (repeat (refine Below.setCell ?_ (by simp) _)); exact hw6⟩
set_option maxRecDepth 20000 in
set_option maxHeartbeats 2000000 in
theorem ex5_Check {gx : Nat} {w : World} (h : Blk w gx 122 box5) (W : World) (hw : Below w.heap.size w W) : Calls Tryz.prog 16 #[.agg (exL5 gx).toArray, .agg #[.slice none 0 0, .int .i64 (-1), .int .i64 (-1), .int .i64 (-1)]] W fun e w' => e = .returned (.tuple #[.bool true, .int .i64 0]) ∧ Below W.heap.size W w' := by
 have HV := Lib.hid (fun V (hV : Below W.heap.size W V) => ex5_Valid h V (hw.trans (hV.mono hw.size)))
 have HM := Lib.hid (fun V (hV : Below W.heap.size W V) => ex5_Make h V (hw.trans (hV.mono hw.size)))
 have HF := Lib.hid (fun V => (show Calls Tryz.prog 48 #[.agg #[.slice none 0 0, .int .i64 (-1), .int .i64 (-1), .int .i64 (-1)]] V (fun e w' => e = .returned (.bool true) ∧ Below V.heap.size V w') from exK5_formed ▸ formed_any exK5 V.heap.size V (Nat.le_refl _) (exK5_at V _)))
 have HO := Lib.hid (fun V => (show Calls Tryz.prog 50 #[.agg #[.slice none 0 0, .int .i64 (-1), .int .i64 (-1), .int .i64 (-1)]] V (fun e w' => e = .returned (.bool true) ∧ Below V.heap.size V w') from none_any exK5 V))
 have HE := Lib.hid (fun V => (show Calls Tryz.prog 49 #[.slice none 0 0, .slice none 0 0] V (fun e w' => e = .returned (.bool true) ∧ Below V.heap.size V w') from equal_any [] [] none none 0 0 0 0 V.heap.size V (Nat.le_refl _) (exK5_at V _) (exK5_at V _)))
 clear h hw
 have hDB := (Blk.new W 34 (exL5 gx).toArray).alloc (.cells #[.slice none 0 0, .int .i64 (-1), .int .i64 (-1), .int .i64 (-1)] 39)
 have hCB := Blk.newN (W := W.alloc (.cells (exL5 gx).toArray 34)) (n := W.heap.size + 1) (by simp) 39 #[.slice none 0 0, .int .i64 (-1), .int .i64 (-1), .int .i64 (-1)]
 have hW1 : Below W.heap.size W ((W.alloc (.cells (exL5 gx).toArray 34)).alloc (.cells #[.slice none 0 0, .int .i64 (-1), .int .i64 (-1), .int .i64 (-1)] 39)) := ba_alloc (ba_alloc (Below.refl _ _) _) _
 go_enter Tryz.func16, Tryz.ntmps16
 go_upto_region 1 with fail
 generalize ((W.alloc (.cells (exL5 gx).toArray 34)).alloc (.cells #[.slice none 0 0, .int .i64 (-1), .int .i64 (-1), .int .i64 (-1)] 39)) = W1 at *
 have HDB := Lib.hid hDB
 have HCB := Lib.hid hCB
 clear hDB hCB
 go_upto_region 3 with (first
  | ((with_reducible refine at_load 34 2 ?_); refine wpList_load_mid rfl 34 (.tmp 2) rfl _ _ rfl _ _ (HDB.out.via belr).range Tryz.underlying34 rfl (by kernel_rfl) ?_)
  | ((with_reducible refine at_loadg 39 3 ?_); refine wpList_load_gdF (by rfl) 39 (.tmp 3) rfl _ _ rfl _ _ (HCB.out.via belr).range Tryz.underlying39 rfl (by kernel_rfl) ?_)
  | (go_at_call 41; (with_reducible refine (HV.out _ hW1).mono ?_); rintro e w2 ⟨rfl, hbw2⟩)
  | (go_at_call 48; (with_reducible refine (HF.out _).mono ?_); rintro e w3 ⟨rfl, hbw3⟩))
 have h13 : Below W1.heap.size W1 w3 := ba_via hbw3 hbw2
 have hw3 : Below W.heap.size W w3 := ba_via h13 hW1
 have HD3 := Lib.hid (HDB.out.via h13)
 have HC3 := Lib.hid (HCB.out.via h13)
 clear HDB HCB hbw2 hbw3 h13 HV HF hW1
 go_upto_region 4 with (first
  | ((with_reducible refine at_load 34 2 ?_); refine wpList_load_mid rfl 34 (.tmp 2) rfl _ _ rfl _ _ (HD3.out.via belr).range Tryz.underlying34 rfl (by kernel_rfl) ?_)
  | (go_at_call 12; (with_reducible refine (HM.out _ hw3).mono ?_); rintro e w4 ⟨rfl, hbw4⟩))
 have hR5 := Blk.new w4 39 #[.slice none 0 0, .int .i64 (-1), .int .i64 (-1), .int .i64 (-1)]
 have hb5 : Below w3.heap.size w3 (w4.alloc (.cells #[.slice none 0 0, .int .i64 (-1), .int .i64 (-1), .int .i64 (-1)] 39)) := ba_alloc hbw4 _
 generalize (w4.alloc (.cells #[.slice none 0 0, .int .i64 (-1), .int .i64 (-1), .int .i64 (-1)] 39)) = w5 at *
 generalize w4.heap.size = g4 at *
 have hw5 : Below W.heap.size W w5 := hw3.trans (hb5.mono hw3.size)
 have HC5 := Lib.hid (HC3.out.via hb5)
 have HR5 := Lib.hid hR5
 have r0 := hR5.cell 0
 have hrl := hR5.lt
 have c0 := HC5.out.cell 0
 have hcl := HC5.out.lt
 simp only [List.getElem?_toArray, List.getElem?_cons_zero, List.getElem?_cons_succ] at r0 c0
 clear hR5 hb5 hbw4 HD3 HC3 HM
 go_upto_region 8 with (go_at_call 49; (with_reducible refine (HE.out _).mono ?_); rintro e w6 ⟨rfl, hbw6⟩; have hR6 := HR5.out.via hbw6; have hC6 := HC5.out.via hbw6; have r3 := hR6.cell 3; have hrl6 := hR6.lt; have c3 := hC6.cell 3; have hcl6 := hC6.lt; simp only [List.getElem?_toArray, List.getElem?_cons_zero, List.getElem?_cons_succ] at r3 c3)
 have hw6 : Below W.heap.size W w6 := hw5.trans (hbw6.mono hw5.size)
 have HR6 := Lib.hid hR6
 have HC6 := Lib.hid hC6
 clear hR6 hC6 r0 hrl c0 hcl r3 hrl6 c3 hcl6 hbw6 HR5 HC5
 go_upto_region 9 with (first
  | ((with_reducible refine at_load 39 3 ?_); refine wpList_load_mid rfl 39 (.tmp 3) rfl _ _ rfl _ _ (HC6.out.via belr).range Tryz.underlying39 rfl (by kernel_rfl) ?_)
  | (go_at_call 50; (with_reducible refine (HO.out _).mono ?_); rintro e w7 ⟨rfl, hbw7⟩))
 have HR7 := Lib.hid (HR6.out.via hbw7)
 have hw7 : Below W.heap.size W w7 := hw6.trans (hbw7.mono hw6.size)
 clear hbw7 HC6 HR6
 go_wp2_with (first
  | ((with_reducible refine at_load 39 6 ?_); refine wpList_load_mid rfl 39 (.tmp 6) rfl _ _ rfl _ _ (HR7.out.via belr).range Tryz.underlying39 rfl (by kernel_rfl) ?_)
  | (go_at_call 50; (with_reducible refine (HO.out _).mono ?_); rintro e w8 ⟨rfl, hbw8⟩))
 go_ret2
 exact ⟨rfl, ba_via hbw8 hw7⟩
set_option maxRecDepth 20000 in
set_option maxHeartbeats 1500000 in
theorem rlists_any (L M : List Sk) (A A' : Option Addr) (n n' c c' : Nat) (B : Nat) (w : World) (hB : B ≤ w.heap.size) (hx : AreasAt w B A n L) (hy : AreasAt w B A' n' M) :
 Calls Tryz.prog 47 #[.slice A n c, .slice A' n' c'] w fun e w' => e = .returned (.bool (S.eqA (L.map (·.l)) (M.map (·.l)))) ∧ Below w.heap.size w w' := by
 have HX := Lib.hid hx
 have HY := Lib.hid hy
 have hm1 := hx.max
 clear hx hy
 by_cases hnn : n = n'
 ·subst hnn
  have bnn : ((n : Int) != (n : Int)) = false := by simp
  go_enter Tryz.func47, Tryz.ntmps47
  go_wp2
  go_loopw [5] (fun i wr => ∃ k : Nat, k ≤ n ∧ i = .int .i64 k ∧ Hid ((L.map (·.l)).take k = (M.map (·.l)).take k) ∧ Below w.heap.size w wr) (fun i _ => n - (intOf i).toNat)
  case atStart => exact ⟨0, Nat.zero_le _, rfl, Lib.hid rfl, Below.refl _ _⟩
  case round =>
   obtain ⟨k, hk, rfl, hT, hbr⟩ := hrel
   by_cases hlt : k < n
   ·have hkx : k < L.length := by have := HX.out.len; omega
    have hky : k < M.length := by have := HY.out.len; omega
    have hkn : (k : Int) < (n : Int) := by omega
    have hx' := HX.out.cells.below (hbr.mono hB)
    have hy' := HY.out.cells.below (hbr.mono hB)
    obtain ⟨b1, o1, hA1, hb1, hxx⟩ := hx'.at_ (by simp; omega)
    obtain ⟨b2, o2, hA2, hb2, hyy⟩ := hy'.at_ (by simp; omega)
    clear hxx hyy hx' hy'
    have hGX := skV_get hkx
    have hGY := skV_get hky
    have hfx := HX.out.each _ (List.getElem_mem hkx)
    have hfy := HY.out.each _ (List.getElem_mem hky)
    have HTK := Lib.hid (fun (h : L[k].l = M[k].l) => show (L.map (·.l)).take (k + 1) = (M.map (·.l)).take (k + 1) from by rw [List.take_add_one, List.take_add_one, hT.out, List.getElem?_map, List.getElem?_map, List.getElem?_eq_getElem hkx, List.getElem?_eq_getElem hky, Option.map_some, Option.map_some, h])
    have HNE := Lib.hid (fun (h : L[k].l ≠ M[k].l) => show false = S.eqA (L.map (·.l)) (M.map (·.l)) from (eqA_false (fun e => h (by
     have h1 := congrArg (fun q => q[k]?) e
     simpa [hkx, hky] using h1))).symm)
    generalize L[k] = f at *
    generalize M[k] = g at *
    obtain ⟨fA, fn, fc, fl⟩ := f
    obtain ⟨gA, gn, gc, gl⟩ := g
    replace hGX : (L.map skV)[k]? = some (.slice fA fn fc) := hGX
    replace hGY : (M.map skV)[k]? = some (.slice gA gn gc) := hGY
    have HSX := Lib.hid (show StepsAt w B fA fn fl from hfx)
    have HSY := Lib.hid (show StepsAt w B gA gn gl from hfy)
    have HTF := Lib.hid (show fl = gl → (L.map (·.l)).take (k + 1) = (M.map (·.l)).take (k + 1) from HTK.out)
    have HNF := Lib.hid (show fl ≠ gl → false = S.eqA (L.map (·.l)) (M.map (·.l)) from HNE.out)
    have hmf : fn ≤ 9223372036854775807 := HSX.out.max
    have hCX := Lib.hid (show ∀ W, Below w.heap.size w W → W.cell? ⟨b1, o1 + k, none⟩ = some (.slice fA fn fc) from fun W hW => by
     have h1 := HX.out.cells.below (hW.mono hB)
     rw [hA1] at h1
     exact h1.get hGX)
    have hCY := Lib.hid (show ∀ W, Below w.heap.size w W → W.cell? ⟨b2, o2 + k, none⟩ = some (.slice gA gn gc) from fun W hW => by
     have h1 := HY.out.cells.below (hW.mono hB)
     rw [hA2] at h1
     exact h1.get hGY)
    clear hfx hfy HTK HNE hGX hGY
    subst hA1
    subst hA2
    have c0 := hCX.out wr hbr
    have d0 := hCY.out wr hbr
    by_cases hfg : fn = gn
    ·subst hfg
     have bfg : ((fn : Int) != (fn : Int)) = false := by simp
     go_wp2
     go_quiet (fail)
     go_wp2
     go_loopw [6] (fun j wi => ∃ q : Nat, q ≤ fn ∧ j = .int .i64 q ∧ Hid (fl.take q = gl.take q) ∧ Below w.heap.size w wi) (fun j _ => fn - (intOf j).toNat)
     case atStart => exact ⟨0, Nat.zero_le _, rfl, Lib.hid rfl, bel⟩
     case round =>
      obtain ⟨q, hq, rfl, hTq, hbi⟩ := hrel
      clear c0 d0
      have c0 := hCX.out wr hbi
      have d0 := hCY.out wr hbi
      by_cases hlq : q < fn
      ·have hqx : q < fl.length := by have := HSX.out.len; omega
       have hqy : q < gl.length := by have := HSY.out.len; omega
       have hqn : (q : Int) < (fn : Int) := by omega
       have hx' := HSX.out.cells.below (hbi.mono hB)
       have hy' := HSY.out.cells.below (hbi.mono hB)
       obtain ⟨b3, o3, rfl, hb3, hxx⟩ := hx'.at_ (by rw [flat_len stC 2 stC_len]; omega)
       obtain ⟨b4, o4, rfl, hb4, hyy⟩ := hy'.at_ (by rw [flat_len stC 2 stC_len]; omega)
       clear hxx hyy
       have e0 := hx'.row0 stC_len hqx rfl
       have e1 := hx'.rowj stC_len hqx 1 rfl
       have g0 := hy'.row0 stC_len hqy rfl
       have g1 := hy'.rowj stC_len hqy 1 rfl
       have HTS := Lib.hid (fun (h : fl[q] = gl[q]) => show fl.take (q + 1) = gl.take (q + 1) from by rw [List.take_add_one, List.take_add_one, hTq.out, List.getElem?_eq_getElem hqx, List.getElem?_eq_getElem hqy, h])
       have HNS := Lib.hid (fun (h : fl[q] ≠ gl[q]) => HNF.out (fun e => h (by subst e; rfl)))
       clear hx' hy'
       generalize fl[q] = s at *
       generalize gl[q] = t at *
       by_cases hf : s.fro = t.fro
       ·have b1 : (s.fro == t.fro) = true := by simp [hf]
        by_cases hv : s.val = t.val
        ·have b2 : (s.val == t.val) = true := by simp [hv]
         have HFG := Lib.hid (HTS.out (by cases s; cases t; simp_all))
         have HF := Lib.hid hf
         have HV := Lib.hid hv
         clear hf hv
         go_wp2
         go_quiet (fail)
         go_wp2
         go_roundw
         case rel => exact ⟨q + 1, by omega, by go_num, HFG, bel⟩
         case measure => simp [intOf]; omega
        ·have b2 : (s.val == t.val) = false := by simp [hv]
         have HFG := Lib.hid (HNS.out (fun e => hv (by rw [e])))
         have HF := Lib.hid hf
         clear hf
         go_wp2
         go_quiet (fail)
         go_wp2
         go_ret
         exact ⟨ret_b HFG.out, bel⟩
       ·have b1 : (s.fro == t.fro) = false := by simp [hf]
        have HFG := Lib.hid (HNS.out (fun e => hf (by rw [e])))
        go_wp2
        go_quiet (fail)
        go_wp2
        go_ret
        exact ⟨ret_b HFG.out, bel⟩
      ·have hqn : ¬ ((q : Int) < (fn : Int)) := by omega
       have HFG := Lib.hid (HTF.out (by
        have h1 := hTq.out
        rw [List.take_of_length_le (by have := HSX.out.len; omega), List.take_of_length_le (by have := HSY.out.len; omega)] at h1
        exact h1))
       go_wp2
       go_roundw
       case rel => exact ⟨k + 1, by omega, by go_num, HFG, hbi⟩
       case measure => simp [intOf]; omega
    ·have bfg : ((fn : Int) == (gn : Int)) = false := by simp; omega
     have H3 := Lib.hid (HNF.out (fun e => hfg (by have h1 := HSX.out.len; have h2 := HSY.out.len; subst e; omega)))
     go_wp2
     go_quiet (fail)
     go_wp2
     go_ret
     exact ⟨ret_b H3.out, bel⟩
   ·have hkn : ¬ ((k : Int) < (n : Int)) := by omega
    have H3 := Lib.hid (show true = S.eqA (L.map (·.l)) (M.map (·.l)) from ((eqA_iff _ _).2 (by
     have h1 := hT.out
     rw [List.take_of_length_le (by have := HX.out.len; simp; omega), List.take_of_length_le (by have := HY.out.len; simp; omega)] at h1
     exact h1)).symm)
    go_wp2
    go_ret
    exact ⟨ret_b H3.out, hbr⟩
 ·have bnn : ((n : Int) == (n' : Int)) = false := by simp; omega
  have H3 := Lib.hid (show false = S.eqA (L.map (·.l)) (M.map (·.l)) from (eqA_false (fun e => hnn (by have h1 := HX.out.len; have h2 := HY.out.len; have h3 := congrArg List.length e; simp at h3; omega))).symm)
  go_enter Tryz.func47, Tryz.ntmps47
  go_wp2
  go_ret
  exact ⟨ret_b H3.out, bel⟩
set_option maxRecDepth 20000 in
set_option maxHeartbeats 2000000 in
theorem rsame_any (x y : Ck) (B : Nat) (w : World) (hB : B ≤ w.heap.size) (hx : CkAt w B x) (hy : CkAt w B y) :
 Calls Tryz.prog 14 #[ckV x, ckV y] w fun e w' => e = .returned (.bool (S.same x.cl y.cl)) ∧ Below w.heap.size w w' := by
 have H := Lib.hid (show S.same x.cl y.cl = (S.eqA (x.L.map (·.l)) (y.L.map (·.l)) && (x.first == y.first) && (x.second == y.second) && (x.square == y.square)) from rfl)
 have HEQ := Lib.hid (fun W (hw : Below w.heap.size w W) => rlists_any x.L y.L x.A y.A x.n y.n x.c y.c B W (Nat.le_trans hB hw.size) (hx.below (hw.mono hB)) (hy.below (hw.mono hB)))
 clear hx hy
 generalize S.eqA (x.L.map (·.l)) (y.L.map (·.l)) = ea at *
 unfold ckV
 have hDX := (Blk.new w 39 #[.slice x.A x.n x.c, .int .i64 x.first, .int .i64 x.second, .int .i64 x.square]).alloc (.cells #[.slice y.A y.n y.c, .int .i64 y.first, .int .i64 y.second, .int .i64 y.square] 39)
 have hDY := Blk.newN (W := w.alloc (.cells #[.slice x.A x.n x.c, .int .i64 x.first, .int .i64 x.second, .int .i64 x.square] 39)) (n := w.heap.size + 1) (by simp) 39 #[.slice y.A y.n y.c, .int .i64 y.first, .int .i64 y.second, .int .i64 y.square]
 have hW1 : Below w.heap.size w ((w.alloc (.cells #[.slice x.A x.n x.c, .int .i64 x.first, .int .i64 x.second, .int .i64 x.square] 39)).alloc (.cells #[.slice y.A y.n y.c, .int .i64 y.first, .int .i64 y.second, .int .i64 y.square] 39)) := ba_alloc (ba_alloc (Below.refl _ _) _) _
 go_enter Tryz.func14, Tryz.ntmps14
 go_upto_region 1 with fail
 generalize ((w.alloc (.cells #[.slice x.A x.n x.c, .int .i64 x.first, .int .i64 x.second, .int .i64 x.square] 39)).alloc (.cells #[.slice y.A y.n y.c, .int .i64 y.first, .int .i64 y.second, .int .i64 y.square] 39)) = W1 at *
 have d0 := hDX.cell 0
 have d1 := hDX.cell 1
 have d2 := hDX.cell 2
 have d3 := hDX.cell 3
 have dl := hDX.lt
 have f0 := hDY.cell 0
 have f1 := hDY.cell 1
 have f2 := hDY.cell 2
 have f3 := hDY.cell 3
 have fl := hDY.lt
 simp only [List.getElem?_toArray, List.getElem?_cons_zero, List.getElem?_cons_succ] at d0 d1 d2 d3 f0 f1 f2 f3
 clear hDX hDY
 by_cases h1 : x.first = y.first
 ·have b1 : (x.first == y.first) = true := by simp [h1]
  by_cases h2 : x.second = y.second
  ·have b2 : (x.second == y.second) = true := by simp [h2]
   by_cases h3 : x.square = y.square
   ·have b3 : (x.square == y.square) = true := by simp [h3]
    have H4 := Lib.hid (show ea = S.same x.cl y.cl by rw [H.out, b1, b2, b3]; simp)
    go_wp2_with (go_at_call 47; (with_reducible refine (HEQ.out _ hW1).mono ?_); rintro e w2 ⟨rfl, hbw2⟩)
    go_ret
    exact ⟨ret_b H4.out, ba_via hbw2 hW1⟩
   ·have b3 : (x.square == y.square) = false := by simp [h3]
    have H4 := Lib.hid (show false = S.same x.cl y.cl by rw [H.out, b1, b2, b3]; simp)
    go_wp2
    go_ret
    exact ⟨ret_b H4.out, hW1⟩
  ·have b2 : (x.second == y.second) = false := by simp [h2]
   have H4 := Lib.hid (show false = S.same x.cl y.cl by rw [H.out, b1, b2]; simp)
   go_wp2
   go_ret
   exact ⟨ret_b H4.out, hW1⟩
 ·have b1 : (x.first == y.first) = false := by simp [h1]
  have H4 := Lib.hid (show false = S.same x.cl y.cl by rw [H.out, b1]; simp)
  go_wp2
  go_ret
  exact ⟨ret_b H4.out, hW1⟩
end Go.Proofs.YtnmolefblaahmaaGreat
