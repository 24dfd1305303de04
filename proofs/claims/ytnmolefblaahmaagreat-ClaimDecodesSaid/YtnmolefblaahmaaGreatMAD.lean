/- Contracts: claim.none, formed of any claim. -/
import Derived.Test.YtnmolefblaahmaaGreatMAB
import Derived.Test.YtnmolefblaahmaaGreatMAC
set_option linter.unusedVariables false
set_option linter.unusedSimpArgs false
namespace Go.Proofs.YtnmolefblaahmaaGreat
open Go.RowKit
structure Sk where
 A : Option Addr
 n : Nat
 c : Nat
 l : List Stp
abbrev skV (r : Sk) : Value := .slice r.A r.n r.c
structure AreasAt (w : World) (B : Nat) (A : Option Addr) (n : Nat) (L : List Sk) : Prop where
 len : L.length = n
 max : n ≤ 9223372036854775807
 cells : Cells w B A (L.map skV)
 each : ∀ r, r ∈ L → StepsAt w B r.A r.n r.l
theorem AreasAt.below {w w' : World} {B n : Nat} {A : Option Addr} {L : List Sk} (h : AreasAt w B A n L) (hb : Below B w w') : AreasAt w' B A n L := ⟨h.len, h.max, h.cells.below hb, fun r hr => (h.each r hr).below hb⟩
structure Ck where
 L : List Sk
 A : Option Addr
 n : Nat
 c : Nat
 first : Int
 second : Int
 square : Int
abbrev ckV (x : Ck) : Value := .agg #[.slice x.A x.n x.c, .int .i64 x.first, .int .i64 x.second, .int .i64 x.square]
def Ck.cl (x : Ck) : Cl := ⟨x.L.map (·.l), x.first, x.second, x.square⟩
abbrev CkAt (w : World) (B : Nat) (x : Ck) : Prop := AreasAt w B x.A x.n x.L
set_option maxHeartbeats 400000 in
theorem none_any (x : Ck) (w : World) : Calls Tryz.prog 50 #[ckV x] w fun e w' => e = .returned (.bool (S.noneCl x.cl)) ∧ Below w.heap.size w w' := by
 have H := Lib.hid (show S.noneCl x.cl = (decide (x.first = -1) && decide (x.second = -1) && decide (x.square = -1)) from rfl)
 unfold ckV
 by_cases h1 : x.first = -1
 ·have b1 : (x.first == -1) = true := by simp [h1]
  by_cases h2 : x.second = -1
  ·have b2 : (x.second == -1) = true := by simp [h2]
   have H2 := Lib.hid (show (x.square == -1) = S.noneCl x.cl by rw [H.out, decide_eq_true h1, decide_eq_true h2]; rfl)
   go_enter Tryz.func50, Tryz.ntmps50
   go_wp2
   go_ret
   exact ⟨ret_b H2.out, bel⟩
  ·have b2 : (x.second == -1) = false := by simp [h2]
   have H2 := Lib.hid (show false = S.noneCl x.cl by rw [H.out, decide_eq_true h1, decide_eq_false h2]; rfl)
   go_enter Tryz.func50, Tryz.ntmps50
   go_wp2
   go_ret
   exact ⟨ret_b H2.out, bel⟩
 ·have b1 : (x.first == -1) = false := by simp [h1]
  have H2 := Lib.hid (show false = S.noneCl x.cl by rw [H.out, decide_eq_false h1]; rfl)
  go_enter Tryz.func50, Tryz.ntmps50
  go_wp2
  go_ret
  exact ⟨ret_b H2.out, bel⟩
def AsksK (w : World) (F : Nat) (fst cap : Array Value) (xs : List Sk) (p : Sk → Bool) : Prop :=
 ∀ (x : Sk), x ∈ xs → ∀ (w' : World), Below w.heap.size w w' → Calls Tryz.prog F (fst.push (skV x) ++ cap) w' fun e w'' => e = .returned (.bool (p x)) ∧ Below w'.heap.size w' w''
theorem skV_get {l : List Sk} {k : Nat} (h : k < l.length) : (l.map skV)[k]? = some (skV l[k]) := by simp [h]
set_option maxHeartbeats 1000000 in
theorem indexfK_any (F : Nat) (fst cap : Array Value) (p : Sk → Bool) (A : Option Addr) (n c : Nat) (xs : List Sk) (B : Nat) (w : World) (hn : xs.length = n) (hm : n ≤ 9223372036854775807) (hB : B ≤ w.heap.size)
 (hs : Cells w B A (xs.map skV)) (hF : ∀ args w, Sem.run Tryz.prog (callFunc F args) w = .ok (.enter F args) w) (hf : AsksK w F fst cap xs p) :
 Calls Tryz.prog 122 #[.slice A n c, .func (.func F) fst cap] w fun e w' => e = .returned (.int .i64 (idxf xs p)) ∧ Below w.heap.size w w' := by
 have HN := Lib.hid hn
 have HX := Lib.hid hf
 clear hn hf
 go_enter Tryz.func122, Tryz.ntmps122
 go_wp2
 go_loopw [8] (fun i wr => ∃ k : Nat, k ≤ n ∧ i = .int .i64 k ∧ (∀ j (h : j < xs.length), j < k → p xs[j] = false) ∧ Below w.heap.size w wr) (fun i _ => n - (intOf i).toNat)
 case atStart => exact ⟨0, Nat.zero_le _, rfl, fun j _ hj => absurd hj (by omega), Below.refl _ _⟩
 case round =>
  obtain ⟨k, hk, rfl, hno, hbr⟩ := hrel
  have HNO := Lib.hid hno
  clear hno
  by_cases hlt : k < n
  ·have hkx : k < xs.length := by have := HN.out; omega
   have hki : (k : Int) < n := by omega
   have hs' := hs.below (hbr.mono hB)
   obtain ⟨b, o, rfl, _, hxx⟩ := hs'.at_ (by simp; omega)
   have c0 := hxx k _ (skV_get hkx)
   clear hxx hs'
   have hf := HX.out xs[k] (List.getElem_mem hkx)
   by_cases hx : p xs[k] = true
   ·have HF2 := Lib.hid hf
    clear hf
    generalize hxk : xs[k] = r at *
    have HXK := Lib.hid hxk
    clear hxk
    go_wp2_with (refine (HF2.out _ hbr).mono ?_; rintro e w1 ⟨rfl, hb1⟩)
    go_ret
    exact ⟨ret_i (idxf_hit hkx (by rw [HXK.out]; exact hx) HNO.out).symm, hbr.trans (hb1.mono hbr.size)⟩
   ·have hx' : p xs[k] = false := by simpa using hx
    have HF2 := Lib.hid hf
    have HX3 := Lib.hid (fun (hj : k < xs.length) => show p xs[k] = false from hx')
    have HX2 := Lib.hid hx'
    clear hx hf
    generalize xs[k] = r at *
    go_wp2_with (refine (HF2.out _ hbr).mono ?_; rintro e w1 ⟨rfl, hb1⟩)
    go_roundw
    case rel =>
     refine ⟨k + 1, by omega, by go_num, fun j hj hjk => ?_, hbr.trans (hb1.mono hbr.size)⟩
     by_cases hjk' : j = k
     ·subst hjk'; exact HX3.out hj
     ·exact HNO.out j hj (by omega)
    case measure => simp [intOf]; omega
  ·have hki : ¬ ((k : Int) < n) := by omega
   go_wp2
   go_ret
   exact ⟨ret_i (idxf_miss (fun j hj => HNO.out j hj (by have := HN.out; omega))).symm, hbr⟩
theorem containsfK_any (F : Nat) (fst cap : Array Value) (p : Sk → Bool) (A : Option Addr) (n c : Nat) (xs : List Sk) (B : Nat) (w : World) (hn : xs.length = n) (hm : n ≤ 9223372036854775807) (hB : B ≤ w.heap.size)
 (hs : Cells w B A (xs.map skV)) (hF : ∀ args w, Sem.run Tryz.prog (callFunc F args) w = .ok (.enter F args) w) (hf : AsksK w F fst cap xs p) :
 Calls Tryz.prog 80 #[.slice A n c, .func (.func F) fst cap] w fun e w' => e = .returned (.bool (anyb xs p)) ∧ Below w.heap.size w w' := by
 have HN := Lib.hid hn
 have HF := Lib.hid hF
 have he : decide (0 ≤ idxf xs p) = anyb xs p := idxf_ge xs p
 clear hn hF
 go_enter Tryz.func80, Tryz.ntmps80
 go_wp2_with (go_at_call 122; (with_reducible refine (indexfK_any F fst cap p _ _ _ xs B _ HN.out hm hB hs HF.out hf).mono ?_); rintro e w1 ⟨rfl, hbw1⟩; obtain ⟨hcw1, hfw1⟩ := bcell hbw1)
 go_ret
 exact ⟨rfl, bel⟩
theorem formed1_any (r : Sk) (B : Nat) (w : World) (hB : B ≤ w.heap.size) (h : StepsAt w B r.A r.n r.l) : Calls Tryz.prog 81 #[skV r] w fun e w' => e = .returned (.bool (!S.steps r.l)) ∧ Below w.heap.size w w' := by
 have H := Lib.hid (steps_any r.l r.A r.n r.c B w hB h)
 clear h
 go_enter Tryz.func81, Tryz.ntmps81
 go_wp2_with (go_at_call 82; (with_reducible refine H.out.mono ?_); rintro e w1 ⟨rfl, hb1⟩)
 go_ret
 exact ⟨rfl, hb1⟩
theorem anyb_steps (L : List Sk) : anyb L (fun r => !S.steps r.l) = !(L.map (·.l)).all S.steps := by
 unfold anyb
 induction L with
 | nil => rfl
 | cons a t ih =>
  rw [List.any_cons, List.map_cons, List.all_cons, ih]
  cases S.steps a.l <;> simp
set_option maxRecDepth 20000 in
set_option maxHeartbeats 2000000 in
theorem formed_any (x : Ck) (B : Nat) (w : World) (hB : B ≤ w.heap.size) (hx : CkAt w B x) : Calls Tryz.prog 48 #[ckV x] w fun e w' => e = .returned (.bool (S.formed x.cl)) ∧ Below w.heap.size w w' := by
 have H := Lib.hid (show S.formed x.cl = (decide ((x.L.map (·.l)).length ≤ 20) && (x.L.map (·.l)).all S.steps && (S.noneCl x.cl || (decide (0 ≤ x.first) && decide (x.first < x.second) && decide (x.second < 2000) && decide (0 ≤ x.square) && decide (x.square ≤ 1125899906842624)))) from rfl)
 have hlen := hx.len
 have hmap : (x.L.map (·.l)).length = x.n := by simp [hlen]
 rw [hmap] at H
 have HCF := Lib.hid (fun W (hw : Below w.heap.size w W) => containsfK_any 81 #[] #[] (fun r => !S.steps r.l) x.A x.n x.c x.L B W hlen hx.max (Nat.le_trans hB hw.size) (hx.cells.below (hw.mono hB)) (fun args w => rfl) (fun r hr V hV => formed1_any r B V (Nat.le_trans (Nat.le_trans hB hw.size) hV.size) (((hx.each r hr).below (hw.mono hB)).below (hV.mono (Nat.le_trans hB hw.size)))))
 rw [anyb_steps] at HCF
 have HNO := Lib.hid (fun W => none_any x W)
 clear hmap hlen hx
 unfold ckV at HNO ⊢
 generalize (x.L.map (·.l)).all S.steps = al at *
 generalize S.noneCl x.cl = no at *
 have hDB := Blk.new w 39 #[.slice x.A x.n x.c, .int .i64 x.first, .int .i64 x.second, .int .i64 x.square]
 have hW1 : Below w.heap.size w (w.alloc (.cells #[.slice x.A x.n x.c, .int .i64 x.first, .int .i64 x.second, .int .i64 x.square] 39)) := ba_alloc (Below.refl _ _) _
 go_enter Tryz.func48, Tryz.ntmps48
 go_upto_region 1 with fail
 generalize (w.alloc (.cells #[.slice x.A x.n x.c, .int .i64 x.first, .int .i64 x.second, .int .i64 x.square] 39)) = W1 at *
 have d0 := hDB.cell 0
 have d1 := hDB.cell 1
 have d2 := hDB.cell 2
 have d3 := hDB.cell 3
 have dl := hDB.lt
 simp only [List.getElem?_toArray, List.getElem?_cons_zero, List.getElem?_cons_succ] at d0 d1 d2 d3
 have HDB := Lib.hid hDB
 clear hDB
 by_cases hn : 20 < x.n
 ·have hni : (20 : Int) < x.n := by omega
  have H2 := Lib.hid (show false = S.formed x.cl by rw [H.out, decide_eq_false (by omega)]; rfl)
  go_wp2
  go_ret
  exact ⟨ret_b H2.out, hW1⟩
 ·have hni : ¬ ((20 : Int) < x.n) := by omega
  have H2 := Lib.hid (show S.formed x.cl = (al && (no || (decide (0 ≤ x.first) && decide (x.first < x.second) && decide (x.second < 2000) && decide (0 ≤ x.square) && decide (x.square ≤ 1125899906842624)))) by rw [H.out, decide_eq_true (show x.n ≤ 20 by omega)]; rfl)
  clear H
  cases al
  ·have H3 := Lib.hid (show false = S.formed x.cl by rw [H2.out]; rfl)
   go_wp2_with (go_at_call 80; (with_reducible refine (HCF.out _ hW1).mono ?_); rintro e w1 ⟨rfl, hbw1⟩)
   go_ret
   exact ⟨ret_b H3.out, ba_via hbw1 hW1⟩
  ·go_upto_region 3 with (go_at_call 80; (with_reducible refine (HCF.out _ hW1).mono ?_); rintro e w1 ⟨rfl, hbw1⟩)
   have hw1 : Below w.heap.size w w1 := ba_via hbw1 hW1
   have HD1 := Lib.hid (HDB.out.via hbw1)
   clear HDB HCF hbw1 hW1 d0 d1 d2 d3 dl
   cases no
   ·have H3 := Lib.hid (show S.formed x.cl = (decide (0 ≤ x.first) && decide (x.first < x.second) && decide (x.second < 2000) && decide (0 ≤ x.square) && decide (x.square ≤ 1125899906842624)) by rw [H2.out]; rfl)
    clear H2
    by_cases h1 : 0 ≤ x.first
    ·by_cases h2 : x.first < x.second
     ·by_cases h3 : x.second < 2000
      ·by_cases h4 : 0 ≤ x.square
       ·by_cases h5 : x.square ≤ 1125899906842624
        ·have H4 := Lib.hid (show true = S.formed x.cl by rw [H3.out, decide_eq_true h1, decide_eq_true h2, decide_eq_true h3, decide_eq_true h4, decide_eq_true h5]; rfl)
         go_wp2_with (first | ((with_reducible refine at_load 39 1 ?_); refine wpList_load_mid rfl 39 (.tmp 1) rfl _ _ rfl _ _ (HD1.out.via belr).range Tryz.underlying39 rfl (by kernel_rfl) ?_) | (go_at_call 50; (with_reducible refine (HNO.out _).mono ?_); rintro e w2 ⟨rfl, hbw2⟩; have hD2 := HD1.out.via hbw2; have d0 := hD2.cell 0; have d1 := hD2.cell 1; have d2 := hD2.cell 2; have d3 := hD2.cell 3; have dl := hD2.lt; simp only [List.getElem?_toArray, List.getElem?_cons_zero, List.getElem?_cons_succ] at d0 d1 d2 d3))
         go_ret
         exact ⟨ret_b H4.out, ba_via hbw2 hw1⟩
        ·have H4 := Lib.hid (show false = S.formed x.cl by rw [H3.out, decide_eq_true h1, decide_eq_true h2, decide_eq_true h3, decide_eq_true h4, decide_eq_false h5]; rfl)
         go_wp2_with (first | ((with_reducible refine at_load 39 1 ?_); refine wpList_load_mid rfl 39 (.tmp 1) rfl _ _ rfl _ _ (HD1.out.via belr).range Tryz.underlying39 rfl (by kernel_rfl) ?_) | (go_at_call 50; (with_reducible refine (HNO.out _).mono ?_); rintro e w2 ⟨rfl, hbw2⟩; have hD2 := HD1.out.via hbw2; have d0 := hD2.cell 0; have d1 := hD2.cell 1; have d2 := hD2.cell 2; have d3 := hD2.cell 3; have dl := hD2.lt; simp only [List.getElem?_toArray, List.getElem?_cons_zero, List.getElem?_cons_succ] at d0 d1 d2 d3))
         go_ret
         exact ⟨ret_b (by rw [← H4.out]; exact decide_eq_false (by omega)), ba_via hbw2 hw1⟩
       ·have H4 := Lib.hid (show false = S.formed x.cl by rw [H3.out, decide_eq_true h1, decide_eq_true h2, decide_eq_true h3, decide_eq_false h4]; rfl)
        go_wp2_with (first | ((with_reducible refine at_load 39 1 ?_); refine wpList_load_mid rfl 39 (.tmp 1) rfl _ _ rfl _ _ (HD1.out.via belr).range Tryz.underlying39 rfl (by kernel_rfl) ?_) | (go_at_call 50; (with_reducible refine (HNO.out _).mono ?_); rintro e w2 ⟨rfl, hbw2⟩; have hD2 := HD1.out.via hbw2; have d0 := hD2.cell 0; have d1 := hD2.cell 1; have d2 := hD2.cell 2; have d3 := hD2.cell 3; have dl := hD2.lt; simp only [List.getElem?_toArray, List.getElem?_cons_zero, List.getElem?_cons_succ] at d0 d1 d2 d3))
        go_ret
        exact ⟨ret_b H4.out, ba_via hbw2 hw1⟩
      ·have H4 := Lib.hid (show false = S.formed x.cl by rw [H3.out, decide_eq_true h1, decide_eq_true h2, decide_eq_false h3]; rfl)
       go_wp2_with (first | ((with_reducible refine at_load 39 1 ?_); refine wpList_load_mid rfl 39 (.tmp 1) rfl _ _ rfl _ _ (HD1.out.via belr).range Tryz.underlying39 rfl (by kernel_rfl) ?_) | (go_at_call 50; (with_reducible refine (HNO.out _).mono ?_); rintro e w2 ⟨rfl, hbw2⟩; have hD2 := HD1.out.via hbw2; have d0 := hD2.cell 0; have d1 := hD2.cell 1; have d2 := hD2.cell 2; have d3 := hD2.cell 3; have dl := hD2.lt; simp only [List.getElem?_toArray, List.getElem?_cons_zero, List.getElem?_cons_succ] at d0 d1 d2 d3))
       go_ret
       exact ⟨ret_b H4.out, ba_via hbw2 hw1⟩
     ·have H4 := Lib.hid (show false = S.formed x.cl by rw [H3.out, decide_eq_true h1, decide_eq_false h2]; rfl)
      go_wp2_with (first | ((with_reducible refine at_load 39 1 ?_); refine wpList_load_mid rfl 39 (.tmp 1) rfl _ _ rfl _ _ (HD1.out.via belr).range Tryz.underlying39 rfl (by kernel_rfl) ?_) | (go_at_call 50; (with_reducible refine (HNO.out _).mono ?_); rintro e w2 ⟨rfl, hbw2⟩; have hD2 := HD1.out.via hbw2; have d0 := hD2.cell 0; have d1 := hD2.cell 1; have d2 := hD2.cell 2; have d3 := hD2.cell 3; have dl := hD2.lt; simp only [List.getElem?_toArray, List.getElem?_cons_zero, List.getElem?_cons_succ] at d0 d1 d2 d3))
      go_ret
      exact ⟨ret_b H4.out, ba_via hbw2 hw1⟩
    ·have H4 := Lib.hid (show false = S.formed x.cl by rw [H3.out, decide_eq_false h1]; rfl)
     go_wp2_with (first | ((with_reducible refine at_load 39 1 ?_); refine wpList_load_mid rfl 39 (.tmp 1) rfl _ _ rfl _ _ (HD1.out.via belr).range Tryz.underlying39 rfl (by kernel_rfl) ?_) | (go_at_call 50; (with_reducible refine (HNO.out _).mono ?_); rintro e w2 ⟨rfl, hbw2⟩; have hD2 := HD1.out.via hbw2; have d0 := hD2.cell 0; have d1 := hD2.cell 1; have d2 := hD2.cell 2; have d3 := hD2.cell 3; have dl := hD2.lt; simp only [List.getElem?_toArray, List.getElem?_cons_zero, List.getElem?_cons_succ] at d0 d1 d2 d3))
     go_ret
     exact ⟨ret_b H4.out, ba_via hbw2 hw1⟩
   ·have H3 := Lib.hid (show true = S.formed x.cl by rw [H2.out]; rfl)
    go_wp2_with (first | ((with_reducible refine at_load 39 1 ?_); refine wpList_load_mid rfl 39 (.tmp 1) rfl _ _ rfl _ _ (HD1.out.via belr).range Tryz.underlying39 rfl (by kernel_rfl) ?_) | (go_at_call 50; (with_reducible refine (HNO.out _).mono ?_); rintro e w2 ⟨rfl, hbw2⟩))
    go_ret
    exact ⟨ret_b H3.out, ba_via hbw2 hw1⟩
end Go.Proofs.YtnmolefblaahmaaGreat
