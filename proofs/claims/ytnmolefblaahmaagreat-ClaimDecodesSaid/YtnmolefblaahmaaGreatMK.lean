/- Contracts: frame.near, frame.Path. -/
import Derived.Test.YtnmolefblaahmaaGreatMG
import Derived.Test.YtnmolefblaahmaaGreatMJ
import Derived.Test.YtnmolefblaahmaaGreatME
set_option linter.unusedVariables false
set_option linter.unusedSimpArgs false
namespace Go.Proofs.YtnmolefblaahmaaGreat
open Go.RowKit
def S.near (l : List Pt) (m : Int) : Bool := l.all fun p => S.near1 p m
theorem near_bad {l : List Pt} {m : Int} {k : Nat} (hk : k < l.length) (h : S.near1 l[k] m = false) : S.near l m = false := by
 unfold S.near
 rw [List.all_eq_false]
 exact ⟨_, List.getElem_mem hk, by simp [h]⟩
theorem near_all {l : List Pt} {m : Int} (h : ∀ j (hj : j < l.length), S.near1 l[j] m = true) : S.near l m = true := by
 unfold S.near
 rw [List.all_eq_true]
 intro x hx
 obtain ⟨j, hj, rfl⟩ := List.mem_iff_getElem.1 hx
 exact h j hj
theorem near_in {l : List Pt} {m : Int} (h : S.near l m = true) {k : Nat} (hk : k < l.length) : S.near1 l[k] m = true := by
 unfold S.near at h
 rw [List.all_eq_true] at h
 exact h _ (List.getElem_mem hk)
set_option maxHeartbeats 4000000 in
theorem near_any (l : List Pt) (A : Option Addr) (n c : Nat) (B : Nat) (w : World) (hn : l.length = n) (hm : n ≤ 9223372036854775807) (hB : B ≤ w.heap.size) (hs : Cells w B A (l.flatMap ptC)) :
 Calls Tryz.prog 222 #[.slice A n c] w fun e w' => e = .returned (.bool (S.near l 1048576)) ∧ Below w.heap.size w w' := by
 have HN := Lib.hid hn
 clear hn
 go_enter Tryz.func222, Tryz.ntmps222
 go_wp2
 go_loopw [9] (fun i wr => ∃ k : Nat, k ≤ n ∧ i = .int .i64 k ∧ (∀ j (h : j < l.length), j < k → S.near1 l[j] 1048576 = true) ∧ Below w.heap.size w wr) (fun i _ => n - (intOf i).toNat)
 case atStart => exact ⟨0, Nat.zero_le _, rfl, fun j _ hj => absurd hj (by omega), Below.refl _ _⟩
 case round =>
  obtain ⟨k, hk, rfl, hno, hbr⟩ := hrel
  have HNO := Lib.hid hno
  clear hno
  by_cases hlt : k < n
  ·have hkx : k < l.length := by have := HN.out; omega
   have hs' := hs.below (hbr.mono hB)
   obtain ⟨b, o, rfl, _, _⟩ := hs'.at_ (by rw [flat_len ptC 3 ptC_len]; omega)
   have c0 := hs'.row0 ptC_len hkx rfl
   have c1 := hs'.rowj ptC_len hkx 1 rfl
   have c2 := hs'.rowj ptC_len hkx 2 rfl
   have HBAD := Lib.hid (fun h => near_bad (m := 1048576) hkx h)
   have HGO := Lib.hid (fun (h : S.near1 l[k] 1048576 = true) (j : Nat) (hj : j < l.length) (hjk : j < k + 1) => show S.near1 l[j] 1048576 = true from by
    by_cases hjk' : j = k
    ·subst hjk'; exact h
    ·exact HNO.out j hj (by omega))
   generalize l[k] = p at *
   clear hs hs' HNO
   have i0 : ∀ W, (Instr.index 216 (.agg #[.int .i64 p.x, .int .i64 p.y, .int .i64 p.z]) (.int .i64 0)).run Tryz.prog W = .ok (.int .i64 p.x) W := fun _ => by kernel_rfl
   have i1 : ∀ W, (Instr.index 216 (.agg #[.int .i64 p.x, .int .i64 p.y, .int .i64 p.z]) (.int .i64 1)).run Tryz.prog W = .ok (.int .i64 p.y) W := fun _ => by kernel_rfl
   have i2 : ∀ W, (Instr.index 216 (.agg #[.int .i64 p.x, .int .i64 p.y, .int .i64 p.z]) (.int .i64 2)).run Tryz.prog W = .ok (.int .i64 p.z) W := fun _ => by kernel_rfl
   have hcs : (p.x < -1048576) ∨ (¬ p.x < -1048576 ∧ 1048576 < p.x) ∨ (¬ p.x < -1048576 ∧ ¬ 1048576 < p.x ∧ p.y < -1048576) ∨ (¬ p.x < -1048576 ∧ ¬ 1048576 < p.x ∧ ¬ p.y < -1048576 ∧ 1048576 < p.y) ∨ (¬ p.x < -1048576 ∧ ¬ 1048576 < p.x ∧ ¬ p.y < -1048576 ∧ ¬ 1048576 < p.y ∧ p.z < -1048576) ∨ (¬ p.x < -1048576 ∧ ¬ 1048576 < p.x ∧ ¬ p.y < -1048576 ∧ ¬ 1048576 < p.y ∧ ¬ p.z < -1048576 ∧ 1048576 < p.z) ∨ (¬ p.x < -1048576 ∧ ¬ 1048576 < p.x ∧ ¬ p.y < -1048576 ∧ ¬ 1048576 < p.y ∧ ¬ p.z < -1048576 ∧ ¬ 1048576 < p.z) := by omega
   rcases hcs with h1 | ⟨h1, h2⟩ | ⟨h1, h2, h3⟩ | ⟨h1, h2, h3, h4⟩ | ⟨h1, h2, h3, h4, h5⟩ | ⟨h1, h2, h3, h4, h5, h6⟩ | ⟨h1, h2, h3, h4, h5, h6⟩
   rotate_right
   ·have HG := Lib.hid (HGO.out (by simp [S.near1]; omega))
    go_wp2
    refine wp_loop_rounds 4 ?_
    rw [rounds_succ]
    go_wp2
    rw [rounds_succ]
    go_wp2
    rw [rounds_succ]
    go_wp2
    rw [rounds_succ]
    go_wp2
    go_roundw
    case rel => exact ⟨k + 1, by omega, by go_num, HG.out, bel⟩
    case measure => simp [intOf]; omega
   all_goals (
    have HG := Lib.hid (HBAD.out (by simp [S.near1]; omega))
    go_wp2
    refine wp_loop_rounds 4 ?_
    rw [rounds_succ]
    go_wp2
    iterate 2 (try (rw [rounds_succ]; go_wp2))
    go_ret
    exact ⟨ret_b HG.out.symm, bel⟩)
  ·go_wp2
   go_ret
   exact ⟨ret_b (near_all (fun j hj => HNO.out j hj (by have := HN.out; omega))).symm, hbr⟩
def S.fpErr (x y : Int) (o : Pt) (l : List Pt) : Int := if S.turn x y = false then 1 else if 1000 < l.length then 4 else if S.near1 o 1048576 = false ∨ S.near l 1048576 = false then 2 else 0
def S.fpath (x y : Int) (o : Pt) (l : List Pt) : List Pt := if S.fpErr x y o l = 0 then l.map (S.placed x y o) else []
theorem near_one (o : Pt) (m : Int) : S.near [o] m = S.near1 o m := by simp [S.near]
set_option maxHeartbeats 4000000 in
theorem fpath_any (x y : Int) (o : Pt) (l : List Pt) (A : Option Addr) (n c : Nat) (B : Nat) (w : World) (hn : l.length = n) (hm : n ≤ 9223372036854775807) (hB : B ≤ w.heap.size) (hs : Cells w B A (l.flatMap ptC)) :
 Calls Tryz.prog 165 #[turnV x y, ptV o, .slice A n c] w (GivesRow 76 3 (S.fpath x y o l).length ((S.fpath x y o l).flatMap ptC) (S.fpErr x y o l) w) := by
 have HV := Lib.hid (fun w => fvalid_any x y w)
 have HNL := Lib.hid (fun (W : World) (h : Below w.heap.size w W) => near_any l A n c B W hn hm (size_via hB h) (hs.below (h.mono hB)))
 have HNO := Lib.hid (fun (W : World) (A : Option Addr) (c : Nat) (h : Cells W W.heap.size A ([o].flatMap ptC)) => near_any [o] A 1 c W.heap.size W rfl (by decide) (Nat.le_refl _) h)
 rw [near_one] at HNO
 have HE : Hid (S.fpErr x y o l = if S.turn x y = false then 1 else if 1000 < n then 4 else if S.near1 o 1048576 = false ∨ S.near l 1048576 = false then 2 else 0) := Lib.hid (by rw [S.fpErr, hn])
 have HP : Hid (S.fpath x y o l = if S.fpErr x y o l = 0 then l.map (S.placed x y o) else []) := Lib.hid rfl
 have HPL := Lib.hid (fun (h : S.turn x y = true) (h' : S.near1 o 1048576 = true) (p : Pt) (h'' : S.near1 p 1048576 = true) (w : World) => placed_any x y h o p h' h'' w)
 have HN := Lib.hid hn
 clear hn
 by_cases h0 : S.turn x y = false
 ·have HE' : Hid (S.fpErr x y o l = 1) := Lib.hid (by rw [HE.out, h0]; rfl)
  have HP' : Hid (S.fpath x y o l = []) := Lib.hid (by rw [HP.out, HE'.out]; rfl)
  rw [HE'.out, HP'.out]
  rw [h0] at HV
  clear HNO HNL HPL HE HP HE' HP' h0
  unfold turnV ptV
  unfold turnV at HV
  go_enter Tryz.func165, Tryz.ntmps165
  go_wp2_with (go_at_call 139; (with_reducible refine (HV.out _).mono ?_); rintro e w1 ⟨rfl, hbw1⟩; obtain ⟨hcw1, hfw1⟩ := bcell hbw1; have hzw1_0 : w.heap.size < w1.heap.size := lt_via hbw1 sz; have hzw1_1 : w.heap.size + 1 < w1.heap.size := lt_via hbw1 sz)
  go_ret2
  exact ⟨none, 0, rfl, World.ownsRow_nil _ _ _ _, bel⟩
 have ht : S.turn x y = true := by simpa using h0
 rw [ht] at HV HE
 by_cases h1 : 1000 < n
 ·have HE' : Hid (S.fpErr x y o l = 4) := Lib.hid (by rw [HE.out, if_neg (by simp), if_pos h1])
  have HP' : Hid (S.fpath x y o l = []) := Lib.hid (by rw [HP.out, HE'.out]; rfl)
  rw [HE'.out, HP'.out]
  clear HNO HNL HPL HE HP HE' HP' h0 ht
  unfold turnV ptV
  unfold turnV at HV
  go_enter Tryz.func165, Tryz.ntmps165
  go_wp2_with (go_at_call 139; (with_reducible refine (HV.out _).mono ?_); rintro e w1 ⟨rfl, hbw1⟩; obtain ⟨hcw1, hfw1⟩ := bcell hbw1; have hzw1_0 : w.heap.size < w1.heap.size := lt_via hbw1 sz; have hzw1_1 : w.heap.size + 1 < w1.heap.size := lt_via hbw1 sz)
  go_ret2
  exact ⟨none, 0, rfl, World.ownsRow_nil _ _ _ _, bel⟩
 by_cases h2 : S.near1 o 1048576 = false
 ·have HE' : Hid (S.fpErr x y o l = 2) := Lib.hid (by rw [HE.out, if_neg (by simp), if_neg h1, if_pos (.inl h2)])
  have HP' : Hid (S.fpath x y o l = []) := Lib.hid (by rw [HP.out, HE'.out]; rfl)
  rw [HE'.out, HP'.out]
  rw [h2] at HNO
  clear HNL HPL HE HP HE' HP' h0 ht h2
  unfold turnV ptV
  unfold turnV at HV
  go_enter Tryz.func165, Tryz.ntmps165
  go_wp2_with (first
   | (go_at_call 139; (with_reducible refine (HV.out _).mono ?_); rintro e w1 ⟨rfl, hbw1⟩; obtain ⟨hcw1, hfw1⟩ := bcell hbw1; have hzw1_0 : w.heap.size < w1.heap.size := lt_via hbw1 sz; have hzw1_1 : w.heap.size + 1 < w1.heap.size := lt_via hbw1 sz)
   | (go_at_call 222; (with_reducible refine (HNO.out _ _ _ (by simpa using Cells.newRow w1 #[.int .i64 o.x, .int .i64 o.y, .int .i64 o.z] 76 (0, 0))).mono ?_); rintro e w2 ⟨rfl, hbw2⟩; obtain ⟨hcw2, hfw2⟩ := bcell hbw2; have hzw2_0 : w.heap.size < w2.heap.size := lt_via hbw2 sz; have hzw2_1 : w.heap.size + 1 < w2.heap.size := lt_via hbw2 sz))
  go_ret2
  exact ⟨none, 0, rfl, World.ownsRow_nil _ _ _ _, bel⟩
 have h2' : S.near1 o 1048576 = true := by simpa using h2
 rw [h2'] at HNO
 by_cases h3 : S.near l 1048576 = false
 ·have HE' : Hid (S.fpErr x y o l = 2) := Lib.hid (by rw [HE.out, if_neg (by simp), if_neg h1, if_pos (.inr h3)])
  have HP' : Hid (S.fpath x y o l = []) := Lib.hid (by rw [HP.out, HE'.out]; rfl)
  rw [HE'.out, HP'.out]
  rw [h3] at HNL
  clear HPL HE HP HE' HP' h0 ht h2 h2' h3
  unfold turnV ptV
  unfold turnV at HV
  go_enter Tryz.func165, Tryz.ntmps165
  go_wp2_with (first
   | (go_at_call 139; (with_reducible refine (HV.out _).mono ?_); rintro e w1 ⟨rfl, hbw1⟩; obtain ⟨hcw1, hfw1⟩ := bcell hbw1; have hzw1_0 : w.heap.size < w1.heap.size := lt_via hbw1 sz; have hzw1_1 : w.heap.size + 1 < w1.heap.size := lt_via hbw1 sz)
   | (go_at_call 222; (with_reducible refine (HNO.out _ _ _ (by simpa using Cells.newRow w1 #[.int .i64 o.x, .int .i64 o.y, .int .i64 o.z] 76 (0, 0))).mono ?_); rintro e w2 ⟨rfl, hbw2⟩; obtain ⟨hcw2, hfw2⟩ := bcell hbw2; have hzw2_0 : w.heap.size < w2.heap.size := lt_via hbw2 sz; have hzw2_1 : w.heap.size + 1 < w2.heap.size := lt_via hbw2 sz)
   | (go_at_call 222; (with_reducible refine (HNL.out _ bel).mono ?_); rintro e w3 ⟨rfl, hbw3⟩; obtain ⟨hcw3, hfw3⟩ := bcell hbw3; have hzw3_0 : w.heap.size < w3.heap.size := lt_via hbw3 sz; have hzw3_1 : w.heap.size + 1 < w3.heap.size := lt_via hbw3 sz))
  go_ret2
  exact ⟨none, 0, rfl, World.ownsRow_nil _ _ _ _, bel⟩
 have h3' : S.near l 1048576 = true := by simpa using h3
 rw [h3'] at HNL
 have HE' : Hid (S.fpErr x y o l = 0) := Lib.hid (by rw [HE.out, if_neg (by simp), if_neg h1, if_neg (by simp [h2', h3'])])
 have HP' : Hid (S.fpath x y o l = l.map (S.placed x y o)) := Lib.hid (by rw [HP.out, HE'.out]; rfl)
 have HNP := Lib.hid (fun (k : Nat) (hk : k < l.length) => HPL.out ht h2' l[k] (near_in h3' hk))
 rw [HE'.out, HP'.out, List.length_map, HN.out]
 clear HPL HE HP HE' HP' h0 ht h2 h2' h3 h3'
 generalize S.placed x y o = P at *
 unfold turnV ptV
 unfold turnV ptV at HNP
 unfold turnV at HV
 go_enter Tryz.func165, Tryz.ntmps165
 go_wp2_with (first
  | (go_at_call 139; (with_reducible refine (HV.out _).mono ?_); rintro e w1 ⟨rfl, hbw1⟩; obtain ⟨hcw1, hfw1⟩ := bcell hbw1; have hzw1_0 : w.heap.size < w1.heap.size := lt_via hbw1 sz; have hzw1_1 : w.heap.size + 1 < w1.heap.size := lt_via hbw1 sz)
  | (go_at_call 222; (with_reducible refine (HNO.out _ _ _ (by simpa using Cells.newRow w1 #[.int .i64 o.x, .int .i64 o.y, .int .i64 o.z] 76 (0, 0))).mono ?_); rintro e w2 ⟨rfl, hbw2⟩; obtain ⟨hcw2, hfw2⟩ := bcell hbw2; have hzw2_0 : w.heap.size < w2.heap.size := lt_via hbw2 sz; have hzw2_1 : w.heap.size + 1 < w2.heap.size := lt_via hbw2 sz)
  | (go_at_call 222; (with_reducible refine (HNL.out _ bel).mono ?_); rintro e w3 ⟨rfl, hbw3⟩; obtain ⟨hcw3, hfw3⟩ := bcell hbw3; have hzw3_0 : w.heap.size < w3.heap.size := lt_via hbw3 sz; have hzw3_1 : w.heap.size + 1 < w3.heap.size := lt_via hbw3 sz))
 have hbw : Below w.heap.size w w3 := bel
 have hT : Blk w3 w.heap.size 107 #[.int .i64 x, .int .i64 y] := Blk.via (Blk.via ((Blk.via ((Blk.new w _ _).alloc _) hbw1).alloc _) hbw2) hbw3
 have hO : Blk w3 (w.heap.size + 1) 76 #[.int .i64 o.x, .int .i64 o.y, .int .i64 o.z] := Blk.via (Blk.via ((Blk.via (by simpa using Blk.new (w.alloc (.cells #[.int .i64 x, .int .i64 y] 107)) 76 #[.int .i64 o.x, .int .i64 o.y, .int .i64 o.z]) hbw1).alloc _) hbw2) hbw3
 have hs3 := hs.below (hbw.mono hB)
 clear hs HV HNO HNL
 go_loopw [8, 31] (fun v i wr => ∃ (k : Nat) (A3 : Option Addr) (c3 : Nat), k ≤ n ∧ i = .int .i64 k ∧ v = .slice A3 k c3 ∧ Row w3 wr none w.heap.size 76 3 (.slice A3 k c3) k (((l.take k).map P).flatMap ptC) ∧ Exc [] w3 wr) (fun _ i _ => n - (intOf i).toNat)
 case atStart => exact ⟨0, none, 0, Nat.zero_le _, rfl, rfl, by simpa using Row.none_ w3 w.heap.size 76 3, Exc.refl _ _⟩
 case round =>
  obtain ⟨k, A3, c3, hk, rfl, rfl, hR, hX⟩ := hrel
  by_cases hlt : k < n
  ·have hkx : k < l.length := by have := HN.out; omega
   have hs' := hs3.below (hX.below (B := B) (by have := hbw.size; omega) (by simp))
   obtain ⟨b, q, rfl, hbl, _⟩ := hs'.at_ (by rw [flat_len ptC 3 ptC_len]; omega)
   have c0 := hs'.row0 ptC_len hkx rfl
   have c1 := hs'.rowj ptC_len hkx 1 rfl
   have c2 := hs'.rowj ptC_len hkx 2 rfl
   have HP := Lib.hid (HNP.out k hkx)
   have HS := Lib.hid (show ((l.take (k + 1)).map P).flatMap ptC = ((l.take k).map P).flatMap ptC ++ [.int .i64 (P l[k]).x, .int .i64 (P l[k]).y, .int .i64 (P l[k]).z] from by
    rw [List.take_succ_eq_append_getElem hkx, List.map_append, List.flatMap_append]; rfl)
   have hT' : Blk wr w.heap.size 107 #[.int .i64 x, .int .i64 y] := (hX.block _ hT.lt (by simp)).trans hT
   have hO' : Blk wr (w.heap.size + 1) 76 #[.int .i64 o.x, .int .i64 o.y, .int .i64 o.z] := (hX.block _ hO.lt (by simp)).trans hO
   have t0 := hT'.cell 0
   have t1 := hT'.cell 1
   have o0 := hO'.cell 0
   have o1 := hO'.cell 1
   have o2 := hO'.cell 2
   have lt0 := hT'.lt
   have lt1 := hO'.lt
   have hsz := hX.size
   have hbs := hbw.size
   simp only [List.getElem?_toArray, List.getElem?_cons_zero, List.getElem?_cons_succ] at t0 t1 o0 o1 o2
   generalize P l[k] = p' at *
   generalize l[k] = p at *
   clear hs' hT hO hT' hO'
   go_wp2_with (first
    | (go_at_call 223; (with_reducible refine (HP.out _).mono ?_); rintro e w4 ⟨rfl, hbw4⟩; obtain ⟨hcw4, hfw4⟩ := bcell hbw4; have hzw4_0 : w.heap.size < w4.heap.size := lt_via hbw4 sz; have hzw4_1 : w.heap.size + 1 < w4.heap.size := lt_via hbw4 sz)
    | (at_builtin; refine wpList_push rfl (.tmp 35) (.tmp 40) _ rfl elemPt (((hR.alloc _).via hbw4).alloc _) ((Exc.via hbw4 (hX.alloc _)).alloc _) (by simp) hbw.size rfl w4.heap.size 1 1 [.int .i64 p'.x, .int .i64 p'.y, .int .i64 p'.z] rfl rfl ?_ (by simp [Value.oneCell']) (by unfold maxLen; omega) (by omega) ?_; (· intro j u hu; have := (Cells.newRow w4 #[.int .i64 p'.x, .int .i64 p'.y, .int .i64 p'.z] 76 (0, 0)).get (k := j) (v := u) hu; simpa using this); intro v' w' hR' hX' hO'))
   obtain ⟨A5, c5, rfl, _, _, _⟩ := own_form hR'.own
   go_roundw
   case rel => exact ⟨k + 1, A5, c5, by omega, by go_num, rfl, by rw [HS.out]; exact hR', hX'⟩
   case measure => simp [intOf]; omega
  ·have he : k = n := by omega
   subst he
   have HT := Lib.hid (show l.take k = l from List.take_of_length_le (by rw [HN.out]; omega))
   rw [HT.out] at hR
   go_wp2
   go_ret2
   exact ⟨A3, c3, rfl, hR.own, hbw.trans (hX.below (by have := hbw.size; omega) (by simp))⟩
end Go.Proofs.YtnmolefblaahmaaGreat
