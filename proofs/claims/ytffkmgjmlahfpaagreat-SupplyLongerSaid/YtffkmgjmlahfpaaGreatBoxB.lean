/- Contracts: slices.IndexFunc and ContainsFunc over boxes, box.all, box.Hull. -/
import Derived.Test.YtffkmgjmlahfpaaGreatBoxA
set_option linter.unusedVariables false
set_option linter.unusedSimpArgs false
namespace Go.Proofs.YtffkmgjmlahfpaaGreat
open Go.RowKit
/-- What a function value of one box answers: p, and memory of its own at most. -/
def AsksB (w : World) (F : Nat) (fst cap : Array Value) (p : Bx → Bool) : Prop :=
  ∀ (x : Bx) (w' : World), Below w.heap.size w w' → Calls Tryz.prog F (fst.push (boxV x) ++ cap) w' fun e w'' => e = .returned (.bool (p x)) ∧ Below w'.heap.size w' w''
theorem Cells.boxes {w : World} {B bb o : Nat} {l : List Bx} (h : Cells w B (some ⟨bb, o, none⟩) (l.flatMap boxC)) {k : Nat} {p : Bx} (hk : l[k]? = some p) :
    w.cell? ⟨bb, o + k * 6, none⟩ = some (.int .i64 p.lo.x) ∧ w.cell? ⟨bb, o + k * 6 + 1, none⟩ = some (.int .i64 p.lo.y) ∧ w.cell? ⟨bb, o + k * 6 + 2, none⟩ = some (.int .i64 p.lo.z) ∧
    w.cell? ⟨bb, o + k * 6 + 3, none⟩ = some (.int .i64 p.hi.x) ∧ w.cell? ⟨bb, o + k * 6 + 4, none⟩ = some (.int .i64 p.hi.y) ∧ w.cell? ⟨bb, o + k * 6 + 5, none⟩ = some (.int .i64 p.hi.z) := by
  obtain ⟨hk', rfl⟩ := List.getElem?_eq_some_iff.1 hk
  exact ⟨h.row0 boxC_len hk' rfl, h.rowj boxC_len hk' 1 rfl, h.rowj boxC_len hk' 2 rfl, h.rowj boxC_len hk' 3 rfl, h.rowj boxC_len hk' 4 rfl, h.rowj boxC_len hk' 5 rfl⟩
theorem indexfB_any (F : Nat) (fst cap : Array Value) (p : Bx → Bool) (A : Option Addr) (n c : Nat) (xs : List Bx) (B : Nat) (w : World) (hn : xs.length = n) (hm : n ≤ 9223372036854775807) (hB : B ≤ w.heap.size)
    (hs : Cells w B A (xs.flatMap boxC)) (hF : ∀ args w, Sem.run Tryz.prog (callFunc F args) w = .ok (.enter F args) w) (hf : AsksB w F fst cap p) :
    Calls Tryz.prog 150 #[.slice A n c, .func (.func F) fst cap] w fun e w' => e = .returned (.int .i64 (idxf xs p)) ∧ Below w.heap.size w w' := by
  have HN := Lib.hid hn
  clear hn
  go_enter Tryz.func150, Tryz.ntmps150
  go_wp2
  go_loopw [8] (fun i wr => ∃ k : Nat, k ≤ n ∧ i = .int .i64 k ∧ (∀ j (h : j < xs.length), j < k → p xs[j] = false) ∧ Below w.heap.size w wr) (fun i _ => n - (intOf i).toNat)
  case atStart => exact ⟨0, Nat.zero_le _, rfl, fun j _ hj => absurd hj (by omega), Below.refl _ _⟩
  case round =>
    obtain ⟨k, hk, rfl, hno, hbr⟩ := hrel
    have HNO := Lib.hid hno
    clear hno
    by_cases hlt : k < n
    · have hkx : k < xs.length := by have := HN.out; omega
      have hs' := hs.below (hbr.mono hB)
      obtain ⟨b, o, rfl, _, _⟩ := hs'.at_ (by rw [flat_len boxC 6 boxC_len]; omega)
      obtain ⟨c0, c1, c2, c3, c4, c5⟩ := hs'.boxes (List.getElem?_eq_getElem hkx)
      by_cases hx : p xs[k] = true
      · go_wp2_with (refine (hf _ _ hbr).mono ?_; rintro e w1 ⟨rfl, hb1⟩)
        go_ret
        exact ⟨ret_i (idxf_hit hkx hx HNO.out).symm, hbr.trans (hb1.mono hbr.size)⟩
      · have hx' : p xs[k] = false := by simpa using hx
        clear hx
        go_wp2_with (refine (hf _ _ hbr).mono ?_; rintro e w1 ⟨rfl, hb1⟩)
        go_roundw
        case rel =>
          refine ⟨k + 1, by omega, by go_num, fun j hj hjk => ?_, hbr.trans (hb1.mono hbr.size)⟩
          by_cases hjk' : j = k
          · subst hjk'; exact hx'
          · exact HNO.out j hj (by omega)
        case measure => simp [intOf]; omega
    · go_wp2
      go_ret
      exact ⟨ret_i (idxf_miss (fun j hj => HNO.out j hj (by have := HN.out; omega))).symm, hbr⟩
theorem containsfB_any (F : Nat) (fst cap : Array Value) (p : Bx → Bool) (A : Option Addr) (n c : Nat) (xs : List Bx) (B : Nat) (w : World) (hn : xs.length = n) (hm : n ≤ 9223372036854775807) (hB : B ≤ w.heap.size)
    (hs : Cells w B A (xs.flatMap boxC)) (hF : ∀ args w, Sem.run Tryz.prog (callFunc F args) w = .ok (.enter F args) w) (hf : AsksB w F fst cap p) :
    Calls Tryz.prog 216 #[.slice A n c, .func (.func F) fst cap] w fun e w' => e = .returned (.bool (anyb xs p)) ∧ Below w.heap.size w w' := by
  have HN := Lib.hid hn
  have HF := Lib.hid hF
  have he : decide (0 ≤ idxf xs p) = anyb xs p := idxf_ge xs p
  clear hn hF
  go_enter Tryz.func216, Tryz.ntmps216
  go_wp2_with (go_at_call 150; (with_reducible refine (indexfB_any F fst cap p _ _ _ xs B _ HN.out hm hB hs HF.out hf).mono ?_); rintro e w1 ⟨rfl, hbw1⟩; obtain ⟨hcw1, hfw1⟩ := bcell hbw1)
  go_ret
  exact ⟨rfl, (by repeat (first | exact Below.refl _ _ | assumption | refine ba_alloc ?_ _ | refine ba_drew ?_ | refine ba_drewN ?_ _ | refine ba_via (by assumption) ?_ | (refine ba_set ?_ ?_ _; rotate_left; (first | omega | (simp; omega) | simp))))⟩
def S.boxNot (b : Bx) : Bool := !S.boxOk b
theorem all1_any (b : Bx) (w : World) : Calls Tryz.prog 275 #[boxV b] w fun e w' => e = .returned (.bool (S.boxNot b)) ∧ Below w.heap.size w w' := by
  have HV := Lib.hid (fun w => bvalid_any b w)
  unfold boxV
  go_enter Tryz.func275, Tryz.ntmps275
  go_wp2_with (go_at_call 107; (with_reducible refine (HV.out _).mono ?_); rintro e w1 ⟨rfl, hbw1⟩; obtain ⟨hcw1, hfw1⟩ := bcell hbw1; have hzw1_0 : w.heap.size < w1.heap.size := lt_via hbw1 (by first | omega | (simp; done) | (simp; omega)))
  go_ret
  exact ⟨rfl, (by repeat (first | exact Below.refl _ _ | assumption | refine ba_alloc ?_ _ | refine ba_drew ?_ | refine ba_drewN ?_ _ | refine ba_via (by assumption) ?_ | (refine ba_set ?_ ?_ _; rotate_left; (first | omega | (simp; omega) | simp))))⟩
theorem ball_any (A : Option Addr) (n c : Nat) (xs : List Bx) (B : Nat) (w : World) (hn : xs.length = n) (hm : n ≤ 9223372036854775807) (hB : B ≤ w.heap.size) (hs : Cells w B A (xs.flatMap boxC)) :
    Calls Tryz.prog 258 #[.slice A n c] w fun e w' => e = .returned (.bool (!anyb xs S.boxNot)) ∧ Below w.heap.size w w' := by
  have HN := Lib.hid hn
  clear hn
  have hf : AsksB w 275 #[] #[] S.boxNot := fun x w' _ => all1_any x w'
  go_enter Tryz.func258, Tryz.ntmps258
  go_wp2_with (go_at_call 216; (with_reducible refine (containsfB_any 275 #[] #[] S.boxNot _ _ _ xs B _ HN.out hm hB hs Tryz.call275 hf).mono ?_); rintro e w1 ⟨rfl, hbw1⟩; obtain ⟨hcw1, hfw1⟩ := bcell hbw1)
  go_ret
  exact ⟨rfl, (by repeat (first | exact Below.refl _ _ | assumption | refine ba_alloc ?_ _ | refine ba_drew ?_ | refine ba_drewN ?_ _ | refine ba_via (by assumption) ?_ | (refine ba_set ?_ ?_ _; rotate_left; (first | omega | (simp; omega) | simp))))⟩
def S.join (a b : Bx) : Bx := ⟨⟨if b.lo.x < a.lo.x then b.lo.x else a.lo.x, if b.lo.y < a.lo.y then b.lo.y else a.lo.y, if b.lo.z < a.lo.z then b.lo.z else a.lo.z⟩, ⟨if a.hi.x < b.hi.x then b.hi.x else a.hi.x, if a.hi.y < b.hi.y then b.hi.y else a.hi.y, if a.hi.z < b.hi.z then b.hi.z else a.hi.z⟩⟩
def S.hull (a : Bx) (l : List Bx) : Bx := l.foldl S.join a
theorem hull_snoc (a : Bx) (l : List Bx) (x : Bx) : S.hull a (l ++ [x]) = S.join (S.hull a l) x := by simp [S.hull]
set_option maxRecDepth 100000 in
set_option maxHeartbeats 2000000 in
theorem bhull_yes (A : Option Addr) (n c : Nat) (xs : List Bx) (x0 : Bx) (B : Nat) (w : World) (hn : xs.length = n) (hm : n ≤ 1000000) (hB : B ≤ w.heap.size) (hs : Cells w B A (xs.flatMap boxC)) (h0 : xs[0]? = some x0) (ha : anyb xs S.boxNot = false) :
    Calls Tryz.prog 212 #[.slice A n c] w fun e w' => e = .returned (.tuple #[boxV (S.hull x0 xs), .int .i64 0]) ∧ Below w.heap.size w w' := by
  have hn0 : 0 < n := by have := (List.getElem?_eq_some_iff.1 h0).1; omega
  have hne : ((n : Int) == 0) = false := by simp; omega
  have hni : (0 : Int) < (n : Int) := by omega
  have HN := Lib.hid hn
  have HS := Lib.hid hs
  have H0 := Lib.hid h0
  obtain ⟨b, o, rfl, hb, _⟩ := hs.at_ (by rw [flat_len boxC 6 boxC_len]; omega)
  clear hn hs h0
  go_enter Tryz.func212, Tryz.ntmps212
  go_wp2_with ((go_at_call 258; (with_reducible refine (ball_any _ n c xs B _ HN.out (by omega) (by simp; omega) (HS.out.alloc hB _)).mono ?_); rintro e w1 ⟨rfl, hbw1⟩; obtain ⟨hcw1, hfw1⟩ := bcell hbw1; have hzw1_0 : w.heap.size < w1.heap.size := lt_via hbw1 (by first | omega | (simp; done) | (simp; omega)))
               obtain ⟨c0, c1, c2, c3, c4, c5⟩ := (HS.out.below ((by exact (Below.refl _ w).alloc (Nat.le_refl _) _ : Below w.heap.size w _).mono hB |>.trans (hbw1.mono (by simp; omega)))).boxes H0.out
               have hbw : b < w1.heap.size := by omega
               simp only [Nat.zero_mul, Nat.add_zero] at c0 c1 c2 c3 c4 c5)
  have hW : Below w.heap.size w (w1.alloc (.cells #[.int .i64 x0.lo.x, .int .i64 x0.lo.y, .int .i64 x0.lo.z, .int .i64 x0.hi.x, .int .i64 x0.hi.y, .int .i64 x0.hi.z] 89)) := (by repeat (first | exact Below.refl _ _ | assumption | refine ba_alloc ?_ _ | refine ba_drew ?_ | refine ba_drewN ?_ _ | refine ba_via (by assumption) ?_ | (refine ba_set ?_ ?_ _; rotate_left; (first | omega | (simp; omega) | simp))))
  have hK0 : Blk (w1.alloc (.cells #[.int .i64 x0.lo.x, .int .i64 x0.lo.y, .int .i64 x0.lo.z, .int .i64 x0.hi.x, .int .i64 x0.hi.y, .int .i64 x0.hi.z] 89)) w1.heap.size 89 #[.int .i64 x0.lo.x, .int .i64 x0.lo.y, .int .i64 x0.lo.z, .int .i64 x0.hi.x, .int .i64 x0.hi.y, .int .i64 x0.hi.z] := Blk.new _ _ _
  have hR0 : Blk (w1.alloc (.cells #[.int .i64 x0.lo.x, .int .i64 x0.lo.y, .int .i64 x0.lo.z, .int .i64 x0.hi.x, .int .i64 x0.hi.y, .int .i64 x0.hi.z] 89)) w.heap.size 89 #[.int .i64 0, .int .i64 0, .int .i64 0, .int .i64 0, .int .i64 0, .int .i64 0] := ((Blk.new w _ _).via hbw1).alloc _
  have hC1 := HS.out.below (hW.mono hB)
  have hzW : (w1.alloc (.cells #[.int .i64 x0.lo.x, .int .i64 x0.lo.y, .int .i64 x0.lo.z, .int .i64 x0.hi.x, .int .i64 x0.hi.y, .int .i64 x0.hi.z] 89)).heap.size = w1.heap.size + 1 := by simp
  have HR0 := Lib.hid hR0
  clear c0 c1 c2 c3 c4 c5 hcw1 hfw1 hR0
  generalize w1.alloc (.cells #[.int .i64 x0.lo.x, .int .i64 x0.lo.y, .int .i64 x0.lo.z, .int .i64 x0.hi.x, .int .i64 x0.hi.y, .int .i64 x0.hi.z] 89) = W1 at *
  go_loopw [22] (fun i wr => ∃ k : Nat, k ≤ n ∧ i = .int .i64 k ∧ Blk wr w1.heap.size 89 #[.int .i64 (S.hull x0 (xs.take k)).lo.x, .int .i64 (S.hull x0 (xs.take k)).lo.y, .int .i64 (S.hull x0 (xs.take k)).lo.z, .int .i64 (S.hull x0 (xs.take k)).hi.x, .int .i64 (S.hull x0 (xs.take k)).hi.y, .int .i64 (S.hull x0 (xs.take k)).hi.z] ∧ Exc [w1.heap.size] W1 wr) (fun i _ => n - (intOf i).toNat)
  case atStart => exact ⟨0, Nat.zero_le _, rfl, hK0, Exc.refl _ _⟩
  case round =>
    obtain ⟨k, hk, rfl, hK, hX⟩ := hrel
    have hsz := hX.size
    have hgr := hK.lt
    have k0 := hK.cell 0
    have k1 := hK.cell 1
    have k2 := hK.cell 2
    have k3 := hK.cell 3
    have k4 := hK.cell 4
    have k5 := hK.cell 5
    have f0 := hK.frozen 0
    have f1 := hK.frozen 1
    have f2 := hK.frozen 2
    have f3 := hK.frozen 3
    have f4 := hK.frozen 4
    have f5 := hK.frozen 5
    simp only [List.getElem?_toArray, List.getElem?_cons_zero, List.getElem?_cons_succ] at k0 k1 k2 k3 k4 k5
    by_cases hlt : k < n
    · have hkx : k < xs.length := by have := HN.out; omega
      obtain ⟨c0, c1, c2, c3, c4, c5⟩ := (hC1.below (hX.below (by have := hW.size; omega) (by intro x hx; simp at hx; omega))).boxes (List.getElem?_eq_getElem hkx)
      have HT := Lib.hid (show S.hull x0 (xs.take (k + 1)) = S.join (S.hull x0 (xs.take k)) xs[k] by rw [List.take_succ_eq_append_getElem hkx, hull_snoc])
      have hbr : b < wr.heap.size := by omega
      generalize S.hull x0 (xs.take k) = Hk at *
      generalize xs[k] = X at *
      have hki : (k : Int) < (n : Int) := by omega
      go_wp2
      go_roundw
      case rel =>
        refine ⟨k + 1, by omega, by go_num, ?_, ?_⟩
        · rw [HT.out]
          have h6 := ((((((hK.set 0 (.int .i64 (S.join Hk X).lo.x)).set 1 (.int .i64 (S.join Hk X).lo.y)).set 2 (.int .i64 (S.join Hk X).lo.z)).set 3 (.int .i64 (S.join Hk X).hi.x)).set 4 (.int .i64 (S.join Hk X).hi.y)).set 5 (.int .i64 (S.join Hk X).hi.z)).alloc (.cells #[.int .i64 X.lo.x, .int .i64 X.lo.y, .int .i64 X.lo.z, .int .i64 X.hi.x, .int .i64 X.hi.y, .int .i64 X.hi.z] 89)
          simp only [List.setIfInBounds_toArray, List.set_cons_zero, List.set_cons_succ] at h6
          exact h6
        · exact ((((((hX.set (.inl (by simp)) _).set (.inl (by simp)) _).set (.inl (by simp)) _).set (.inl (by simp)) _).set (.inl (by simp)) _).set (.inl (by simp)) _).alloc _
      case measure => simp [intOf]; omega
    · have he : k = n := by omega
      subst he
      have ht : xs.take k = xs := List.take_of_length_le (by have := HN.out; omega)
      rw [ht] at k0 k1 k2 k3 k4 k5
      have hRr := (hX.block w.heap.size (by omega) (by simp; omega)).trans HR0.out
      have hRr : Blk wr w.heap.size 89 #[.int .i64 0, .int .i64 0, .int .i64 0, .int .i64 0, .int .i64 0, .int .i64 0] := hRr
      have z0 := hRr.cell 0
      have z1 := hRr.cell 1
      have z2 := hRr.cell 2
      have z3 := hRr.cell 3
      have z4 := hRr.cell 4
      have z5 := hRr.cell 5
      have y0 := hRr.frozen 0
      have y1 := hRr.frozen 1
      have y2 := hRr.frozen 2
      have y3 := hRr.frozen 3
      have y4 := hRr.frozen 4
      have y5 := hRr.frozen 5
      simp only [List.getElem?_toArray, List.getElem?_cons_zero, List.getElem?_cons_succ] at z0 z1 z2 z3 z4 z5
      have hrl := hRr.lt
      have hbel : Below w.heap.size w wr := hW.trans (hX.below (by omega) (by intro x hx; simp at hx; omega))
      clear hRr
      generalize hH : S.hull x0 xs = Hk at *
      have HH := Lib.hid hH
      clear hH
      go_wp2
      exact bodyPost_ret (v := .tuple #[boxV Hk, .int .i64 0]) (by simp [results, Tryz.results212, go_sem, *]) rfl ⟨by rw [HH.out], ((((((hbel.setCell (Nat.le_refl _) _).setCell (Nat.le_refl _) _).setCell (Nat.le_refl _) _).setCell (Nat.le_refl _) _).setCell (Nat.le_refl _) _).setCell (Nat.le_refl _) _)⟩
end Go.Proofs.YtffkmgjmlahfpaaGreat
