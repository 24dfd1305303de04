/- Contracts: slices.IndexFunc and ContainsFunc over boxes, box.all, box.Hull. A region that draws its order, whose first operations only read or call for plain values, and whose last ones write in a forced order. Contracts of the reference for layer 9: With, Hull. Contracts of the reference for layer 9: Meet, Contains; box.contains and Contains of the program. Contracts: Main and MainLeg of the reference for layer 24. Contracts: isMain, Ends$1, and the reference's Main, MainLeg, Bent. Contract of the reference: Bent. Contracts: what a name is (decimal and its reference). -/
import Derived.Test.YtffkmgjmlahfpaaGreatQA
import Derived.StillTail
import Derived.Test.YtffkmgjmlahfpaaGreatRows
set_option linter.unusedVariables false
set_option linter.unusedSimpArgs false
namespace Go.Proofs.YtffkmgjmlahfpaaGreat
open Go.RowKit
/-- What a function value of one box answers: p, and memory of its own at most. -/
def AsksB (w : World) (F : Nat) (fst cap : Array Value) (p : Bx → Bool) : Prop :=
  ∀ (x : Bx) (w' : World), Below w.heap.size w w' → Calls Tryz.prog F (fst.push (boxV x) ++ cap) w' fun e w'' => e = .returned (.bool (p x)) ∧ Below w'.heap.size w' w''
theorem Cells.boxes {w : World} {B bb o : Nat} {l : List Bx} (h : Cells w B (some ⟨bb, o, none⟩) (l.flatMap boxC)) {k : Nat} {p : Bx} (hk : l[k]? = some p) :
    w.cell? ⟨bb, o + k * 6, none⟩ = some (.int .i64 p.lo.x) ∧ w.cell? ⟨bb, o + k * 6 + 1, none⟩ = some (.int .i64 p.lo.y) ∧ w.cell? ⟨bb, o + k * 6 + 2, none⟩ = some (.int .i64 p.lo.z) ∧
    w.cell? ⟨bb, o + k * 6 + 3, none⟩ = some (.int .i64 p.hi.x) ∧ w.cell? ⟨bb, o + k * 6 + 4, none⟩ = some (.int .i64 p.hi.y) ∧ w.cell? ⟨bb, o + k * 6 + 5, none⟩ = some (.int .i64 p.hi.z) := by
  obtain ⟨hk', rfl⟩ := List.getElem?_eq_some_iff.1 hk
  exact ⟨h.row0 boxC_len hk' rfl, h.rowj boxC_len hk' 1 rfl, h.rowj boxC_len hk' 2 rfl, h.rowj boxC_len hk' 3 rfl, h.rowj boxC_len hk' 4 rfl, h.rowj boxC_len hk' 5 rfl⟩
theorem indexfB_any (F : Nat) (fst cap : Array Value) (p : Bx → Bool) (A : Option Addr) (n c : Nat) (xs : List Bx) (B : Nat) (w : World) (hn : xs.length = n) (hm : n ≤ 9223372036854775807) (hB : B ≤ w.heap.size)
    (hs : Cells w B A (xs.flatMap boxC)) (hF : ∀ args w, Sem.run Tryz.prog (callFunc F args) w = .ok (.enter F args) w) (hf : AsksB w F fst cap p) :
    Calls Tryz.prog 150 #[.slice A n c, .func (.func F) fst cap] w fun e w' => e = .returned (.int .i64 (idxf xs p)) ∧ Below w.heap.size w w' := by
  have HN := Lib.hid hn
  clear hn
  go_enter Tryz.func150, Tryz.ntmps150
  go_wp2
  go_loopw [8] (fun i wr => ∃ k : Nat, k ≤ n ∧ i = .int .i64 k ∧ (∀ j (h : j < xs.length), j < k → p xs[j] = false) ∧ Below w.heap.size w wr) (fun i _ => n - (intOf i).toNat)
  case atStart => exact ⟨0, Nat.zero_le _, rfl, fun j _ hj => absurd hj (by omega), Below.refl _ _⟩
  case round =>
    obtain ⟨k, hk, rfl, hno, hbr⟩ := hrel
    have HNO := Lib.hid hno
    clear hno
    by_cases hlt : k < n
    · have hkx : k < xs.length := by have := HN.out; omega
      have hs' := hs.below (hbr.mono hB)
      obtain ⟨b, o, rfl, _, _⟩ := hs'.at_ (by rw [flat_len boxC 6 boxC_len]; omega)
      obtain ⟨c0, c1, c2, c3, c4, c5⟩ := hs'.boxes (List.getElem?_eq_getElem hkx)
      by_cases hx : p xs[k] = true
      · go_wp2_with (refine (hf _ _ hbr).mono ?_; rintro e w1 ⟨rfl, hb1⟩)
        go_ret
        exact ⟨ret_i (idxf_hit hkx hx HNO.out).symm, hbr.trans (hb1.mono hbr.size)⟩
      · have hx' : p xs[k] = false := by simpa using hx
        clear hx
        go_wp2_with (refine (hf _ _ hbr).mono ?_; rintro e w1 ⟨rfl, hb1⟩)
        go_roundw
        case rel =>
          refine ⟨k + 1, by omega, by go_num, fun j hj hjk => ?_, hbr.trans (hb1.mono hbr.size)⟩
          by_cases hjk' : j = k
          · subst hjk'; exact hx'
          · exact HNO.out j hj (by omega)
        case measure => simp [intOf]; omega
    · go_wp2
      go_ret
      exact ⟨ret_i (idxf_miss (fun j hj => HNO.out j hj (by have := HN.out; omega))).symm, hbr⟩
theorem containsfB_any (F : Nat) (fst cap : Array Value) (p : Bx → Bool) (A : Option Addr) (n c : Nat) (xs : List Bx) (B : Nat) (w : World) (hn : xs.length = n) (hm : n ≤ 9223372036854775807) (hB : B ≤ w.heap.size)
    (hs : Cells w B A (xs.flatMap boxC)) (hF : ∀ args w, Sem.run Tryz.prog (callFunc F args) w = .ok (.enter F args) w) (hf : AsksB w F fst cap p) :
    Calls Tryz.prog 216 #[.slice A n c, .func (.func F) fst cap] w fun e w' => e = .returned (.bool (anyb xs p)) ∧ Below w.heap.size w w' := by
  have HN := Lib.hid hn
  have HF := Lib.hid hF
  have he : decide (0 ≤ idxf xs p) = anyb xs p := idxf_ge xs p
  clear hn hF
  go_enter Tryz.func216, Tryz.ntmps216
  go_wp2_with (go_at_call 150; (with_reducible refine (indexfB_any F fst cap p _ _ _ xs B _ HN.out hm hB hs HF.out hf).mono ?_); rintro e w1 ⟨rfl, hbw1⟩; obtain ⟨hcw1, hfw1⟩ := bcell hbw1)
  go_ret
  exact ⟨rfl, (by repeat (first | exact Below.refl _ _ | assumption | refine ba_alloc ?_ _ | refine ba_drew ?_ | refine ba_drewN ?_ _ | refine ba_via (by assumption) ?_ | (refine ba_set ?_ ?_ _; rotate_left; (first | omega | (simp; omega) | simp))))⟩
def S.boxNot (b : Bx) : Bool := !S.boxOk b
theorem all1_any (b : Bx) (w : World) : Calls Tryz.prog 275 #[boxV b] w fun e w' => e = .returned (.bool (S.boxNot b)) ∧ Below w.heap.size w w' := by
  have HV := Lib.hid (fun w => bvalid_any b w)
  unfold boxV
  go_enter Tryz.func275, Tryz.ntmps275
  go_wp2_with (go_at_call 107; (with_reducible refine (HV.out _).mono ?_); rintro e w1 ⟨rfl, hbw1⟩; obtain ⟨hcw1, hfw1⟩ := bcell hbw1; have hzw1_0 : w.heap.size < w1.heap.size := lt_via hbw1 (by first | omega | (simp; done) | (simp; omega)))
  go_ret
  exact ⟨rfl, (by repeat (first | exact Below.refl _ _ | assumption | refine ba_alloc ?_ _ | refine ba_drew ?_ | refine ba_drewN ?_ _ | refine ba_via (by assumption) ?_ | (refine ba_set ?_ ?_ _; rotate_left; (first | omega | (simp; omega) | simp))))⟩
theorem ball_any (A : Option Addr) (n c : Nat) (xs : List Bx) (B : Nat) (w : World) (hn : xs.length = n) (hm : n ≤ 9223372036854775807) (hB : B ≤ w.heap.size) (hs : Cells w B A (xs.flatMap boxC)) :
    Calls Tryz.prog 258 #[.slice A n c] w fun e w' => e = .returned (.bool (!anyb xs S.boxNot)) ∧ Below w.heap.size w w' := by
  have HN := Lib.hid hn
  clear hn
  have hf : AsksB w 275 #[] #[] S.boxNot := fun x w' _ => all1_any x w'
  go_enter Tryz.func258, Tryz.ntmps258
  go_wp2_with (go_at_call 216; (with_reducible refine (containsfB_any 275 #[] #[] S.boxNot _ _ _ xs B _ HN.out hm hB hs Tryz.call275 hf).mono ?_); rintro e w1 ⟨rfl, hbw1⟩; obtain ⟨hcw1, hfw1⟩ := bcell hbw1)
  go_ret
  exact ⟨rfl, (by repeat (first | exact Below.refl _ _ | assumption | refine ba_alloc ?_ _ | refine ba_drew ?_ | refine ba_drewN ?_ _ | refine ba_via (by assumption) ?_ | (refine ba_set ?_ ?_ _; rotate_left; (first | omega | (simp; omega) | simp))))⟩
def S.join (a b : Bx) : Bx := ⟨⟨if b.lo.x < a.lo.x then b.lo.x else a.lo.x, if b.lo.y < a.lo.y then b.lo.y else a.lo.y, if b.lo.z < a.lo.z then b.lo.z else a.lo.z⟩, ⟨if a.hi.x < b.hi.x then b.hi.x else a.hi.x, if a.hi.y < b.hi.y then b.hi.y else a.hi.y, if a.hi.z < b.hi.z then b.hi.z else a.hi.z⟩⟩
def S.hull (a : Bx) (l : List Bx) : Bx := l.foldl S.join a
theorem hull_snoc (a : Bx) (l : List Bx) (x : Bx) : S.hull a (l ++ [x]) = S.join (S.hull a l) x := by simp [S.hull]
set_option maxRecDepth 100000 in
set_option maxHeartbeats 2000000 in
theorem bhull_yes (A : Option Addr) (n c : Nat) (xs : List Bx) (x0 : Bx) (B : Nat) (w : World) (hn : xs.length = n) (hm : n ≤ 1000000) (hB : B ≤ w.heap.size) (hs : Cells w B A (xs.flatMap boxC)) (h0 : xs[0]? = some x0) (ha : anyb xs S.boxNot = false) :
    Calls Tryz.prog 212 #[.slice A n c] w fun e w' => e = .returned (.tuple #[boxV (S.hull x0 xs), .int .i64 0]) ∧ Below w.heap.size w w' := by
  have hn0 : 0 < n := by have := (List.getElem?_eq_some_iff.1 h0).1; omega
  have hne : ((n : Int) == 0) = false := by simp; omega
  have hni : (0 : Int) < (n : Int) := by omega
  have HN := Lib.hid hn
  have HS := Lib.hid hs
  have H0 := Lib.hid h0
  obtain ⟨b, o, rfl, hb, _⟩ := hs.at_ (by rw [flat_len boxC 6 boxC_len]; omega)
  clear hn hs h0
  go_enter Tryz.func212, Tryz.ntmps212
  go_wp2_with ((go_at_call 258; (with_reducible refine (ball_any _ n c xs B _ HN.out (by omega) (by simp; omega) (HS.out.alloc hB _)).mono ?_); rintro e w1 ⟨rfl, hbw1⟩; obtain ⟨hcw1, hfw1⟩ := bcell hbw1; have hzw1_0 : w.heap.size < w1.heap.size := lt_via hbw1 (by first | omega | (simp; done) | (simp; omega)))
               obtain ⟨c0, c1, c2, c3, c4, c5⟩ := (HS.out.below ((by exact (Below.refl _ w).alloc (Nat.le_refl _) _ : Below w.heap.size w _).mono hB |>.trans (hbw1.mono (by simp; omega)))).boxes H0.out
               have hbw : b < w1.heap.size := by omega
               simp only [Nat.zero_mul, Nat.add_zero] at c0 c1 c2 c3 c4 c5)
  have hW : Below w.heap.size w (w1.alloc (.cells #[.int .i64 x0.lo.x, .int .i64 x0.lo.y, .int .i64 x0.lo.z, .int .i64 x0.hi.x, .int .i64 x0.hi.y, .int .i64 x0.hi.z] 89)) := (by repeat (first | exact Below.refl _ _ | assumption | refine ba_alloc ?_ _ | refine ba_drew ?_ | refine ba_drewN ?_ _ | refine ba_via (by assumption) ?_ | (refine ba_set ?_ ?_ _; rotate_left; (first | omega | (simp; omega) | simp))))
  have hK0 : Blk (w1.alloc (.cells #[.int .i64 x0.lo.x, .int .i64 x0.lo.y, .int .i64 x0.lo.z, .int .i64 x0.hi.x, .int .i64 x0.hi.y, .int .i64 x0.hi.z] 89)) w1.heap.size 89 #[.int .i64 x0.lo.x, .int .i64 x0.lo.y, .int .i64 x0.lo.z, .int .i64 x0.hi.x, .int .i64 x0.hi.y, .int .i64 x0.hi.z] := Blk.new _ _ _
  have hR0 : Blk (w1.alloc (.cells #[.int .i64 x0.lo.x, .int .i64 x0.lo.y, .int .i64 x0.lo.z, .int .i64 x0.hi.x, .int .i64 x0.hi.y, .int .i64 x0.hi.z] 89)) w.heap.size 89 #[.int .i64 0, .int .i64 0, .int .i64 0, .int .i64 0, .int .i64 0, .int .i64 0] := ((Blk.new w _ _).via hbw1).alloc _
  have hC1 := HS.out.below (hW.mono hB)
  have hzW : (w1.alloc (.cells #[.int .i64 x0.lo.x, .int .i64 x0.lo.y, .int .i64 x0.lo.z, .int .i64 x0.hi.x, .int .i64 x0.hi.y, .int .i64 x0.hi.z] 89)).heap.size = w1.heap.size + 1 := by simp
  have HR0 := Lib.hid hR0
  clear c0 c1 c2 c3 c4 c5 hcw1 hfw1 hR0
  generalize w1.alloc (.cells #[.int .i64 x0.lo.x, .int .i64 x0.lo.y, .int .i64 x0.lo.z, .int .i64 x0.hi.x, .int .i64 x0.hi.y, .int .i64 x0.hi.z] 89) = W1 at *
  go_loopw [22] (fun i wr => ∃ k : Nat, k ≤ n ∧ i = .int .i64 k ∧ Blk wr w1.heap.size 89 #[.int .i64 (S.hull x0 (xs.take k)).lo.x, .int .i64 (S.hull x0 (xs.take k)).lo.y, .int .i64 (S.hull x0 (xs.take k)).lo.z, .int .i64 (S.hull x0 (xs.take k)).hi.x, .int .i64 (S.hull x0 (xs.take k)).hi.y, .int .i64 (S.hull x0 (xs.take k)).hi.z] ∧ Exc [w1.heap.size] W1 wr) (fun i _ => n - (intOf i).toNat)
  case atStart => exact ⟨0, Nat.zero_le _, rfl, hK0, Exc.refl _ _⟩
  case round =>
    obtain ⟨k, hk, rfl, hK, hX⟩ := hrel
    have hsz := hX.size
    have hgr := hK.lt
    have k0 := hK.cell 0
    have k1 := hK.cell 1
    have k2 := hK.cell 2
    have k3 := hK.cell 3
    have k4 := hK.cell 4
    have k5 := hK.cell 5
    have f0 := hK.frozen 0
    have f1 := hK.frozen 1
    have f2 := hK.frozen 2
    have f3 := hK.frozen 3
    have f4 := hK.frozen 4
    have f5 := hK.frozen 5
    simp only [List.getElem?_toArray, List.getElem?_cons_zero, List.getElem?_cons_succ] at k0 k1 k2 k3 k4 k5
    by_cases hlt : k < n
    · have hkx : k < xs.length := by have := HN.out; omega
      obtain ⟨c0, c1, c2, c3, c4, c5⟩ := (hC1.below (hX.below (by have := hW.size; omega) (by intro x hx; simp at hx; omega))).boxes (List.getElem?_eq_getElem hkx)
      have HT := Lib.hid (show S.hull x0 (xs.take (k + 1)) = S.join (S.hull x0 (xs.take k)) xs[k] by rw [List.take_succ_eq_append_getElem hkx, hull_snoc])
      have hbr : b < wr.heap.size := by omega
      generalize S.hull x0 (xs.take k) = Hk at *
      generalize xs[k] = X at *
      have hki : (k : Int) < (n : Int) := by omega
      go_wp2
      go_roundw
      case rel =>
        refine ⟨k + 1, by omega, by go_num, ?_, ?_⟩
        · rw [HT.out]
          have h6 := ((((((hK.set 0 (.int .i64 (S.join Hk X).lo.x)).set 1 (.int .i64 (S.join Hk X).lo.y)).set 2 (.int .i64 (S.join Hk X).lo.z)).set 3 (.int .i64 (S.join Hk X).hi.x)).set 4 (.int .i64 (S.join Hk X).hi.y)).set 5 (.int .i64 (S.join Hk X).hi.z)).alloc (.cells #[.int .i64 X.lo.x, .int .i64 X.lo.y, .int .i64 X.lo.z, .int .i64 X.hi.x, .int .i64 X.hi.y, .int .i64 X.hi.z] 89)
          simp only [List.setIfInBounds_toArray, List.set_cons_zero, List.set_cons_succ] at h6
          exact h6
        · exact ((((((hX.set (.inl (by simp)) _).set (.inl (by simp)) _).set (.inl (by simp)) _).set (.inl (by simp)) _).set (.inl (by simp)) _).set (.inl (by simp)) _).alloc _
      case measure => simp [intOf]; omega
    · have he : k = n := by omega
      subst he
      have ht : xs.take k = xs := List.take_of_length_le (by have := HN.out; omega)
      rw [ht] at k0 k1 k2 k3 k4 k5
      have hRr := (hX.block w.heap.size (by omega) (by simp; omega)).trans HR0.out
      have hRr : Blk wr w.heap.size 89 #[.int .i64 0, .int .i64 0, .int .i64 0, .int .i64 0, .int .i64 0, .int .i64 0] := hRr
      have z0 := hRr.cell 0
      have z1 := hRr.cell 1
      have z2 := hRr.cell 2
      have z3 := hRr.cell 3
      have z4 := hRr.cell 4
      have z5 := hRr.cell 5
      have y0 := hRr.frozen 0
      have y1 := hRr.frozen 1
      have y2 := hRr.frozen 2
      have y3 := hRr.frozen 3
      have y4 := hRr.frozen 4
      have y5 := hRr.frozen 5
      simp only [List.getElem?_toArray, List.getElem?_cons_zero, List.getElem?_cons_succ] at z0 z1 z2 z3 z4 z5
      have hrl := hRr.lt
      have hbel : Below w.heap.size w wr := hW.trans (hX.below (by omega) (by intro x hx; simp at hx; omega))
      clear hRr
      generalize hH : S.hull x0 xs = Hk at *
      have HH := Lib.hid hH
      clear hH
      go_wp2
      exact bodyPost_ret (v := .tuple #[boxV Hk, .int .i64 0]) (by simp [results, Tryz.results212, go_sem, *]) rfl ⟨by rw [HH.out], ((((((hbel.setCell (Nat.le_refl _) _).setCell (Nat.le_refl _) _).setCell (Nat.le_refl _) _).setCell (Nat.le_refl _) _).setCell (Nat.le_refl _) _).setCell (Nat.le_refl _) _)⟩
end Go.Proofs.YtffkmgjmlahfpaaGreat
set_option linter.unusedVariables false
set_option linter.unusedSimpArgs false
namespace Go.Proofs.YtffkmgjmlahfpaaGreat
open Go.RowKit
section
variable {P : Program} {ops : Array Oper} {md : Region.Mode} {C : World → Prop} {n : Nat}

/-- The head: in whatever order its operations come, none of the tail comes before; then L. -/
def headQ (P : Program) (md : Region.Mode) (ops : Array Oper) (C : World → Prop) (n : Nat) (L : Array Bool → Act → Prop) : Nat → Array Bool → Act → Prop
  | 0, listed, a => L listed a
  | f + 1, listed, a =>
    Region.ready md ops listed ≠ [] ∧ ∀ i, i ∈ Region.ready md ops listed → i < n ∧ qOp P ops C i (headQ P md ops C n L f (listed.setIfInBounds i true)) a

theorem headQ_any {g : Nat} {L : Array Bool → Act → Prop} {Q' : Exit → Act → World → Prop} (hL : ∀ listed a w, C w → L listed a → wpAny P md ops Q' g listed a w) :
    ∀ (f : Nat) (listed : Array Bool) (a : Act) (w : World), C w → headQ P md ops C n L f listed a → wpAny P md ops Q' (f + g) listed a w := by
  intro f
  induction f with
  | zero => intro listed a w hw h; rw [Nat.zero_add]; exact hL _ _ _ hw h
  | succ f ih =>
    intro listed a w hw h
    have e : f + 1 + g = (f + g) + 1 := by omega
    rw [e]
    refine ⟨fun h0 => absurd h0 h.1, fun i hi => ?_⟩
    exact wpOp_of_qOp hw (fun a' w' hw' h' => ih _ a' w' hw' h') (h.2 i hi).2

theorem headQ_first {i : Nat} {oi : Oper} {v : Value} {L : Array Bool → Act → Prop} (hi : ops[i]? = some oi) (hsel : ∀ (j : Nat) (o : Oper) cs b, ops[j]? = some o → o.op ≠ .select cs b)
    (hs : Region.sinkB md ops n = true) (hc : Region.chainB md ops n = true) (hn : n < ops.size) (hin : i < n) (hdone : ∀ listed a, L listed a → ∀ j, j ∈ Region.ready md ops listed → n ≤ j) :
    ∀ (f : Nat) (listed : Array Bool) (a : Act), HeadInv md ops n listed →
      (∀ j oj, ops[j]? = some oj → j ≠ i → listed.getD j true = false → (∀ e ∈ oj.after, Region.binds md e = true → e.on ≠ i) → oi.apart ops oj = true) →
      i ∈ Region.ready md ops listed → YieldsIn P ops C oi v a → headQ P md ops C n L f (listed.setIfInBounds i true) (a.put oi.dst v) → headQ P md ops C n L (f + 1) listed a := by
  intro f
  induction f with
  | zero =>
    intro listed a inv _ hr hy H
    refine ⟨fun h => by rw [h] at hr; exact absurd hr (by simp), fun j hj => ?_⟩
    have hjn : j < n := Nat.lt_of_not_le fun h => tail_waits hs hc hn inv _ i rfl hin (mem_ready.1 hr).1 j h hj
    refine ⟨hjn, ?_⟩
    by_cases hji : j = i
    · subst hji
      exact hy.qOp hi H
    · exact absurd (hdone _ _ H j (ready_mono hj hji)) (by omega)
  | succ f ih =>
    intro listed a inv hfree hr hy H
    refine ⟨fun h => by rw [h] at hr; exact absurd hr (by simp), fun j hj => ?_⟩
    have hjn : j < n := Nat.lt_of_not_le fun h => tail_waits hs hc hn inv _ i rfl hin (mem_ready.1 hr).1 j h hj
    refine ⟨hjn, ?_⟩
    by_cases hji : j = i
    · subst hji
      exact hy.qOp hi H
    · obtain ⟨hjun, oj, hoj, hall⟩ := mem_ready.1 hj
      have hnot : ∀ e ∈ oj.after, Region.binds md e = true → e.on ≠ i := fun e he hb heq => by
        have h1 := hall e he hb
        rw [heq, getD_both (mem_ready.1 hr).1] at h1
        exact absurd h1 (by simp)
      have h2 := qOp_put hoj (hfree j oj hoj hji hjun hnot) (fun cs b => hsel i oi cs b hi) (fun cs b => hsel j oj cs b hoj) hy (H.2 j (ready_mono hj hji)).2
      refine qOp_mono (fun a' h3 => ih (listed.setIfInBounds j true) a' (inv.set hj hjn) (fun k ok hk hki hun hno => ?_) (ready_mono hr (Ne.symm hji)) h3.1 ?_) h2
      · refine hfree k ok hk hki ?_ hno
        by_cases hjk : j = k
        · subst hjk
          exact hjun
        · rwa [getD_set_ne true hjk] at hun
      · rw [Array.setIfInBounds_comm _ _ hji]
        exact h3.2

theorem headQ_lex {g : Nat} {Lq : Act → Prop} (hsel : Region.noSelect ops = true) (hs : Region.sinkB md ops n = true) (hc : Region.chainB md ops n = true) (hn : n < ops.size) :
    ∀ (l : List Oper) (k : Nat) (listed : Array Bool) (a : Act), (∀ j, j < l.length → l[j]? = ops[k + j]?) → k + l.length = n → HeadInv md ops n listed →
    Region.lexHead md ops g l.length k listed = true → wpQuiet P ops C Lq l a →
    headQ P md ops C n (fun listed' a' => Region.seqB md ops g n listed' = true ∧ Lq a') l.length listed a := by
  intro l
  induction l with
  | nil =>
    intro k listed a _ hk _ hB h
    obtain rfl : k = n := by simpa using hk
    exact ⟨by simpa [Region.lexHead] using hB, h⟩
  | cons o l ih =>
    intro k listed a hl hk inv hB h
    have h0 : ops[k]? = some o := by simpa using (hl 0 (by simp)).symm
    simp only [List.length_cons, Region.lexHead, Bool.and_eq_true] at hB
    simp only [List.length_cons] at hk
    have hr' : k ∈ Region.ready md ops listed := by simpa using hB.1.1
    have hst : qOp P ops C k (wpQuiet P ops C Lq l) a := by
      unfold qOp
      simp only [h0]
      exact h
    obtain ⟨v, hy, hK⟩ := yieldsIn_of_qOp h0 hst
    refine headQ_first h0 (Region.noSelect_spec hsel) hs hc hn (by omega) (fun listed' a' hL => seqB_ready hL.1) l.length listed a inv (Region.free_spec h0 hB.1.2) hr' hy ?_
    refine ih (k + 1) _ _ (fun j hj => ?_) (by omega) (inv.set hr' (by omega)) hB.2 hK
    have := hl (j + 1) (by simp; omega)
    simpa [Nat.add_assoc, Nat.add_comm 1 j] using this
end

/-- The first m operations read or call for plain values; the rest write, in the order of the text. -/
theorem wp_region_grow_tail {P : Program} {id : Nat} {Q : Exit → Act → World → Prop} {a : Act} {w : World} {l : List Oper} (m : Nat) (hm : P.follows .mixedOrders = true) (hB : Region.lexTailB .any l.toArray m = true)
    (h : wpQuiet P l.toArray (fun w' => ∃ g, w' = grow w g) (fun a' => ∀ w', Below w.heap.size w w' → wpList P l.toArray Q (l.drop m) a' w') (l.take m) a) : (Code.region id l.toArray true).wp P Q a w := by
  simp only [Region.lexTailB, Bool.and_eq_true, decide_eq_true_eq] at hB
  obtain ⟨⟨⟨⟨hsel, hn⟩, hs⟩, hc⟩, hlex⟩ := hB
  have hn' : m < l.length := by simpa using hn
  have htl : (l.take m).length = m := by simp; omega
  have hdl : (l.drop m).length = l.toArray.size - m := by simp
  have inv0 : HeadInv .any l.toArray m (Array.replicate l.toArray.size false) :=
    ⟨by simp, fun j oj _ hl => by rw [getD_replicate_false] at hl; exact absurd hl (by simp), fun t _ ht => getD_in (by simpa using ht) (getD_replicate_false _ _)⟩
  have H := headQ_lex (C := fun w' => ∃ g, w' = grow w g) (md := .any) (g := l.toArray.size - m) hsel hs hc hn (l.take m) 0 _ a (fun j hj => by
    have hj' : j < m := by rw [htl] at hj; exact hj
    simp [hj']) (by simpa using htl) inv0 (by rw [htl]; exact hlex) h
  refine wp_region_any hm ?_
  have h3 := headQ_any (Q' := Q) (g := l.toArray.size - m) (fun listed a' w' hw' hL => by
    obtain ⟨g, rfl⟩ := hw'
    have := wpAny_of_seq (md := .any) (Q' := Q) (l.drop m) m listed a' (grow w g) (fun j => by simp [List.getElem?_drop]) (by rw [hdl]; exact hL.1) (hL.2 _ (grow_below w g))
    rwa [hdl] at this) _ _ _ w.drew ⟨w.drew, (grow_eq (Below.drew (Below.refl _ _))).symm⟩ H
  rw [htl, show m + (l.toArray.size - m) = l.toArray.size by omega] at h3
  exact h3
end Go.Proofs.YtffkmgjmlahfpaaGreat
set_option linter.unusedVariables false
set_option linter.unusedSimpArgs false
namespace Go.Proofs.YtffkmgjmlahfpaaGreat
open Go.RowKit
namespace S
def mn (a b : Int) : Int := if b < a then b else a
end S
end Go.Proofs.YtffkmgjmlahfpaaGreat
set_option linter.unusedVariables false
set_option linter.unusedSimpArgs false
namespace Go.Proofs.YtffkmgjmlahfpaaGreat
open Go.RowKit
namespace S
/-- A box contains another one. -/
def cont (a b : Bx) : Bool := decide (a.lo.x ≤ b.lo.x) && decide (b.hi.x ≤ a.hi.x) && (decide (a.lo.y ≤ b.lo.y) && decide (b.hi.y ≤ a.hi.y)) && (decide (a.lo.z ≤ b.lo.z) && decide (b.hi.z ≤ a.hi.z))
def zbox : Bx := ⟨⟨0, 0, 0⟩, ⟨0, 0, 0⟩⟩
end S
theorem cont_iff {a b : Bx} : S.cont a b = true ↔ a.lo.x ≤ b.lo.x ∧ b.hi.x ≤ a.hi.x ∧ a.lo.y ≤ b.lo.y ∧ b.hi.y ≤ a.hi.y ∧ a.lo.z ≤ b.lo.z ∧ b.hi.z ≤ a.hi.z := by
  simp [S.cont, and_assoc]
set_option maxHeartbeats 4000000 in
theorem bcont_any (a b : Bx) (w : World) :
    Calls Tryz.prog 260 #[boxV a, boxV b] w fun e w' => e = .returned (.bool (S.cont a b)) ∧ Below w.heap.size w w' := by
  have H := Lib.hid (show ∀ t : Bool, (t = true ↔ a.lo.x ≤ b.lo.x ∧ b.hi.x ≤ a.hi.x ∧ a.lo.y ≤ b.lo.y ∧ b.hi.y ≤ a.hi.y ∧ a.lo.z ≤ b.lo.z ∧ b.hi.z ≤ a.hi.z) → t = S.cont a b from fun t ht => by rw [Bool.eq_iff_iff, ht, cont_iff])
  have HXA := Lib.hid (fun w => ends_x a w)
  have HYA := Lib.hid (fun w => ends_y a w)
  have HZA := Lib.hid (fun w => ends_z a w)
  have HXB := Lib.hid (fun w => ends_x b w)
  have HYB := Lib.hid (fun w => ends_y b w)
  have HZB := Lib.hid (fun w => ends_z b w)
  unfold boxV
  go_enter Tryz.func260, Tryz.ntmps260
  go_wp2
  refine wp_loop_rounds 4 ?_
  rw [rounds_succ]
  go_wp2_with (first | (go_at_call 167; (with_reducible refine (HXA.out _).mono ?_); rintro e w1 ⟨rfl, hbw1⟩; obtain ⟨hcw1, hfw1⟩ := bcell hbw1; have hzw1_0 : w.heap.size < w1.heap.size := lt_via hbw1 (by first | omega | (simp; done) | (simp; omega)); have hzw1_1 : w.heap.size + 1 < w1.heap.size := lt_via hbw1 (by first | omega | (simp; done) | (simp; omega))) | (go_at_call 167; (with_reducible refine (HXB.out _).mono ?_); rintro e w2 ⟨rfl, hbw2⟩; obtain ⟨hcw2, hfw2⟩ := bcell hbw2; have hzw2_0 : w.heap.size < w2.heap.size := lt_via hbw2 (by first | omega | (simp; done) | (simp; omega)); have hzw2_1 : w.heap.size + 1 < w2.heap.size := lt_via hbw2 (by first | omega | (simp; done) | (simp; omega))))
  all_goals (try (go_ret; exact ⟨ret_b (H.out _ (by simp only [decide_eq_true_eq, decide_eq_false_iff_not, Bool.false_eq_true, true_iff, false_iff] at *; omega)), (by repeat (first | exact Below.refl _ _ | assumption | refine ba_alloc ?_ _ | refine ba_drew ?_ | refine ba_drewN ?_ _ | refine ba_via (by assumption) ?_ | (refine ba_set ?_ ?_ _; rotate_left; (first | omega | (simp; omega) | simp))))⟩))
  rw [rounds_succ]
  go_wp2_with (first | (go_at_call 167; (with_reducible refine (HYA.out _).mono ?_); rintro e w3 ⟨rfl, hbw3⟩; obtain ⟨hcw3, hfw3⟩ := bcell hbw3; have hzw3_0 : w.heap.size < w3.heap.size := lt_via hbw3 (by first | omega | (simp; done) | (simp; omega)); have hzw3_1 : w.heap.size + 1 < w3.heap.size := lt_via hbw3 (by first | omega | (simp; done) | (simp; omega))) | (go_at_call 167; (with_reducible refine (HYB.out _).mono ?_); rintro e w4 ⟨rfl, hbw4⟩; obtain ⟨hcw4, hfw4⟩ := bcell hbw4; have hzw4_0 : w.heap.size < w4.heap.size := lt_via hbw4 (by first | omega | (simp; done) | (simp; omega)); have hzw4_1 : w.heap.size + 1 < w4.heap.size := lt_via hbw4 (by first | omega | (simp; done) | (simp; omega))))
  all_goals (try (go_ret; exact ⟨ret_b (H.out _ (by simp only [decide_eq_true_eq, decide_eq_false_iff_not, Bool.false_eq_true, true_iff, false_iff] at *; omega)), (by repeat (first | exact Below.refl _ _ | assumption | refine ba_alloc ?_ _ | refine ba_drew ?_ | refine ba_drewN ?_ _ | refine ba_via (by assumption) ?_ | (refine ba_set ?_ ?_ _; rotate_left; (first | omega | (simp; omega) | simp))))⟩))
  rw [rounds_succ]
  go_wp2_with (first | (go_at_call 167; (with_reducible refine (HZA.out _).mono ?_); rintro e w5 ⟨rfl, hbw5⟩; obtain ⟨hcw5, hfw5⟩ := bcell hbw5; have hzw5_0 : w.heap.size < w5.heap.size := lt_via hbw5 (by first | omega | (simp; done) | (simp; omega)); have hzw5_1 : w.heap.size + 1 < w5.heap.size := lt_via hbw5 (by first | omega | (simp; done) | (simp; omega))) | (go_at_call 167; (with_reducible refine (HZB.out _).mono ?_); rintro e w6 ⟨rfl, hbw6⟩; obtain ⟨hcw6, hfw6⟩ := bcell hbw6; have hzw6_0 : w.heap.size < w6.heap.size := lt_via hbw6 (by first | omega | (simp; done) | (simp; omega)); have hzw6_1 : w.heap.size + 1 < w6.heap.size := lt_via hbw6 (by first | omega | (simp; done) | (simp; omega))))
  all_goals (try (go_ret; exact ⟨ret_b (H.out _ (by simp only [decide_eq_true_eq, decide_eq_false_iff_not, Bool.false_eq_true, true_iff, false_iff] at *; omega)), (by repeat (first | exact Below.refl _ _ | assumption | refine ba_alloc ?_ _ | refine ba_drew ?_ | refine ba_drewN ?_ _ | refine ba_via (by assumption) ?_ | (refine ba_set ?_ ?_ _; rotate_left; (first | omega | (simp; omega) | simp))))⟩))
  rw [rounds_succ]
  go_wp2
  (go_ret; exact ⟨ret_b (H.out _ (by simp only [decide_eq_true_eq, decide_eq_false_iff_not, Bool.false_eq_true, true_iff, false_iff] at *; omega)), (by repeat (first | exact Below.refl _ _ | assumption | refine ba_alloc ?_ _ | refine ba_drew ?_ | refine ba_drewN ?_ _ | refine ba_via (by assumption) ?_ | (refine ba_set ?_ ?_ _; rotate_left; (first | omega | (simp; omega) | simp))))⟩)
theorem bcontains_yes (a b : Bx) (w : World) (ha : S.boxOk a = true) (hb : S.boxOk b = true) :
    Calls Tryz.prog 220 #[boxV a, boxV b] w fun e w' => e = .returned (.tuple #[.bool (S.cont a b), .int .i64 0]) ∧ Below w.heap.size w w' := by
  have HA := Lib.hid (fun w => ha ▸ bvalid_any a w)
  have HB := Lib.hid (fun w => hb ▸ bvalid_any b w)
  have HC := Lib.hid (fun w => bcont_any a b w)
  generalize S.cont a b = t at *
  unfold boxV
  go_enter Tryz.func220, Tryz.ntmps220
  go_wp2_with (first
    | (go_at_call 107; (with_reducible refine (HA.out _).mono ?_); rintro e w1 ⟨rfl, hbw1⟩; obtain ⟨hcw1, hfw1⟩ := bcell hbw1; have hzw1_0 : w.heap.size < w1.heap.size := lt_via hbw1 (by first | omega | (simp; done) | (simp; omega)); have hzw1_1 : w.heap.size + 1 < w1.heap.size := lt_via hbw1 (by first | omega | (simp; done) | (simp; omega)))
    | (go_at_call 107; (with_reducible refine (HB.out _).mono ?_); rintro e w2 ⟨rfl, hbw2⟩; obtain ⟨hcw2, hfw2⟩ := bcell hbw2; have hzw2_0 : w.heap.size < w2.heap.size := lt_via hbw2 (by first | omega | (simp; done) | (simp; omega)); have hzw2_1 : w.heap.size + 1 < w2.heap.size := lt_via hbw2 (by first | omega | (simp; done) | (simp; omega)))
    | (go_at_call 260; (with_reducible refine (HC.out _).mono ?_); rintro e w3 ⟨rfl, hbw3⟩; obtain ⟨hcw3, hfw3⟩ := bcell hbw3; have hzw3_0 : w.heap.size < w3.heap.size := lt_via hbw3 (by first | omega | (simp; done) | (simp; omega)); have hzw3_1 : w.heap.size + 1 < w3.heap.size := lt_via hbw3 (by first | omega | (simp; done) | (simp; omega))))
  go_ret2
  exact ⟨rfl, (by repeat (first | exact Below.refl _ _ | assumption | refine ba_alloc ?_ _ | refine ba_drew ?_ | refine ba_drewN ?_ _ | refine ba_via (by assumption) ?_ | (refine ba_set ?_ ?_ _; rotate_left; (first | omega | (simp; omega) | simp))))⟩
end Go.Proofs.YtffkmgjmlahfpaaGreat
set_option linter.unusedVariables false
set_option linter.unusedSimpArgs false
namespace Go.Proofs.YtffkmgjmlahfpaaGreat
open Go.RowKit
def S.isMainB (b : Bx) : Bool := decide (b.lo.x < b.hi.x) && decide (b.lo.y = b.hi.y) && decide (b.lo.z = b.hi.z)
end Go.Proofs.YtffkmgjmlahfpaaGreat
set_option linter.unusedVariables false
set_option linter.unusedSimpArgs false
namespace Go.Proofs.YtffkmgjmlahfpaaGreat
open Go.RowKit
theorem isMain_any (b : Bx) (w : World) :
    Calls Tryz.prog 219 #[boxV b] w fun e w' => e = .returned (.bool (S.isMainB b)) ∧ Below w.heap.size w w' := by
  have H := Lib.hid (show S.isMainB b = (decide (b.lo.x < b.hi.x) && decide (b.lo.y = b.hi.y) && decide (b.lo.z = b.hi.z)) from rfl)
  unfold boxV
  go_enter Tryz.func219, Tryz.ntmps219
  go_wp2
  all_goals (go_ret; exact ⟨ret_b (by rw [H.out, Bool.eq_iff_iff]; all_goals (first | (simp at *; done) | (simp at *; omega))), (by repeat (first | exact Below.refl _ _ | assumption | refine ba_alloc ?_ _ | refine ba_drew ?_ | refine ba_drewN ?_ _ | refine ba_via (by assumption) ?_ | (refine ba_set ?_ ?_ _; rotate_left; (first | omega | (simp; omega) | simp))))⟩)
theorem notok_any (b : Bx) (w : World) : Calls Tryz.prog 217 #[boxV b] w fun e w' => e = .returned (.bool (S.boxNot b)) ∧ Below w.heap.size w w' := by
  have HV := Lib.hid (fun w => bvalid_any b w)
  unfold boxV
  go_enter Tryz.func217, Tryz.ntmps217
  go_wp2_with (go_at_call 107; (with_reducible refine (HV.out _).mono ?_); rintro e w1 ⟨rfl, hbw1⟩; obtain ⟨hcw1, hfw1⟩ := bcell hbw1; have hzw1_0 : w.heap.size < w1.heap.size := lt_via hbw1 (by first | omega | (simp; done) | (simp; omega)))
  go_ret
  exact ⟨rfl, (by repeat (first | exact Below.refl _ _ | assumption | refine ba_alloc ?_ _ | refine ba_drew ?_ | refine ba_drewN ?_ _ | refine ba_via (by assumption) ?_ | (refine ba_set ?_ ?_ _; rotate_left; (first | omega | (simp; omega) | simp))))⟩
end Go.Proofs.YtffkmgjmlahfpaaGreat
set_option linter.unusedVariables false
set_option linter.unusedSimpArgs false
namespace Go.Proofs.YtffkmgjmlahfpaaGreat
open Go.RowKit
abbrev S.pbox (p : Pt) : Bx := ⟨p, p⟩
def S.touch (xs : List Bx) (j : Nat) (p : Pt) : Bool := S.cont (xs.getD j S.zbox) (S.pbox p)
/-- The end p of leg k is bent. -/
def S.bent (xs : List Bx) (k : Nat) (p : Pt) : Bool := (decide (0 < k) && S.touch xs (k - 1) p) || (decide (k + 1 < xs.length) && S.touch xs (k + 1) p)
end Go.Proofs.YtffkmgjmlahfpaaGreat
set_option linter.unusedVariables false
set_option linter.unusedSimpArgs false
namespace Go.Proofs.YtffkmgjmlahfpaaGreat
open Go.RowKit
namespace S
def letter (c : Int) : Bool := decide (97 ≤ c) && decide (c ≤ 122) || decide (65 ≤ c) && decide (c ≤ 90)
def digit (c : Int) : Bool := decide (48 ≤ c) && decide (c ≤ 57)
def wordc (c : Int) : Bool := letter c || digit c || c == 95
/-- How many letters, digits, and underscores stand at the head. -/
def wordl : List UInt8 → Nat
  | [] => 0
  | c :: l => if wordc c.toNat then wordl l + 1 else 0
def isName (s : ByteArray) : Bool := !(s.size == 0) && decide (s.size ≤ 20) && letter ((s.data.toList.headD 0).toNat) && wordl s.data.toList == s.size
end S
theorem letter_any (c : Int) (w : World) (h0 : 0 ≤ c) (h1 : c ≤ 255) : Calls Tryz.prog 224 #[.int .u8 c] w fun e w' => e = .returned (.bool (S.letter c)) ∧ w = w' := by
  have H := Lib.hid (show S.letter c = (decide (97 ≤ c) && decide (c ≤ 122) || decide (65 ≤ c) && decide (c ≤ 90)) from rfl)
  go_enter Tryz.func224, Tryz.ntmps224
  go_wp2
  all_goals (go_ret; exact ⟨ret_b (by rw [H.out, Bool.eq_iff_iff]; simp; omega), rfl⟩)
theorem digit_any (c : Int) (w : World) (h0 : 0 ≤ c) (h1 : c ≤ 255) : Calls Tryz.prog 263 #[.int .u8 c] w fun e w' => e = .returned (.bool (S.digit c)) ∧ w = w' := by
  have H := Lib.hid (show S.digit c = (decide (48 ≤ c) && decide (c ≤ 57)) from rfl)
  go_enter Tryz.func263, Tryz.ntmps263
  go_wp2
  all_goals (go_ret; exact ⟨ret_b (by rw [H.out, Bool.eq_iff_iff]; simp; omega), rfl⟩)
theorem wordl_stop {l : List UInt8} {k : Nat} (h : ∀ j c, j < k → l[j]? = some c → S.wordc c.toNat = true) (hk : k ≤ l.length) (hs : k = l.length ∨ ∃ c, l[k]? = some c ∧ S.wordc c.toNat = false) : S.wordl l = k := by
  induction l generalizing k with
  | nil => simp at hk; subst hk; rfl
  | cons x l ih =>
    cases k with
    | zero =>
      rcases hs with hs | ⟨c, hc, hf⟩
      · simp at hs
      · simp at hc; subst hc; simp [S.wordl, hf]
    | succ k =>
      have hx := h 0 x (by omega) rfl
      have := ih (k := k) (fun j c hj hc => h (j + 1) c (by omega) (by simpa using hc)) (by simpa using hk) (by simpa using hs)
      simp [S.wordl, hx, this]
theorem byte_bd (c : UInt8) : (0 : Int) ≤ (c.toNat : Int) ∧ (c.toNat : Int) ≤ 255 := by have := c.toNat_lt; omega
theorem wordl_more {l : List UInt8} {k : Nat} {c : UInt8} (h : ∀ j c, j < k → l[j]? = some c → S.wordc c.toNat = true) (hc : l[k]? = some c) (hw : S.wordc c.toNat = true) :
    ∀ j c, j < k + 1 → l[j]? = some c → S.wordc c.toNat = true := fun j c' hj hc' => by
  by_cases hjk : j = k
  · subst hjk
    rw [hc] at hc'
    injection hc' with hc'
    exact hc' ▸ hw
  · exact h j c' (by omega) hc'
set_option maxHeartbeats 1000000 in
theorem word_any (s : ByteArray) (w : World) (hs : s.size ≤ 9223372036854775807) : Calls Tryz.prog 225 #[.string s] w fun e w' => e = .returned (.int .i64 (S.wordl s.data.toList : Nat)) ∧ w = w' := by
  go_enter Tryz.func225, Tryz.ntmps225
  go_wp2
  go_loop [3] (fun i => ∃ k : Nat, k ≤ s.size ∧ i = .int .i64 k ∧ Hid (∀ j c, j < k → s.data.toList[j]? = some c → S.wordc c.toNat = true)) (fun i => s.size - (intOf i).toNat)
  case atStart => exact ⟨0, Nat.zero_le _, rfl, Lib.hid fun j c hj => absurd hj (by omega)⟩
  case round =>
    obtain ⟨k, hk, rfl, HNO⟩ := hrel
    by_cases hlt : k < s.size
    · have hb := byte_bd s[k]
      have hget : s.data.toList[k]? = some s[k] := by simp [hlt]; rfl
      have HG := Lib.hid hget
      clear hget
      cases hl : S.letter s[k].toNat <;> cases hd : S.digit s[k].toNat <;> cases hu : ((s[k].toNat : Int) == 95)
      all_goals
        go_wp2_with (first
          | (go_at_call 224; (with_reducible refine (letter_any _ _ hb.1 hb.2).mono ?_); rintro e w' ⟨rfl, rfl⟩)
          | (go_at_call 263; (with_reducible refine (digit_any _ _ hb.1 hb.2).mono ?_); rintro e w' ⟨rfl, rfl⟩))
        first
          | (go_ret
             exact ⟨ret_i (by rw [wordl_stop (k := k) HNO.out (by simp; omega) (.inr ⟨_, HG.out, by simp [S.wordc, hl, hd, hu]⟩)]), rfl⟩)
          | (go_round
             case rel => exact ⟨k + 1, by omega, by go_num, Lib.hid (wordl_more HNO.out HG.out (by simp [S.wordc, hl, hd, hu]))⟩
             case measure => simp [intOf]; omega)
    · go_wp2
      go_ret
      exact ⟨ret_i (by rw [wordl_stop (k := k) HNO.out (by simp; omega) (.inl (by simp; omega))]), rfl⟩
theorem wordl_le (l : List UInt8) : S.wordl l ≤ l.length := by
  induction l with
  | nil => simp [S.wordl]
  | cons c l ih => unfold S.wordl; split <;> simp <;> omega
set_option maxHeartbeats 1000000 in
theorem isname_any (s : ByteArray) (w : World) (hs : s.size ≤ 9223372036854775807) : Calls Tryz.prog 166 #[.string s] w fun e w' => e = .returned (.bool (S.isName s)) ∧ w = w' := by
  have H := Lib.hid (show S.isName s = (!(s.size == 0) && decide (s.size ≤ 20) && S.letter ((s.data.toList.headD 0).toNat) && S.wordl s.data.toList == s.size) from rfl)
  have hwl := wordl_le s.data.toList
  rw [show s.data.toList.length = s.size from rfl] at hwl
  by_cases h0 : s.size = 0
  · have he : s.toList = [] := by rw [Go.ByteArray.toList_eq]; exact List.eq_nil_of_length_eq_zero h0
    have he2 : s.toList.isEmpty = true := by rw [he]; rfl
    have hz : ((s.size : Int) == 0) = true := beq_iff_eq.2 (by omega)
    have H0 := Lib.hid h0
    clear h0
    go_enter Tryz.func166, Tryz.ntmps166
    go_wp2
    go_ret
    exact ⟨ret_b (by rw [H.out, H0.out]; simp), rfl⟩
  · have hlt : 0 < s.size := by omega
    have he2 : s.toList.isEmpty = false := by
      rw [Go.ByteArray.toList_eq]
      cases hl : s.data.toList with
      | nil => exact absurd (congrArg List.length hl) h0
      | cons x l => rfl
    have hz : ((s.size : Int) == 0) = false := beq_eq_false_iff_ne.2 (by omega)
    have hb := byte_bd s[0]
    have hh : s.data.toList.headD 0 = s[0] := by
      have hg : s.data.toList[0]? = some s[0] := by simp [hlt]; rfl
      cases hl : s.data.toList with
      | nil => rw [hl] at hg; simp at hg
      | cons x l => rw [hl] at hg; simp at hg; simpa using hg
    have HH := Lib.hid hh
    have H0 := Lib.hid h0
    clear h0 hh
    by_cases h20 : s.size ≤ 20
    · have h20' : decide ((s.size : Int) ≤ 20) = true := by simp; omega
      have h20'' : decide ((20 : Int) < s.size) = false := by simp; omega
      cases hl : S.letter s[0].toNat
      · go_enter Tryz.func166, Tryz.ntmps166
        go_wp2_with (go_at_call 224; (with_reducible refine (letter_any _ _ hb.1 hb.2).mono ?_); rintro e w' ⟨rfl, rfl⟩)
        go_ret
        exact ⟨ret_b (by rw [H.out, HH.out, hl]; simp), rfl⟩
      · cases hw : (S.wordl s.data.toList == s.size)
        · have hw2 : (((S.wordl s.data.toList : Nat) : Int) == (s.size : Int)) = false := by simp at hw ⊢; omega
          go_enter Tryz.func166, Tryz.ntmps166
          go_wp2_with (first
            | (go_at_call 224; (with_reducible refine (letter_any _ _ hb.1 hb.2).mono ?_); rintro e w' ⟨rfl, rfl⟩)
            | (go_at_call 225; (with_reducible refine (word_any s _ hs).mono ?_); rintro e w' ⟨rfl, rfl⟩))
          go_ret
          exact ⟨ret_b (by rw [H.out, HH.out, hl, hw]; simp), rfl⟩
        · have hw2 : (((S.wordl s.data.toList : Nat) : Int) == (s.size : Int)) = true := by simp at hw ⊢; omega
          go_enter Tryz.func166, Tryz.ntmps166
          go_wp2_with (first
            | (go_at_call 224; (with_reducible refine (letter_any _ _ hb.1 hb.2).mono ?_); rintro e w' ⟨rfl, rfl⟩)
            | (go_at_call 225; (with_reducible refine (word_any s _ hs).mono ?_); rintro e w' ⟨rfl, rfl⟩))
          go_ret
          exact ⟨ret_b (by rw [H.out, HH.out, hl, hw]; simp [H0.out, h20]), rfl⟩
    · have h20' : decide ((s.size : Int) ≤ 20) = false := by simp; omega
      have h20'' : decide ((20 : Int) < s.size) = true := by simp; omega
      go_enter Tryz.func166, Tryz.ntmps166
      go_wp2
      go_ret
      exact ⟨ret_b (by rw [H.out]; simp [h20]), rfl⟩
end Go.Proofs.YtffkmgjmlahfpaaGreat
