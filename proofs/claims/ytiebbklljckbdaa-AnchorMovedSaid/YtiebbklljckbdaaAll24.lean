/- Contract: the law's function that moves all boxes (printed by tools/gen_mirr.py out of tools/all.txt). -/
import Derived.Test.YtiebbklljckbdaaMovedA
import Derived.Deep.AppendLies
import Derived.Deep.RegionLaw
set_option linter.unusedVariables false
set_option linter.unusedSimpArgs false
namespace Go.Proofs.Ytiebbklljckbdaa
open Go.RowKit
theorem own_base {w : World} {base base' E size : Nat} {v : Value} {n : Nat} {xs : List Value} (h : w.ownsRow base' E size v n xs) (hb : base ≤ base') : w.ownsRow base E size v n xs := by
  refine ⟨h.1, ?_⟩
  rcases h.2 with hn | ⟨g, cap, cur, rfl, hg, rest⟩
  · exact .inl hn
  · exact .inr ⟨g, cap, cur, rfl, Nat.le_trans hb hg, rest⟩
theorem own_exc {M : List Nat} {w w' : World} {base E size : Nat} {v : Value} {n : Nat} {xs : List Value} (h : w.ownsRow base E size v n xs) (hX : Exc M w w') (hM : ∀ k, k ∈ M → k < base) : w'.ownsRow base E size v n xs :=
  own_kept h fun k hk => hX.block k (h.lt k hk).2 (fun hm => by have h1 := hM k hm; have h2 := (h.lt k hk).1; omega)
set_option maxRecDepth 100000 in
set_option maxHeartbeats 8000000 in
theorem all_any (F : Nat) (cap : Array Value) (f : Bx → Bx) (gm gl : Nat) (m : Mem) (A : Option Addr) (n c : Nat) (A' : Option Addr) (n' c' : Nat) (L : Option Addr) (k kc : Nat) (xs : List Bx) (B : Nat) (w : World) (hB : B ≤ w.heap.size)
    (hSol : SolAt w B A n A' n' m.boxes m.holes) (hLegs : Cells w B L (xs.flatMap boxC)) (hlen : xs.length = k) (hn : n ≤ 1000) (hn' : n' ≤ 1000) (hk : k ≤ 1000)
    (hgm : Blk w gm 48 #[.string m.name, .slice A n c, .slice A' n' c', .int .i64 m.cover, .int .i64 m.aggr, .int .i64 m.poker]) (hgl : Blk w gl 44 #[.slice L k kc])
    (hob : ∀ x, x ∈ m.boxes → S.boxOk x = true) (hoh : ∀ x, x ∈ m.holes → S.boxOk x = true) (hox : ∀ x, x ∈ xs → S.boxOk x = true)
    (hF : ∀ args w, Sem.run Try.prog (callFunc F args) w = .ok (.enter F args) w) (hf : MovesB w F cap f) :
    Calls Try.prog 29 #[.func (.func F) #[] cap, .pointer (some ⟨gm, 0, none⟩), .pointer (some ⟨gl, 0, none⟩)] w fun e w' => ∃ A1 c1 A2 c2 A3 c3,
      e = .returned (.tuple #[.agg #[.string m.name, .slice A1 n c1, .slice A2 n' c2, .int .i64 m.cover, .int .i64 m.aggr, .int .i64 m.poker], .slice A3 k c3]) ∧ w'.ownsRow w.heap.size 52 6 (.slice A1 n c1) n ((m.boxes.map f).flatMap boxC) ∧ w'.ownsRow w.heap.size 52 6 (.slice A2 n' c2) n' ((m.holes.map f).flatMap boxC) ∧
      w'.ownsRow w.heap.size 52 6 (.slice A3 k c3) k ((xs.map f).flatMap boxC) ∧ Below w.heap.size w w' := by
  have HSOL := Lib.hid hSol
  have HLEGS := Lib.hid hLegs
  have HLEN := Lib.hid hlen
  have HOB := Lib.hid hob
  have HOH := Lib.hid hoh
  have HOX := Lib.hid hox
  have HF := Lib.hid hf
  have HGM := Lib.hid hgm
  have HGL := Lib.hid hgl
  have hmg := hgm.lt
  have hmg1 : gm < w.heap.size + 1 := by omega
  have hmg2 : gm < w.heap.size + 1 + 1 := by omega
  have hmgl := hgl.lt
  have gm_0 := hgm.cell 0
  have gm_1 := hgm.cell 1
  have gm_2 := hgm.cell 2
  have gm_3 := hgm.cell 3
  have gm_4 := hgm.cell 4
  have gm_5 := hgm.cell 5
  simp only [List.getElem?_toArray, List.getElem?_cons_zero, List.getElem?_cons_succ] at gm_0 gm_1 gm_2 gm_3 gm_4 gm_5
  clear hSol hLegs hlen hob hoh hox hf hgm hgl
  go_enter Try.func29, Try.ntmps29
  go_wp2
  obtain ⟨i0, hi0, hz0, hz1, hz2⟩ := info_parts elemBx.info
  have hW0 : Below w.heap.size w ((w.alloc (.cells #[.string ⟨#[]⟩, .slice none 0 0, .slice none 0 0, .int .i64 0, .int .i64 0, .int .i64 0] 48)).alloc (.cells #[.string m.name, .slice none 0 0, .slice none 0 0, .int .i64 m.cover, .int .i64 m.aggr, .int .i64 m.poker] 48)) := (by repeat (first | exact Below.refl _ _ | assumption | refine ba_alloc ?_ _ | refine ba_drew ?_ | refine ba_drewN ?_ _ | refine ba_via (by assumption) ?_ | (refine ba_set ?_ ?_ _; rotate_left; (first | omega | (simp; omega) | simp))))
  have hW0E : Blk ((w.alloc (.cells #[.string ⟨#[]⟩, .slice none 0 0, .slice none 0 0, .int .i64 0, .int .i64 0, .int .i64 0] 48)).alloc (.cells #[.string m.name, .slice none 0 0, .slice none 0 0, .int .i64 m.cover, .int .i64 m.aggr, .int .i64 m.poker] 48)) (w.heap.size + 1) 48 #[.string m.name, .slice none 0 0, .slice none 0 0, .int .i64 m.cover, .int .i64 m.aggr, .int .i64 m.poker] := by simpa using Blk.new (w.alloc (.cells #[.string ⟨#[]⟩, .slice none 0 0, .slice none 0 0, .int .i64 0, .int .i64 0, .int .i64 0] 48)) 48 #[.string m.name, .slice none 0 0, .slice none 0 0, .int .i64 m.cover, .int .i64 m.aggr, .int .i64 m.poker]
  have hW0Z : Blk ((w.alloc (.cells #[.string ⟨#[]⟩, .slice none 0 0, .slice none 0 0, .int .i64 0, .int .i64 0, .int .i64 0] 48)).alloc (.cells #[.string m.name, .slice none 0 0, .slice none 0 0, .int .i64 m.cover, .int .i64 m.aggr, .int .i64 m.poker] 48)) w.heap.size 48 #[.string ⟨#[]⟩, .slice none 0 0, .slice none 0 0, .int .i64 0, .int .i64 0, .int .i64 0] := (Blk.new w _ _).alloc _
  have HW0E := Lib.hid hW0E
  have HW0Z := Lib.hid hW0Z
  have HW0M := Lib.hid ((HGM.out.alloc (.cells #[.string ⟨#[]⟩, .slice none 0 0, .slice none 0 0, .int .i64 0, .int .i64 0, .int .i64 0] 48)).alloc (.cells #[.string m.name, .slice none 0 0, .slice none 0 0, .int .i64 m.cover, .int .i64 m.aggr, .int .i64 m.poker] 48))
  have HW0L := Lib.hid ((HGL.out.alloc (.cells #[.string ⟨#[]⟩, .slice none 0 0, .slice none 0 0, .int .i64 0, .int .i64 0, .int .i64 0] 48)).alloc (.cells #[.string m.name, .slice none 0 0, .slice none 0 0, .int .i64 m.cover, .int .i64 m.aggr, .int .i64 m.poker] 48))
  have hW0s : ((w.alloc (.cells #[.string ⟨#[]⟩, .slice none 0 0, .slice none 0 0, .int .i64 0, .int .i64 0, .int .i64 0] 48)).alloc (.cells #[.string m.name, .slice none 0 0, .slice none 0 0, .int .i64 m.cover, .int .i64 m.aggr, .int .i64 m.poker] 48)).heap.size = w.heap.size + 1 + 1 := by simp
  clear hW0E hW0Z gm_0 gm_1 gm_2 gm_3 gm_4 gm_5
  generalize (w.alloc (.cells #[.string ⟨#[]⟩, .slice none 0 0, .slice none 0 0, .int .i64 0, .int .i64 0, .int .i64 0] 48)).alloc (.cells #[.string m.name, .slice none 0 0, .slice none 0 0, .int .i64 m.cover, .int .i64 m.aggr, .int .i64 m.poker] 48) = W0 at *
  go_loopw [21] (fun i wr => ∃ (q : Nat) (A3 : Option Addr) (c3 : Nat), q ≤ n ∧ i = .int .i64 q ∧ Blk wr (w.heap.size + 1) 48 #[.string m.name, .slice A3 q c3, .slice none 0 0, .int .i64 m.cover, .int .i64 m.aggr, .int .i64 m.poker] ∧ wr.ownsRow W0.heap.size 52 6 (.slice A3 q c3) q (((m.boxes.take q).map f).flatMap boxC) ∧ Exc [w.heap.size + 1] W0 wr) (fun i _ => n - (intOf i).toNat)
  case atStart => exact ⟨0, none, 0, Nat.zero_le _, rfl, HW0E.out, World.ownsRow_nil _ _ _ _, Exc.refl _ _⟩
  case round =>
    obtain ⟨q, A3, c3, hq, rfl, hE, hR, hX⟩ := hrel
    have hsx := hX.size
    have hbx : Below w.heap.size w wr := hW0.trans (hX.below (by omega) (by intro x hx; simp at hx; omega))
    have hET := hE.lt
    have hET1 : w.heap.size < wr.heap.size := by omega
    by_cases hlt : q < n
    · have hqi : (q : Int) < (n : Int) := by omega
      have hqx : q < m.boxes.length := by have := HSOL.out.len; omega
      have hs' := (HSOL.out.below (hbx.mono hB)).cells
      obtain ⟨bb, o, hAA, hbb, _⟩ := hs'.at_ (by rw [flat_len boxC 6 boxC_len]; omega)
      subst hAA
      obtain ⟨d0, d1, d2, d3, d4, d5⟩ := hs'.boxes (List.getElem?_eq_getElem hqx)
      have HT := Lib.hid (flat_snoc f hqx)
      have hb2 : bb < wr.heap.size := by have := hbx.size; omega
      have HFX := Lib.hid (fun (W : World) (hw : Below w.heap.size w W) => HF.out m.boxes[q] W (HOB.out _ (List.getElem_mem hqx)) hw)
      generalize m.boxes[q] = X at *
      generalize f X = Y at *
      unfold boxV at HFX
      have k0 := hE.cell 0
      have k1 := hE.cell 1
      have k2 := hE.cell 2
      have k3 := hE.cell 3
      have k4 := hE.cell 4
      have k5 := hE.cell 5
      have fk0 := hE.frozen 0
      have fk1 := hE.frozen 1
      have fk2 := hE.frozen 2
      have fk3 := hE.frozen 3
      have fk4 := hE.frozen 4
      have fk5 := hE.frozen 5
      simp only [List.getElem?_toArray, List.getElem?_cons_zero, List.getElem?_cons_succ] at k0 k1 k2 k3 k4 k5
      have HE := Lib.hid hE
      have HR := Lib.hid hR
      have HOWN := Lib.hid (show ∀ j, Value.ownBlock (.slice A3 q c3) = some j → j ≠ w.heap.size + 1 from fun j hj' => by have := (hR.lt j hj').1; omega)
      clear hE hR
      go_wp2
      go_region_law (first
        | (refine step_append_lies _ (by rfl) (.tmp 27) (.tmp 31) _ (by rfl) W0.heap.size 52 i0 _ 6 48 Try.underlying44 hi0 hz0 hz1 hz2 rfl (by omega) (.slice A3 q c3) q _ (by rfl) ((own_via ((HR.out.alloc _).drew) hbF).alloc _) ⟨wF.heap.size, 0, none⟩ 1 1 (boxC Y) (by rfl) (by rfl) (World.news_of_block (cs := #[.int .i64 Y.lo.x, .int .i64 Y.lo.y, .int .i64 Y.lo.z, .int .i64 Y.hi.x, .int .i64 Y.hi.y, .int .i64 Y.hi.z]) (t := 52) (fr := (0, 0)) (heap_alloc_new wF _)) (by simp [Value.oneCell']) (by omega) (by unfold maxLen; omega) (by omega) (by simp; omega) (wF.heap.size + 1) (by simp) ?_
           intro g5 c5 w1 hown1 hgrow hat hlt1
           have hE6 : Blk w1 (w.heap.size + 1) 48 #[.string m.name, .slice A3 q c3, .slice none 0 0, .int .i64 m.cover, .int .i64 m.aggr, .int .i64 m.poker] := (hgrow.block (w.heap.size + 1) (by simp; omega) (fun e => HOWN.out _ e.symm rfl)).trans (hEF.alloc (.cells #[.int .i64 Y.lo.x, .int .i64 Y.lo.y, .int .i64 Y.lo.z, .int .i64 Y.hi.x, .int .i64 Y.hi.y, .int .i64 Y.hi.z] 52))
           have l0 := hE6.cell 0
           have l1 := hE6.cell 1
           have l2 := hE6.cell 2
           have l3 := hE6.cell 3
           have l4 := hE6.cell 4
           have l5 := hE6.cell 5
           have fl0 := hE6.frozen 0
           have fl1 := hE6.frozen 1
           have fl2 := hE6.frozen 2
           have fl3 := hE6.frozen 3
           have fl4 := hE6.frozen 4
           have fl5 := hE6.frozen 5
           simp only [List.getElem?_toArray, List.getElem?_cons_zero, List.getElem?_cons_succ] at l0 l1 l2 l3 l4 l5
           have hX1 := Exc.grown ((Exc.via hbF ((hX.alloc _).drew)).alloc (.cells #[.int .i64 Y.lo.x, .int .i64 Y.lo.y, .int .i64 Y.lo.z, .int .i64 Y.hi.x, .int .i64 Y.hi.y, .int .i64 Y.hi.z] 52)) hgrow (fun j hj' => .inr (HR.out.lt j hj').1))
        | (go_simp
           refine (HFX.out _ (ba_drew (ba_alloc hbx _))).mono ?_
           rintro e wF ⟨rfl, hbF⟩
           have hEF : Blk wF (w.heap.size + 1) 48 #[.string m.name, .slice A3 q c3, .slice none 0 0, .int .i64 m.cover, .int .i64 m.aggr, .int .i64 m.poker] := Blk.via (by exact HE.out.alloc _) hbF
           have hsF : W0.heap.size ≤ wF.heap.size := by
             have h9 := hbF.size
             simp at h9
             omega
           have hsF1 : w.heap.size + 1 < wF.heap.size := hEF.lt
           have p0 := hEF.cell 0
           have p1 := hEF.cell 1
           have p2 := hEF.cell 2
           have p3 := hEF.cell 3
           have p4 := hEF.cell 4
           have p5 := hEF.cell 5
           have fp0 := hEF.frozen 0
           have fp1 := hEF.frozen 1
           have fp2 := hEF.frozen 2
           have fp3 := hEF.frozen 3
           have fp4 := hEF.frozen 4
           have fp5 := hEF.frozen 5
           simp only [List.getElem?_toArray, List.getElem?_cons_zero, List.getElem?_cons_succ] at p0 p1 p2 p3 p4 p5
           ))
      all_goals go_wp2
      all_goals (
        go_roundw
        case rel =>
          refine ⟨q + 1, some ⟨g5, 0, none⟩, c5, by omega, by go_num, ?_, ?_, hX1.set (.inl (by simp)) _⟩
          · have h6 := hE6.set 1 (.slice (some ⟨g5, 0, none⟩) (q + 1) c5)
            simp only [List.setIfInBounds_toArray, List.set_cons_zero, List.set_cons_succ] at h6
            exact h6
          · rw [HT.out]
            exact own_set hown1 (by show w.heap.size + 1 < W0.heap.size; omega) _
        case measure => simp [intOf]; omega)
    · have hqn : n = q := by omega
      subst hqn
      have htk : m.boxes.take n = m.boxes := List.take_of_length_le (by have := HSOL.out.len; omega)
      rw [htk] at hR
      have hgm1 : Blk wr gm 48 #[.string m.name, .slice A n c, .slice A' n' c', .int .i64 m.cover, .int .i64 m.aggr, .int .i64 m.poker] := (hX.block gm (by omega) (by simp; omega)).trans HW0M.out
      have hgl1 : Blk wr gl 44 #[.slice L k kc] := (hX.block gl (by omega) (by simp; omega)).trans HW0L.out
      have hz1 : Blk wr w.heap.size 48 #[.string ⟨#[]⟩, .slice none 0 0, .slice none 0 0, .int .i64 0, .int .i64 0, .int .i64 0] := (hX.block w.heap.size (by omega) (by simp)).trans HW0Z.out
      have gm_0 := hgm1.cell 0
      have gm_1 := hgm1.cell 1
      have gm_2 := hgm1.cell 2
      have gm_3 := hgm1.cell 3
      have gm_4 := hgm1.cell 4
      have gm_5 := hgm1.cell 5
      simp only [List.getElem?_toArray, List.getElem?_cons_zero, List.getElem?_cons_succ] at gm_0 gm_1 gm_2 gm_3 gm_4 gm_5
      have hgml : gm < wr.heap.size := hgm1.lt
      obtain ⟨A1, c1, hR1, hE1⟩ : ∃ A1 c1, wr.ownsRow W0.heap.size 52 6 (.slice A1 n c1) n ((m.boxes.map f).flatMap boxC) ∧ Blk wr (w.heap.size + 1) 48 #[.string m.name, .slice A1 n c1, .slice none 0 0, .int .i64 m.cover, .int .i64 m.aggr, .int .i64 m.poker] := ⟨A3, c3, hR, hE⟩
      have HW1E := Lib.hid hE1
      have HR1 := Lib.hid hR1
      have HW1L := Lib.hid hgl1
      have HW1Z := Lib.hid hz1
      clear hR hE hgm1 hgl1 hz1 hR1 hE1 htk
      go_wp2
      obtain ⟨W1, hW1e⟩ : ∃ W : World, W = wr := ⟨_, rfl⟩
      subst hW1e
      have hW1 : Below w.heap.size w W1 := hbx
      clear gm_0 gm_1 gm_2 gm_3 gm_4 gm_5 hX
      go_loopw [40] (fun i wr => ∃ (q : Nat) (A3 : Option Addr) (c3 : Nat), q ≤ n' ∧ i = .int .i64 q ∧ Blk wr (w.heap.size + 1) 48 #[.string m.name, .slice A1 n c1, .slice A3 q c3, .int .i64 m.cover, .int .i64 m.aggr, .int .i64 m.poker] ∧ wr.ownsRow W1.heap.size 52 6 (.slice A3 q c3) q (((m.holes.take q).map f).flatMap boxC) ∧ Exc [w.heap.size + 1] W1 wr) (fun i _ => n' - (intOf i).toNat)
      case atStart => exact ⟨0, none, 0, Nat.zero_le _, rfl, HW1E.out, World.ownsRow_nil _ _ _ _, Exc.refl _ _⟩
      case round =>
        obtain ⟨q, A3, c3, hq, rfl, hE, hR, hX⟩ := hrel
        have hsx := hX.size
        have hbx : Below w.heap.size w wr := hW1.trans (hX.below (by omega) (by intro x hx; simp at hx; omega))
        have hET := hE.lt
        have hET1 : w.heap.size < wr.heap.size := by omega
        by_cases hlt : q < n'
        · have hqi : (q : Int) < (n' : Int) := by omega
          have hqx : q < m.holes.length := by have := HSOL.out.len'; omega
          have hs' := (HSOL.out.below (hbx.mono hB)).cells'
          obtain ⟨bb, o, hAA, hbb, _⟩ := hs'.at_ (by rw [flat_len boxC 6 boxC_len]; omega)
          subst hAA
          obtain ⟨d0, d1, d2, d3, d4, d5⟩ := hs'.boxes (List.getElem?_eq_getElem hqx)
          have HT := Lib.hid (flat_snoc f hqx)
          have hb2 : bb < wr.heap.size := by have := hbx.size; omega
          have HFX := Lib.hid (fun (W : World) (hw : Below w.heap.size w W) => HF.out m.holes[q] W (HOH.out _ (List.getElem_mem hqx)) hw)
          generalize m.holes[q] = X at *
          generalize f X = Y at *
          unfold boxV at HFX
          have k0 := hE.cell 0
          have k1 := hE.cell 1
          have k2 := hE.cell 2
          have k3 := hE.cell 3
          have k4 := hE.cell 4
          have k5 := hE.cell 5
          have fk0 := hE.frozen 0
          have fk1 := hE.frozen 1
          have fk2 := hE.frozen 2
          have fk3 := hE.frozen 3
          have fk4 := hE.frozen 4
          have fk5 := hE.frozen 5
          simp only [List.getElem?_toArray, List.getElem?_cons_zero, List.getElem?_cons_succ] at k0 k1 k2 k3 k4 k5
          have HE := Lib.hid hE
          have HR := Lib.hid hR
          have HOWN := Lib.hid (show ∀ j, Value.ownBlock (.slice A3 q c3) = some j → j ≠ w.heap.size + 1 from fun j hj' => by have := (hR.lt j hj').1; omega)
          clear hE hR
          go_wp2
          go_region_law (first
            | (refine step_append_lies _ (by rfl) (.tmp 46) (.tmp 50) _ (by rfl) W1.heap.size 52 i0 _ 6 48 Try.underlying44 hi0 hz0 hz1 hz2 rfl (by omega) (.slice A3 q c3) q _ (by rfl) ((own_via ((HR.out.alloc _).drew) hbF).alloc _) ⟨wF.heap.size, 0, none⟩ 1 1 (boxC Y) (by rfl) (by rfl) (World.news_of_block (cs := #[.int .i64 Y.lo.x, .int .i64 Y.lo.y, .int .i64 Y.lo.z, .int .i64 Y.hi.x, .int .i64 Y.hi.y, .int .i64 Y.hi.z]) (t := 52) (fr := (0, 0)) (heap_alloc_new wF _)) (by simp [Value.oneCell']) (by omega) (by unfold maxLen; omega) (by omega) (by simp; omega) (wF.heap.size + 1) (by simp) ?_
               intro g5 c5 w1 hown1 hgrow hat hlt1
               have hE6 : Blk w1 (w.heap.size + 1) 48 #[.string m.name, .slice A1 n c1, .slice A3 q c3, .int .i64 m.cover, .int .i64 m.aggr, .int .i64 m.poker] := (hgrow.block (w.heap.size + 1) (by simp; omega) (fun e => HOWN.out _ e.symm rfl)).trans (hEF.alloc (.cells #[.int .i64 Y.lo.x, .int .i64 Y.lo.y, .int .i64 Y.lo.z, .int .i64 Y.hi.x, .int .i64 Y.hi.y, .int .i64 Y.hi.z] 52))
               have l0 := hE6.cell 0
               have l1 := hE6.cell 1
               have l2 := hE6.cell 2
               have l3 := hE6.cell 3
               have l4 := hE6.cell 4
               have l5 := hE6.cell 5
               have fl0 := hE6.frozen 0
               have fl1 := hE6.frozen 1
               have fl2 := hE6.frozen 2
               have fl3 := hE6.frozen 3
               have fl4 := hE6.frozen 4
               have fl5 := hE6.frozen 5
               simp only [List.getElem?_toArray, List.getElem?_cons_zero, List.getElem?_cons_succ] at l0 l1 l2 l3 l4 l5
               have hX1 := Exc.grown ((Exc.via hbF ((hX.alloc _).drew)).alloc (.cells #[.int .i64 Y.lo.x, .int .i64 Y.lo.y, .int .i64 Y.lo.z, .int .i64 Y.hi.x, .int .i64 Y.hi.y, .int .i64 Y.hi.z] 52)) hgrow (fun j hj' => .inr (HR.out.lt j hj').1))
            | (go_simp
               refine (HFX.out _ (ba_drew (ba_alloc hbx _))).mono ?_
               rintro e wF ⟨rfl, hbF⟩
               have hEF : Blk wF (w.heap.size + 1) 48 #[.string m.name, .slice A1 n c1, .slice A3 q c3, .int .i64 m.cover, .int .i64 m.aggr, .int .i64 m.poker] := Blk.via (by exact HE.out.alloc _) hbF
               have hsF : W1.heap.size ≤ wF.heap.size := by
                 have h9 := hbF.size
                 simp at h9
                 omega
               have hsF1 : w.heap.size + 1 < wF.heap.size := hEF.lt
               have p0 := hEF.cell 0
               have p1 := hEF.cell 1
               have p2 := hEF.cell 2
               have p3 := hEF.cell 3
               have p4 := hEF.cell 4
               have p5 := hEF.cell 5
               have fp0 := hEF.frozen 0
               have fp1 := hEF.frozen 1
               have fp2 := hEF.frozen 2
               have fp3 := hEF.frozen 3
               have fp4 := hEF.frozen 4
               have fp5 := hEF.frozen 5
               simp only [List.getElem?_toArray, List.getElem?_cons_zero, List.getElem?_cons_succ] at p0 p1 p2 p3 p4 p5
               ))
          all_goals go_wp2
          all_goals (
            go_roundw
            case rel =>
              refine ⟨q + 1, some ⟨g5, 0, none⟩, c5, by omega, by go_num, ?_, ?_, hX1.set (.inl (by simp)) _⟩
              · have h6 := hE6.set 2 (.slice (some ⟨g5, 0, none⟩) (q + 1) c5)
                simp only [List.setIfInBounds_toArray, List.set_cons_zero, List.set_cons_succ] at h6
                exact h6
              · rw [HT.out]
                exact own_set hown1 (by show w.heap.size + 1 < W1.heap.size; omega) _
            case measure => simp [intOf]; omega)
        · have hqn : n' = q := by omega
          subst hqn
          have htk : m.holes.take n' = m.holes := List.take_of_length_le (by have := HSOL.out.len'; omega)
          rw [htk] at hR
          have hgl2 : Blk wr gl 44 #[.slice L k kc] := (hX.block gl (by omega) (by simp; omega)).trans HW1L.out
          have hz2' : Blk wr w.heap.size 48 #[.string ⟨#[]⟩, .slice none 0 0, .slice none 0 0, .int .i64 0, .int .i64 0, .int .i64 0] := (hX.block w.heap.size (by omega) (by simp)).trans HW1Z.out
          have gl0 := hgl2.cell 0
          simp only [List.getElem?_toArray, List.getElem?_cons_zero] at gl0
          have hgll : gl < wr.heap.size := hgl2.lt
          have hR1b := own_exc HR1.out hX (fun j hj => by simp at hj; omega)
          obtain ⟨A2, c2, hR2, hE2⟩ : ∃ A2 c2, wr.ownsRow W1.heap.size 52 6 (.slice A2 n' c2) n' ((m.holes.map f).flatMap boxC) ∧ Blk wr (w.heap.size + 1) 48 #[.string m.name, .slice A1 n c1, .slice A2 n' c2, .int .i64 m.cover, .int .i64 m.aggr, .int .i64 m.poker] := ⟨A3, c3, hR, hE⟩
          have HE2 := Lib.hid hE2
          have HZ2 := Lib.hid hz2'
          have HR1b := Lib.hid hR1b
          have HR2 := Lib.hid hR2
          clear hR hE hgl2 hz2' hR1b hR2 hE2 htk
          go_wp2
          obtain ⟨W2, hW2e⟩ : ∃ W : World, W = wr := ⟨_, rfl⟩
          subst hW2e
          have hW2 : Below w.heap.size w W2 := hbx
          have hsW2 : W1.heap.size ≤ W2.heap.size := hX.size
          clear gl0 hX hsx
          go_loopw [11, 57] (fun v i wr => ∃ (q : Nat) (A3 : Option Addr) (c3 : Nat), q ≤ k ∧ i = .int .i64 q ∧ v = .slice A3 q c3 ∧ wr.ownsRow W2.heap.size 52 6 (.slice A3 q c3) q (((xs.take q).map f).flatMap boxC) ∧ Exc [] W2 wr) (fun _ i _ => k - (intOf i).toNat)
          case atStart => exact ⟨0, none, 0, Nat.zero_le _, rfl, rfl, World.ownsRow_nil _ _ _ _, Exc.refl _ _⟩
          case round =>
            obtain ⟨q, A3, c3, hq, rfl, rfl, hR, hX⟩ := hrel
            have hsx := hX.size
            have hbx : Below w.heap.size w wr := hW2.trans (hX.below (by omega) (by simp))
            by_cases hlt : q < k
            · have hqi : (q : Int) < (k : Int) := by omega
              have hqx : q < xs.length := by have := HLEN.out; omega
              have hs' := HLEGS.out.below (hbx.mono hB)
              obtain ⟨bb, o, hAA, hbb, _⟩ := hs'.at_ (by rw [flat_len boxC 6 boxC_len]; omega)
              subst hAA
              obtain ⟨d0, d1, d2, d3, d4, d5⟩ := hs'.boxes (List.getElem?_eq_getElem hqx)
              have HT := Lib.hid (flat_snoc f hqx)
              have hb2 : bb < wr.heap.size := by have := hbx.size; omega
              have HFX := Lib.hid (fun (W : World) (hw : Below w.heap.size w W) => HF.out xs[q] W (HOX.out _ (List.getElem_mem hqx)) hw)
              generalize xs[q] = X at *
              generalize f X = Y at *
              unfold boxV at HFX
              have HR := Lib.hid hR
              clear hR
              go_wp2_with (first
                | (refine (HFX.out _ (ba_alloc hbx _)).mono ?_; rintro e wF ⟨rfl, hbF⟩)
                | (at_builtin; refine wpList_push rfl (.tmp 61) (.tmp 65) _ rfl elemBx (((Row.mk HR.out (fun j hj => .inr (HR.out.lt j hj).1) : Row W2 wr none W2.heap.size 52 6 (.slice A3 q c3) q _).alloc _ |>.via hbF).alloc (.cells #[.int .i64 Y.lo.x, .int .i64 Y.lo.y, .int .i64 Y.lo.z, .int .i64 Y.hi.x, .int .i64 Y.hi.y, .int .i64 Y.hi.z] 52)) ((Exc.via hbF (hX.alloc _)).alloc (.cells #[.int .i64 Y.lo.x, .int .i64 Y.lo.y, .int .i64 Y.lo.z, .int .i64 Y.hi.x, .int .i64 Y.hi.y, .int .i64 Y.hi.z] 52)) (by simp) (Nat.le_refl _) rfl (wF.heap.size) 1 1 (boxC Y) rfl rfl ?_ (by simp [Value.oneCell']) (by unfold maxLen; omega) (by omega) ?_; (· intro j u hu; exact blk_get (Blk.new wF 52 #[.int .i64 Y.lo.x, .int .i64 Y.lo.y, .int .i64 Y.lo.z, .int .i64 Y.hi.x, .int .i64 Y.hi.y, .int .i64 Y.hi.z]) hu); intro v' w' hR' hX' hO'))
              obtain ⟨A5, c5, rfl, _, _, _⟩ := own_form hR'.own
              go_roundw
              case rel => exact ⟨q + 1, A5, c5, by omega, by go_num, rfl, by rw [HT.out]; exact hR'.own, hX'⟩
              case measure => simp [intOf]; omega
            · have hqk : k = q := by omega
              subst hqk
              have htk : xs.take k = xs := List.take_of_length_le (by have := HLEN.out; omega)
              rw [htk] at hR
              have hE3 : Blk wr (w.heap.size + 1) 48 #[.string m.name, .slice A1 n c1, .slice A2 n' c2, .int .i64 m.cover, .int .i64 m.aggr, .int .i64 m.poker] := (hX.block (w.heap.size + 1) HE2.out.lt (by simp)).trans HE2.out
              have hZ3 : Blk wr w.heap.size 48 #[.string ⟨#[]⟩, .slice none 0 0, .slice none 0 0, .int .i64 0, .int .i64 0, .int .i64 0] := (hX.block w.heap.size HZ2.out.lt (by simp)).trans HZ2.out
              have k0 := hE3.cell 0
              have k1 := hE3.cell 1
              have k2 := hE3.cell 2
              have k3 := hE3.cell 3
              have k4 := hE3.cell 4
              have k5 := hE3.cell 5
              simp only [List.getElem?_toArray, List.getElem?_cons_zero, List.getElem?_cons_succ] at k0 k1 k2 k3 k4 k5
              have z0 := hZ3.cell 0
              have z1 := hZ3.cell 1
              have z2 := hZ3.cell 2
              have z3 := hZ3.cell 3
              have z4 := hZ3.cell 4
              have z5 := hZ3.cell 5
              have fz0 := hZ3.frozen 0
              have fz1 := hZ3.frozen 1
              have fz2 := hZ3.frozen 2
              have fz3 := hZ3.frozen 3
              have fz4 := hZ3.frozen 4
              have fz5 := hZ3.frozen 5
              simp only [List.getElem?_toArray, List.getElem?_cons_zero, List.getElem?_cons_succ] at z0 z1 z2 z3 z4 z5
              have hlE := hE3.lt
              have hlZ := hZ3.lt
              have hR1c := own_exc HR1b.out hX (fun j hj => by simp at hj)
              have hR2c := own_exc HR2.out hX (fun j hj => by simp at hj)
              have HRA := Lib.hid hR1c
              have HRB := Lib.hid hR2c
              have HRC := Lib.hid hR
              have hl0 : w.heap.size < W0.heap.size := by omega
              have hl1 : w.heap.size < W1.heap.size := by omega
              have hl2 : w.heap.size < W2.heap.size := by omega
              clear hE3 hZ3 hR1c hR2c hR htk
              go_wp2
              exact bodyPost_ret (v := .tuple #[.agg #[.string m.name, .slice A1 n c1, .slice A2 n' c2, .int .i64 m.cover, .int .i64 m.aggr, .int .i64 m.poker], .slice A3 k c3]) (by simp [results, Try.results29, go_sem, *]) rfl ⟨A1, c1, A2, c2, A3, c3, rfl,
                own_base (own_set (own_set (own_set (own_set (own_set (own_set HRA.out hl0 _) hl0 _) hl0 _) hl0 _) hl0 _) hl0 _) (by omega),
                own_base (own_set (own_set (own_set (own_set (own_set (own_set HRB.out hl1 _) hl1 _) hl1 _) hl1 _) hl1 _) hl1 _) (by omega),
                own_base (own_set (own_set (own_set (own_set (own_set (own_set HRC.out hl2 _) hl2 _) hl2 _) hl2 _) hl2 _) hl2 _) (by omega),
                ((((((hbx.setCell (Nat.le_refl _) _).setCell (Nat.le_refl _) _).setCell (Nat.le_refl _) _).setCell (Nat.le_refl _) _).setCell (Nat.le_refl _) _).setCell (Nat.le_refl _) _)⟩
end Go.Proofs.Ytiebbklljckbdaa
