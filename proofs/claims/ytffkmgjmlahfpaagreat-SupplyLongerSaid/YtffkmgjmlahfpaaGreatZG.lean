/- Contract: the iterator of laid.all. Contract: the closure of laid.all, for every loop's body. Contracts: laid.all, laid.path. Contract: Hull of the reference for layer 12. The legs of a laid bar as boxes; its main leg among them (no walk). Contract of the reference for layer 16: Legs. The main legs of laid bars are boxes in the place's bounds (no walk). Contracts: laid.points, laid.Legs, laid.Mark of a valid detail. Contract: supply.rods of a valid detail. -/
import Derived.Test.YtffkmgjmlahfpaaGreatZF
import Derived.WalkKit
import Derived.OwnWalkIn
import Derived.TacticsInMore
import Derived.LoopNIn
import Derived.LoopIn
import Derived.Shelf.Abstract
import Derived.Test.YtffkmgjmlahfpaaGreatBoxB
import Derived.Test.YtffkmgjmlahfpaaGreatZB
import Derived.BigRegion
import Derived.Test.YtffkmgjmlahfpaaGreatZA
import Derived.Test.YtffkmgjmlahfpaaGreatMainA
import Derived.Test.YtffkmgjmlahfpaaGreatZD
import Derived.Test.YtffkmgjmlahfpaaGreatSpecWalks
set_option linter.unusedVariables false
set_option linter.unusedSimpArgs false
namespace Go.Proofs.YtffkmgjmlahfpaaGreat
open Go.RowKit
/-- What the iterator hands to a round: the number of a laid bar, and its path. -/
structure It where
  k : Nat
  A : Option Addr
  pts : List Pt
abbrev itE (y : It) : Array Value := #[.int .i64 y.k, .slice y.A y.pts.length y.pts.length]
/-- What stays as it was. -/
structure KpL (B : Nat) (M : List Nat) (A C : World) : Prop where
  bel : Below B A C
  cells : ∀ k cs t fr, k ∉ M → A.heap[k]? = some (.cells cs t fr) → C.heap[k]? = some (.cells cs t fr)
theorem KpL.blk {B : Nat} {M : List Nat} {A C : World} (h : KpL B M A C) {g : Nat} {t : TypeId} {cs : Array Value} (hb : Blk A g t cs) (hg : g ∉ M) : Blk C g t cs := h.cells g cs t _ hg hb
/-- What is ready when a round is asked for. -/
def itR (x : Dt) (n0 : Nat) (pre : List It) (y : It) (V : World) : Prop :=
  y.k = pre.length ∧ (∃ k j k0 r, ∃ hL : Lies x.bs x.rs y.k k j k0 r, y.pts = S.laidPath r.b (x.rs[k]'hL.st.lt) j) ∧ ∃ g, y.A = some ⟨g, 0, none⟩ ∧ n0 ≤ g ∧ Blk V g 87 (y.pts.flatMap ptC).toArray
/-- The cells of a row that is being filled. -/
def fillA (cs : List Value) (m : Nat) : Array Value := (cs.take m ++ List.replicate (cs.length - m) (Value.int .i64 0)).toArray
theorem fillA_zero (cs : List Value) : fillA cs 0 = (List.replicate cs.length (Value.int .i64 0)).toArray := by simp [fillA]
theorem fillA_full (cs : List Value) : fillA cs cs.length = cs.toArray := by simp [fillA]
theorem fillA_get {cs : List Value} {m j : Nat} (hj : j < cs.length) : (fillA cs m)[j]? = if j < m then cs[j]? else some (Value.int .i64 0) := by
  unfold fillA
  simp only [List.getElem?_toArray]
  by_cases h : j < m
  · rw [if_pos h, List.getElem?_append_left (by simp; omega), List.getElem?_take, if_pos h]
  · have hl : (cs.take m).length = m := by rw [List.length_take]; omega
    rw [if_neg h, List.getElem?_append_right (by omega), hl, List.getElem?_replicate, if_pos (by omega)]
theorem fillA_out {cs : List Value} {m j : Nat} (hm : m ≤ cs.length) (hj : cs.length ≤ j) : (fillA cs m)[j]? = none := by
  rw [Array.getElem?_eq_none]
  simp [fillA]
  omega
/-- Three cells more. -/
theorem fillA_three {cs : List Value} {m : Nat} (hm : m + 3 ≤ cs.length) {D : Array Value} (hD : D = fillA cs m ∨ ∃ u0 u1 u2, D = (((fillA cs m).setIfInBounds m u0).setIfInBounds (m + 1) u1).setIfInBounds (m + 2) u2) {v0 v1 v2 : Value} (h0 : cs[m]? = some v0) (h1 : cs[m + 1]? = some v1) (h2 : cs[m + 2]? = some v2) :
    ((D.setIfInBounds m v0).setIfInBounds (m + 1) v1).setIfInBounds (m + 2) v2 = fillA cs (m + 3) := by
  have hz : (fillA cs m).size = cs.length := by simp [fillA]; omega
  have hs : D.size = cs.length := by
    rcases hD with rfl | ⟨u0, u1, u2, rfl⟩
    · exact hz
    · simpa using hz
  have hget : ∀ j, j ≠ m → j ≠ m + 1 → j ≠ m + 2 → D[j]? = (fillA cs m)[j]? := by
    intro j a b c
    rcases hD with rfl | ⟨u0, u1, u2, rfl⟩
    · rfl
    · rw [Array.getElem?_setIfInBounds, if_neg (by omega), Array.getElem?_setIfInBounds, if_neg (by omega), Array.getElem?_setIfInBounds, if_neg (by omega)]
  apply Array.ext_getElem?
  intro j
  by_cases hj : j < cs.length
  · rw [fillA_get hj]
    by_cases e2 : j = m + 2
    · subst e2
      rw [if_pos (by omega), Array.getElem?_setIfInBounds, if_pos rfl, if_pos (by simp [hs]; omega), h2]
    · rw [Array.getElem?_setIfInBounds, if_neg (by omega)]
      by_cases e1 : j = m + 1
      · subst e1
        rw [if_pos (by omega), Array.getElem?_setIfInBounds, if_pos rfl, if_pos (by simp [hs]; omega), h1]
      · rw [Array.getElem?_setIfInBounds, if_neg (by omega)]
        by_cases e0 : j = m
        · subst e0
          rw [if_pos (by omega), Array.getElem?_setIfInBounds, if_pos rfl, if_pos (by simp [hs]; omega), h0]
        · rw [Array.getElem?_setIfInBounds, if_neg (by omega), hget j e0 e1 e2, fillA_get hj]
          by_cases h : j < m
          · rw [if_pos h, if_pos (by omega)]
          · rw [if_neg h, if_neg (by omega)]
  · rw [fillA_out (by omega) (by omega), Array.getElem?_eq_none]
    simp [hs]
    omega
theorem three_get {D : Array Value} {m : Nat} (h : m + 3 ≤ D.size) (a b c : Value) :
    (((D.setIfInBounds m a).setIfInBounds (m + 1) b).setIfInBounds (m + 2) c)[m]? = some a ∧ (((D.setIfInBounds m a).setIfInBounds (m + 1) b).setIfInBounds (m + 2) c)[m + 1]? = some b ∧ (((D.setIfInBounds m a).setIfInBounds (m + 1) b).setIfInBounds (m + 2) c)[m + 2]? = some c := by
  refine ⟨?_, ?_, ?_⟩
  · rw [Array.getElem?_setIfInBounds, if_neg (by omega), Array.getElem?_setIfInBounds, if_neg (by omega), Array.getElem?_setIfInBounds, if_pos rfl, if_pos (by omega)]
  · rw [Array.getElem?_setIfInBounds, if_neg (by omega), Array.getElem?_setIfInBounds, if_pos rfl, if_pos (by simp; omega)]
  · rw [Array.getElem?_setIfInBounds, if_pos rfl, if_pos (by simp; omega)]
theorem fillA_size {cs : List Value} {m : Nat} (h : m ≤ cs.length) : (fillA cs m).size = cs.length := by
  simp [fillA]
  omega
theorem laid_map {b : Bar} {r : Rn} (ht : S.turn r.tx r.ty = true) (h : S.bar b = true) (j : Nat) : (S.turned b r).map (S.laidPt r j) = S.laidPath b r j := by
  rw [turned_eq ht h]
  unfold S.laidPath
  rw [List.map_map]
  apply List.map_congr_left
  intro p _
  show S.laidPt r j (S.placed r.tx r.ty ⟨0, 0, 0⟩ p) = S.placed r.tx r.ty (S.plus r.at_ r.step j) p
  unfold S.laidPt S.placed S.plus
  by_cases hj : (0 : Int) < (j : Int)
  · rw [if_pos hj]
    simp only [Pt.mk.injEq]
    omega
  · have h0 : j = 0 := by omega
    subst h0
    rw [if_neg hj]
    simp only [Pt.mk.injEq]
    omega
/-- The points of a run, and what is added to them, are within bounds. -/
theorem laid_bounds {bs : List Bar} {r : Rn} {k0 : Nat} {b : Bar} (ho : RunOk bs r k0 b) {p : Pt} (hp : p ∈ S.turned b r) {j : Nat} (hj : (j : Int) < r.count) :
    S.near1 p 4398046511104 = true ∧ S.near1 r.at_ 4194304 = true ∧ S.near1 (S.plus p r.at_ 1) 4398046511104 = true ∧ ((0 : Int) < j → S.near1 r.step 4194304 = true) := by
  have h1 : S.near1 p 4194304 = true := fpath_near hp
  have h2 := plus_near h1 ho.home (k := 1) (c := 1) (by omega) (by omega)
  refine ⟨near1_mono h1 (by omega), near1_mono ho.home (by omega), near1_mono h2 (by omega), fun h0 => ?_⟩
  obtain ⟨ax, ay, az⟩ := near1_out ho.home
  obtain ⟨bx, by', bz⟩ := near1_out (ho.start 1 (by omega) (by omega))
  simp only [S.plus] at bx by' bz
  simp only [S.near1, Bool.and_eq_true, decide_eq_true_eq]
  omega
/-- Laid bar i stands at place j of run k. -/
theorem lies_at {l : List BarR} {rs : List Rn} (h : S.laid (bars l) rs = true) {i k j k0 : Nat} {b : BarR} (hk : k < rs.length) (hg : l[k0]? = some b) (ho : RunOk (bars l) rs[k] k0 b.b) (hi : (i : Int) = S.sumTo rs k + j) (hj : (j : Int) < rs[k].count) : Lies l rs i k j k0 b := by
  have hh := h
  simp only [S.laid, Bool.and_eq_true, decide_eq_true_eq] at hh
  obtain ⟨⟨hs, hl⟩, hr⟩ := hh
  have hin : ∀ r, r ∈ rs → S.right (bars l) r = true := fun r hr' => runs_in hr hr'
  have hm := mains_sum hs hin (k := k) (by omega)
  have hsn := mains_snoc (bars l) rs hk ho.at_
  have hlen : i < (S.mains (bars l) rs).length := by
    have hm2 := mains_sum hs hin (k := k + 1) (by omega)
    rw [sumTo_succ rs hk] at hm2
    have hm3 := mains_sum hs hin (k := rs.length) (Nat.le_refl _)
    rw [List.take_length] at hm3
    have hmono := sumTo_mono (rs := rs) (fun q hq => by have := right_count (hin _ (List.getElem_mem hq)); omega) (show k + 1 ≤ rs.length by omega) (Nat.le_refl _)
    rw [sumTo_succ rs hk] at hmono
    omega
  obtain ⟨k', j', k0', b', hL⟩ := lies_of h hlen
  refine ⟨⟨hk, ho, hi, hj, ?_⟩, hg, hL.cnt, hL.lim⟩
  -- the same place: read it off the lists
  have hpre : S.mains (bars l) rs = S.mains (bars l) (rs.take (k + 1)) ++ S.mains (bars l) (rs.drop (k + 1)) := by
    unfold S.mains
    rw [← List.flatMap_append, List.take_append_drop]
  rw [hpre, List.getElem?_append_left (by rw [hsn, List.length_append, mainsOf_len]; omega), hsn, List.getElem?_append_right (by omega)]
  have e : i - (S.mains (bars l) (rs.take k)).length = j := by omega
  rw [e]
  unfold S.mainsOf
  rw [List.getElem?_map, List.getElem?_range (by omega)]
  rfl
end Go.Proofs.YtffkmgjmlahfpaaGreat
set_option linter.unusedVariables false
set_option linter.unusedSimpArgs false
namespace Go.Proofs.YtffkmgjmlahfpaaGreat
open Go.RowKit
attribute [local go_sem] Oper.semAt_some
theorem pointInfo : (Tryz.prog.info? 87).map (fun i => (i.zero, i.size, i.bytes)) = some (some (.agg #[.int .i64 0, .int .i64 0, .int .i64 0]), 3, 24) := by kernel_rfl
theorem Blk.of_own {w : World} {base E size : Nat} {A : Option Addr} {n c : Nat} {xs : List Value} (h : w.ownsRow base E size (.slice A n c) n xs) (hn : 0 < n) (hm : n ≤ maxLen) :
    ∃ (g : Nat) (cur : Array Value) (t : TypeId) (fr : Nat × Nat), A = some ⟨g, 0, none⟩ ∧ base ≤ g ∧ w.heap[g]? = some (.cells cur t fr) ∧ ∀ (j : Nat) (v : Value), xs[j]? = some v → cur[j]? = some v := by
  have hc := (own_cells h hm).1
  rcases h.2 with ⟨_, h0⟩ | ⟨g, cap, cur, hv, hbg, hh, _⟩
  · omega
  · injection hv with hA _ _
    subst hA
    refine ⟨g, _, _, _, rfl, hbg, hh, fun j v hj => ?_⟩
    have h1 := h.cells (g := g) rfl j v hj
    have e : (⟨g, 0, none⟩ : Addr).add j = ⟨g, j, none⟩ := by unfold Addr.add; split <;> simp_all
    rw [e] at h1
    have h2 := cell_of_row w g j _ _ _ hh
    rw [h2] at h1
    exact h1
theorem made_three (n : Nat) (z : Value) : madeCells #[z, z, z] (n * 3) = (List.replicate (n * 3) z).toArray := by
  apply Array.ext_getElem?
  intro j
  by_cases hj : j < n * 3
  · have h3 : j % 3 = 0 ∨ j % 3 = 1 ∨ j % 3 = 2 := by omega
    have e : (madeCells #[z, z, z] (n * 3))[j]? = some z := by
      unfold madeCells
      rw [Array.getElem?_map, Array.getElem?_range, if_pos (by simpa using hj)]
      simp only [Option.map_some]
      rcases h3 with h | h | h <;> simp [h]
    rw [e]
    simp [hj]
  · rw [Array.getElem?_eq_none (by simp [madeCells]; omega), Array.getElem?_eq_none (by simp; omega)]
theorem make_points (cs : List Value) (n : Nat) (hn : n ≤ 100) (hc : cs.length = n * 3) (V : World) :
    (Instr.makeSlice 221 (.int .i64 (n : Int)) (.int .i64 (n : Int))).run Tryz.prog V = .ok (.slice (some ⟨V.heap.size, 0, none⟩) n n) (V.alloc (.cells (fillA cs 0) 87)) := by
  obtain ⟨i, hi, hz, hsz, hby⟩ := info_parts pointInfo
  have := run_make (P := Tryz.prog) V 221 87 i _ Tryz.underlying221 hi hz .i64 .i64 (n : Int) (n : Int) (by omega) (Int.le_refl _) (by rw [hby]; omega) (by omega)
  rw [this, hsz, fillA_zero, hc, ← made_three]
  rfl
set_option maxRecDepth 20000 in
set_option maxHeartbeats 8000000 in
theorem lall_laid (x : Dt) (B n0 : Nat) (M : List Nat) (b2 b3 : Nat) (m : Nat) (w : World) (h1 : 1 ≤ m) (hB : B ≤ n0) (hn0 : n0 ≤ w.heap.size) (hM : ∀ k, k ∈ M → B ≤ k ∧ k < n0) (h2M : b2 ∉ M) (h3M : b3 ∉ M) (hA : DtAt w B x) (h : S.laid (bars x.bs) x.rs = true)
    (hb3 : Blk w b3 28 #[.slice x.rA x.rn x.rc]) (hb2 : Blk w b2 27 #[.slice x.bA x.bn x.bc]) :
    SeqLaid Fence.wide m Tryz.prog 274 #[.pointer (some ⟨b3, 0, none⟩), .pointer (some ⟨b2, 0, none⟩)] itE (KpL B M) (itR x n0) (fun xs => (xs.length : Int) = S.sumAll x.rs) w := by
  intro l J Jx W hbW hJ hJx hY h0
  refine callsIn_wide.2 ?_
  show Calls Tryz.prog 274 #[.func (.yield l) #[] #[], .pointer (some ⟨b3, 0, none⟩), .pointer (some ⟨b2, 0, none⟩)] W _
  have hBw : B ≤ w.heap.size := by omega
  have hAW := hA.at_ hBw hbW
  have hRc := hAW.runs.cells
  have hrl := hAW.runs.len
  have hrm := hAW.runs.max
  have HBS := Lib.hid hAW.bars
  have hb3W := hb3.via hbW
  have hb2W := hb2.via hbW
  have HF := Lib.hid (fun (k : Nat) (hk : k < x.rs.length) => run_facts (x := x) (B := B) (w := w) h hk)
  have HL := Lib.hid h
  have HJ := Lib.hid hJ
  have HJx := Lib.hid hJx
  have HY := Lib.hid hY
  have hWs := hbW.size
  have hWB : B ≤ W.heap.size := by omega
  clear hA hAW hJ hJx hY h hb3 hb2 hbW
  generalize hrA : x.rA = rA at *
  clear hrA
  have c3 := hb3W.cell 0
  have c2 := hb2W.cell 0
  have l3 := hb3W.lt
  have l2 := hb2W.lt
  simp only [List.getElem?_toArray, List.getElem?_cons_zero, List.getElem?_cons_succ] at c3 c2
  go_enter Tryz.func274, Tryz.ntmps274
  go_wp2
  go_loopw [14, 4] (fun s t wr => ∃ (k : Nat) (pre : List It), k ≤ x.rn ∧ s = .int .i64 k ∧ t = .int .i64 pre.length ∧ Hid ((pre.length : Int) = S.sumTo x.rs k) ∧ J pre wr ∧ Below B W wr ∧ Blk wr b3 28 #[.slice rA x.rn x.rc] ∧ Blk wr b2 27 #[.slice x.bA x.bn x.bc] ∧ W.heap.size ≤ wr.heap.size) (fun s _ _ => x.rn - (intOf s).toNat)
  case atStart => exact ⟨0, [], Nat.zero_le _, rfl, rfl, Lib.hid (by rw [sumTo_zero]; rfl), h0, Below.refl _ _, hb3W, hb2W, Nat.le_refl _⟩
  case round =>
    obtain ⟨k, pre, hk, rfl, rfl, hsum, hJr, hbr, hB3, hB2, hWr⟩ := hrel
    clear c3 c2 l3 l2 hb3W hb2W h0
    by_cases hlt : k < x.rn
    · have hkx : k < x.rs.length := by omega
      have hki : (k : Int) < x.rn := by omega
      have hRr := hRc.below hbr
      obtain ⟨bR, oR, hRe, hbR, hxx⟩ := hRr.at_ (by rw [flat_len rnC 10 rnC_len]; omega)
      clear hxx
      subst hRe
      have c0 := hRr.row0 rnC_len hkx rfl
      have d1 := hRr.rowj rnC_len hkx 1 rfl
      have d2 := hRr.rowj rnC_len hkx 2 rfl
      have d3 := hRr.rowj rnC_len hkx 3 rfl
      have d4 := hRr.rowj rnC_len hkx 4 rfl
      have d5 := hRr.rowj rnC_len hkx 5 rfl
      have d6 := hRr.rowj rnC_len hkx 6 rfl
      have d7 := hRr.rowj rnC_len hkx 7 rfl
      have d8 := hRr.rowj rnC_len hkx 8 rfl
      have d9 := hRr.rowj rnC_len hkx 9 rfl
      obtain ⟨k0, b, hget, hok, hfe, hfi, hle⟩ := HF.out k hkx
      have hbRl : bR < wr.heap.size := by omega
      have HOK := Lib.hid hok
      have HTU := Lib.hid (fun (V : World) (hV : B ≤ V.heap.size) (hh : BarsAt V B x.bA x.bn x.bs) => turned_any x.bs x.rs[k] k0 b x.bA x.bn x.bc B V hV hh hok.index hget hok.bar)
      have hcnt := hok.count
      have hTL : (S.turned b.b x.rs[k]).length = (S.legsOf b.b.code).length + 1 := by
        rw [← path_len b.b, ← List.length_map (f := S.laidPt x.rs[k] ((0 : Nat) : Int)), laid_map hok.turn hok.bar]
        simp [S.laidPath]
      have hl6 := legs_len b.b.code
      have hT0 : 0 < (S.turned b.b x.rs[k]).length ∧ (S.turned b.b x.rs[k]).length ≤ 100 := by omega
      clear hTL hl6
      have HLIES := Lib.hid (fun (j : Nat) (hj : (j : Int) < x.rs[k].count) (i : Nat) (hi : (i : Int) = S.sumTo x.rs k + j) => lies_at HL.out hkx hget hok hi hj)
      unfold rnV at HTU
      clear hRr hok hfe hfi
      generalize hrk : x.rs[k] = r at *
      have e3 := hB3.cell 0
      have e2 := hB2.cell 0
      have l3 := hB3.lt
      have l2 := hB2.lt
      simp only [List.getElem?_toArray, List.getElem?_cons_zero, List.getElem?_cons_succ] at e3 e2
      go_upto_region 4 with fail
      have hW6 : Below wr.heap.size wr (wr.alloc (.cells #[.string r.mark, .int .i64 r.tx, .int .i64 r.ty, .int .i64 r.at_.x, .int .i64 r.at_.y, .int .i64 r.at_.z, .int .i64 r.step.x, .int .i64 r.step.y, .int .i64 r.step.z, .int .i64 r.count] 183)) := ba_alloc (Below.refl _ _) _
      have hB6 := Blk.new wr 183 #[.string r.mark, .int .i64 r.tx, .int .i64 r.ty, .int .i64 r.at_.x, .int .i64 r.at_.y, .int .i64 r.at_.z, .int .i64 r.step.x, .int .i64 r.step.y, .int .i64 r.step.z, .int .i64 r.count]
      generalize (wr.alloc (.cells #[.string r.mark, .int .i64 r.tx, .int .i64 r.ty, .int .i64 r.at_.x, .int .i64 r.at_.y, .int .i64 r.at_.z, .int .i64 r.step.x, .int .i64 r.step.y, .int .i64 r.step.z, .int .i64 r.count] 183)) = W6 at *
      have hbW6 : Below B W W6 := hbr.trans (hW6.mono (by omega))
      have HB6 := Lib.hid hB6
      have hB3' := hB3.via hW6
      have hB2' := hB2.via hW6
      have HB3 := Lib.hid hB3'
      have HB2 := Lib.hid hB2'
      have e2' := hB2'.cell 0
      have l2' := hB2'.lt
      simp only [List.getElem?_toArray, List.getElem?_cons_zero, List.getElem?_cons_succ] at e2'
      have hs6 := hbW6.size
      have hJ6 := HJ.out _ _ _ hJr (hW6.mono (by omega))
      clear c0 d1 d2 d3 d4 d5 d6 d7 d8 d9 e3 e2 l3 l2 hB3 hB2 hB3' hB2' hbr hJr
      go_upto_region 5 with (first
        | (refine wpList_load_mid rfl 183 (.tmp 6) rfl _ _ rfl _ _ (HB6.out).range Tryz.underlying183 rfl (by kernel_rfl) ?_)
        | (go_at_call 244; (with_reducible refine (HTU.out _ (by omega) (HBS.out.below hbW6)).mono ?_); rintro e w7 ⟨A7, c7, rfl, how7, hbw7⟩))
      obtain ⟨g7, cur7, t7, fr7, rfl, hg7, hh7, hc7⟩ := Blk.of_own how7 (by omega) (by unfold maxLen; omega)
      have hB6' := HB6.out.via hbw7
      have HHC := Lib.hid hc7
      have hB3' := HB3.out.via hbw7
      have hB2' := HB2.out.via hbw7
      have hb7W : Below B W w7 := hbW6.trans (hbw7.mono (by omega))
      have hJ7 := HJ.out _ _ _ hJ6 (hbw7.mono hs6)
      have hs7 := hbw7.size
      have d9 := hB6'.cell 9
      have l6 := hB6'.lt
      simp only [List.getElem?_toArray, List.getElem?_cons_zero, List.getElem?_cons_succ] at d9
      clear how7 HB6 HB3 HB2 e2' l2' hJ6 hbW6 hB6 hW6 HTU hc7
      have HSS := Lib.hid (sumTo_succ x.rs hkx)
      rw [hrk] at HSS
      go_wp2
      clear d9 l6
      go_loopw [23, 4] (fun s t wq => ∃ (j : Nat) (pre' : List It), (j : Int) ≤ r.count ∧ s = .int .i64 j ∧ t = .int .i64 pre'.length ∧ Hid ((pre'.length : Int) = S.sumTo x.rs k + j) ∧ J pre' wq ∧ Below B W wq ∧ Blk wq b3 28 #[.slice (some ⟨bR, oR, none⟩) x.rn x.rc] ∧ Blk wq b2 27 #[.slice x.bA x.bn x.bc] ∧ Blk wq wr.heap.size 183 #[.string r.mark, .int .i64 r.tx, .int .i64 r.ty, .int .i64 r.at_.x, .int .i64 r.at_.y, .int .i64 r.at_.z, .int .i64 r.step.x, .int .i64 r.step.y, .int .i64 r.step.z, .int .i64 r.count] ∧ wq.heap[g7]? = some (.cells cur7 t7 fr7) ∧ w7.heap.size ≤ wq.heap.size) (fun s _ _ => r.count.toNat - (intOf s).toNat)
      case atStart => exact ⟨0, pre, by omega, rfl, rfl, Lib.hid (by have := hsum.out; omega), hJ7, hb7W, hB3', hB2', hB6', hh7, Nat.le_refl _⟩
      case round =>
        generalize wr = wq at *
        obtain ⟨j, pre', hj, rfl, rfl, hsum', hJq, hbq, hB3, hB2, hB6, hq7, hsq⟩ := hrel
        clear hJ7 hb7W hB3' hB2' hB6' hh7 hbw7
        by_cases hltj : (j : Int) < r.count
        · have hjl := HLIES.out j hltj
          have hJL := Lib.hid hjl
          clear hjl
          have hCl : (((S.turned b.b r).map (S.laidPt r j)).flatMap ptC).length = (S.turned b.b r).length * 3 := by rw [flat_len ptC 3 ptC_len, List.length_map]
          have HCL := Lib.hid hCl
          have HCG := Lib.hid (fun (i : Nat) (hi : i < (S.turned b.b r).length) (q : Nat) (hq : q < 3) => show (((S.turned b.b r).map (S.laidPt r j)).flatMap ptC)[i * 3 + q]? = (ptC (S.laidPt r j (S.turned b.b r)[i]))[q]? from by
            rw [flat_get ptC 3 ptC_len _ i (by rw [List.length_map]; exact hi) q hq, List.getElem_map])
          have hmk := make_points _ (S.turned b.b r).length (by omega) hCl
          have HBD := Lib.hid (fun (p : Pt) (hp : p ∈ S.turned b.b r) => laid_bounds HOK.out hp hltj)
          have HPM := Lib.hid (show (S.turned b.b r).map (S.laidPt r j) = S.laidPath b.b r j from laid_map HOK.out.turn HOK.out.bar j)
          have HQL := Lib.hid (fun (i : Nat) (hi : i < (S.turned b.b r).length) (q : Nat) (v : Value) (hv : (ptC (S.turned b.b r)[i])[q]? = some v) (hq : q < 3) => HHC.out (i * 3 + q) v (by rw [flat_get ptC 3 ptC_len _ i hi q hq]; exact hv))
          clear hCl
          generalize hCs : ((S.turned b.b r).map (S.laidPt r j)).flatMap ptC = Cs at *
          have HCS := Lib.hid hCs
          clear hCs
          have d9 := hB6.cell 9
          have l6 := hB6.lt
          simp only [List.getElem?_toArray, List.getElem?_cons_zero, List.getElem?_cons_succ] at d9
          go_upto_region 9 with fail
          have hBA := Blk.new wq 87 (fillA Cs 0)
          have hWA : Below wq.heap.size wq (wq.alloc (.cells (fillA Cs 0) 87)) := ba_alloc (Below.refl _ _) _
          have hsA : (wq.alloc (.cells (fillA Cs 0) 87)).heap.size = wq.heap.size + 1 := by simp
          clear hmk d9
          generalize (wq.alloc (.cells (fillA Cs 0) 87)) = wA at *
          have hBA6 := hB6.via hWA
          have hA7 : wA.heap[g7]? = some (.cells cur7 t7 fr7) := (hWA.block g7 (Array.getElem?_eq_some_iff.1 hq7).1).trans hq7
          have l7 := (Array.getElem?_eq_some_iff.1 hq7).1
          go_wp2
          go_loopw [31] (fun s wx => ∃ i : Nat, i ≤ (S.turned b.b r).length ∧ s = .int .i64 i ∧ Blk wx wq.heap.size 87 (fillA Cs (i * 3)) ∧ Exc [wq.heap.size] wA wx) (fun s _ => (S.turned b.b r).length - (intOf s).toNat)
          case atStart => exact ⟨0, Nat.zero_le _, rfl, by rw [Nat.zero_mul]; exact hBA, Exc.refl _ _⟩
          case round =>
            generalize wr = wx at *
            obtain ⟨i, hi, rfl, hC, hX⟩ := hrel
            have hsx := hX.size
            by_cases hlti : i < (S.turned b.b r).length
            · have hii : (i : Int) < (S.turned b.b r).length := by omega
              have hx7 : wx.heap[g7]? = some (.cells cur7 t7 fr7) := (hX.block g7 (by omega) (by simp; omega)).trans hA7
              have hbd := HBD.out (S.turned b.b r)[i] (List.getElem_mem hlti)
              have p0 : wx.cell? ⟨g7, i * 3, none⟩ = some (.int .i64 (S.turned b.b r)[i].x) := (cell_of_row wx g7 (i * 3) cur7 t7 fr7 hx7).trans (HQL.out i hlti 0 _ rfl (by omega))
              have p1 : wx.cell? ⟨g7, i * 3 + 1, none⟩ = some (.int .i64 (S.turned b.b r)[i].y) := (cell_of_row wx g7 (i * 3 + 1) cur7 t7 fr7 hx7).trans (HQL.out i hlti 1 _ rfl (by omega))
              have p2 : wx.cell? ⟨g7, i * 3 + 2, none⟩ = some (.int .i64 (S.turned b.b r)[i].z) := (cell_of_row wx g7 (i * 3 + 2) cur7 t7 fr7 hx7).trans (HQL.out i hlti 2 _ rfl (by omega))
              have HG0 := Lib.hid (HCG.out i hlti 0 (by omega))
              have HG1 := Lib.hid (HCG.out i hlti 1 (by omega))
              have HG2 := Lib.hid (HCG.out i hlti 2 (by omega))
              have l7x : g7 < wx.heap.size := by omega
              have hX6 := hBA6.exc hX (by simp; omega)
              generalize (S.turned b.b r)[i] = p at *
              go_upto_region 12 with fail
              have h12 : Below wx.heap.size wx (wx.alloc (.cells #[.int .i64 p.x, .int .i64 p.y, .int .i64 p.z] 87)) := ba_alloc (Below.refl _ _) _
              have hB12 := Blk.new wx 87 #[.int .i64 p.x, .int .i64 p.y, .int .i64 p.z]
              have hC12 := hC.alloc (.cells #[.int .i64 p.x, .int .i64 p.y, .int .i64 p.z] 87)
              have hX12 := hX.alloc (.cells #[.int .i64 p.x, .int .i64 p.y, .int .i64 p.z] 87)
              have hX612 := hX6.alloc (.cells #[.int .i64 p.x, .int .i64 p.y, .int .i64 p.z] 87)
              generalize (wx.alloc (.cells #[.int .i64 p.x, .int .i64 p.y, .int .i64 p.z] 87)) = W12 at *
              have s0 := hB12.cell 0
              have s1 := hB12.cell 1
              have s2 := hB12.cell 2
              have sl := hB12.lt
              have r3 := hX612.cell 3
              have r4 := hX612.cell 4
              have r5 := hX612.cell 5
              have rl := hX612.lt
              simp only [List.getElem?_toArray, List.getElem?_cons_zero, List.getElem?_cons_succ] at s0 s1 s2 r3 r4 r5
              have hCl := HCL.out
              have hm3 : i * 3 + 3 ≤ Cs.length := by omega
              have HP1 := Lib.hid (fun (V : World) => plus_any p r.at_ 1 hbd.1 hbd.2.1 (by omega) V)
              have HP2 := Lib.hid (fun (h0 : (0 : Int) < j) (V : World) => plus_any (S.plus p r.at_ 1) r.step j hbd.2.2.1 (hbd.2.2.2 h0) (by omega) V)
              unfold ptV at HP1 HP2
              have HLP := Lib.hid (show S.laidPt r j p = if (0 : Int) < (j : Int) then S.plus (S.plus p r.at_ 1) r.step j else S.plus p r.at_ 1 from rfl)
              clear p0 p1 p2 hx7 l7x hC hX hX6 hB12 hX612 hbd
              generalize S.plus p r.at_ 1 = q1 at *
              go_upto_region 13 with (first
                | (go_at_call 245; (with_reducible refine (HP1.out _).mono ?_); rintro e w5 ⟨rfl, hbw5⟩; have hC5 := hC12.via hbw5; have y0 := hC5.cell (i * 3); have y1 := hC5.cell (i * 3 + 1); have y2 := hC5.cell (i * 3 + 2); rw [fillA_get (by omega), if_neg (by omega)] at y0 y1 y2; have f0 := hC5.frozen (i * 3); have f1 := hC5.frozen (i * 3 + 1); have f2 := hC5.frozen (i * 3 + 2); have yl := hC5.lt))
              have hD := ((hC5.set (i * 3) (.int .i64 q1.x)).set (i * 3 + 1) (.int .i64 q1.y)).set (i * 3 + 2) (.int .i64 q1.z)
              have hX13 : Exc [wq.heap.size] wA (((w5.setCell ⟨wq.heap.size, i * 3, none⟩ (.int .i64 q1.x)).setCell ⟨wq.heap.size, i * 3 + 1, none⟩ (.int .i64 q1.y)).setCell ⟨wq.heap.size, i * 3 + 2, none⟩ (.int .i64 q1.z)) := (((Exc.via hbw5 hX12).set (.inl (by simp)) _).set (.inl (by simp)) _).set (.inl (by simp)) _
              have hs13 : wq.heap.size < (((w5.setCell ⟨wq.heap.size, i * 3, none⟩ (.int .i64 q1.x)).setCell ⟨wq.heap.size, i * 3 + 1, none⟩ (.int .i64 q1.y)).setCell ⟨wq.heap.size, i * 3 + 2, none⟩ (.int .i64 q1.z)).heap.size := hD.lt
              have hsz : (fillA Cs (i * 3)).size = Cs.length := fillA_size (by omega)
              clear y0 y1 y2 f0 f1 f2 yl hC5 hbw5 hC12 hX12 s0 s1 s2 sl r3 r4 r5 rl HP1
              generalize (((w5.setCell ⟨wq.heap.size, i * 3, none⟩ (.int .i64 q1.x)).setCell ⟨wq.heap.size, i * 3 + 1, none⟩ (.int .i64 q1.y)).setCell ⟨wq.heap.size, i * 3 + 2, none⟩ (.int .i64 q1.z)) = W13 at *
              clear w5
              have hv0 : Cs[i * 3]? = some (.int .i64 (S.laidPt r j p).x) := HG0.out
              have hv1 : Cs[i * 3 + 1]? = some (.int .i64 (S.laidPt r j p).y) := HG1.out
              have hv2 : Cs[i * 3 + 2]? = some (.int .i64 (S.laidPt r j p).z) := HG2.out
              rw [HLP.out] at hv0 hv1 hv2
              by_cases hj0 : (0 : Int) < (j : Int)
              · rw [if_pos hj0] at hv0 hv1 hv2
                have HV := Lib.hid (And.intro hv0 (And.intro hv1 hv2))
                have HPP := Lib.hid (HP2.out hj0)
                have hX6 := hBA6.exc hX13 (by simp; omega)
                have r6 := hX6.cell 6
                have r7 := hX6.cell 7
                have r8 := hX6.cell 8
                have rl := hX6.lt
                simp only [List.getElem?_toArray, List.getElem?_cons_zero, List.getElem?_cons_succ] at r6 r7 r8
                obtain ⟨g0, g1, g2⟩ := three_get (D := fillA Cs (i * 3)) (m := i * 3) (by omega) (.int .i64 q1.x) (.int .i64 q1.y) (.int .i64 q1.z)
                have y0 := (hD.cell (i * 3)).trans g0
                have y1 := (hD.cell (i * 3 + 1)).trans g1
                have y2 := (hD.cell (i * 3 + 2)).trans g2
                clear hv0 hv1 hv2 HLP HP2 HG0 HG1 HG2 g0 g1 g2 hX6
                generalize S.plus q1 r.step j = q2 at *
                go_upto_region 14 with fail
                refine wp_region_mix 1 [9] (by kernel_rfl) (by kernel_rfl) (of_decide_eq_true (by kernel_rfl)) ?_
                try simp only [wpSegs, List.take_succ_cons, List.take_zero, List.drop_succ_cons, List.drop_zero, List.take_nil, List.drop_nil]
                repeat (go_big_quiet_step (fail))
                refine wpQuiet_nil ?_
                show wpList _ _ _ _ _ _
                go_wp2_with ((go_at_call 245; (with_reducible refine (HPP.out _).mono ?_); rintro e w6 ⟨rfl, hbw6⟩))
                refine seg_next (grow_to (by repeat (with_reducible first | exact Below.refl _ _ | assumption | refine ba_alloc ?_ _ | refine ba_drew ?_ | refine ba_drewN ?_ _ | refine ba_via (by assumption) ?_ | (refine ba_set ?_ ?_ _; rotate_left; (first | omega | (simp; omega) | simp))))) ?_
                try simp only [wpSegs, List.take_succ_cons, List.take_zero, List.drop_succ_cons, List.drop_zero, List.take_nil, List.drop_nil]
                repeat (go_big_quiet_step (fail))
                refine wpQuiet_nil ?_
                show wpList _ _ _ _ _ _
                have hb6 : Below W13.heap.size W13 w6 := (by repeat (with_reducible first | exact Below.refl _ _ | assumption | refine ba_alloc ?_ _ | refine ba_drew ?_ | refine ba_drewN ?_ _ | refine ba_via (by assumption) ?_ | (refine ba_set ?_ ?_ _; rotate_left; (first | omega | (simp; omega) | simp))))
                have hD6 := hD.via hb6
                have hsz6 := hb6.size
                obtain ⟨g0, g1, g2⟩ := three_get (D := fillA Cs (i * 3)) (m := i * 3) (by omega) (.int .i64 q1.x) (.int .i64 q1.y) (.int .i64 q1.z)
                have z0 := (hD6.cell (i * 3)).trans g0
                have z1 := (hD6.cell (i * 3 + 1)).trans g1
                have z2 := (hD6.cell (i * 3 + 2)).trans g2
                have f0 := hD6.frozen (i * 3)
                have f1 := hD6.frozen (i * 3 + 1)
                have f2 := hD6.frozen (i * 3 + 2)
                have hl6 := hD6.lt
                have hXE : Exc [wq.heap.size] wA (((w6.setCell ⟨wq.heap.size, i * 3, none⟩ (.int .i64 q2.x)).setCell ⟨wq.heap.size, i * 3 + 1, none⟩ (.int .i64 q2.y)).setCell ⟨wq.heap.size, i * 3 + 2, none⟩ (.int .i64 q2.z)) := (((Exc.via hb6 hX13).set (.inl (by simp)) _).set (.inl (by simp)) _).set (.inl (by simp)) _
                have hE := ((hD6.set (i * 3) (.int .i64 q2.x)).set (i * 3 + 1) (.int .i64 q2.y)).set (i * 3 + 2) (.int .i64 q2.z)
                clear g0 g1 g2 y0 y1 y2 r6 r7 r8
                go_wp2
                go_roundw
                case rel =>
                  refine ⟨i + 1, by omega, by go_num, ?_, hXE⟩
                  rw [show (i + 1) * 3 = i * 3 + 3 by omega, ← fillA_three hm3 (.inr ⟨_, _, _, rfl⟩) HV.out.1 HV.out.2.1 HV.out.2.2]
                  exact hE
                case measure => simp [intOf]; omega
              · rw [if_neg hj0] at hv0 hv1 hv2
                have HV := Lib.hid (And.intro hv0 (And.intro hv1 hv2))
                clear hv0 hv1 hv2 HLP HP2 HG0 HG1 HG2
                go_wp2
                go_roundw
                case rel =>
                  refine ⟨i + 1, by omega, by go_num, ?_, hX13⟩
                  rw [show (i + 1) * 3 = i * 3 + 3 by omega, ← fillA_three hm3 (.inl rfl) HV.out.1 HV.out.2.1 HV.out.2.2]
                  exact hD
                case measure => simp [intOf]; omega
            · have hie : i = (S.turned b.b r).length := by omega
              subst hie
              rw [← HCL.out, fillA_full] at hC
              have hXq : Below B wq wx := (hWA.mono (by omega)).trans (hX.below (by omega) (by intro g hg; simp at hg; omega))
              have hbx : Below B W wx := hbq.trans hXq
              have hJx' : J pre' wx := HJ.out _ _ _ hJq ((hWA.mono (by omega)).trans (hX.below (by omega) (by intro g hg; simp at hg; omega)))
              have hx7 : wx.heap[g7]? = some (.cells cur7 t7 fr7) := (hX.block g7 (by omega) (by simp; omega)).trans hA7
              have hx3 := (hB3.via hWA).exc hX (by have := hB3.lt; simp; omega)
              have hx2 := (hB2.via hWA).exc hX (by have := hB2.lt; simp; omega)
              have hx6 := hBA6.exc hX (by simp; omega)
              have hpl : ((S.turned b.b r).map (S.laidPt r j)).length = (S.turned b.b r).length := List.length_map ..
              have hRy : itR x n0 pre' ⟨pre'.length, some ⟨wq.heap.size, 0, none⟩, (S.turned b.b r).map (S.laidPt r j)⟩ wx := by
                refine ⟨rfl, ⟨k, j, k0, b, hJL.out pre'.length hsum'.out, ?_⟩, wq.heap.size, rfl, by omega, ?_⟩
                · show (S.turned b.b r).map (S.laidPt r j) = S.laidPath b.b x.rs[k] j
                  rw [hrk]
                  exact HPM.out
                · show Blk wx wq.heap.size _ (((S.turned b.b r).map (S.laidPt r j)).flatMap ptC).toArray
                  rw [HCS.out]
                  exact hC
              obtain ⟨fn, tmps, assign, body, hy, hR⟩ := HY.out pre' _ wx hJx' hRy
              simp only [itE, hpl] at hy
              have HRY := Lib.hid hRy
              clear hRy hpl hC hX hJx' hJq hbq hB3 hB2 hB6 hq7 hBA6 hA7 hXq
              go_upto_region 16 with fail
              refine (wpIn_wide (n := m)).1 ?_
              gi_wp2
              refine hR.mono ?_
              have hnM : ∀ g, n0 ≤ g → g ∉ M := fun g hg hm => by have := hM g hm; omega
              rintro e V' ⟨hkp, (⟨rfl, hJ'⟩ | ⟨rfl, hJz⟩)⟩
              · have hv7 := hkp.cells g7 _ _ _ (hnM g7 (by omega)) hx7
                have hv3 := hkp.blk hx3 h3M
                have hv2 := hkp.blk hx2 h2M
                have hv6 := hkp.blk hx6 (hnM _ (by omega))
                have hbv : Below B W V' := hbx.trans hkp.bel
                have hsv := hkp.bel.size
                have hlim := (hJL.out pre'.length hsum'.out).lim
                have e1 : IntKind.i64.wrap ((pre'.length : Int) + 1) = (pre'.length : Int) + 1 := IntWalk.i64_in _ (by omega)
                gi_wp2
                go_wp2
                go_roundw
                case rel => exact ⟨j + 1, pre' ++ [⟨pre'.length, some ⟨wq.heap.size, 0, none⟩, (S.turned b.b r).map (S.laidPt r j)⟩], by omega, by go_num, by simp, Lib.hid (by have := hsum'.out; simp; omega), hJ', hbv, hv3, hv2, hv6, hv7, by omega⟩
                case measure => simp [intOf]; omega
              · gi_wp2
                go_wp2
                refine bodyPost_ret (results_none rfl _ _ _) rfl ?_
                obtain ⟨q1, q2, g, q3, q4, q5⟩ := HRY.out
                exact ⟨⟨_, rfl⟩, .inr ⟨pre', _, hJz, q1, q2, g, q3, q4, hkp.blk q5 (hnM g q4)⟩⟩
        · have hje : (j : Int) = r.count := by omega
          have d9 := hB6.cell 9
          have l6 := hB6.lt
          simp only [List.getElem?_toArray, List.getElem?_cons_zero, List.getElem?_cons_succ] at d9
          have hsq2 := hsum'
          clear hB6 hltj hj
          have HJE := Lib.hid hje
          clear hje
          have hnl : ¬ ((j : Int) < r.count) := by have := HJE.out; omega
          go_wp2
          go_roundw
          case rel => exact ⟨k + 1, pre', by omega, by go_num, rfl, Lib.hid (by have := HSS.out; have := hsq2.out; have := HJE.out; omega), hJq, hbq, hB3, hB2, by omega⟩
          case measure => simp [intOf]; omega
    · have hke : k = x.rn := by omega
      have HKE := Lib.hid hke
      clear hke
      have hki : ¬ ((k : Int) < x.rn) := by have := HKE.out; omega
      go_wp2
      go_end0
      refine ⟨⟨_, rfl⟩, .inl ⟨pre, ?_, hJr⟩⟩
      have h5 := hsum.out
      rw [HKE.out, ← hrl] at h5
      exact h5
end Go.Proofs.YtffkmgjmlahfpaaGreat
set_option linter.unusedVariables false
set_option linter.unusedSimpArgs false
namespace Go.Proofs.YtffkmgjmlahfpaaGreat
open Go.RowKit Go.Shelf
attribute [local go_sem] Oper.semAt_some
theorem lies_unique {l : List BarR} {rs : List Rn} {i k j k0 k' j' k0' : Nat} {r r' : BarR} (h : Lies l rs i k j k0 r) (h' : Lies l rs i k' j' k0' r') : k = k' ∧ j = j' ∧ k0 = k0' ∧ r = r' := by
  have hc : ∀ q (hq : q < rs.length), 0 ≤ rs[q].count := fun q hq => (h.cnt q hq).1
  have key : ∀ {a b c d : Nat} (ha : a < rs.length) (hb : b < rs.length), (i : Int) = S.sumTo rs a + c → (c : Int) < rs[a].count → (i : Int) = S.sumTo rs b + d → ¬ a < b := by
    intro a b c d ha hb h1 h2 h3 hab
    have h4 := sumTo_mono (rs := rs) hc (show a + 1 ≤ b by omega) (by omega)
    rw [sumTo_succ rs ha] at h4
    omega
  have hk : k = k' := by
    have h1 := key h.st.lt h'.st.lt h.st.sum h.st.inr h'.st.sum
    have h2 := key h'.st.lt h.st.lt h'.st.sum h'.st.inr h.st.sum
    omega
  subst hk
  have hj : j = j' := by
    have h1 := h.st.sum
    have h2 := h'.st.sum
    omega
  subst hj
  have hk0 : k0 = k0' := by
    have h1 := h.st.ok.index
    have h2 := h'.st.ok.index
    omega
  subst hk0
  have h1 := h.get
  rw [h'.get] at h1
  injection h1 with h1
  exact ⟨rfl, rfl, rfl, h1.symm⟩
theorem lies_lt {l : List BarR} {rs : List Rn} {i k j k0 : Nat} {r : BarR} (h : Lies l rs i k j k0 r) : (i : Int) < S.sumAll rs := by
  have hc : ∀ q (hq : q < rs.length), 0 ≤ rs[q].count := fun q hq => (h.cnt q hq).1
  have h1 := sumTo_mono (rs := rs) hc (show k + 1 ≤ rs.length by have := h.st.lt; omega) (Nat.le_refl _)
  rw [sumTo_succ rs h.st.lt] at h1
  have h2 := h.st.sum
  have h3 := h.st.inr
  show (i : Int) < S.sumTo rs rs.length
  omega
theorem lall_any (A A' : Option Addr) (n c n' c' : Nat) (w : World) :
    Calls Tryz.prog 257 #[.slice A n c, .slice A' n' c'] w fun e w' => e = .returned (.func (.func 274) #[] #[.pointer (some ⟨w.heap.size + 1, 0, none⟩), .pointer (some ⟨w.heap.size, 0, none⟩)]) ∧ Blk w' w.heap.size 27 #[.slice A n c] ∧ Blk w' (w.heap.size + 1) 28 #[.slice A' n' c'] ∧ Below w.heap.size w w' := by
  have h2 := (Blk.new w 27 #[.slice A n c]).alloc (.cells #[.slice A' n' c'] 28)
  have h3 := Blk.newN (W := w.alloc (.cells #[.slice A n c] 27)) (n := w.heap.size + 1) (by simp) 28 #[.slice A' n' c']
  go_enter Tryz.func257, Tryz.ntmps257
  go_wp2
  go_ret
  exact ⟨rfl, h2, h3, (by repeat (first | exact Below.refl _ _ | assumption | refine ba_alloc ?_ _ | refine ba_drew ?_ | refine ba_drewN ?_ _ | refine ba_via (by assumption) ?_ | (refine ba_set ?_ ?_ _; rotate_left; (first | omega | (simp; omega) | simp))))⟩
theorem put_blk {W : World} {l g : Nat} {o : Obj} {T : TypeId} {cs : Array Value} (h : Blk W g T cs) (hl : W.heap[l]? = some o) (hc : o.isCells = false) (o' : Obj) : Blk (W.putObj l o') g T cs := by
  refine (World.putObj_heap_other (fun e => ?_)).trans h
  subst e
  unfold Blk at h
  rw [h] at hl
  cases hl
  cases hc
theorem KpL.refl (B : Nat) (M : List Nat) (A : World) : KpL B M A A := ⟨Below.refl _ _, fun _ _ _ _ _ h => h⟩
theorem KpL.trans {B : Nat} {M : List Nat} {A C D : World} (h : KpL B M A C) (k : KpL B M C D) : KpL B M A D := ⟨h.bel.trans k.bel, fun q cs t fr hq hh => k.cells q cs t fr hq (h.cells q cs t fr hq hh)⟩
theorem KpL.put {B : Nat} {M : List Nat} {W : World} {l : Nat} {o : Obj} (o' : Obj) (hB : B ≤ l) (hl : W.heap[l]? = some o) (hc : o.isCells = false) : KpL B M W (W.putObj l o') :=
  ⟨⟨rfl, rfl, rfl, by simp, fun k hk => World.putObj_heap_other (by omega)⟩, fun k cs t fr _ hh => (World.putObj_heap_other (fun e => by subst e; rw [hh] at hl; cases hl; cases hc)).trans hh⟩
theorem KpL.set {B : Nat} {M : List Nat} {A W : World} (h : KpL B M A W) {p : Addr} (hp : p.block ∈ M) (hB : B ≤ p.block) (u : Value) : KpL B M A (W.setCell p u) :=
  ⟨h.bel.setCell hB u, fun k cs t fr hk hh => (Below.heap_setCell W p u k (fun e => hk (e ▸ hp))).trans (h.cells k cs t fr hk hh)⟩
theorem itR_put {x : Dt} {n0 : Nat} {pre : List It} {y : It} {V : World} (h : itR x n0 pre y V) {l : Nat} {o : Obj} (hl : V.heap[l]? = some o) (hc : o.isCells = false) (o' : Obj) : itR x n0 pre y (V.putObj l o') := by
  obtain ⟨h1, h2, g, h3, h4, h5⟩ := h
  exact ⟨h1, h2, g, h3, h4, put_blk h5 hl hc o'⟩
set_option maxRecDepth 20000 in
set_option maxHeartbeats 8000000 in
theorem lpath_any (x : Dt) (i : Nat) (B : Nat) (w : World) (hB : B ≤ w.heap.size) (hA : DtAt w B x) (h : S.laid (bars x.bs) x.rs = true) {k j k0 : Nat} {r : BarR} (hL : Lies x.bs x.rs i k j k0 r) :
    Calls Tryz.prog 211 #[.slice x.bA x.bn x.bc, .slice x.rA x.rn x.rc, .int .i64 i] w fun e w' => ∃ g, e = .returned (.tuple #[.slice (some ⟨g, 0, none⟩) (S.laidPath r.b (x.rs[k]'hL.st.lt) j).length (S.laidPath r.b (x.rs[k]'hL.st.lt) j).length, .int .i64 0]) ∧ w.heap.size ≤ g ∧ Blk w' g 87 ((S.laidPath r.b (x.rs[k]'hL.st.lt) j).flatMap ptC).toArray ∧ Below w.heap.size w w' := by
  refine (callsIn_wide (n := 6)).1 ?_
  have HLV := Lib.hid (fun (W : World) (hw : Below w.heap.size w W) => h ▸ laid_any x.bs x.rs x.bA x.bn x.bc x.rA x.rn x.rc B W (size_via hB hw) (hA.at_ hB hw).bars (hA.at_ hB hw).runs)
  have HAL := Lib.hid (fun (W : World) => lall_any x.bA x.rA x.bn x.bc x.rn x.rc W)
  refine callsIn_of_wp_marks Tryz.func211 rfl trivial ?_ rfl
  simp only [Tryz.ntmps211, List.size_toArray, List.length_cons, List.length_nil, Nat.reduceAdd, Nat.reduceSub, Array.replicate_succ, Array.replicate_zero, List.push_toArray, List.append_toArray, List.nil_append, List.cons_append]
  gi_wp2_with (first
    | (refine ⟨trivial, ?_⟩; gi_at_call 120; refine (callsIn_wide.2 (HLV.out _ (by repeat (with_reducible first | exact Below.refl _ _ | assumption | refine ba_alloc ?_ _ | refine ba_drew ?_ | refine ba_drewN ?_ _ | refine ba_via (by assumption) ?_ | (refine ba_set ?_ ?_ _; rotate_left; (first | omega | (simp; omega) | simp)))))).mono ?_; rintro e w1 ⟨rfl, hbw1⟩)
    | (refine ⟨trivial, ?_⟩; gi_at_call 257; refine (callsIn_wide.2 (HAL.out _)).mono ?_; rintro e w2 ⟨rfl, hb2, hb3, hbw2⟩))
  have hW0 : Below w.heap.size w (((w.alloc (.cells #[.int .i64 i] 3)).alloc (.cells #[.slice none 0 0] 221)).alloc (.cells #[.int .i64 0] 38)) := ba_alloc (ba_alloc (ba_alloc (Below.refl _ _) _) _) _
  have hB5 := ((Blk.new w 3 #[.int .i64 i]).alloc (.cells #[.slice none 0 0] 221)).alloc (.cells #[.int .i64 0] 38)
  have hB6 := (Blk.newN (W := w.alloc (.cells #[.int .i64 i] 3)) (n := w.heap.size + 1) (by simp) 221 #[.slice none 0 0]).alloc (.cells #[.int .i64 0] 38)
  have hB7 := Blk.newN (W := (w.alloc (.cells #[.int .i64 i] 3)).alloc (.cells #[.slice none 0 0] 221)) (n := w.heap.size + 1 + 1) (by simp) 38 #[.int .i64 0]
  have hs0 : (((w.alloc (.cells #[.int .i64 i] 3)).alloc (.cells #[.slice none 0 0] 221)).alloc (.cells #[.int .i64 0] 38)).heap.size = w.heap.size + 3 := by simp
  have hb02 := hbw1.trans (hbw2.mono hbw1.size)
  have hs1 := hbw1.size
  have hs2 := hbw2.size
  have hb5 := hB5.via hb02
  have hb6 := hB6.via hb02
  have hb7 := hB7.via hb02
  have hbW2 : Below w.heap.size w w2 := ba_via hb02 hW0
  rw [hs0] at hs1
  have hl2 := hb2.lt
  have hl3 := hb3.lt
  have hAw2 : DtAt w2 B x := hA.at_ hB hbW2
  clear hbw1 hbw2 hB5 hB6 hB7 hW0 hs0 hb02 HLV HAL
  generalize w1.heap.size = d2 at *
  have hlim := hL.lim
  refine wpIn_rangeFunc_laid (α := It) (encs := itE) (Kp := KpL B [w.heap.size + 1, w.heap.size + 1 + 1]) (R := itR x w2.heap.size) (S := fun xs => (xs.length : Int) = S.sumAll x.rs) (w0 := w2) rfl (by omega) (gf := 274) (lb := #[.pointer (some ⟨d2 + 1, 0, none⟩), .pointer (some ⟨d2, 0, none⟩)]) rfl trivial (enters_of Tryz.func274 (by kernel_rfl) rfl)
    (lall_laid x B w2.heap.size [w.heap.size + 1, w.heap.size + 1 + 1] d2 (d2 + 1) _ w2 (by omega) (by omega) (Nat.le_refl _) (by intro q hq; simp at hq; omega) (by simp; omega) (by simp; omega) hAw2 h hb3 hb2)
    (fun hh kk => hh.trans kk) (fun W l o o' hl ho hc _ => KpL.put o' (by omega) ho hc)
    (fun pre y V V' hR l o o' hl ho hc e => by subst e; exact itR_put hR ho hc o')
    (Below.refl _ _) (fun _ => rfl)
    (fun pre W => pre.length ≤ i ∧ Blk W w.heap.size 3 #[.int .i64 i] ∧ Blk W (w.heap.size + 1) 221 #[.slice none 0 0] ∧ Blk W (w.heap.size + 1 + 1) 38 #[.int .i64 0] ∧ Below w.heap.size w W)
    (fun c pre W => c = .ret ∧ ∃ p0 y, pre = p0 ++ [y] ∧ y.k = i ∧ Blk W (w.heap.size + 1) 221 #[.slice y.A y.pts.length y.pts.length] ∧ Blk W (w.heap.size + 1 + 1) 38 #[.int .i64 0] ∧ Below w.heap.size w W)
    ?abI ?abX ⟨Nat.zero_le _, hb5, hb6, hb7, hbW2⟩
    (fun y => { tmps := #[.slice x.bA x.bn x.bc, .slice x.rA x.rn x.rc, .int .i64 i, undef, undef, .pointer (some ⟨w.heap.size, 0, none⟩), .pointer (some ⟨w.heap.size + 1, 0, none⟩), .pointer (some ⟨w.heap.size + 1 + 1, 0, none⟩), .int .i64 y.k, .slice y.A y.pts.length y.pts.length, .slice x.bA x.bn x.bc, .slice x.rA x.rn x.rc, .bool true, .bool false, .slice x.bA x.bn x.bc, .slice x.rA x.rn x.rc, .func (.func 274) #[] #[.pointer (some ⟨d2 + 1, 0, none⟩), .pointer (some ⟨d2, 0, none⟩)], .int .i64 y.k, .slice y.A y.pts.length y.pts.length, undef, undef, undef, undef], defers := [] }) ?assign ?body ?done ?stop
  case abI =>
    rintro pre A C ⟨h1, h5, h6, h7, hbA⟩ hb
    exact ⟨h1, (hb.block _ (by omega)).trans h5, (hb.block _ (by omega)).trans h6, (hb.block _ (by omega)).trans h7, hbA.trans (hb.mono (by omega))⟩
  case abX =>
    rintro c pre A C ⟨h1, p0, y, h2, h3, h6, h7, hbA⟩ hb
    exact ⟨h1, p0, y, h2, h3, (hb.block _ (by omega)).trans h6, (hb.block _ (by omega)).trans h7, hbA.trans (hb.mono (by omega))⟩
  case assign =>
    intro l y W K hK
    gi_wp2
    exact hK
  case body =>
    rintro l pre y W ⟨h1, h5, h6, h7, hbW⟩ hR
    have c5 := h5.cell 0
    have c6 := h6.cell 0
    have c7 := h7.cell 0
    have f6 := h6.frozen 0
    have f7 := h7.frozen 0
    have l5 := h5.lt
    have l6 := h6.lt
    have l7 := h7.lt
    simp only [List.getElem?_toArray, List.getElem?_cons_zero, List.getElem?_cons_succ] at c5 c6 c7
    cases hk : ((y.k : Int) == (i : Int))
    · have hne : y.k ≠ i := fun e => by rw [e] at hk; simp at hk
      have HNE := Lib.hid hne
      clear hne
      gi_wp2
      exact ⟨KeepsOthers.refl _, KpL.refl _ _ _, by have := hR.1; have := HNE.out; simp; omega, h5, h6, h7, hbW⟩
    · have heq : y.k = i := by have := beq_iff_eq.1 hk; omega
      have HEQ := Lib.hid heq
      clear heq
      gi_wp2
      refine ⟨(KeepsOthers.setCell _ _ _).trans (KeepsOthers.setCell _ _ _), ((KpL.refl _ _ _).set (by simp) (by simp; omega) _).set (by simp) (by simp; omega) _, rfl, pre, y, rfl, HEQ.out, ?_, ?_, ?_⟩
      · have := (h6.set 0 (.slice y.A y.pts.length y.pts.length)).far (p := ⟨w.heap.size + 1 + 1, 0, none⟩) (by simp) (.int .i64 0)
        simpa using this
      · have := (h7.far (p := ⟨w.heap.size + 1, 0, none⟩) (by simp) (.slice y.A y.pts.length y.pts.length)).set 0 (.int .i64 0)
        simpa using this
      · exact (hbW.setCell (p := ⟨w.heap.size + 1, 0, none⟩) (by simp) _).setCell (p := ⟨w.heap.size + 1 + 1, 0, none⟩) (by simp; omega) _
  case done =>
    rintro D xs W hD hS ⟨h1, _⟩ hK
    have := lies_lt hL
    omega
  case stop =>
    rintro D c pre y W hD ⟨rfl, p0, y', hp, hk, h6, h7, hbW⟩ hR hK
    obtain ⟨rfl, e⟩ := List.append_inj' hp rfl
    simp only [List.cons.injEq, and_true] at e
    subst e
    gi_wp2
    refine ⟨by simp, .inl ⟨_, _, rfl, run_takeDeferred hK, ?_⟩⟩
    have c6 := (put_blk h6 hK rfl (.deferred none)).cell 0
    have c7 := (put_blk h7 hK rfl (.deferred none)).cell 0
    simp only [List.getElem?_toArray, List.getElem?_cons_zero, List.getElem?_cons_succ] at c6 c7
    obtain ⟨_, ⟨k', j', k0', r', hL', hpts⟩, g, hgA, hgn, hBg⟩ := hR
    rw [hk] at hL'
    obtain ⟨rfl, rfl, rfl, rfl⟩ := lies_unique hL' hL
    refine ⟨.tuple #[.slice y.A y.pts.length y.pts.length, .int .i64 0], ?_, g, by rw [hgA, ← hpts], by omega, by rw [← hpts]; exact put_blk hBg hK rfl _, hbW.trans ⟨rfl, rfl, rfl, by simp, fun q hq => World.putObj_heap_other (by omega)⟩⟩
    simp [results, Tryz.f211, go_sem, c6, c7]
end Go.Proofs.YtffkmgjmlahfpaaGreat
set_option linter.unusedVariables false
set_option linter.unusedSimpArgs false
namespace Go.Proofs.YtffkmgjmlahfpaaGreat
open Go.RowKit
def S.ptBox (p : Pt) : Bx := ⟨p, p⟩
theorem join_self (p : Pt) : S.join (S.ptBox p) (S.ptBox p) = S.ptBox p := by simp [S.join, S.ptBox]
theorem hull_one (p : Pt) : S.hull (S.ptBox p) [S.ptBox p] = S.ptBox p := join_self p
set_option maxRecDepth 100000 in
set_option maxHeartbeats 2000000 in
theorem rhull_any (A : Option Addr) (n c : Nat) (ps : List Pt) (p0 : Pt) (B : Nat) (w : World) (hn : ps.length = n) (hm : n ≤ 1000000) (hB : B ≤ w.heap.size) (hs : Cells w B A (ps.flatMap ptC)) (h0 : ps[0]? = some p0) :
    Calls Tryz.prog 157 #[.slice A n c] w fun e w' => e = .returned (boxV (S.hull (S.ptBox p0) (ps.map S.ptBox))) ∧ Below w.heap.size w w' := by
  have hn0 : 0 < n := by have := (List.getElem?_eq_some_iff.1 h0).1; omega
  have hni : (0 : Int) < (n : Int) := by omega
  have HN := Lib.hid hn
  have HS := Lib.hid hs
  have hh1 : (ps.map S.ptBox).take 1 = [S.ptBox p0] := by
    obtain ⟨x, l, rfl⟩ : ∃ x l, ps = x :: l := by cases ps with
      | nil => simp at h0
      | cons x l => exact ⟨x, l, rfl⟩
    simp at h0
    subst h0
    simp
  have HH1 := Lib.hid hh1
  obtain ⟨b, o, rfl, hb, _⟩ := hs.at_ (by rw [flat_len ptC 3 ptC_len]; omega)
  obtain ⟨c0, c1, c2⟩ := hs.pts h0
  simp only [Nat.zero_mul, Nat.add_zero] at c0 c1 c2
  have hbw : b < w.heap.size := by omega
  clear hn hs h0 hh1
  go_enter Tryz.func157, Tryz.ntmps157
  go_wp2
  go_region
  go_wp2
  have hW : Below w.heap.size w ((w.alloc (.cells #[.int .i64 0, .int .i64 0, .int .i64 0, .int .i64 0, .int .i64 0, .int .i64 0] 89)).alloc (.cells #[.int .i64 p0.x, .int .i64 p0.y, .int .i64 p0.z, .int .i64 p0.x, .int .i64 p0.y, .int .i64 p0.z] 89)).drew := (by repeat (first | exact Below.refl _ _ | assumption | refine ba_alloc ?_ _ | refine ba_drew ?_ | refine ba_drewN ?_ _ | refine ba_via (by assumption) ?_ | (refine ba_set ?_ ?_ _; rotate_left; (first | omega | (simp; omega) | simp))))
  have hK0 : Blk ((w.alloc (.cells #[.int .i64 0, .int .i64 0, .int .i64 0, .int .i64 0, .int .i64 0, .int .i64 0] 89)).alloc (.cells #[.int .i64 p0.x, .int .i64 p0.y, .int .i64 p0.z, .int .i64 p0.x, .int .i64 p0.y, .int .i64 p0.z] 89)).drew (w.heap.size + 1) 89 #[.int .i64 p0.x, .int .i64 p0.y, .int .i64 p0.z, .int .i64 p0.x, .int .i64 p0.y, .int .i64 p0.z] := by
    have h6 : Blk ((w.alloc (.cells #[.int .i64 0, .int .i64 0, .int .i64 0, .int .i64 0, .int .i64 0, .int .i64 0] 89)).alloc (.cells #[.int .i64 p0.x, .int .i64 p0.y, .int .i64 p0.z, .int .i64 p0.x, .int .i64 p0.y, .int .i64 p0.z] 89)) (w.heap.size + 1) 89 #[.int .i64 p0.x, .int .i64 p0.y, .int .i64 p0.z, .int .i64 p0.x, .int .i64 p0.y, .int .i64 p0.z] := by simpa using Blk.new (w.alloc (.cells #[.int .i64 0, .int .i64 0, .int .i64 0, .int .i64 0, .int .i64 0, .int .i64 0] 89)) 89 #[.int .i64 p0.x, .int .i64 p0.y, .int .i64 p0.z, .int .i64 p0.x, .int .i64 p0.y, .int .i64 p0.z]
    exact h6
  have hR0 : Blk ((w.alloc (.cells #[.int .i64 0, .int .i64 0, .int .i64 0, .int .i64 0, .int .i64 0, .int .i64 0] 89)).alloc (.cells #[.int .i64 p0.x, .int .i64 p0.y, .int .i64 p0.z, .int .i64 p0.x, .int .i64 p0.y, .int .i64 p0.z] 89)).drew w.heap.size 89 #[.int .i64 0, .int .i64 0, .int .i64 0, .int .i64 0, .int .i64 0, .int .i64 0] := (Blk.new w _ _).alloc _
  have hC1 := HS.out.below (hW.mono hB)
  have hzW : ((w.alloc (.cells #[.int .i64 0, .int .i64 0, .int .i64 0, .int .i64 0, .int .i64 0, .int .i64 0] 89)).alloc (.cells #[.int .i64 p0.x, .int .i64 p0.y, .int .i64 p0.z, .int .i64 p0.x, .int .i64 p0.y, .int .i64 p0.z] 89)).drew.heap.size = w.heap.size + 2 := by simp
  have HR0 := Lib.hid hR0
  clear c0 c1 c2 hR0
  generalize ((w.alloc (.cells #[.int .i64 0, .int .i64 0, .int .i64 0, .int .i64 0, .int .i64 0, .int .i64 0] 89)).alloc (.cells #[.int .i64 p0.x, .int .i64 p0.y, .int .i64 p0.z, .int .i64 p0.x, .int .i64 p0.y, .int .i64 p0.z] 89)).drew = W1 at *
  go_loopw [4] (fun i wr => ∃ k : Nat, 1 ≤ k ∧ k ≤ n ∧ i = .int .i64 k ∧ Blk wr (w.heap.size + 1) 89 #[.int .i64 (S.hull (S.ptBox p0) ((ps.map S.ptBox).take k)).lo.x, .int .i64 (S.hull (S.ptBox p0) ((ps.map S.ptBox).take k)).lo.y, .int .i64 (S.hull (S.ptBox p0) ((ps.map S.ptBox).take k)).lo.z, .int .i64 (S.hull (S.ptBox p0) ((ps.map S.ptBox).take k)).hi.x, .int .i64 (S.hull (S.ptBox p0) ((ps.map S.ptBox).take k)).hi.y, .int .i64 (S.hull (S.ptBox p0) ((ps.map S.ptBox).take k)).hi.z] ∧ Exc [w.heap.size + 1] W1 wr) (fun i _ => n - (intOf i).toNat)
  case atStart => exact ⟨1, Nat.le_refl _, by omega, rfl, by rw [HH1.out, hull_one]; exact hK0, Exc.refl _ _⟩
  case round =>
    obtain ⟨k, hk1, hk, rfl, hK, hX⟩ := hrel
    have hsz := hX.size
    have hgr := hK.lt
    have k0 := hK.cell 0
    have k1 := hK.cell 1
    have k2 := hK.cell 2
    have k3 := hK.cell 3
    have k4 := hK.cell 4
    have k5 := hK.cell 5
    have f0 := hK.frozen 0
    have f1 := hK.frozen 1
    have f2 := hK.frozen 2
    have f3 := hK.frozen 3
    have f4 := hK.frozen 4
    have f5 := hK.frozen 5
    simp only [List.getElem?_toArray, List.getElem?_cons_zero, List.getElem?_cons_succ] at k0 k1 k2 k3 k4 k5
    by_cases hlt : k < n
    · have hkx : k < ps.length := by have := HN.out; omega
      obtain ⟨c0, c1, c2⟩ := (hC1.below (hX.below (by have := hW.size; omega) (by intro x hx; simp at hx; omega))).pts (List.getElem?_eq_getElem hkx)
      have HT := Lib.hid (show S.hull (S.ptBox p0) ((ps.map S.ptBox).take (k + 1)) = S.join (S.hull (S.ptBox p0) ((ps.map S.ptBox).take k)) (S.ptBox ps[k]) by rw [List.take_succ_eq_append_getElem (by simpa using hkx), hull_snoc, List.getElem_map])
      have hbr : b < wr.heap.size := by omega
      generalize (S.hull (S.ptBox p0) ((ps.map S.ptBox).take k)) = Hk at *
      generalize ps[k] = Y at *
      have hki : (k : Int) < (n : Int) := by omega
      go_wp2
      go_roundw
      case rel =>
        refine ⟨k + 1, by omega, by omega, by go_num, ?_, ?_⟩
        · rw [HT.out]
          have h6 := ((((((hK.set 0 (.int .i64 (S.join Hk (S.ptBox Y)).lo.x)).set 1 (.int .i64 (S.join Hk (S.ptBox Y)).lo.y)).set 2 (.int .i64 (S.join Hk (S.ptBox Y)).lo.z)).set 3 (.int .i64 (S.join Hk (S.ptBox Y)).hi.x)).set 4 (.int .i64 (S.join Hk (S.ptBox Y)).hi.y)).set 5 (.int .i64 (S.join Hk (S.ptBox Y)).hi.z)).alloc (.cells #[.int .i64 Y.x, .int .i64 Y.y, .int .i64 Y.z] 87)
          simp only [List.setIfInBounds_toArray, List.set_cons_zero, List.set_cons_succ] at h6
          exact h6
        · exact ((((((hX.set (.inl (by simp)) _).set (.inl (by simp)) _).set (.inl (by simp)) _).set (.inl (by simp)) _).set (.inl (by simp)) _).set (.inl (by simp)) _).alloc _
      case measure => simp [intOf]; omega
    · have he : k = n := by omega
      subst he
      have ht : (ps.map S.ptBox).take k = ps.map S.ptBox := List.take_of_length_le (by have := HN.out; simp; omega)
      rw [ht] at k0 k1 k2 k3 k4 k5
      have hRr : Blk wr w.heap.size 89 #[.int .i64 0, .int .i64 0, .int .i64 0, .int .i64 0, .int .i64 0, .int .i64 0] := (hX.block w.heap.size (by omega) (by simp)).trans HR0.out
      have z0 := hRr.cell 0
      have z1 := hRr.cell 1
      have z2 := hRr.cell 2
      have z3 := hRr.cell 3
      have z4 := hRr.cell 4
      have z5 := hRr.cell 5
      have y0 := hRr.frozen 0
      have y1 := hRr.frozen 1
      have y2 := hRr.frozen 2
      have y3 := hRr.frozen 3
      have y4 := hRr.frozen 4
      have y5 := hRr.frozen 5
      simp only [List.getElem?_toArray, List.getElem?_cons_zero, List.getElem?_cons_succ] at z0 z1 z2 z3 z4 z5
      have hrl := hRr.lt
      have hbel : Below w.heap.size w wr := hW.trans (hX.below (by omega) (by intro x hx; simp at hx; omega))
      clear hRr
      generalize hH : S.hull (S.ptBox p0) (ps.map S.ptBox) = Hk at *
      have HH := Lib.hid hH
      clear hH
      go_wp2
      exact bodyPost_ret (v := boxV Hk) (by simp [results, Tryz.results157, go_sem, *]) rfl ⟨by rw [HH.out], ((((((hbel.setCell (Nat.le_refl _) _).setCell (Nat.le_refl _) _).setCell (Nat.le_refl _) _).setCell (Nat.le_refl _) _).setCell (Nat.le_refl _) _).setCell (Nat.le_refl _) _)⟩
end Go.Proofs.YtffkmgjmlahfpaaGreat
set_option linter.unusedVariables false
set_option linter.unusedSimpArgs false
namespace Go.Proofs.YtffkmgjmlahfpaaGreat
open Go.RowKit
def S.legB (p q : Pt) : Bx := S.join (S.ptBox p) (S.ptBox q)
def S.ptD (l : List Pt) (k : Nat) : Pt := (l[k]?).getD ⟨0, 0, 0⟩
def S.legsTo (l : List Pt) (m : Nat) : List Bx := (List.range m).map fun k => S.legB (S.ptD l k) (S.ptD l (k + 1))
def S.legsL (l : List Pt) : List Bx := S.legsTo l (l.length - 1)
theorem legsTo_len (l : List Pt) (m : Nat) : (S.legsTo l m).length = m := by simp [S.legsTo]
theorem legsTo_snoc (l : List Pt) (m : Nat) : S.legsTo l (m + 1) = S.legsTo l m ++ [S.legB (S.ptD l m) (S.ptD l (m + 1))] := by simp [S.legsTo, List.range_succ]
theorem hull_two (p q : Pt) : S.hull (S.ptBox p) [S.ptBox p, S.ptBox q] = S.legB p q := by
  show S.join (S.join (S.ptBox p) (S.ptBox p)) (S.ptBox q) = _
  rw [join_self]
  rfl
theorem mnmx_eq (p q : Int) : (if q < p then q else p) = (if p < q then q else p) ↔ p = q := by
  split <;> split <;> omega
theorem mnmx_lt (p q : Int) : (if q < p then q else p) < (if p < q then q else p) ↔ p ≠ q := by
  split <;> split <;> omega
theorem isMainB_iff {b : Bx} : S.isMainB b = true ↔ b.lo.x < b.hi.x ∧ b.lo.y = b.hi.y ∧ b.lo.z = b.hi.z := by simp [S.isMainB, and_assoc]
theorem isMain_iff2 {p q : Pt} : S.isMain p q = true ↔ p.x ≠ q.x ∧ p.y = q.y ∧ p.z = q.z := by simp [S.isMain, and_assoc]
theorem legB_main (p q : Pt) : S.isMainB (S.legB p q) = S.isMain p q := by
  rw [Bool.eq_iff_iff, isMainB_iff, isMain_iff2]
  show (if q.x < p.x then q.x else p.x) < (if p.x < q.x then q.x else p.x) ∧ (if q.y < p.y then q.y else p.y) = (if p.y < q.y then q.y else p.y) ∧ (if q.z < p.z then q.z else p.z) = (if p.z < q.z then q.z else p.z) ↔ _
  rw [mnmx_lt, mnmx_eq, mnmx_eq]
theorem legB_box {p q : Pt} (h : S.isMain p q = true) : S.legB p q = S.legBx p q := by
  simp only [S.isMain, Bool.and_eq_true, decide_eq_true_eq, bne_iff_ne] at h
  obtain ⟨⟨h1, h2⟩, h3⟩ := h
  obtain ⟨px, py, pz⟩ := p
  obtain ⟨qx, qy, qz⟩ := q
  simp only [] at h1 h2 h3
  subst h2 h3
  simp only [S.legB, S.join, S.ptBox, S.legBx, S.lmn, S.lmx, Bx.mk.injEq, Pt.mk.injEq]
  simp
  exact ⟨rfl, rfl⟩
theorem mainTo_leg {l : List Pt} : ∀ {m : Nat}, m < l.length → (S.mainTo l m = none → ∀ k, k < m → S.isMainB (S.legB (S.ptD l k) (S.ptD l (k + 1))) = false) ∧
    (∀ b, S.mainTo l m = some b → ∃ j, j < m ∧ S.legB (S.ptD l j) (S.ptD l (j + 1)) = b ∧ S.isMainB b = true ∧ ∀ k, k < j → S.isMainB (S.legB (S.ptD l k) (S.ptD l (k + 1))) = false) := by
  intro m
  induction m with
  | zero => intro _; exact ⟨fun _ k hk => absurd hk (by omega), fun b h => by simp [S.mainTo] at h⟩
  | succ m ih =>
    intro hm
    obtain ⟨ih1, ih2⟩ := ih (by omega)
    have hp : l[m]? = some (S.ptD l m) := by simp [S.ptD, List.getElem?_eq_getElem (show m < l.length by omega)]
    have hq : l[m + 1]? = some (S.ptD l (m + 1)) := by simp [S.ptD, List.getElem?_eq_getElem hm]
    cases hc : S.mainTo l m with
    | some b =>
      have hs := mainTo_stay hc (m + 1) (by omega)
      refine ⟨fun h => (by rw [hs] at h; cases h), fun b' h => ?_⟩
      rw [hs] at h
      injection h with h
      subst h
      obtain ⟨j, h1, h2⟩ := ih2 b hc
      exact ⟨j, by omega, h2⟩
    | none =>
      have hs := mainTo_succ hc hp hq
      have hno := ih1 hc
      by_cases hx : S.isMain (S.ptD l m) (S.ptD l (m + 1)) = true
      · rw [if_pos hx] at hs
        refine ⟨fun h => (by rw [hs] at h; cases h), fun b h => ?_⟩
        rw [hs] at h
        injection h with h
        subst h
        exact ⟨m, by omega, legB_box hx, by rw [← legB_box hx, legB_main]; exact hx, hno⟩
      · rw [if_neg hx] at hs
        refine ⟨fun _ k hk => ?_, fun b h => by rw [hs] at h; cases h⟩
        by_cases hkm : k = m
        · subst hkm; rw [legB_main]; simpa using hx
        · exact hno k (by omega)
theorem legsL_get {l : List Pt} {k : Nat} (hk : k < l.length - 1) : (S.legsL l)[k]? = some (S.legB (S.ptD l k) (S.ptD l (k + 1))) := by
  unfold S.legsL S.legsTo
  rw [List.getElem?_map, List.getElem?_range hk]
  rfl
theorem main_none {l : List Pt} (hl : 0 < l.length) (h : S.mainLeg l = none) : idxf (S.legsL l) S.isMainB = -1 := by
  have h1 := (mainTo_leg (l := l) (m := l.length - 1) (by omega)).1 h
  refine idxf_miss (fun j hj => ?_)
  have hj' : j < l.length - 1 := by simpa [S.legsL, legsTo_len] using hj
  have := legsL_get hj'
  rw [List.getElem?_eq_getElem hj] at this
  injection this with this
  rw [this]
  exact h1 j hj'
theorem main_some {l : List Pt} {b : Bx} (hl : 0 < l.length) (h : S.mainLeg l = some b) : ∃ j : Nat, idxf (S.legsL l) S.isMainB = (j : Int) ∧ (S.legsL l)[j]? = some b ∧ j < l.length - 1 := by
  obtain ⟨j, hj, h1, h2, h3⟩ := (mainTo_leg (l := l) (m := l.length - 1) (by omega)).2 b h
  have hg := legsL_get hj
  obtain ⟨hj', he⟩ := List.getElem?_eq_some_iff.1 hg
  refine ⟨j, idxf_hit hj' (by rw [he, h1]; exact h2) (fun k hk hkj => ?_), by rw [hg, h1], hj⟩
  have hk' : k < l.length - 1 := by omega
  have := legsL_get hk'
  rw [List.getElem?_eq_getElem hk] at this
  injection this with this
  rw [this]
  exact h3 k hkj
end Go.Proofs.YtffkmgjmlahfpaaGreat
set_option linter.unusedVariables false
set_option linter.unusedSimpArgs false
namespace Go.Proofs.YtffkmgjmlahfpaaGreat
open Go.RowKit
theorem ptD_get {l : List Pt} {k : Nat} (h : k < l.length) : l[k]? = some (S.ptD l k) := by simp [S.ptD, List.getElem?_eq_getElem h]
theorem Cells.two {w : World} {B b o : Nat} {l : List Pt} (h : Cells w B (some ⟨b, o, none⟩) (l.flatMap ptC)) {k : Nat} (hk : k + 1 < l.length) : Cells w B (some ⟨b, o + k * 3, none⟩) ([S.ptD l k, S.ptD l (k + 1)].flatMap ptC) := by
  obtain ⟨b', o', he, hb, _⟩ := h.at_ (by rw [flat_len ptC 3 ptC_len]; omega)
  injection he with he
  injection he with h1 h2
  subst h1 h2
  obtain ⟨c0, c1, c2⟩ := h.pts (ptD_get (show k < l.length by omega))
  obtain ⟨d0, d1, d2⟩ := h.pts (ptD_get hk)
  refine .inr ⟨b, o + k * 3, rfl, hb, fun j v hv => ?_⟩
  have e : o + (k + 1) * 3 = o + k * 3 + 3 := by omega
  rw [e] at d0 d1 d2
  simp only [List.flatMap_cons, List.flatMap_nil, List.append_nil, List.cons_append, List.nil_append] at hv
  have hj : j < 6 := by
    have := (List.getElem?_eq_some_iff.1 hv).1
    simpa using this
  have : j = 0 ∨ j = 1 ∨ j = 2 ∨ j = 3 ∨ j = 4 ∨ j = 5 := by omega
  rcases this with rfl | rfl | rfl | rfl | rfl | rfl
  all_goals (simp only [List.getElem?_cons_zero, List.getElem?_cons_succ, Option.some.injEq] at hv; subst hv)
  · exact c0
  · exact c1
  · exact c2
  · exact d0
  · exact d1
  · exact d2
set_option maxRecDepth 20000 in
set_option maxHeartbeats 2000000 in
theorem rlegs16_any (l : List BarR) (rs : List Rn) (A : Option Addr) (n c : Nat) (A' : Option Addr) (n' c' : Nat) (B : Nat) (w : World) (hB : B ≤ w.heap.size) (hA : BarsAt w B A n l) (hR : RunsAt w B A' n' rs) (i k j k0 : Nat) (r : BarR) (hL : Lies l rs i k j k0 r) (L : Nat) (hLL : (S.legsOf r.b.code).length = L) :
    Calls Tryz.prog 95 #[.slice A n c, .slice A' n' c', .int .i64 i] w (GivesOne 89 6 L ((S.legsL (S.laidPath r.b (rs[k]'hL.st.lt) j)).flatMap boxC) w) := by
  have HP := Lib.hid (rpoints16_any l rs A n c A' n' c' B w hB hA hR i k j k0 r hL L hLL)
  have HLP := Lib.hid (show (S.laidPath r.b (rs[k]'hL.st.lt) j).length = L + 1 by rw [laidPath_len, hLL])
  have hl6 := legs_len r.b.code
  rw [hLL] at hl6
  clear hA hR
  generalize S.laidPath r.b (rs[k]'hL.st.lt) j = LP at *
  clear hL hLL
  have HLN := Lib.hid (show (S.legsL LP).length = L by rw [S.legsL, legsTo_len, HLP.out]; rfl)
  have HLL := Lib.hid (show S.legsL LP = S.legsTo LP L by rw [S.legsL, HLP.out]; rfl)
  have HLS := Lib.hid (fun m => legsTo_snoc LP m)
  have HTW := Lib.hid (fun (p q : Pt) (W : World) (A : Option Addr) (c B' : Nat) (hw : B' ≤ W.heap.size) (hs : Cells W B' A ([p, q].flatMap ptC)) => hull_two p q ▸ rhull_any A 2 c [p, q] p B' W rfl (by omega) hw hs rfl)
  go_enter Tryz.func95, Tryz.ntmps95
  go_wp2_with (first
    | (go_at_call 156; (with_reducible refine (HP.out).mono ?_); rintro e w1 ⟨Aw1, cw1, rfl, how1, hbw1⟩; obtain ⟨hcw1, hfw1⟩ := bcell hbw1))
  have hs1 := (own_cells how1 (by unfold maxLen; omega)).1
  have hcw := (own_cells how1 (by unfold maxLen; omega)).2.1
  have hbw : Below w.heap.size w w1 := hbw1
  clear hcw1 hfw1 how1
  go_loopw [8, 9] (fun v i wr => ∃ (q : Nat) (A3 : Option Addr) (c3 : Nat), q ≤ L ∧ i = .int .i64 ((q + 1 : Nat) : Int) ∧ v = .slice A3 q c3 ∧ Row w1 wr none w.heap.size 89 6 (.slice A3 q c3) q ((S.legsTo LP q).flatMap boxC) ∧ Exc [] w1 wr) (fun _ i _ => L + 1 - (intOf i).toNat)
  case atStart => exact ⟨0, none, 0, Nat.zero_le _, rfl, rfl, by simpa [S.legsTo] using Row.none_ _ _ _ _, Exc.refl _ _⟩
  case round =>
    obtain ⟨q, A3, c3, hq, rfl, rfl, hRW, hX⟩ := hrel
    have hbx : Below w1.heap.size w1 wr := hX.below (Nat.le_refl _) (by simp)
    have hsz := hbx.size
    by_cases hlt : q < L
    · have hs' := hs1.below hbx
      obtain ⟨b4, o4, rfl, hbl, _⟩ := hs'.at_ (by rw [flat_len ptC 3 ptC_len, HLP.out]; omega)
      have hs2 := Cells.two (k := q) hs' (by have := HLP.out; omega)
      have HTq := Lib.hid (fun (W : World) (A : Option Addr) (c B' : Nat) (hw : B' ≤ W.heap.size) (hs : Cells W B' A ([S.ptD LP q, S.ptD LP (q + 1)].flatMap ptC)) => HTW.out _ _ W A c B' hw hs)
      have HSq := Lib.hid (show (S.legsTo LP (q + 1)).flatMap boxC = (S.legsTo LP q).flatMap boxC ++ boxC (S.legB (S.ptD LP q) (S.ptD LP (q + 1))) by rw [HLS.out, List.flatMap_append]; simp)
      generalize S.legB (S.ptD LP q) (S.ptD LP (q + 1)) = X at *
      generalize [S.ptD LP q, S.ptD LP (q + 1)].flatMap ptC = P2 at *
      have hki : (q : Int) + 1 < (L : Int) + 1 := by omega
      have hq6 : q ≤ 6 := by omega
      have hcp : q + 1 + 1 ≤ cw1 := by omega
      have hcpi : (q : Int) + 1 + 1 ≤ (cw1 : Int) := by omega
      have e2 : q + 1 + 1 - q = 2 := by omega
      go_wp2_with (first
        | (go_at_call 157; (with_reducible refine (HTq.out _ _ _ _ (Nat.le_trans (Nat.le_refl _) hsz) hs2).mono ?_); rintro e w2 ⟨rfl, hbw2⟩; obtain ⟨hcw2, hfw2⟩ := bcell hbw2)
        | (at_builtin; refine wpList_push rfl (.tmp 20) (.tmp 28) _ rfl elemBx ((hRW.via hbw2).alloc _) ((Exc.via hbw2 hX).alloc _) (by simp) hbw.size rfl (w2.heap.size) 1 1 [.int .i64 X.lo.x, .int .i64 X.lo.y, .int .i64 X.lo.z, .int .i64 X.hi.x, .int .i64 X.hi.y, .int .i64 X.hi.z] rfl rfl ?_ (by simp [Value.oneCell']) (by unfold maxLen; omega) (by omega) ?_; (· intro j u hu; exact by have := (Cells.newRow w2 #[.int .i64 X.lo.x, .int .i64 X.lo.y, .int .i64 X.lo.z, .int .i64 X.hi.x, .int .i64 X.hi.y, .int .i64 X.hi.z] 89 (0, 0)).get (k := j) (v := u) hu; rwa [Nat.zero_add] at this); intro v' w' hR' hX' hO'))
      obtain ⟨A5, c5, rfl, _, _, _⟩ := own_form hR'.own
      go_roundw
      case rel => exact ⟨q + 1, A5, c5, by omega, by go_num, rfl, by rw [HSq.out]; exact hR', hX'⟩
      case measure => simp [intOf]; omega
    · have he : q = L := by omega
      subst he
      have hki : ¬ (q : Int) + 1 < (q : Int) + 1 := by omega
      go_wp2
      go_ret
      refine ⟨A3, c3, rfl, ?_, ba_via hbx hbw⟩
      have := hRW.own
      rwa [← HLL.out] at this
end Go.Proofs.YtffkmgjmlahfpaaGreat
set_option linter.unusedVariables false
set_option linter.unusedSimpArgs false
namespace Go.Proofs.YtffkmgjmlahfpaaGreat
open Go.RowKit
theorem right_pts {bs : List Bar} {r : Rn} {k0 : Nat} {b : Bar} (ho : RunOk bs r k0 b) (hr : S.right bs r = true) : S.rightPts b r = true := by
  unfold S.right at hr
  rw [Bool.and_eq_true, ho.at_] at hr
  exact hr.2
theorem laid_near {bs : List Bar} {r : Rn} {k0 : Nat} {b : Bar} (ho : RunOk bs r k0 b) (hr : S.right bs r = true) {n : Nat} (hn : (n : Int) < r.count) : S.near (S.laidPath b r n) 1048576 = true := by
  have hp := right_pts ho hr
  unfold S.rightPts at hp
  rw [Bool.and_eq_true, List.all_eq_true, List.all_eq_true] at hp
  rw [← laid_pts ho.turn ho.bar, List.all_eq_true]
  intro p hpm
  have h0 := hp.1 p hpm
  have h1 := hp.2 p hpm
  unfold S.ptOk S.laidPt at *
  by_cases hz : n = 0
  · subst hz
    exact h0
  · rw [if_pos (by omega)] at h1
    rw [if_neg (by omega)] at h0
    rw [if_pos (by omega)]
    generalize S.plus p r.at_ 1 = q at *
    obtain ⟨ax, ay, az⟩ := near1_out h0
    obtain ⟨bx, by', bz⟩ := near1_out h1
    rw [show S.plus q r.step n = ⟨q.x + n * r.step.x, q.y + n * r.step.y, q.z + n * r.step.z⟩ from rfl]
    have cx := conv ax bx (show (0 : Int) ≤ n by omega) (show (n : Int) ≤ r.count - 1 by omega)
    have cy := conv ay by' (show (0 : Int) ≤ n by omega) (show (n : Int) ≤ r.count - 1 by omega)
    have cz := conv az bz (show (0 : Int) ≤ n by omega) (show (n : Int) ≤ r.count - 1 by omega)
    simp only [S.near1, Bool.and_eq_true, decide_eq_true_eq]
    omega
theorem legB_ok {p q : Pt} (hp : S.near1 p 1048576 = true) (hq : S.near1 q 1048576 = true) : S.boxOk (S.legB p q) = true := by
  obtain ⟨ax, ay, az⟩ := near1_out hp
  obtain ⟨bx, by', bz⟩ := near1_out hq
  simp only [S.boxOk, S.okAx, Bool.and_eq_true, decide_eq_true_eq]
  show ((((if q.x < p.x then q.x else p.x) ≤ (if p.x < q.x then q.x else p.x) ∧ _ ≤ (if q.x < p.x then q.x else p.x)) ∧ (if p.x < q.x then q.x else p.x) ≤ _) ∧ (((if q.y < p.y then q.y else p.y) ≤ (if p.y < q.y then q.y else p.y) ∧ _ ≤ (if q.y < p.y then q.y else p.y)) ∧ (if p.y < q.y then q.y else p.y) ≤ _)) ∧ (((if q.z < p.z then q.z else p.z) ≤ (if p.z < q.z then q.z else p.z) ∧ _ ≤ (if q.z < p.z then q.z else p.z)) ∧ (if p.z < q.z then q.z else p.z) ≤ _)
  refine ⟨⟨⟨⟨?_, ?_⟩, ?_⟩, ⟨?_, ?_⟩, ?_⟩, ⟨?_, ?_⟩, ?_⟩ <;> (repeat' split) <;> omega
theorem main_ok {l : List Pt} (h : S.near l 1048576 = true) {b : Bx} (hb : S.mainLeg l = some b) : S.boxOk b = true := by
  have hl : 0 < l.length := by
    cases l with
    | nil => simp [S.mainLeg, S.mainTo] at hb
    | cons p r => simp
  obtain ⟨j, hj, he, _⟩ := (mainTo_leg (l := l) (m := l.length - 1) (by omega)).2 b hb
  subst he
  have h1 := near_in h (k := j) (by omega)
  have h2 := near_in h (k := j + 1) (by omega)
  have e1 : S.ptD l j = l[j]'(by omega) := by simp [S.ptD, List.getElem?_eq_getElem (show j < l.length by omega)]
  have e2 : S.ptD l (j + 1) = l[j + 1]'(by omega) := by simp [S.ptD, List.getElem?_eq_getElem (show j + 1 < l.length by omega)]
  rw [e1, e2]
  exact legB_ok h1 h2
theorem bar_size {b : Bar} (h : S.bar b = true) : S.size b.size = true := by
  simp only [S.bar, S.barHead, Bool.and_eq_true] at h
  simp_all
theorem mains_box {bs : List Bar} {rs : List Rn} (h : S.laid bs rs = true) {i : Nat} {m : Mn} (hm : (S.mains bs rs)[i]? = some m) : S.size m.size = true ∧ (m.has = true → S.boxOk m.leg = true) := by
  obtain ⟨hi, _⟩ := List.getElem?_eq_some_iff.1 hm
  obtain ⟨k, j, k0, b, hs⟩ := stands_of h hi
  have hg := hs.get
  rw [hm] at hg
  injection hg with hg
  subst hg
  have hr := h
  simp only [S.laid, Bool.and_eq_true] at hr
  have hR := runs_in hr.2 (List.getElem_mem hs.lt)
  have hn := laid_near hs.ok hR hs.inr
  have hlt := hs.lt
  cases hc : S.mainLeg (S.laidPath b (rs[k]'hlt) j) with
  | none => exact ⟨bar_size hs.ok.bar, fun h => by cases h⟩
  | some x => exact ⟨bar_size hs.ok.bar, fun _ => main_ok hn hc⟩
end Go.Proofs.YtffkmgjmlahfpaaGreat
set_option linter.unusedVariables false
set_option linter.unusedSimpArgs false
namespace Go.Proofs.YtffkmgjmlahfpaaGreat
open Go.RowKit
set_option maxRecDepth 20000 in
set_option maxHeartbeats 2000000 in
theorem lpoints_any (l : List Pt) (A : Option Addr) (n c : Nat) (B : Nat) (w : World) (hB : B ≤ w.heap.size) (hn : l.length = n) (hm : n ≤ 1000) (hs : Cells w B A (l.flatMap ptC)) :
    Calls Tryz.prog 213 #[.slice A n c] w (GivesOne 89 6 n ((l.map S.ptBox).flatMap boxC) w) := by
  have HN := Lib.hid hn
  have HT := Lib.hid (fun (k : Nat) (hk : k < l.length) => show ((l.take (k + 1)).map S.ptBox).flatMap boxC = ((l.take k).map S.ptBox).flatMap boxC ++ boxC (S.ptBox l[k]) from by
    rw [List.take_succ_eq_append_getElem hk, List.map_append, List.flatMap_append]
    simp)
  have HTK := Lib.hid (show l.take n = l from List.take_of_length_le (by omega))
  clear hn
  go_enter Tryz.func213, Tryz.ntmps213
  go_wp2
  go_loopw [3, 8] (fun v i wr => ∃ (q : Nat) (A3 : Option Addr) (c3 : Nat), q ≤ n ∧ i = .int .i64 q ∧ v = .slice A3 q c3 ∧ Row w wr none w.heap.size 89 6 (.slice A3 q c3) q (((l.take q).map S.ptBox).flatMap boxC) ∧ Exc [] w wr) (fun _ i _ => n - (intOf i).toNat)
  case atStart => exact ⟨0, none, 0, Nat.zero_le _, rfl, rfl, by simpa using Row.none_ _ _ _ _, Exc.refl _ _⟩
  case round =>
    obtain ⟨q, A3, c3, hq, rfl, rfl, hRW, hX⟩ := hrel
    have hbx : Below w.heap.size w wr := hX.below (Nat.le_refl _) (by simp)
    by_cases hlt : q < n
    · have hqx : q < l.length := by have := HN.out; omega
      have hqi : (q : Int) < n := by omega
      have hs' := hs.below (hbx.mono hB)
      obtain ⟨b, o, rfl, hbB, hxx⟩ := hs'.at_ (by rw [flat_len ptC 3 ptC_len]; omega)
      clear hxx
      have c0 := hs'.row0 ptC_len hqx rfl
      have c1 := hs'.rowj ptC_len hqx 1 rfl
      have c2 := hs'.rowj ptC_len hqx 2 rfl
      have hbl : b < wr.heap.size := by have := hbx.size; omega
      have HTQ := Lib.hid (HT.out q hqx)
      clear hs'
      generalize l[q] = p at *
      go_upto_region 5 with fail
      have hR2 := hRW.alloc (.cells #[.int .i64 p.x, .int .i64 p.y, .int .i64 p.z] 87)
      have hX2 := hX.alloc (.cells #[.int .i64 p.x, .int .i64 p.y, .int .i64 p.z] 87)
      have hB2 := Blk.new wr 87 #[.int .i64 p.x, .int .i64 p.y, .int .i64 p.z]
      generalize (wr.alloc (.cells #[.int .i64 p.x, .int .i64 p.y, .int .i64 p.z] 87)) = W2 at *
      have s0 := hB2.cell 0
      have s1 := hB2.cell 1
      have s2 := hB2.cell 2
      have sl := hB2.lt
      simp only [List.getElem?_toArray, List.getElem?_cons_zero, List.getElem?_cons_succ] at s0 s1 s2
      go_wp2_with (at_builtin; refine wpList_push rfl (.tmp 12) (.tmp 16) _ rfl elemBx (hR2.alloc _) (hX2.alloc _) (by simp) (Nat.le_refl _) rfl W2.heap.size 1 1 [.int .i64 p.x, .int .i64 p.y, .int .i64 p.z, .int .i64 p.x, .int .i64 p.y, .int .i64 p.z] rfl rfl ?_ (by simp [Value.oneCell']) (by unfold maxLen; omega) (by omega) ?_; (· intro j u hu; exact by have := (Cells.newRow W2 #[.int .i64 p.x, .int .i64 p.y, .int .i64 p.z, .int .i64 p.x, .int .i64 p.y, .int .i64 p.z] 89 (0, 0)).get (k := j) (v := u) hu; rwa [Nat.zero_add] at this); intro v' w' hR' hX' hO')
      obtain ⟨A5, c5, rfl, _, _, _⟩ := own_form hR'.own (by unfold maxLen; omega)
      go_roundw
      case rel => exact ⟨q + 1, A5, c5, by omega, by go_num, rfl, by rw [HTQ.out]; exact hR', hX'⟩
      case measure => simp [intOf]; omega
    · have he : q = n := by omega
      subst he
      go_wp2
      go_ret
      rw [HTK.out] at hRW
      exact ⟨A3, c3, rfl, hRW.own, hbx⟩
theorem ptBox_ok {p : Pt} (h : S.near1 p 1048576 = true) : S.boxOk (S.ptBox p) = true := by
  obtain ⟨ax, ay, az⟩ := near1_out h
  simp only [S.boxOk, S.okAx, Bool.and_eq_true, decide_eq_true_eq]
  refine ⟨⟨⟨⟨?_, ?_⟩, ?_⟩, ⟨?_, ?_⟩, ?_⟩, ⟨?_, ?_⟩, ?_⟩ <;> first | exact Int.le_refl _ | exact ax.1 | exact ax.2 | exact ay.1 | exact ay.2 | exact az.1 | exact az.2
set_option maxRecDepth 20000 in
set_option maxHeartbeats 4000000 in
theorem llegs_any (x : Dt) (i : Nat) (B : Nat) (w : World) (hB : B ≤ w.heap.size) (hA : DtAt w B x) (h : S.laid (bars x.bs) x.rs = true) {k j k0 : Nat} {r : BarR} (hL : Lies x.bs x.rs i k j k0 r) (L : Nat) (hLL : (S.legsOf r.b.code).length = L) :
    Calls Tryz.prog 147 #[.slice x.bA x.bn x.bc, .slice x.rA x.rn x.rc, .int .i64 i] w (GivesRow 89 6 L ((S.legsL (S.laidPath r.b (x.rs[k]'hL.st.lt) j)).flatMap boxC) 0 w) := by
  have HP := Lib.hid (fun (W : World) (hw : Below w.heap.size w W) => lpath_any x i B W (size_via hB hw) (hA.at_ hB hw) h hL)
  have hnear : S.near (S.laidPath r.b (x.rs[k]'hL.st.lt) j) 1048576 = true := by
    have hr := h
    simp only [S.laid, Bool.and_eq_true] at hr
    exact laid_near hL.st.ok (runs_in hr.2 (List.getElem_mem hL.st.lt)) hL.st.inr
  have HNR := Lib.hid (fun (q : Nat) (hq : q < (S.laidPath r.b (x.rs[k]'hL.st.lt) j).length) => show S.near1 (S.ptD (S.laidPath r.b (x.rs[k]'hL.st.lt) j) q) 1048576 = true from by
    have := near_in hnear hq
    simpa [S.ptD, List.getElem?_eq_getElem hq] using this)
  have HLP := Lib.hid (show (S.laidPath r.b (x.rs[k]'hL.st.lt) j).length = L + 1 by rw [laidPath_len, hLL])
  have hl6 := legs_len r.b.code
  rw [hLL] at hl6
  clear hA hnear
  generalize S.laidPath r.b (x.rs[k]'hL.st.lt) j = LP at *
  clear hL hLL h
  have HLL := Lib.hid (show S.legsL LP = S.legsTo LP L by rw [S.legsL, HLP.out]; rfl)
  have HLS := Lib.hid (fun m => legsTo_snoc LP m)
  have HTW := Lib.hid (fun (p q : Pt) (hp : S.near1 p 1048576 = true) (hq : S.near1 q 1048576 = true) (W : World) (A : Option Addr) (c B' : Nat) (hw : B' ≤ W.heap.size) (hs : Cells W B' A ([S.ptBox p, S.ptBox q].flatMap boxC)) =>
    hull_two p q ▸ bhull_yes A 2 c [S.ptBox p, S.ptBox q] (S.ptBox p) B' W rfl (by omega) hw hs rfl (by simp [anyb, S.boxNot, ptBox_ok hp, ptBox_ok hq]))
  rw [HLP.out] at HP
  unfold boxV at HTW
  go_enter Tryz.func147, Tryz.ntmps147
  go_wp2_with (first
    | (go_at_call 211; (with_reducible refine (HP.out _ (by repeat (with_reducible first | exact Below.refl _ _ | assumption | refine ba_alloc ?_ _ | refine ba_drew ?_ | refine ba_drewN ?_ _ | refine ba_via (by assumption) ?_ | (refine ba_set ?_ ?_ _; rotate_left; (first | omega | (simp; omega) | simp))))).mono ?_); rintro e w1 ⟨g1, rfl, hg1, hB1, hbw1⟩))
  have hs1 : Cells w1 w1.heap.size (some ⟨g1, 0, none⟩) (LP.flatMap ptC) := .inr ⟨g1, 0, rfl, hB1.lt, fun q v hv => by rw [Nat.zero_add]; exact (hB1.cell q).trans (by simpa using hv)⟩
  have hbw : Below w.heap.size w w1 := hbw1
  clear hbw1 hB1
  go_loopw [10, 11] (fun v i wr => ∃ (q : Nat) (A3 : Option Addr) (c3 : Nat), q ≤ L ∧ i = .int .i64 ((q + 1 : Nat) : Int) ∧ v = .slice A3 q c3 ∧ Row w1 wr none w.heap.size 89 6 (.slice A3 q c3) q ((S.legsTo LP q).flatMap boxC) ∧ Exc [] w1 wr) (fun _ i _ => L + 1 - (intOf i).toNat)
  case atStart => exact ⟨0, none, 0, Nat.zero_le _, rfl, rfl, by simpa [S.legsTo] using Row.none_ _ _ _ _, Exc.refl _ _⟩
  case round =>
    obtain ⟨q, A3, c3, hq, rfl, rfl, hRW, hX⟩ := hrel
    have hbx : Below w1.heap.size w1 wr := hX.below (Nat.le_refl _) (by simp)
    have hsz := hbx.size
    by_cases hlt : q < L
    · have hs' := hs1.below hbx
      have hs2 := Cells.two (k := q) hs' (by have := HLP.out; omega)
      have hp1 := HNR.out q (by have := HLP.out; omega)
      have hp2 := HNR.out (q + 1) (by have := HLP.out; omega)
      have HTq := Lib.hid (fun (W : World) (A : Option Addr) (c B' : Nat) (hw : B' ≤ W.heap.size) (hs : Cells W B' A (([S.ptD LP q, S.ptD LP (q + 1)].map S.ptBox).flatMap boxC)) => HTW.out _ _ hp1 hp2 W A c B' hw hs)
      have HPT := Lib.hid (fun (W : World) (hw : Below wr.heap.size wr W) (A : Option Addr) (c : Nat) (hs : Cells W w1.heap.size A ([S.ptD LP q, S.ptD LP (q + 1)].flatMap ptC)) => lpoints_any [S.ptD LP q, S.ptD LP (q + 1)] A 2 c w1.heap.size W (by have := hw.size; omega) rfl (by omega) hs)
      have HSq := Lib.hid (show (S.legsTo LP (q + 1)).flatMap boxC = (S.legsTo LP q).flatMap boxC ++ boxC (S.legB (S.ptD LP q) (S.ptD LP (q + 1))) by rw [HLS.out, List.flatMap_append]; simp)
      generalize S.legB (S.ptD LP q) (S.ptD LP (q + 1)) = X at *
      generalize ([S.ptD LP q, S.ptD LP (q + 1)].map S.ptBox).flatMap boxC = P3 at *
      generalize [S.ptD LP q, S.ptD LP (q + 1)].flatMap ptC = P2 at *
      have hki : (q : Int) + 1 < (L : Int) + 1 := by omega
      have hq6 : q ≤ 6 := by omega
      have hcp : q + 1 + 1 ≤ L + 1 := by omega
      have hcpi : (q : Int) + 1 + 1 ≤ (L : Int) + 1 := by omega
      have e2 : q + 1 + 1 - q = 2 := by omega
      clear hp1 hp2 hs'
      rw [Nat.zero_add] at hs2
      go_upto_region 9 with (first
        | (go_at_call 213; (with_reducible refine (HPT.out _ (by repeat (with_reducible first | exact Below.refl _ _ | assumption | refine ba_alloc ?_ _ | refine ba_drew ?_ | refine ba_drewN ?_ _ | refine ba_via (by assumption) ?_ | (refine ba_set ?_ ?_ _; rotate_left; (first | omega | (simp; omega) | simp)))) _ _ (hs2.below (Below.mono (by repeat (with_reducible first | exact Below.refl _ _ | assumption | refine ba_alloc ?_ _ | refine ba_drew ?_ | refine ba_drewN ?_ _ | refine ba_via (by assumption) ?_ | (refine ba_set ?_ ?_ _; rotate_left; (first | omega | (simp; omega) | simp)))) hsz))).mono ?_); rintro e w2 ⟨A2, c2, rfl, how2, hbw2⟩)
        | (go_at_call 212; (with_reducible refine (HTq.out _ _ _ _ (Nat.le_refl _) (own_cells how2 (by unfold maxLen; omega)).1).mono ?_); rintro e w3 ⟨rfl, hbw3⟩))
      have hb3 : Below wr.heap.size wr (w3.alloc (.cells #[.int .i64 X.lo.x, .int .i64 X.lo.y, .int .i64 X.lo.z, .int .i64 X.hi.x, .int .i64 X.hi.y, .int .i64 X.hi.z] 89)) := ba_alloc (ba_via hbw3 hbw2) _
      have hB3 := Blk.new w3 89 #[.int .i64 X.lo.x, .int .i64 X.lo.y, .int .i64 X.lo.z, .int .i64 X.hi.x, .int .i64 X.hi.y, .int .i64 X.hi.z]
      generalize (w3.alloc (.cells #[.int .i64 X.lo.x, .int .i64 X.lo.y, .int .i64 X.lo.z, .int .i64 X.hi.x, .int .i64 X.hi.y, .int .i64 X.hi.z] 89)) = W3 at *
      have s0 := hB3.cell 0
      have s1 := hB3.cell 1
      have s2 := hB3.cell 2
      have s3 := hB3.cell 3
      have s4 := hB3.cell 4
      have s5 := hB3.cell 5
      have sl := hB3.lt
      simp only [List.getElem?_toArray, List.getElem?_cons_zero, List.getElem?_cons_succ] at s0 s1 s2 s3 s4 s5
      have hR3 := hRW.via hb3
      have hX3 : Exc [] w1 W3 := Exc.via hb3 hX
      have hws := hbw.size
      clear hbw2 hbw3 how2
      go_wp2_with (at_builtin; refine wpList_push rfl (.tmp 44) (.tmp 46) _ rfl elemBx (hR3.alloc _) (hX3.alloc _) (by simp) hws rfl W3.heap.size 1 1 [.int .i64 X.lo.x, .int .i64 X.lo.y, .int .i64 X.lo.z, .int .i64 X.hi.x, .int .i64 X.hi.y, .int .i64 X.hi.z] rfl rfl ?_ (by simp [Value.oneCell']) (by unfold maxLen; omega) (by omega) ?_; (· intro j u hu; exact by have := (Cells.newRow W3 #[.int .i64 X.lo.x, .int .i64 X.lo.y, .int .i64 X.lo.z, .int .i64 X.hi.x, .int .i64 X.hi.y, .int .i64 X.hi.z] 89 (0, 0)).get (k := j) (v := u) hu; rwa [Nat.zero_add] at this); intro v' w' hR' hX' hO')
      obtain ⟨A5, c5, rfl, _, _, _⟩ := own_form hR'.own (by unfold maxLen; omega)
      go_roundw
      case rel => exact ⟨q + 1, A5, c5, by omega, by go_num, rfl, by rw [HSq.out]; exact hR', hX'⟩
      case measure => simp [intOf]; omega
    · have he : q = L := by omega
      subst he
      have hki : ¬ (q : Int) + 1 < (q : Int) + 1 := by omega
      go_wp2
      go_ret2
      refine ⟨A3, c3, rfl, ?_, ba_via hbx hbw⟩
      have := hRW.own
      rwa [← HLL.out] at this
set_option maxRecDepth 20000 in
set_option maxHeartbeats 4000000 in
theorem laidMark_any (x : Dt) (i : Nat) (B : Nat) (w : World) (hB : B ≤ w.heap.size) (hA : DtAt w B x) (h : S.laid (bars x.bs) x.rs = true) {k j k0 : Nat} {r : BarR} (hL : Lies x.bs x.rs i k j k0 r) :
    Calls Tryz.prog 146 #[.slice x.bA x.bn x.bc, .slice x.rA x.rn x.rc, .int .i64 i] w fun e w' => e = .returned (.tuple #[.string (x.rs[k]'hL.st.lt).mark, .int .i64 0]) ∧ Below w.heap.size w w' := by
  have HLV := Lib.hid (fun (W : World) (hw : Below w.heap.size w W) => h ▸ laid_any x.bs x.rs x.bA x.bn x.bc x.rA x.rn x.rc B W (size_via hB hw) (hA.at_ hB hw).bars (hA.at_ hB hw).runs)
  have hRc := hA.runs.cells
  have hrl := hA.runs.len
  have hrm := hA.runs.max
  have hlt := hL.st.lt
  have hsum := hL.st.sum
  have hinr := hL.st.inr
  have hlim := hL.lim
  have hcnt := hL.cnt
  have hc : ∀ q (hq : q < x.rs.length), 0 ≤ x.rs[q].count := fun q hq => (hcnt q hq).1
  have HSM := Lib.hid (fun (q : Nat) (hq : q ≤ k) => sumTo_mono (rs := x.rs) hc hq (by omega))
  have HSS := Lib.hid (fun (q : Nat) (hq : q < x.rs.length) => sumTo_succ x.rs hq)
  have HSZ := Lib.hid (fun (q : Nat) (hq : q ≤ x.rs.length) => sumTo_mono (rs := x.rs) hc (Nat.zero_le q) hq)
  have HCN := Lib.hid hcnt
  have HSUM := Lib.hid hsum
  have HS0 := Lib.hid (sumTo_zero x.rs)
  clear hA h hcnt hc hsum
  generalize x.rA = rA at *
  go_enter Tryz.func146, Tryz.ntmps146
  have hi0 : ¬ ((i : Int) < 0) := by omega
  go_wp2_with (first
    | (go_at_call 120; (with_reducible refine (HLV.out _ (by repeat (with_reducible first | exact Below.refl _ _ | assumption | refine ba_alloc ?_ _ | refine ba_drew ?_ | refine ba_drewN ?_ _ | refine ba_via (by assumption) ?_ | (refine ba_set ?_ ?_ _; rotate_left; (first | omega | (simp; omega) | simp))))).mono ?_); rintro e w1 ⟨rfl, hbw1⟩))
  go_loopw [2, 18] (fun v s wr => ∃ q : Nat, q ≤ k ∧ s = .int .i64 q ∧ v = .int .i64 ((i : Int) - S.sumTo x.rs q) ∧ Below w.heap.size w wr) (fun _ s _ => k + 1 - (intOf s).toNat)
  case atStart => exact ⟨0, Nat.zero_le _, rfl, by rw [HS0.out]; simp, hbw1⟩
  case round =>
    obtain ⟨q, hq, rfl, rfl, hbr⟩ := hrel
    have hqx : q < x.rs.length := by omega
    have hqi : (q : Int) < x.rn := by omega
    have hRr := hRc.below (hbr.mono hB)
    obtain ⟨bR, oR, hRe, hbR, hxx⟩ := hRr.at_ (by rw [flat_len rnC 10 rnC_len]; omega)
    clear hxx
    subst hRe
    have c0 := hRr.row0 rnC_len hqx rfl
    have d1 := hRr.rowj rnC_len hqx 1 rfl
    have d2 := hRr.rowj rnC_len hqx 2 rfl
    have d3 := hRr.rowj rnC_len hqx 3 rfl
    have d4 := hRr.rowj rnC_len hqx 4 rfl
    have d5 := hRr.rowj rnC_len hqx 5 rfl
    have d6 := hRr.rowj rnC_len hqx 6 rfl
    have d7 := hRr.rowj rnC_len hqx 7 rfl
    have d8 := hRr.rowj rnC_len hqx 8 rfl
    have d9 := hRr.rowj rnC_len hqx 9 rfl
    have hbl : bR < wr.heap.size := by have := hbr.size; omega
    have hz := HSZ.out q (by omega)
    have hsq := HSM.out q hq
    rw [HS0.out] at hz
    have HSQ := Lib.hid (HSS.out q hqx)
    have hcq := HCN.out q hqx
    by_cases hqk : q = k
    · subst hqk
      have hyes : ((i : Int) - S.sumTo x.rs q) < x.rs[q].count := by have := HSUM.out; omega
      clear hRr
      generalize S.sumTo x.rs q = sm at *
      generalize hrr : x.rs[q] = rr at *
      have HRR := Lib.hid hrr
      clear hrr
      go_wp2
      go_ret2
      exact ⟨by rw [HRR.out]; rfl, (by repeat (first | exact Below.refl _ _ | assumption | refine ba_alloc ?_ _ | refine ba_drew ?_ | refine ba_drewN ?_ _ | refine ba_via (by assumption) ?_ | (refine ba_set ?_ ?_ _; rotate_left; (first | omega | (simp; omega) | simp))))⟩
    · have hno : ¬ (((i : Int) - S.sumTo x.rs q) < x.rs[q].count) := by
        have h1 := HSM.out (q + 1) (by omega)
        have h2 := HSQ.out
        have h3 := HSUM.out
        omega
      have hqk2 : q < k := by omega
      have HN1 := Lib.hid (show S.sumTo x.rs (q + 1) = S.sumTo x.rs q + x.rs[q].count from HSQ.out)
      have hb1 := HSM.out (q + 1) (by omega)
      have hi1 := HSUM.out
      have e1 : IntKind.i64.wrap ((i : Int) - S.sumTo x.rs q - x.rs[q].count) = (i : Int) - S.sumTo x.rs q - x.rs[q].count := IntWalk.i64_in _ (by omega)
      clear hRr hqk hb1 hi1
      generalize S.sumTo x.rs q = sm at *
      generalize x.rs[q] = rr at *
      go_wp2
      go_roundw
      case rel => exact ⟨q + 1, by omega, by go_num, by rw [HN1.out]; congr 1; omega, (by repeat (first | exact Below.refl _ _ | assumption | refine ba_alloc ?_ _ | refine ba_drew ?_ | refine ba_drewN ?_ _ | refine ba_via (by assumption) ?_ | (refine ba_set ?_ ?_ _; rotate_left; (first | omega | (simp; omega) | simp))))⟩
      case measure => simp [intOf]; omega
end Go.Proofs.YtffkmgjmlahfpaaGreat
set_option linter.unusedVariables false
set_option linter.unusedSimpArgs false
namespace Go.Proofs.YtffkmgjmlahfpaaGreat
open Go.RowKit
/-- A laid bar: its line, its legs and where they lie, and the index of its main leg. -/
structure Rod where
  bar : BarR
  legs : List Bx
  A : Option Addr
  c : Nat
  main : Int
abbrev rodC (r : Rod) : List Value := [.string r.bar.b.mark, .int .i64 r.bar.b.size, .int .i64 r.bar.b.count, .int .i64 r.bar.b.code, .slice r.bar.A r.bar.n r.bar.c, .slice r.A r.legs.length r.c, .int .i64 r.main]
theorem rodC_len (r : Rod) : (rodC r).length = 7 := rfl
theorem elemRod : Elem Tryz.prog 145 160 (.agg #[.string ⟨#[]⟩, .int .i64 0, .int .i64 0, .int .i64 0, .slice none 0 0, .slice none 0 0, .int .i64 0]) 7 96 := ⟨Tryz.underlying145, by kernel_rfl, rfl, by decide⟩
/-- Rod i of a detail. -/
structure RodOk (x : Dt) (i : Nat) (r : Rod) : Prop where
  ex : ∃ k j k0, ∃ hL : Lies x.bs x.rs i k j k0 r.bar, r.legs = S.legsL (S.laidPath r.bar.b (x.rs[k]'hL.st.lt) j)
  main : r.main = idxf r.legs S.isMainB
/-- Its legs lie in a block of their own. -/
def LegsAt (w : World) (base : Nat) (v : Value) (r : Rod) : Prop :=
  ∃ (g : Nat) (cur : Array Value) (t : TypeId) (fr : Nat × Nat), r.A = some ⟨g, 0, none⟩ ∧ base ≤ g ∧ v.ownBlock ≠ some g ∧ w.heap[g]? = some (.cells cur t fr) ∧ ∀ (j : Nat) (u : Value), (r.legs.flatMap boxC)[j]? = some u → cur[j]? = some u
structure RodsAt (w : World) (base : Nat) (v : Value) (rs : List Rod) : Prop where
  own : w.ownsRow base 160 7 v rs.length (rs.flatMap rodC)
  each : ∀ r, r ∈ rs → LegsAt w base v r
def GivesRods (x : Dt) (n : Nat) (w : World) (e : Ending) (w' : World) : Prop :=
  ∃ (A : Option Addr) (c : Nat) (rs : List Rod), e = .returned (.tuple #[.slice A rs.length c, .int .i64 0]) ∧ rs.length = n ∧ (∀ (i : Nat) (hi : i < rs.length), RodOk x i rs[i]) ∧ RodsAt w' w.heap.size (.slice A rs.length c) rs ∧ Below w.heap.size w w'
theorem LegsAt.kept {w w2 : World} {base : Nat} {v : Value} {r : Rod} (h : LegsAt w base v r) (hb : Below w.heap.size w w2) : LegsAt w2 base v r := by
  obtain ⟨g, cur, t, fr, h1, h2, h3, h4, h5⟩ := h
  exact ⟨g, cur, t, fr, h1, h2, h3, (hb.block g (Array.getElem?_eq_some_iff.1 h4).1).trans h4, h5⟩
theorem RodsAt.kept {w w2 : World} {base : Nat} {v : Value} {rs : List Rod} (h : RodsAt w base v rs) (hb : Below w.heap.size w w2) : RodsAt w2 base v rs :=
  ⟨own_kept h.own (fun k hk => hb.block k (h.own.lt k hk).2), fun r hr => (h.each r hr).kept hb⟩
theorem RodsAt.push {w w2 : World} {base : Nat} {v v2 : Value} {rs : List Rod} {r : Rod} (h : RodsAt w base v rs) (hr : LegsAt w base v r)
    (hown : w2.ownsRow base 160 7 v2 (rs.length + 1) (rs.flatMap rodC ++ rodC r)) (hk : ∀ k, k < w.heap.size → v.ownBlock ≠ some k → w2.heap[k]? = w.heap[k]?) (hv : ∀ k, v2.ownBlock = some k → some k = v.ownBlock ∨ w.heap.size ≤ k) : RodsAt w2 base v2 (rs ++ [r]) := by
  refine ⟨by simpa using hown, fun q hq => ?_⟩
  have hq2 : LegsAt w base v q := by
    rcases List.mem_append.1 hq with hq | hq
    · exact h.each q hq
    · rw [List.mem_singleton] at hq
      subst hq
      exact hr
  obtain ⟨g, cur, t, fr, h1, h2, h3, h4, h5⟩ := hq2
  have hlt := (Array.getElem?_eq_some_iff.1 h4).1
  refine ⟨g, cur, t, fr, h1, h2, fun he => ?_, (hk g hlt h3).trans h4, h5⟩
  rcases hv g he with h6 | h6
  · exact h3 h6.symm
  · omega
theorem rmark_any (m : ByteArray) (r : BarR) (g : Nat) (w : World) (hc : w.cell? ⟨g, 0, none⟩ = some (.string m)) (hg : g < w.heap.size) :
    Calls Tryz.prog 149 #[barV r.b r.A r.n r.c, .pointer (some ⟨g, 0, none⟩)] w fun e w' => e = .returned (.bool (S.isMark m r.b)) ∧ Below w.heap.size w w' := by
  unfold barV
  go_enter Tryz.func149, Tryz.ntmps149
  go_wp2
  go_ret
  exact ⟨rfl, (by repeat (first | exact Below.refl _ _ | assumption | refine ba_alloc ?_ _ | refine ba_drew ?_ | refine ba_drewN ?_ _ | refine ba_via (by assumption) ?_ | (refine ba_set ?_ ?_ _; rotate_left; (first | omega | (simp; omega) | simp))))⟩
theorem rmain2_any (b : Bx) (w : World) : Calls Tryz.prog 151 #[boxV b] w fun e w' => e = .returned (.bool (S.isMainB b)) ∧ Below w.heap.size w w' := by
  have H := Lib.hid (show S.isMainB b = (decide (b.lo.x < b.hi.x) && decide (b.lo.y = b.hi.y) && decide (b.lo.z = b.hi.z)) from rfl)
  unfold boxV
  by_cases h1 : b.lo.x < b.hi.x
  · cases h2 : (b.lo.y == b.hi.y)
    · have h2' : ¬ (b.lo.y = b.hi.y) := by simpa using h2
      have HE := Lib.hid (show S.isMainB b = false by rw [H.out]; simp [h2'])
      clear h2'
      go_enter Tryz.func151, Tryz.ntmps151
      go_wp2
      go_ret
      exact ⟨ret_b HE.out.symm, (by repeat (first | exact Below.refl _ _ | assumption | refine ba_alloc ?_ _ | refine ba_drew ?_ | refine ba_drewN ?_ _ | refine ba_via (by assumption) ?_ | (refine ba_set ?_ ?_ _; rotate_left; (first | omega | (simp; omega) | simp))))⟩
    · have h2' : b.lo.y = b.hi.y := by simpa using h2
      cases h3 : (b.lo.z == b.hi.z)
      · have h3' : ¬ (b.lo.z = b.hi.z) := by simpa using h3
        have HE := Lib.hid (show S.isMainB b = false by rw [H.out]; simp [h3'])
        clear h2' h3'
        go_enter Tryz.func151, Tryz.ntmps151
        go_wp2
        go_ret
        exact ⟨ret_b HE.out.symm, (by repeat (first | exact Below.refl _ _ | assumption | refine ba_alloc ?_ _ | refine ba_drew ?_ | refine ba_drewN ?_ _ | refine ba_via (by assumption) ?_ | (refine ba_set ?_ ?_ _; rotate_left; (first | omega | (simp; omega) | simp))))⟩
      · have h3' : b.lo.z = b.hi.z := by simpa using h3
        have HE := Lib.hid (show S.isMainB b = true by rw [H.out]; simp [h1, h2', h3'])
        clear h2' h3'
        go_enter Tryz.func151, Tryz.ntmps151
        go_wp2
        go_ret
        exact ⟨ret_b HE.out.symm, (by repeat (first | exact Below.refl _ _ | assumption | refine ba_alloc ?_ _ | refine ba_drew ?_ | refine ba_drewN ?_ _ | refine ba_via (by assumption) ?_ | (refine ba_set ?_ ?_ _; rotate_left; (first | omega | (simp; omega) | simp))))⟩
  · have HE := Lib.hid (show S.isMainB b = false by rw [H.out]; simp [h1])
    go_enter Tryz.func151, Tryz.ntmps151
    go_wp2
    go_ret
    exact ⟨ret_b HE.out.symm, (by repeat (first | exact Below.refl _ _ | assumption | refine ba_alloc ?_ _ | refine ba_drew ?_ | refine ba_drewN ?_ _ | refine ba_via (by assumption) ?_ | (refine ba_set ?_ ?_ _; rotate_left; (first | omega | (simp; omega) | simp))))⟩
end Go.Proofs.YtffkmgjmlahfpaaGreat
