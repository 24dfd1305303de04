/- Lemmas. -/
import Derived.Sort.OwnSortedInts
import Derived.Lib.RowBridge
import Derived.Test.YtmfpbafpnoomeaaGreatMAB
import Derived.Test.YtmfpbafpnoomeaaGreatMX
import Derived.Test.YtmfpbafpnoomeaaGreatMS
set_option linter.unusedVariables false
set_option linter.unusedSimpArgs false
namespace Go.Proofs
open Go.Shelf
open Go.Sort Go.RowKit in
theorem Tryz.slices_Sort_int (blk off cap : Nat) (zs : List Int) (w : World) (hH : Holds (Value.int .i64) w blk off zs.toArray) (hblk : blk < w.heap.size) (hsz : zs.length < 4611686018427387904) :
 Calls Tryz.prog 71 #[.slice (some ⟨blk, off, none⟩) zs.length cap] w fun e w' =>
  e = .returned (.tuple #[]) /\ ∃ n os, w' = grow (putRow (Value.int .i64) (Sort.ahead w n) blk off (zs.mergeSort fun x y => decide (x <= y)).toArray) os := Any.slices_Sort_int Tryz.lays189 blk off cap zs w hH hblk hsz
end Go.Proofs
namespace Go.Proofs.YtmfpbafpnoomeaaGreat
open Go.RowKit Go.Sort
def S.sortI (zs : List Int) : List Int := zs.mergeSort fun x y => decide (x <= y)
theorem sortI_len (zs : List Int) : (S.sortI zs).length = zs.length := by simp [S.sortI]
theorem sort_own (zs : List Int) (v : Value) (n base : Nat) (w : World) (ho : w.ownsRow base 3 1 v n (i64s zs)) (hm : n <= 1000000) :
 Calls Tryz.prog 71 #[v] w fun e w' => e = .returned (.tuple #[]) /\ w'.ownsRow base 3 1 v n (i64s (S.sortI zs)) /\ Exc v.ownBlock.toList w w' := by
 have hl : zs.length = n := by have := ho.1; simpa using this
 rcases ho.2 with ⟨rfl, rfl⟩ | ⟨g, cap, cur, rfl, hg, hb, hn, hcap, hsz, htk⟩
 ·have hz : zs = [] := List.eq_nil_of_length_eq_zero hl
  subst hz
  refine (Any.slices_Sort_int_none Tryz.lays189 none 0 w).mono ?_
  rintro e w' ⟨rfl, rfl⟩
  exact ⟨rfl, by simpa [S.sortI] using ho, Exc.refl _ _⟩
 ·have hblk : g < w.heap.size := (Array.getElem?_eq_some_iff.1 hb).1
  have h := Tryz.slices_Sort_int g 0 cap zs w (holds_of_blockI hb (by rw [hl]; simpa using htk)) hblk (by omega)
  rw [hl] at h
  refine h.mono ?_
  rintro e w' ⟨rfl, k, os, rfl⟩
  refine ⟨rfl, ?_, Exc.grown (Exc.refl _ _) (grownBy_sortedI _) (fun k hk => .inl (by cases hk; simp [Value.ownBlock]))⟩
  have := ownsRow_sortedI (n := k) (os := os) (ss := zs) (ts := S.sortI zs) (sortI_len zs) hg hb (by omega) hcap hsz
  rw [hl] at this
  exact this
theorem own_cut {w : World} {base E size : Nat} {A : Option Addr} {n c m : Nat} {xs : List Value} (h : w.ownsRow base E size (.slice A n c) n xs) (hm : m <= n) : w.ownsRow base E size (.slice A m c) m (xs.take (m * size)) := by
 refine ⟨by rw [List.length_take, h.1]; exact Nat.min_eq_left (Nat.mul_le_mul_right _ hm), ?_⟩
 rcases h.2 with ⟨hv, rfl⟩ | ⟨g, cap, cur, hv, hg, hb, hn, hcap, hsz, htk⟩
 ·obtain rfl : m = 0 := by omega
  injection hv with h1 h2 h3
  subst h1 h3
  exact .inl ⟨rfl, rfl⟩
 ·injection hv with h1 h2 h3
  subst h1 h3
  exact .inr ⟨g, c, cur, rfl, hg, hb, by omega, hcap, hsz, by rw [<- htk, List.take_take, Nat.min_eq_left (Nat.mul_le_mul_right _ hm)]⟩
theorem grow_none (w : World) : Go.Sort.grow w #[] = w := by simp [Go.Sort.grow]
theorem compact_own (zs : List Int) (A : Option Addr) (c : Nat) (n base : Nat) (w : World) (ho : w.ownsRow base 3 1 (.slice A n c) n (i64s zs)) (hm : n <= 1000000) :
 Calls Tryz.prog 72 #[.slice A n c] w fun e w' => e = .returned (.slice A (Go.Lib.compact zs).length c) /\ w'.ownsRow base 3 1 (.slice A (Go.Lib.compact zs).length c) (Go.Lib.compact zs).length (i64s (Go.Lib.compact zs)) /\ Exc (Value.slice A n c).ownBlock.toList w w' := by
 have hl : zs.length = n := by have := ho.1; simpa using this
 rcases ho.2 with ⟨hv, rfl⟩ | ⟨g, cap, cur, hv, hg, hb, hn, hcap, hsz, htk⟩
 ·injection hv with h1 h2 h3
  subst h1 h3
  have hz : zs = [] := List.eq_nil_of_length_eq_zero hl
  subst hz
  refine (Any.slices_Compact_int_empty Tryz.lays220 none 0 w).mono ?_
  rintro e w' ⟨rfl, rfl⟩
  exact ⟨rfl, ho, Exc.refl _ _⟩
 ·injection hv with h1 h2 h3
  subst h1 h3
  have h := Any.slices_Compact_int Tryz.lays220 g 0 c zs w (holds_of_blockI hb (by rw [hl]; simpa using htk)) (by omega) (by omega)
  rw [hl] at h
  refine h.mono ?_
  rintro e w' ⟨rfl, q, rfl⟩
  have hle := Go.Lib.compact_length_le zs
  have hgr := grownBy_sortedI (w := w) (g := g) (n := q) (os := #[]) (Go.Lib.compact zs ++ List.replicate (n - (Go.Lib.compact zs).length) 0).toArray
  have hown := ownsRow_sortedI (n := q) (os := #[]) (ss := zs) (ts := Go.Lib.compact zs ++ List.replicate (n - (Go.Lib.compact zs).length) 0) (by simp; omega) hg hb (by omega) hcap hsz
  rw [grow_none] at hgr hown
  refine ⟨rfl, ?_, Exc.grown (Exc.refl _ _) hgr (fun k hk => .inl (by cases hk; simp [Value.ownBlock]))⟩
  rw [hl] at hown
  have h2 := own_cut hown (m := (Go.Lib.compact zs).length) (by omega)
  rw [Nat.mul_one, List.map_append, List.take_left' (by simp)] at h2
  exact h2
end Go.Proofs.YtmfpbafpnoomeaaGreat
namespace Go.Proofs.YtmfpbafpnoomeaaGreat
open Go.RowKit
theorem elemSt : Elem Tryz.prog 79 136 (.agg #[.int .i64 0, .int .i64 0]) 2 16 := ⟨Tryz.underlying79, by kernel_rfl, rfl, by decide⟩
def S.shortStF (l : List Stp) : Int × List Stp := l.foldl (fun x s => (s.val, if s.val = x.1 then x.2 else x.2 ++ [s])) (0, [])
def S.shortSt (l : List Stp) : List Stp := (S.shortStF l).2
theorem shortStF_next {l : List Stp} {k : Nat} (h : k < l.length) : S.shortStF (l.take (k + 1)) = (l[k].val, if l[k].val = (S.shortStF (l.take k)).1 then (S.shortStF (l.take k)).2 else (S.shortStF (l.take k)).2 ++ [l[k]]) := by
 have e : l.take (k + 1) = l.take k ++ [l[k]] := by rw [List.take_add_one, List.getElem?_eq_getElem h]; rfl
 unfold S.shortStF
 rw [e, List.foldl_append]
 rfl
theorem shortStF_len (l : List Stp) : (S.shortStF l).2.length <= l.length := by
 suffices hs : ∀ (l : List Stp) (x : Int × List Stp), (l.foldl (fun x s => (s.val, if s.val = x.1 then x.2 else x.2 ++ [s])) x).2.length <= x.2.length + l.length by
  have := hs l (0, [])
  unfold S.shortStF
  simpa using this
 intro l
 induction l with
 | nil => intro x; simp
 | cons s t ih =>
  intro x
  simp only [List.foldl_cons, List.length_cons]
  have h1 := ih (s.val, if s.val = x.1 then x.2 else x.2 ++ [s])
  have h2 : (if s.val = x.1 then x.2 else x.2 ++ [s]).length <= x.2.length + 1 := by split <;> simp
  simp only [] at h1
  generalize (if s.val = x.1 then x.2 else x.2 ++ [s]) = y at *
  generalize (List.foldl (fun x s => (s.val, if s.val = x.1 then x.2 else x.2 ++ [s])) (s.val, y) t).2.length = z at *
  omega
set_option maxHeartbeats 2000000 in
theorem short_any' (l : List Stp) (A : Option Addr) (n c : Nat) (B : Nat) (w : World) (hB : B <= w.heap.size) (hA : StepsAt w B A n l) (hm : n <= 10000) :
 Calls Tryz.prog 135 #[.slice A n c] w fun e w' => ∃ (A' : Option Addr) (c' : Nat), e = .returned (.slice A' (S.shortSt l).length c') /\ w'.ownsRow w.heap.size 136 2 (.slice A' (S.shortSt l).length c') (S.shortSt l).length ((S.shortSt l).flatMap stC) /\ Below w.heap.size w w' := by
 have HN := lh hA.len
 have hs := hA.cells
 clear hA
 go_enter Tryz.func135, Tryz.ntmps135
 go_wp2
 go_loopw [3, 4, 9] (fun v u i wr => ∃ k : Nat, k <= n /\ i = .int .i64 k /\ ∃ (la : Int) (out : List Stp), u = .int .i64 la /\ Hid ((la, out) = S.shortStF (l.take k)) /\ Row w wr none w.heap.size 136 2 v out.length (out.flatMap stC) /\ Exc [] w wr) (fun _ _ i _ => n - (intOf i).toNat)
 case atStart => exact ⟨0, Nat.zero_le _, rfl, 0, [], rfl, lh rfl, Row.none_ _ _ _ _, Exc.refl _ _⟩
 case round =>
  obtain ⟨k, hk, rfl, la, out, rfl, hu, hR, hX⟩ := hrel
  have hbr : Below w.heap.size w wr := hX.below (Nat.le_refl _) (by simp)
  by_cases hlt : k < n
  ·have hkx : k < l.length := by have := HN.out; omega
   have hs' := hs.below (hbr.mono hB)
   obtain ⟨b, o, rfl, hbB, hx⟩ := hs'.at_ (by rw [flat_len stC 2 stC_len]; omega)
   clear hx
   have c0 := hs'.row0 stC_len hkx rfl
   have c1 := hs'.rowj stC_len hkx 1 rfl
   clear hs'
   have hbl : b < wr.heap.size := by have := hbr.size; omega
   have hki : (k : Int) < n := by omega
   have HV := lh (shortStF_next hkx)
   have hol : out.length <= 10000 := by
    have h1 := shortStF_len (l.take k)
    rw [<- hu.out, List.length_take] at h1
    simp only [] at h1
    omega
   rw [<- hu.out] at HV
   generalize l[k] = r at *
   by_cases h1 : r.val = la
   ·have hb1 : (r.val != la) = false := by simp [h1]
    have HV2 := lh (HV.out.trans (by rw [if_pos h1]))
    clear h1
    go_wp2
    go_roundw
    case rel => exact ⟨k + 1, by omega, by go_num, r.val, out, rfl, lh HV2.out.symm, Row.alloc hR _, hX.alloc _⟩
    case measure => simp [intOf]; omega
   ·have hb1 : (r.val != la) = true := by simp [h1]
    have HV2 := lh (HV.out.trans (by rw [if_neg h1]))
    clear h1
    go_upto_region 6 with fail
    have hS := Blk.new wr 136 #[.int .i64 r.fro, .int .i64 r.val]
    have hR1 := hR.alloc (.cells #[.int .i64 r.fro, .int .i64 r.val] 136)
    have hX1 := hX.alloc (.cells #[.int .i64 r.fro, .int .i64 r.val] 136)
    generalize (wr.alloc (.cells #[.int .i64 r.fro, .int .i64 r.val] 136)) = W1 at *
    have x0 := hS.cell 0
    have x1 := hS.cell 1
    have xl := hS.lt
    simp only [ga1, ga2, ga3] at x0 x1
    have HR1 := lh hR1
    have HS := lh hS
    have HX1 := lh hX1
    have hss := hX.size
    have HLT := lh hR.own.lt
    generalize wr.heap.size = gs at *
    have hbE : w.heap.size <= W1.heap.size := by omega
    clear hR hX hR1 hX1 hbr c0 c1 hbl
    go_wp2_with (at_builtin; refine wpList_push rfl (.tmp 17) (.tmp 19) _ rfl elemSt (HR1.out.alloc _) (HX1.out.alloc _) (by simp) (Nat.le_refl _) rfl W1.heap.size 1 1 [.int .i64 r.fro, .int .i64 r.val] rfl rfl ?_ (by simp [Value.oneCell']) (by unfold maxLen; omega) (by omega) ?_; (· intro j u hu; have := (Cells.newRow W1 #[.int .i64 r.fro, .int .i64 r.val] 136 (0, 0)).get (k := j) (v := u) hu; simpa using this); intro v2 wE hRE hXE hOE; have y1 := (hOE gs (by simp; omega) (fun he => by have := (HLT.out gs he).2; omega)).trans (Below.heap_alloc _ _ gs xl); have hSE : Blk wE gs 136 #[.int .i64 r.fro, .int .i64 r.val] := y1.trans HS.out; have x1E := hSE.cell 1; have xlE := hSE.lt; simp only [ga1, ga2, ga3] at x1E; clear hSE y1)
    go_roundw
    case rel => exact ⟨k + 1, by omega, by go_num, r.val, out ++ [r], rfl, lh HV2.out.symm, by simpa using hRE, hXE⟩
    case measure => simp [intOf]; omega
  ·have hr2 := hR.own
   have HE := lh (show out = S.shortSt l by have := hu.out; rw [List.take_of_length_le (by have := HN.out; omega)] at this; unfold S.shortSt; rw [<- this])
   clear hu
   have hol : out.length <= 10000 := by
    rw [HE.out]
    have h1 := shortStF_len l
    have := HN.out
    unfold S.shortSt
    omega
   obtain ⟨A5, c5, rfl, _, _, _⟩ := own_form hr2 (by unfold maxLen; omega)
   go_wp2
   go_ret
   rw [<- HE.out]
   exact ⟨A5, c5, rfl, hr2, hbr⟩
theorem Short_any (l : List Stp) (A : Option Addr) (n c : Nat) (B : Nat) (w : World) (hB : B <= w.heap.size) (hA : StepsAt w B A n l) (hm : n <= 10000) (h : S.steps l = true) :
 Calls Tryz.prog 95 #[.slice A n c] w fun e w' => ∃ (A' : Option Addr) (c' : Nat), e = .returned (.tuple #[.slice A' (S.shortSt l).length c', .int .i64 0]) /\ w'.ownsRow w.heap.size 136 2 (.slice A' (S.shortSt l).length c') (S.shortSt l).length ((S.shortSt l).flatMap stC) /\ Below w.heap.size w w' := by
 have HV := lh (fun (W : World) (hw : Below w.heap.size w W) => h ▸ steps_any l A n c B W (dsize hB hw) (hA.below (hw.mono hB)))
 have HT := lh (fun (W : World) (hw : Below w.heap.size w W) => short_any' l A n c B W (dsize hB hw) (hA.below (hw.mono hB)) hm)
 clear hA h
 go_enter Tryz.func95, Tryz.ntmps95
 go_wp2_with (first
  | (go_at_call 76; (with_reducible refine (HV.out _ belr).mono ?_); rintro e w1 ⟨rfl, hbw1⟩; obtain ⟨hcw1, hfw1⟩ := bcell hbw1)
  | (go_at_call 135; (with_reducible refine (HT.out _ belr).mono ?_); rintro e w2 ⟨A2, c2, rfl, ho2, hbw2⟩))
 go_ret2
 exact ⟨A2, c2, rfl, own_mono ho2 hbw1.size, bel⟩
def S.ascend (l : List Stp) : Prop := ∀ (i j : Nat) (hi : i < l.length) (hj : j < l.length), i < j -> l[i].fro < l[j].fro
theorem steps_ascend {l : List Stp} (h : S.steps l = true) : S.ascend l := by
 simp only [S.steps, Bool.and_eq_true, List.all_eq_true, List.mem_range] at h
 have h1 : ∀ (j : Nat) (hj : j + 1 < l.length), l[j].fro < l[j + 1].fro := fun j hj => by
  have := h.2 (j + 1) hj
  unfold S.stepAt at this
  rw [List.getElem?_eq_getElem hj] at this
  simp only [List.getElem?_eq_getElem (show j < l.length by omega), Bool.and_eq_true, decide_eq_true_eq] at this
  exact this.2
 intro i j hi hj hij
 induction j with
 | zero => omega
 | succ j ih =>
  by_cases e : i = j
  ·subst e; exact h1 i hj
  ·have := ih (by omega) (by omega)
   have := h1 j hj
   omega
def S.upTo (x : Int) (l : List Stp) : Nat := l.countP (fun s => decide (s.fro <= x))
theorem upTo_eq {x : Int} {l : List Stp} {k : Nat} (hk : k <= l.length) (h1 : ∀ i (hi : i < l.length), i < k -> l[i].fro <= x) (h2 : ∀ i (hi : i < l.length), k <= i -> x < l[i].fro) : S.upTo x l = k := by
 have e : l = l.take k ++ l.drop k := (List.take_append_drop k l).symm
 unfold S.upTo
 rw [e, List.countP_append, List.countP_eq_length.2, List.countP_eq_zero.2, List.length_take]
 ·omega
 ·intro s hs
  obtain ⟨i, hi, rfl⟩ := List.mem_iff_getElem.1 hs
  rw [List.length_drop] at hi
  rw [List.getElem_drop]
  have := h2 (k + i) (by omega) (by omega)
  simpa using this
 ·intro s hs
  obtain ⟨i, hi, rfl⟩ := List.mem_iff_getElem.1 hs
  rw [List.length_take] at hi
  rw [List.getElem_take]
  have := h1 i (by omega) (by omega)
  simpa using this
def S.valueOf (x : Int) (l : List Stp) : Int := match S.upTo x l with
 | 0 => 0
 | k + 1 => match l[k]? with | some s => s.val | none => 0
theorem at1_any (l : List Stp) (x : Int) (k : Nat) (hk : k < l.length) (g g2 : Nat) (A : Option Addr) (n c : Nat) (B : Nat) (w : World) (hB : B <= w.heap.size) (hn : l.length = n) (hg : w.cell? ⟨g, 0, none⟩ = some (.slice A n c)) (hg2 : w.cell? ⟨g2, 0, none⟩ = some (.int .i64 x)) (hl : g < w.heap.size) (hl2 : g2 < w.heap.size) (hs : Cells w B A (l.flatMap stC)) :
 Calls Tryz.prog 105 #[.int .i64 k, .pointer (some ⟨g, 0, none⟩), .pointer (some ⟨g2, 0, none⟩)] w fun e w' => e = .returned (.bool (decide (x < l[k].fro))) /\ Below w.heap.size w w' := by
 obtain ⟨b, o, hA, hbB, hx⟩ := hs.at_ (by rw [flat_len stC 2 stC_len]; omega)
 clear hx
 rw [hA] at hs hg
 have c0 := hs.row0 stC_len hk rfl
 have hbl : b < w.heap.size := by omega
 have hki : (k : Int) < n := by omega
 generalize l[k] = r at *
 clear hs hA hn hk
 go_enter Tryz.func105, Tryz.ntmps105
 go_upto_region 1 with fail
 refine wp_region_mix 7 [] (by kernel_rfl) (by kernel_rfl) (of_decide_eq_true (by kernel_rfl)) ?_
 try simp only [wpSegs, gt1, gt2, gt3, gt4, List.take_nil, List.drop_nil]
 repeat (go_big_quiet_step (fail))
 refine wpQuiet_nil ?_
 show wpList _ _ _ _ _ _
 go_wp2
 go_ret
 exact ⟨rfl, bel⟩
set_option maxHeartbeats 1000000 in
theorem search_any (l : List Stp) (x : Int) (g g2 : Nat) (n : Nat) (w : World) (hn : l.length = n) (hm : n <= 1000000) (ha : S.ascend l)
 (hf : ∀ (k : Nat) (hk : k < l.length) (w' : World), Below w.heap.size w w' -> Calls Tryz.prog 105 #[.int .i64 k, .pointer (some ⟨g, 0, none⟩), .pointer (some ⟨g2, 0, none⟩)] w' fun e w'' => e = .returned (.bool (decide (x < l[k].fro))) /\ Below w'.heap.size w' w'') :
 Calls Tryz.prog 104 #[.int .i64 n, .func (.func 105) #[] #[.pointer (some ⟨g, 0, none⟩), .pointer (some ⟨g2, 0, none⟩)]] w fun e w' => e = .returned (.int .i64 (S.upTo x l)) /\ Below w.heap.size w w' := by
 have HN := lh hn
 have HF := lh hf
 have HA := lh ha
 have hF := Tryz.call105
 clear hn hf ha
 go_enter Tryz.func104, Tryz.ntmps104
 go_wp2
 go_loopw [5, 6] (fun u v wr => ∃ i j : Nat, i <= j /\ j <= n /\ u = .int .i64 i /\ v = .int .i64 j /\ Hid (∀ q (hq : q < l.length), q < i -> l[q].fro <= x) /\ Hid (∀ q (hq : q < l.length), j <= q -> x < l[q].fro) /\ Below w.heap.size w wr) (fun u v _ => (intOf v).toNat - (intOf u).toNat)
 case atStart => exact ⟨0, n, Nat.zero_le _, Nat.le_refl _, rfl, rfl, lh fun q _ hq => absurd hq (by omega), lh fun q hq hnq => absurd hq (by have := HN.out; omega), Below.refl _ _⟩
 case round =>
  obtain ⟨i, j, hij, hj, rfl, rfl, h1, h2, hbr⟩ := hrel
  by_cases hlt : i < j
  ·have hlti : (i : Int) < j := by omega
   obtain ⟨m, hmm⟩ : ∃ m : Nat, m = (i + j) / 2 := ⟨_, rfl⟩
   have hmi : i <= m := by omega
   have hmj : m < j := by omega
   have hml : m < l.length := by have := HN.out; omega
   have HFm := lh (fun (W : World) (hw : Below w.heap.size w W) => HF.out m hml W hw)
   have HM := lh hmm
   have hin : (m : Int) <= 1000000 := by omega
   go_upto_region 4 with fail
   rw [show ((i : Int) + (j : Int)) / 2 = (m : Int) by omega]
   have HAA := lh (fun q (hq : q < l.length) => HA.out q m hq hml)
   have HAB := lh (fun q (hq : q < l.length) => HA.out m q hml hq)
   clear hmm
   cases hc : decide (x < l[m].fro)
   ·have HC := lh (of_decide_eq_false hc)
    rw [hc] at HFm
    clear hc
    go_wp2_with (first | (refine (HFm.out _ hbr).mono ?_; rintro e w1 ⟨rfl, hbw1⟩))
    go_roundw
    case rel =>
     refine ⟨m + 1, j, by omega, hj, by go_num, rfl, lh fun q hq hqm => ?_, h2, bel⟩
     have := HC.out
     by_cases e : q = m
     ·subst e; omega
     ·have := HAA.out q hq (by omega)
      omega
    case measure => simp [intOf]; omega
   ·have HC := lh (of_decide_eq_true hc)
    rw [hc] at HFm
    clear hc
    go_wp2_with (first | (refine (HFm.out _ hbr).mono ?_; rintro e w1 ⟨rfl, hbw1⟩))
    go_roundw
    case rel =>
     refine ⟨i, m, hmi, by omega, rfl, rfl, h1, lh fun q hq hqm => ?_, bel⟩
     have := HC.out
     by_cases e : q = m
     ·subst e; omega
     ·have := HAB.out q hq (by omega)
      omega
    case measure => simp [intOf]; omega
  ·have hE : i = j := by omega
   subst hE
   have HE := lh (upTo_eq (x := x) (l := l) (k := i) (by have := HN.out; omega) h1.out h2.out)
   go_wp2
   go_ret
   exact ⟨ret_i (by rw [HE.out]), hbr⟩
theorem stat_any (l : List Stp) (x : Int) (A : Option Addr) (n c : Nat) (B : Nat) (w : World) (hB : B <= w.heap.size) (hA : StepsAt w B A n l) (hm : n <= 1000000) (ha : S.ascend l) :
 Calls Tryz.prog 77 #[.slice A n c, .int .i64 x] w fun e w' => e = .returned (.int .i64 (S.valueOf x l)) /\ Below w.heap.size w w' := by
 have HN := lh hA.len
 have hs := hA.cells
 have HS : Hid (∀ (W : World), Below ((w.alloc (.cells #[.slice A n c] 79)).alloc (.cells #[.int .i64 x] 3)).heap.size ((w.alloc (.cells #[.slice A n c] 79)).alloc (.cells #[.int .i64 x] 3)) W -> Calls Tryz.prog 104 #[.int .i64 n, .func (.func 105) #[] #[.pointer (some ⟨w.heap.size, 0, none⟩), .pointer (some ⟨w.heap.size + 1, 0, none⟩)]] W fun e w' => e = .returned (.int .i64 (S.upTo x l)) /\ Below W.heap.size W w') := lh (fun W hw =>
  search_any l x w.heap.size (w.heap.size + 1) n W hA.len hm ha (fun k hk V hV => at1_any l x k hk w.heap.size (w.heap.size + 1) A n c B V (by have := hw.size; have := hV.size; simp at *; omega) hA.len
   ((hV.cell (p := ⟨w.heap.size, 0, none⟩) (by have := hw.size; simp at *; omega)).trans ((hw.cell (p := ⟨w.heap.size, 0, none⟩) (by simp; omega)).trans (((Blk.new w 79 #[.slice A n c]).alloc (.cells #[.int .i64 x] 3)).cell 0)))
   ((hV.cell (p := ⟨w.heap.size + 1, 0, none⟩) (by have := hw.size; simp at *; omega)).trans ((hw.cell (p := ⟨w.heap.size + 1, 0, none⟩) (by simp)).trans (by simp)))
   (by have := hw.size; have := hV.size; simp at *; omega) (by have := hw.size; have := hV.size; simp at *; omega)
   (hs.below (((Below.refl B w).alloc hB _).alloc (by simp; omega) _ |>.trans ((hw.mono (by simp; omega)).trans (hV.mono (by have := hw.size; simp at *; omega)))))))
 have hle : S.upTo x l <= n := by unfold S.upTo; rw [<- hA.len]; exact List.countP_le_length
 have HV := lh (show S.valueOf x l = (match S.upTo x l with | 0 => 0 | k + 1 => match l[k]? with | some s => s.val | none => 0) from rfl)
 clear hA
 generalize S.upTo x l = k at *
 rcases k with _ | k
 ·have HV2 := lh (show S.valueOf x l = 0 from HV.out)
  go_enter Tryz.func77, Tryz.ntmps77
  go_wp2_with (first | (go_at_call 104; (with_reducible refine (HS.out _ belr).mono ?_); rintro e w1 ⟨rfl, hbw1⟩; obtain ⟨hcw1, hfw1⟩ := bcell hbw1; have hzw1_0 : w.heap.size < w1.heap.size := lt_via hbw1 sz; have hzw1_1 : w.heap.size + 1 < w1.heap.size := lt_via hbw1 sz))
  go_ret
  exact ⟨ret_i HV2.out.symm, bel⟩
 ·have hkx : k < l.length := by have := HN.out; omega
  have HV2 := lh (show S.valueOf x l = l[k].val by rw [HV.out]; simp [hkx])
  obtain ⟨b, o, rfl, hbB, hx⟩ := hs.at_ (by rw [flat_len stC 2 stC_len]; omega)
  clear hx
  have c1 := hs.rowj stC_len hkx 1 rfl
  generalize l[k] = r at *
  have hbl : b < w.heap.size := by omega
  have hbl2 : b < w.heap.size + 1 := by omega
  have hbl3 : b < w.heap.size + 1 + 1 := by omega
  have hki : (k : Int) < n := by omega
  have e1 : IntKind.i64.wrap (((k + 1 : Nat) : Int) - 1) = (k : Int) := by rw [show (((k + 1 : Nat) : Int) - 1) = (k : Int) by omega]; exact IntWalk.i64_in _ (by omega)
  clear hs
  go_enter Tryz.func77, Tryz.ntmps77
  go_wp2_with (first | ((go_at_call 104; (with_reducible refine (HS.out _ belr).mono ?_); rintro e w1 ⟨rfl, hbw1⟩; obtain ⟨hcw1, hfw1⟩ := bcell hbw1; have hzw1_0 : w.heap.size < w1.heap.size := lt_via hbw1 sz; have hzw1_1 : w.heap.size + 1 < w1.heap.size := lt_via hbw1 sz); have hb1 : b < w1.heap.size := (by have := hbw1.size; simp at this; omega)))
  go_ret
  exact ⟨ret_i HV2.out.symm, bel⟩
theorem stAt_any (l : List Stp) (x : Int) (A : Option Addr) (n c : Nat) (B : Nat) (w : World) (hB : B <= w.heap.size) (hA : StepsAt w B A n l) (hm : n <= 1000000) (h : S.steps l = true) :
 Calls Tryz.prog 49 #[.slice A n c, .int .i64 x] w fun e w' => e = .returned (.tuple #[.int .i64 (S.valueOf x l), .int .i64 0]) /\ Below w.heap.size w w' := by
 have HV := lh (fun (W : World) (hw : Below w.heap.size w W) => h ▸ steps_any l A n c B W (dsize hB hw) (hA.below (hw.mono hB)))
 have HT := lh (fun (W : World) (hw : Below w.heap.size w W) => stat_any l x A n c B W (dsize hB hw) (hA.below (hw.mono hB)) hm (steps_ascend h))
 clear hA h
 go_enter Tryz.func49, Tryz.ntmps49
 go_wp2_with (first
  | (go_at_call 76; (with_reducible refine (HV.out _ belr).mono ?_); rintro e w1 ⟨rfl, hbw1⟩; obtain ⟨hcw1, hfw1⟩ := bcell hbw1)
  | (go_at_call 77; (with_reducible refine (HT.out _ belr).mono ?_); rintro e w2 ⟨rfl, hbw2⟩; obtain ⟨hcw2, hfw2⟩ := bcell hbw2))
 go_ret2
 exact ⟨rfl, bel⟩
end Go.Proofs.YtmfpbafpnoomeaaGreat
namespace Go.Proofs.YtmfpbafpnoomeaaGreat
open Go.ChangeShapes Go.WideShapes Go.ChangeAt Go.RowKit
section
variable {H : Type} {enc : TypeId × Value -> H} {w : World} {base : Nat} {sp : Nat -> Bool} {hd : Bool}
theorem cellsBars : Tryz.prog.cellsOf 27 = 1 := by kernel_rfl
theorem cellsRuns : Tryz.prog.cellsOf 28 = 1 := by kernel_rfl
theorem cellsJoints : Tryz.prog.cellsOf 29 = 1 := by kernel_rfl
theorem cellsDems : Tryz.prog.cellsOf 30 = 1 := by kernel_rfl
theorem cellsSteps : Tryz.prog.cellsOf 79 = 1 := by kernel_rfl
theorem cellsRun : Tryz.prog.cellsOf 142 = 10 := by kernel_rfl
theorem cellsTurn : Tryz.prog.cellsOf 140 = 2 := by kernel_rfl
theorem cellsJoint : Tryz.prog.cellsOf 168 = 2 := by kernel_rfl
theorem cellsStep : Tryz.prog.cellsOf 136 = 2 := by kernel_rfl
theorem cellsDem : Tryz.prog.cellsOf 81 = 8 := by kernel_rfl
theorem cellsDetail : Tryz.prog.cellsOf 34 = 19 := by kernel_rfl
instance : Inhabited BarR := ⟨⟨⟨⟨#[]⟩, 0, 0, 0, []⟩, none, 0, 0⟩⟩
instance : Inhabited Rn := ⟨⟨⟨#[]⟩, 0, 0, ⟨0, 0, 0⟩, ⟨0, 0, 0⟩, 0⟩⟩
instance : Inhabited Jn := ⟨⟨0, 0⟩⟩
instance : Inhabited Stp := ⟨⟨0, 0⟩⟩
instance : Inhabited Dm := ⟨⟨⟨#[]⟩, ⟨⟨0, 0, 0⟩, ⟨0, 0, 0⟩⟩, [], none, 0, 0⟩⟩
structure RnI (r : Rn) : Prop where
 tx : I64 r.tx
 ty : I64 r.ty
 at_ : PtI r.at_
 step : PtI r.step
 count : I64 r.count
structure JnI (j : Jn) : Prop where
 first : I64 j.first
 second : I64 j.second
structure StpI (s : Stp) : Prop where
 fro : I64 s.fro
 val : I64 s.val
theorem opn_bar {fuel : Nat} {cs : List Value} {y : Option (DataW H × List MemPlace)} (h : DataW.trod enc Tryz.prog w base sp hd fuel 138 cs = y) (hy : y.isSome = true) :
 ∃ r : BarR, cs = barC r /\ (BarAt w w.heap.size r.A r.n r.b /\ r.n <= r.c /\ BarI r.b) := by
 obtain ⟨z, rfl⟩ := Option.isSome_iff_exists.1 hy
 obtain ⟨b, A, n, c, e, h1, h2, _, h3⟩ := open_bar h
 exact ⟨⟨b, A, n, c⟩, e, h1, h2, h3⟩
theorem opn_turn {fuel : Nat} {cs : List Value} {y : Option (DataW H × List MemPlace)} (h : DataW.trod enc Tryz.prog w base sp hd fuel 140 cs = y) (hy : y.isSome = true) :
 ∃ a b : Int, cs = [.int .i64 a, .int .i64 b] /\ I64 a /\ I64 b := by
 obtain ⟨z, rfl⟩ := Option.isSome_iff_exists.1 hy
 obtain ⟨xs, n, _, _, hl, hxl, hg⟩ := DataW.trod_struct Tryz.underlying140 h
 rw [cellsTurn] at hl
 obtain ⟨c0, c1, rfl⟩ := len2 hl
 have hs : ∀ i, i < 2 -> xs[i]?.isSome = true := fun i hi => by
  have : xs.length = 2 := hxl
  simp [this, hi]
 obtain ⟨n0, e0, b0⟩ := opn_int (hg 0 _ rfl) (hs 0 (by decide))
 obtain ⟨n1, e1, b1⟩ := opn_int (hg 1 _ rfl) (hs 1 (by decide))
 simp [cellsInt] at e0 e1
 subst e0 e1
 exact ⟨n0, n1, rfl, b0, b1⟩
theorem opn_joint {fuel : Nat} {cs : List Value} {y : Option (DataW H × List MemPlace)} (h : DataW.trod enc Tryz.prog w base sp hd fuel 168 cs = y) (hy : y.isSome = true) :
 ∃ j : Jn, cs = jnC j /\ JnI j := by
 obtain ⟨z, rfl⟩ := Option.isSome_iff_exists.1 hy
 obtain ⟨xs, n, _, _, hl, hxl, hg⟩ := DataW.trod_struct Tryz.underlying168 h
 rw [cellsJoint] at hl
 obtain ⟨c0, c1, rfl⟩ := len2 hl
 have hs : ∀ i, i < 2 -> xs[i]?.isSome = true := fun i hi => by
  have : xs.length = 2 := hxl
  simp [this, hi]
 obtain ⟨n0, e0, b0⟩ := opn_int (hg 0 _ rfl) (hs 0 (by decide))
 obtain ⟨n1, e1, b1⟩ := opn_int (hg 1 _ rfl) (hs 1 (by decide))
 simp [cellsInt] at e0 e1
 subst e0 e1
 exact ⟨⟨n0, n1⟩, rfl, ⟨b0, b1⟩⟩
theorem opn_step {fuel : Nat} {cs : List Value} {y : Option (DataW H × List MemPlace)} (h : DataW.trod enc Tryz.prog w base sp hd fuel 136 cs = y) (hy : y.isSome = true) :
 ∃ s : Stp, cs = stC s /\ StpI s := by
 obtain ⟨z, rfl⟩ := Option.isSome_iff_exists.1 hy
 obtain ⟨xs, n, _, _, hl, hxl, hg⟩ := DataW.trod_struct Tryz.underlying136 h
 rw [cellsStep] at hl
 obtain ⟨c0, c1, rfl⟩ := len2 hl
 have hs : ∀ i, i < 2 -> xs[i]?.isSome = true := fun i hi => by
  have : xs.length = 2 := hxl
  simp [this, hi]
 obtain ⟨n0, e0, b0⟩ := opn_int (hg 0 _ rfl) (hs 0 (by decide))
 obtain ⟨n1, e1, b1⟩ := opn_int (hg 1 _ rfl) (hs 1 (by decide))
 simp [cellsInt] at e0 e1
 subst e0 e1
 exact ⟨⟨n0, n1⟩, rfl, ⟨b0, b1⟩⟩
theorem len10 {α : Type} {l : List α} (h : l.length = 10) : ∃ a b c d e f g i j k, l = [a, b, c, d, e, f, g, i, j, k] := by
 match l, h with
 | [a, b, c, d, e, f, g, i, j, k], _ => exact ⟨a, b, c, d, e, f, g, i, j, k, rfl⟩
theorem len8 {α : Type} {l : List α} (h : l.length = 8) : ∃ a b c d e f g i, l = [a, b, c, d, e, f, g, i] := by
 match l, h with
 | [a, b, c, d, e, f, g, i], _ => exact ⟨a, b, c, d, e, f, g, i, rfl⟩
theorem len19 {α : Type} {l : List α} (h : l.length = 19) : ∃ a0 a1 a2 a3 a4 a5 a6 a7 a8 a9 b0 b1 b2 b3 b4 b5 b6 b7 b8, l = [a0, a1, a2, a3, a4, a5, a6, a7, a8, a9, b0, b1, b2, b3, b4, b5, b6, b7, b8] := by
 match l, h with
 | [a0, a1, a2, a3, a4, a5, a6, a7, a8, a9, b0, b1, b2, b3, b4, b5, b6, b7, b8], _ => exact ⟨a0, a1, a2, a3, a4, a5, a6, a7, a8, a9, b0, b1, b2, b3, b4, b5, b6, b7, b8, rfl⟩
theorem opn_run {fuel : Nat} {cs : List Value} {y : Option (DataW H × List MemPlace)} (h : DataW.trod enc Tryz.prog w base sp hd fuel 142 cs = y) (hy : y.isSome = true) :
 ∃ r : Rn, cs = rnC r /\ (r.mark.size <= 9223372036854775807 /\ RnI r) := by
 obtain ⟨z, rfl⟩ := Option.isSome_iff_exists.1 hy
 obtain ⟨xs, n, _, _, hl, hxl, hg⟩ := DataW.trod_struct Tryz.underlying142 h
 rw [cellsRun] at hl
 obtain ⟨c0, c1, c2, c3, c4, c5, c6, c7, c8, c9, rfl⟩ := len10 hl
 have hs : ∀ i, i < 5 -> xs[i]?.isSome = true := fun i hi => by
  have : xs.length = 5 := hxl
  simp [this, hi]
 obtain ⟨m, e0, b0⟩ := opn_str (hg 0 _ rfl) (hs 0 (by decide))
 obtain ⟨t0, t1, e1, b1, b1'⟩ := opn_turn (hg 1 _ rfl) (hs 1 (by decide))
 obtain ⟨p, e2, b2⟩ := opn_pt (hg 2 _ rfl) (hs 2 (by decide))
 obtain ⟨q, e3, b3⟩ := opn_pt (hg 3 _ rfl) (hs 3 (by decide))
 obtain ⟨k, e4, b4⟩ := opn_int (hg 4 _ rfl) (hs 4 (by decide))
 simp [cellsStr, cellsTurn, cellsPt, cellsInt] at e0 e1 e2 e3 e4
 obtain ⟨rfl, rfl⟩ := e1
 obtain ⟨rfl, rfl, rfl⟩ := e2
 obtain ⟨rfl, rfl, rfl⟩ := e3
 subst e0 e4
 have hmx : maxLen <= 9223372036854775807 := by unfold maxLen; decide
 exact ⟨⟨m, t0, t1, p, q, k⟩, rfl, by show m.size <= _; omega, ⟨b1, b1', b2, b3, b4⟩⟩
theorem opn_steps {fuel : Nat} {cs : List Value} {y : Option (DataW H × List MemPlace)} (h : DataW.trod enc Tryz.prog w base sp hd fuel 79 cs = y) (hy : y.isSome = true) :
 ∃ (A : Option Addr) (n c : Nat) (xs : List Stp), cs = [.slice A n c] /\ xs.length = n /\ n <= c /\ c <= maxLen /\ Cells w w.heap.size A (xs.flatMap stC) /\ ∀ x, x ∈ xs -> StpI x :=
 opn_rows Tryz.underlying79 stC 2 (by decide) stC_len cellsStep StpI (fun h hy => opn_step h hy) h hy
theorem opn_dem {fuel : Nat} {cs : List Value} {y : Option (DataW H × List MemPlace)} (h : DataW.trod enc Tryz.prog w base sp hd fuel 81 cs = y) (hy : y.isSome = true) :
 ∃ d : Dm, cs = dmC d /\ (StepsAt w w.heap.size d.A d.n d.st /\ d.n <= d.c /\ d.name.size <= 9223372036854775807 /\ BxI d.zone /\ ∀ s, s ∈ d.st -> StpI s) := by
 obtain ⟨z, rfl⟩ := Option.isSome_iff_exists.1 hy
 obtain ⟨xs, n, _, _, hl, hxl, hg⟩ := DataW.trod_struct Tryz.underlying81 h
 rw [cellsDem] at hl
 obtain ⟨c0, c1, c2, c3, c4, c5, c6, c7, rfl⟩ := len8 hl
 have hs : ∀ i, i < 3 -> xs[i]?.isSome = true := fun i hi => by
  have : xs.length = 3 := hxl
  simp [this, hi]
 obtain ⟨m, e0, b0⟩ := opn_str (hg 0 _ rfl) (hs 0 (by decide))
 obtain ⟨z, e1, b1⟩ := opn_box (hg 1 _ rfl) (hs 1 (by decide))
 obtain ⟨A, k, c, st, e2, h1, h2, h3, h4, h5⟩ := opn_steps (hg 2 _ rfl) (hs 2 (by decide))
 simp [cellsStr, cellsBox, cellsSteps] at e0 e1 e2
 obtain ⟨rfl, rfl, rfl, rfl, rfl, rfl⟩ := e1
 subst e0 e2
 have hmx : maxLen <= 9223372036854775807 := by unfold maxLen; decide
 exact ⟨⟨m, z, st, A, k, c⟩, rfl, ⟨h1, by show k <= _; omega, h4⟩, h2, by show m.size <= _; omega, b1, h5⟩
theorem opn_bars {fuel : Nat} {cs : List Value} {y : Option (DataW H × List MemPlace)} (h : DataW.trod enc Tryz.prog w base sp hd fuel 27 cs = y) (hy : y.isSome = true) :
 ∃ (A : Option Addr) (n c : Nat) (xs : List BarR), cs = [.slice A n c] /\ xs.length = n /\ n <= c /\ c <= maxLen /\ Cells w w.heap.size A (xs.flatMap barC) /\ ∀ r, r ∈ xs -> (BarAt w w.heap.size r.A r.n r.b /\ r.n <= r.c /\ BarI r.b) :=
 opn_rows Tryz.underlying27 barC 5 (by decide) barC_len cellsBar _ (fun h hy => opn_bar h hy) h hy
theorem opn_runs {fuel : Nat} {cs : List Value} {y : Option (DataW H × List MemPlace)} (h : DataW.trod enc Tryz.prog w base sp hd fuel 28 cs = y) (hy : y.isSome = true) :
 ∃ (A : Option Addr) (n c : Nat) (xs : List Rn), cs = [.slice A n c] /\ xs.length = n /\ n <= c /\ c <= maxLen /\ Cells w w.heap.size A (xs.flatMap rnC) /\ ∀ r, r ∈ xs -> (r.mark.size <= 9223372036854775807 /\ RnI r) :=
 opn_rows Tryz.underlying28 rnC 10 (by decide) rnC_len cellsRun _ (fun h hy => opn_run h hy) h hy
theorem opn_joints {fuel : Nat} {cs : List Value} {y : Option (DataW H × List MemPlace)} (h : DataW.trod enc Tryz.prog w base sp hd fuel 29 cs = y) (hy : y.isSome = true) :
 ∃ (A : Option Addr) (n c : Nat) (xs : List Jn), cs = [.slice A n c] /\ xs.length = n /\ n <= c /\ c <= maxLen /\ Cells w w.heap.size A (xs.flatMap jnC) /\ ∀ j, j ∈ xs -> JnI j :=
 opn_rows Tryz.underlying29 jnC 2 (by decide) jnC_len cellsJoint JnI (fun h hy => opn_joint h hy) h hy
theorem opn_dems {fuel : Nat} {cs : List Value} {y : Option (DataW H × List MemPlace)} (h : DataW.trod enc Tryz.prog w base sp hd fuel 30 cs = y) (hy : y.isSome = true) :
 ∃ (A : Option Addr) (n c : Nat) (xs : List Dm), cs = [.slice A n c] /\ xs.length = n /\ n <= c /\ c <= maxLen /\ Cells w w.heap.size A (xs.flatMap dmC) /\ ∀ d, d ∈ xs -> (StepsAt w w.heap.size d.A d.n d.st /\ d.n <= d.c /\ d.name.size <= 9223372036854775807 /\ BxI d.zone /\ ∀ s, s ∈ d.st -> StpI s) :=
 opn_rows Tryz.underlying30 dmC 8 (by decide) dmC_len cellsDem _ (fun h hy => opn_dem h hy) h hy
structure DtI (x : Dt) (ds : List Dm) : Prop where
 mem : MemI x.m
 bars : ∀ r, r ∈ x.bs -> r.n <= r.c /\ BarI r.b
 runs : ∀ r, r ∈ x.rs -> r.mark.size <= 9223372036854775807 /\ RnI r
 laps : ∀ j, j ∈ x.js -> JnI j
 dems : ∀ d, d ∈ ds -> d.n <= d.c /\ BxI d.zone /\ ∀ s, s ∈ d.st -> StpI s
 rule : RuleI x.rule
 caps : x.mn <= x.mc /\ x.hn <= x.hc /\ x.bn <= x.bc /\ x.rn <= x.rc /\ x.jn <= x.jc /\ x.dn <= x.dc
theorem arg_detail {cs : Array Value} {d : DataW H} {p : List MemPlace} (h : DataW.Trod enc Tryz.prog w base sp hd 34 (.agg cs) d p) :
 ∃ (x : Dt) (ds : List Dm), cs = (dtV x).cells /\ DtOk w x ds /\ DtI x ds := by
 obtain ⟨fuel, hf⟩ := h
 obtain ⟨xs, n, _, _, hl, hxl, hg⟩ := DataW.trod_struct Tryz.underlying34 hf
 rw [cellsDetail] at hl
 generalize hcl : cs.toList = cl at *
 have hcl2 : (Value.agg cs).cells.toList = cl := hcl
 rw [hcl2] at hl hg
 obtain ⟨a0, a1, a2, a3, a4, a5, a6, a7, a8, a9, b0, b1, b2, b3, b4, b5, b6, b7, b8, rfl⟩ := len19 hl
 have hs : ∀ i, i < 6 -> xs[i]?.isSome = true := fun i hi => by
  have : xs.length = 6 := hxl
  simp [this, hi]
 obtain ⟨m, mA, mn, mc, hA, hn, hc, e0, g0, g1, g2, g3, g4, g5⟩ := opn_member (hg 0 _ rfl) (hs 0 (by decide))
 obtain ⟨bA, bn, bc, bs, e1, k1, k2, k3, k4, k5⟩ := opn_bars (hg 1 _ rfl) (hs 1 (by decide))
 obtain ⟨rA, rn, rc, rs, e2, r1, r2, r3, r4, r5⟩ := opn_runs (hg 2 _ rfl) (hs 2 (by decide))
 obtain ⟨jA, jn, jc, js, e3, j1, j2, j3, j4, j5⟩ := opn_joints (hg 3 _ rfl) (hs 3 (by decide))
 obtain ⟨dA, dn, dc, ds, e4, d1, d2, d3, d4, d5⟩ := opn_dems (hg 4 _ rfl) (hs 4 (by decide))
 obtain ⟨q5, hq5⟩ := Option.isSome_iff_exists.1 (hs 5 (by decide))
 have h5 := hg 5 _ rfl
 rw [hq5] at h5
 obtain ⟨rule, e5, u1⟩ := open_rule h5
 simp [cellsMember, cellsBars, cellsRuns, cellsJoints, cellsDems, cellsRule] at e0 e1 e2 e3 e4 e5
 obtain ⟨rfl, rfl, rfl, rfl, rfl, rfl⟩ := e0
 obtain ⟨rfl, rfl, rfl, rfl, rfl, rfl, rfl, rfl, rfl⟩ := e5
 subst e1 e2 e3 e4
 have hmx : maxLen <= 9223372036854775807 := by unfold maxLen; decide
 refine ⟨⟨m, mA, mn, mc, hA, hn, hc, bs, bA, bn, bc, rs, rA, rn, rc, js, jA, jn, jc, dA, dn, dc, rule⟩, ds, ?_, ⟨⟨g0, g5.name, ⟨k1, by show bn <= _; omega, k4, fun r hr => (k5 r hr).1⟩, ⟨r1, by show rn <= _; omega, r4⟩, j1, by show jn <= _; omega, j4⟩, ⟨d1, by show dn <= _; omega, d4, fun d hd => (d5 d hd).1, fun d hd => (d5 d hd).2.2.1⟩, d2⟩, ⟨g5, fun r hr => (k5 r hr).2, r5, j5, fun d hd => ⟨(d5 d hd).2.1, (d5 d hd).2.2.2⟩, u1, g1, g3, k2, r2, j2, d2⟩⟩
 exact Array.toList_inj.1 hcl
end
end Go.Proofs.YtmfpbafpnoomeaaGreat
