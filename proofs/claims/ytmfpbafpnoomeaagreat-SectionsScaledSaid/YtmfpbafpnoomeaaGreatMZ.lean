/- Lemmas. -/
import Derived.Test.YtmfpbafpnoomeaaGreatMW
set_option linter.unusedVariables false
set_option linter.unusedSimpArgs false
namespace Go.Proofs.YtmfpbafpnoomeaaGreat
open Go.RowKit
set_option maxHeartbeats 1000000 in
theorem rcmp_any (rs : List Rod) (a b : Nat) (p q : Rod) (g : Nat) (A : Option Addr) (n c : Nat) (B : Nat) (w : World) (hB : B <= w.heap.size) (hn : rs.length = n) (ha : rs[a]? = some p) (hb : rs[b]? = some q)
 (hg : w.cell? ⟨g, 0, none⟩ = some (.slice A n c)) (hgl : g < w.heap.size) (hs : Cells w B A (rs.flatMap rodC)) :
 Calls Tryz.prog 179 #[.int .i64 a, .int .i64 b, .pointer (some ⟨g, 0, none⟩)] w fun e w' => e = .returned (.int .i64 (cmpI p.bar.b.size q.bar.b.size)) /\ Below w.heap.size w w' := by
 obtain ⟨hax, hpa⟩ := List.getElem?_eq_some_iff.1 ha
 obtain ⟨hbx, hqb⟩ := List.getElem?_eq_some_iff.1 hb
 obtain ⟨g2, o, hA, hg2, hx⟩ := hs.at_ (by rw [flat_len rodC 7 rodC_len]; omega)
 clear hx
 rw [hA] at hs hg
 have c1 := hs.rowj rodC_len hax 1 rfl
 have c2 := hs.rowj rodC_len hbx 1 rfl
 rw [hpa] at c1
 rw [hqb] at c2
 have han : (a : Int) < n := by omega
 have hbn : (b : Int) < n := by omega
 have hg2l : g2 < w.heap.size := by omega
 clear hs ha hb hpa hqb hax hbx hA hn
 go_enter Tryz.func179, Tryz.ntmps179
 go_upto_region 1 with fail
 refine wp_region_mix 0 [12] (by kernel_rfl) (by kernel_rfl) (of_decide_eq_true (by kernel_rfl)) ?_
 try simp only [wpSegs, gt1, gt2, gt3, gt4, List.take_nil, List.drop_nil]
 repeat (go_big_quiet_step (fail))
 refine wpQuiet_nil ?_
 show wpList _ _ _ _ _ _
 go_wp2_with ((go_at_call 180; (with_reducible refine (cmp_any _ _ _).mono ?_); rintro e w1 ⟨rfl, hbw1⟩))
 refine seg_next (grow_to belr) ?_
 try simp only [wpSegs, gt1, gt2, gt3, gt4, List.take_nil, List.drop_nil]
 repeat (go_big_quiet_step (fail))
 refine wpQuiet_nil ?_
 show wpList _ _ _ _ _ _
 go_wp2
 go_ret
 exact ⟨rfl, bel⟩
def minBy (K : Int -> Int) (xs : List Int) : Int := xs.tail.foldl (fun m a => if K a < K m then a else m) (xs.headD 0)
theorem minBy_one (K : Int -> Int) {xs : List Int} (h : 0 < xs.length) : minBy K (xs.take 1) = xs[0] := by
 cases xs with
 | nil => simp at h
 | cons x l => simp [minBy]
theorem minBy_next (K : Int -> Int) {xs : List Int} {k : Nat} (h : k < xs.length) (h0 : 0 < k) : minBy K (xs.take (k + 1)) = if K xs[k] < K (minBy K (xs.take k)) then xs[k] else minBy K (xs.take k) := by
 have e : xs.take (k + 1) = xs.take k ++ [xs[k]] := by rw [List.take_add_one, List.getElem?_eq_getElem h]; rfl
 have hne : xs.take k ≠ [] := by
  intro h2
  have h3 : (xs.take k).length = 0 := by rw [h2]; rfl
  rw [List.length_take] at h3
  omega
 rw [e]
 generalize xs.take k = t at *
 cases t with
 | nil => exact absurd rfl hne
 | cons x l => simp [minBy, List.foldl_append]
theorem minBy_mem (K : Int -> Int) {xs : List Int} {k : Nat} (h0 : 0 < k) (hk : k <= xs.length) : minBy K (xs.take k) ∈ xs := by
 induction k with
 | zero => omega
 | succ k ih =>
  by_cases h : k = 0
  ·subst h
   rw [minBy_one K (by omega)]
   exact List.getElem_mem _
  ·rw [minBy_next K (by omega) (by omega)]
   split
   ·exact List.getElem_mem _
   ·exact ih (by omega) (by omega)
set_option maxHeartbeats 1000000 in
theorem minf_any (K : Int -> Int) (A : Option Addr) (n c : Nat) (xs : List Int) (g : Nat) (B : Nat) (w : World) (hn : xs.length = n) (h0 : 0 < n) (hm : n <= 1000000) (hB : B <= w.heap.size) (hs : Cells w B A (i64s xs))
 (hf : ∀ (a b : Int) (w' : World), a ∈ xs -> b ∈ xs -> Below w.heap.size w w' -> Calls Tryz.prog 179 #[.int .i64 a, .int .i64 b, .pointer (some ⟨g, 0, none⟩)] w' fun e w'' => e = .returned (.int .i64 (cmpI (K a) (K b))) /\ Below w'.heap.size w' w'') :
 Calls Tryz.prog 178 #[.slice A n c, .func (.func 179) #[] #[.pointer (some ⟨g, 0, none⟩)]] w fun e w' => e = .returned (.int .i64 (minBy K xs)) /\ Below w.heap.size w w' := by
 have HN := lh hn
 have HF := lh hf
 have hF := Tryz.call179
 obtain ⟨b, o, hA, hbB, hx⟩ := hs.at_ (by simp; omega)
 clear hx hn hf
 subst hA
 have hbl : b < w.heap.size := by omega
 have H1 := lh (minBy_one K (xs := xs) (by have := HN.out; omega))
 have c0 := hs.get (i64s_get (xs := xs) (k := 0) (by have := HN.out; omega))
 generalize hx0 : xs[0]'(by have := HN.out; omega) = x0 at *
 clear hx0
 simp only [Nat.add_zero] at c0
 go_enter Tryz.func178, Tryz.ntmps178
 go_wp2
 go_loopw [5, 6] (fun m i wr => ∃ k : Nat, 1 <= k /\ k <= n /\ i = .int .i64 k /\ ∃ v : Int, m = .int .i64 v /\ Hid (v = minBy K (xs.take k)) /\ Below w.heap.size w wr) (fun _ i _ => n - (intOf i).toNat)
 case atStart => exact ⟨1, Nat.le_refl _, h0, rfl, x0, rfl, lh H1.out.symm, Below.refl _ _⟩
 case round =>
  obtain ⟨k, hk1, hk, rfl, v, rfl, hv, hbr⟩ := hrel
  by_cases hlt : k < n
  ·have hkx : k < xs.length := by have := HN.out; omega
   have hs' := hs.below (hbr.mono hB)
   have hck := hs'.get (i64s_get hkx)
   have hvm : v ∈ xs := by rw [hv.out]; exact minBy_mem K hk1 (by omega)
   have HN1 := lh (minBy_next K hkx hk1)
   have HFk := lh (fun (W : World) (hw : Below w.heap.size w W) => HF.out xs[k] v W (List.getElem_mem _) hvm hw)
   rw [<- hv.out] at HN1
   generalize xs[k] = xk at *
   have hbl2 : b < wr.heap.size := by have := hbr.size; omega
   have hkn : (k : Int) < n := by omega
   have HCN := lh (cmpI_neg (K xk) (K v))
   clear hvm
   cases hc : decide (K xk < K v)
   ·have hc2 : decide (cmpI (K xk) (K v) < 0) = false := HCN.out.trans hc
    have hc3 := lh hc
    clear hc
    go_wp2_with (first | (refine (HFk.out _ hbr).mono ?_; rintro e w1 ⟨rfl, hb1⟩))
    go_roundw
    case rel => exact ⟨k + 1, by omega, by omega, by go_num, v, rfl, lh (by rw [HN1.out, if_neg (of_decide_eq_false hc3.out)]), hbr.trans (hb1.mono hbr.size)⟩
    case measure => simp [intOf]; omega
   ·have hc2 : decide (cmpI (K xk) (K v) < 0) = true := HCN.out.trans hc
    have hc3 := lh hc
    clear hc
    go_wp2_with (first | (refine (HFk.out _ hbr).mono ?_; rintro e w1 ⟨rfl, hb1⟩; have hck1 := (hb1.cell (p := ⟨b, o + k, none⟩) hbl2).trans hck))
    go_roundw
    case rel => exact ⟨k + 1, by omega, by omega, by go_num, xk, rfl, lh (by rw [HN1.out, if_pos (of_decide_eq_true hc3.out)]), hbr.trans (hb1.mono hbr.size)⟩
    case measure => simp [intOf]; omega
  ·have HE := lh (show v = minBy K xs by rw [hv.out, List.take_of_length_le (by have := HN.out; omega)])
   clear hv
   go_wp2
   go_ret
   exact ⟨ret_i HE.out, hbr⟩
set_option maxRecDepth 20000 in
set_option maxHeartbeats 2000000 in
theorem rmain_any (x : Dt) (B : Nat) (w : World) (hB : B <= w.heap.size) (hA : DtAt w B x) (h : S.laid (bars x.bs) x.rs = true) (i : Nat) (m : Mn) (hm : (S.mains (bars x.bs) x.rs)[i]? = some m) :
 Calls Tryz.prog 101 #[dtV x, .int .i64 i] w fun e w' => e = .returned (.tuple #[boxV m.leg, .bool m.has]) /\ Below w.heap.size w w' := by
 obtain ⟨k, j, k0, r, hL⟩ := lies_of h (List.getElem?_eq_some_iff.1 hm).1
 have hmn : m = S.mnOf r.b.size r.b.mark (S.mainLeg (S.laidPath r.b (x.rs[k]'hL.st.lt) j)) := by
  have := hL.st.get
  rw [hm] at this
  injection this
 have HA := lh hA
 have hl6 := legs_len r.b.code
 have hlp := laidPath_len r.b (x.rs[k]'hL.st.lt) j
 have HLG := lh (fun (W : World) (hw : B <= W.heap.size) (hh : DtAt W B x) => rlegs16_any x.bs x.rs x.bA x.bn x.bc x.rA x.rn x.rc B W hw hh.bars hh.runs i k j k0 r hL _ rfl)
 have hln : (S.legsL (S.laidPath r.b (x.rs[k]'hL.st.lt) j)).length = (S.legsOf r.b.code).length := by rw [S.legsL, legsTo_len, hlp]; rfl
 clear hA hm
 generalize S.laidPath r.b (x.rs[k]'hL.st.lt) j = LP at *
 cases hml : S.mainLeg LP with
 | none =>
  have hid := main_none (by omega) hml
  have HMG := lh (fun (W : World) (A : Option Addr) (c B' : Nat) (hw : B' <= W.heap.size) (hs : Cells W B' A ((S.legsL LP).flatMap boxC)) => hid ▸ mainleg_any A (S.legsOf r.b.code).length c (S.legsL LP) B' W hln (by omega) hw hs)
  rw [hml] at hmn
  subst hmn
  unfold dtV
  go_enter Tryz.func101, Tryz.ntmps101
  go_wp2_with (first
   | (go_at_call 147; (with_reducible refine (HLG.out _ (size_via hB bel) (HA.out.at_ hB bel)).mono ?_); rintro e w1 ⟨Aw1, cw1, rfl, how1, hbw1⟩; obtain ⟨hcw1, hfw1⟩ := bcell hbw1; have hzw1_0 : w.heap.size < w1.heap.size := lt_via hbw1 sz; have hzw1_1 : w.heap.size + 1 < w1.heap.size := lt_via hbw1 sz)
   | (go_at_call 148; (with_reducible refine (HMG.out _ _ _ _ (Nat.le_refl _) (own_cells how1 (by unfold maxLen; omega)).1).mono ?_); rintro e w2 ⟨rfl, hbw2⟩; obtain ⟨hcw2, hfw2⟩ := bcell hbw2; have hzw2_0 : w.heap.size < w2.heap.size := lt_via hbw2 sz; have hzw2_1 : w.heap.size + 1 < w2.heap.size := lt_via hbw2 sz))
  have hbel : Below w.heap.size w w2 := bel
  exact bodyPost_ret (v := .tuple #[.agg #[.int .i64 0, .int .i64 0, .int .i64 0, .int .i64 0, .int .i64 0, .int .i64 0], .bool false]) (by simp [results, Tryz.results101, go_sem, *]) rfl ⟨rfl, ((((((hbel.setCell (Nat.le_succ _) _).setCell (Nat.le_succ _) _).setCell (Nat.le_succ _) _).setCell (Nat.le_succ _) _).setCell (Nat.le_succ _) _).setCell (Nat.le_succ _) _)⟩
 | some b =>
  obtain ⟨jj, hid, hg, hjj⟩ := main_some (by omega) hml
  have HMG := lh (fun (W : World) (A : Option Addr) (c B' : Nat) (hw : B' <= W.heap.size) (hs : Cells W B' A ((S.legsL LP).flatMap boxC)) => hid ▸ mainleg_any A (S.legsOf r.b.code).length c (S.legsL LP) B' W hln (by omega) hw hs)
  rw [hml] at hmn
  subst hmn
  have HG := lh hg
  have hjl : jj < (S.legsOf r.b.code).length := by omega
  have hji : (jj : Int) < ((S.legsOf r.b.code).length : Int) := by omega
  clear hid hg
  unfold dtV
  go_enter Tryz.func101, Tryz.ntmps101
  go_wp2_with (first
   | (go_at_call 147; (with_reducible refine (HLG.out _ (size_via hB bel) (HA.out.at_ hB bel)).mono ?_); rintro e w1 ⟨Aw1, cw1, rfl, how1, hbw1⟩; obtain ⟨hcw1, hfw1⟩ := bcell hbw1; have hzw1_0 : w.heap.size < w1.heap.size := lt_via hbw1 sz; have hzw1_1 : w.heap.size + 1 < w1.heap.size := lt_via hbw1 sz)
   | (go_at_call 148; (with_reducible refine (HMG.out _ _ _ _ (Nat.le_refl _) (own_cells how1 (by unfold maxLen; omega)).1).mono ?_); rintro e w2 ⟨rfl, hbw2⟩; obtain ⟨hcw2, hfw2⟩ := bcell hbw2
      have hzw2_0 : w.heap.size < w2.heap.size := lt_via hbw2 sz
      have hzw2_1 : w.heap.size + 1 < w2.heap.size := lt_via hbw2 sz
      have hsL := (own_cells how1 (by unfold maxLen; omega)).1
      obtain ⟨b4, o4, rfl, hbl4, hxx⟩ := hsL.at_ (by rw [flat_len boxC 6 boxC_len, hln]; omega)
      clear hxx
      obtain ⟨c0, c1, c2, c3, c4, c5⟩ := hsL.boxes HG.out))
  have hbel : Below w.heap.size w w2 := bel
  exact bodyPost_ret (v := .tuple #[.agg #[.int .i64 b.lo.x, .int .i64 b.lo.y, .int .i64 b.lo.z, .int .i64 b.hi.x, .int .i64 b.hi.y, .int .i64 b.hi.z], .bool true]) (by simp [results, Tryz.results101, go_sem, *]) rfl ⟨rfl, ((((((hbel.setCell (Nat.le_succ _) _).setCell (Nat.le_succ _) _).setCell (Nat.le_succ _) _).setCell (Nat.le_succ _) _).setCell (Nat.le_succ _) _).setCell (Nat.le_succ _) _)⟩
theorem laid_len {bs : List Bar} {rs : List Rn} (h : S.laid bs rs = true) : ((S.mains bs rs).length : Int) = S.sumAll rs := by
 simp only [S.laid, Bool.and_eq_true, decide_eq_true_eq] at h
 have := mains_sum h.1.1 (fun r hr => runs_in h.2 hr) (k := rs.length) (Nat.le_refl _)
 rwa [List.take_length] at this
theorem rcount25_any (x : Dt) (B : Nat) (w : World) (hB : B <= w.heap.size) (hA : DtAt w B x) (h : S.laid (bars x.bs) x.rs = true) :
 Calls Tryz.prog 99 #[dtV x] w fun e w' => e = .returned (.int .i64 (S.mains (bars x.bs) x.rs).length) /\ Below w.heap.size w w' := by
 have HA := lh hA
 have hrs : ∀ k (hk : k < x.rs.length), 0 <= x.rs[k].count /\ x.rs[k].count <= 1000 := fun k hk => by
  have h2 := h
  simp only [S.laid, Bool.and_eq_true, decide_eq_true_eq] at h2
  have := right_count (runs_in h2.2 (List.getElem_mem hk))
  omega
 have h60 : x.rn <= 60 := by
  have h2 := h
  simp only [S.laid, Bool.and_eq_true, decide_eq_true_eq] at h2
  have := hA.runs.len
  omega
 have HC := lh (fun (W : World) (hw : B <= W.heap.size) (hh : DtAt W B x) => (laid_len h).symm ▸ rcount16_any x.rs x.rA x.rn x.rc B W hw hh.runs h60 hrs)
 clear hA hrs h60 h
 unfold dtV
 go_enter Tryz.func99, Tryz.ntmps99
 go_wp2_with (first
  | (go_at_call 121; (with_reducible refine (HC.out _ (size_via hB bel) (HA.out.at_ hB bel)).mono ?_); rintro e w' ⟨rfl, rfl⟩))
 go_ret
 exact ⟨rfl, bel⟩
theorem jointOk_in {l : List Mn} {j : Jn} {i k : Nat} (hi : j.first = (i : Int)) (hk : j.second = (k : Int)) (h : S.jointIn l j = true) {a b : Mn} (ha : l[i]? = some a) (hb : l[k]? = some b) : S.jointOk l j = S.jointOn a b := by
 unfold S.jointOk
 rw [h, hi, hk]
 simp [ha, hb]
set_option maxRecDepth 20000 in
set_option maxHeartbeats 4000000 in
theorem rjoint_in (x : Dt) (B : Nat) (w : World) (hB : B <= w.heap.size) (hA : DtAt w B x) (h : S.laid (bars x.bs) x.rs = true) (i k : Nat) (a b : Mn) (ha : (S.mains (bars x.bs) x.rs)[i]? = some a) (hb : (S.mains (bars x.bs) x.rs)[k]? = some b) :
 Calls Tryz.prog 89 #[dtV x, .agg #[.int .i64 i, .int .i64 k]] w fun e w' => e = .returned (.bool (S.jointOn a b)) /\ Below w.heap.size w w' := by
 have HA := lh hA
 have HC := lh (fun (W : World) (hw : B <= W.heap.size) (hh : DtAt W B x) => rcount25_any x B W hw hh h)
 have HM1 := lh (fun (W : World) (hw : B <= W.heap.size) (hh : DtAt W B x) => rmain_any x B W hw hh h i a ha)
 have HM2 := lh (fun (W : World) (hw : B <= W.heap.size) (hh : DtAt W B x) => rmain_any x B W hw hh h k b hb)
 have HE := lh (show S.jointOn a b = (a.has && b.has && decide (a.leg.lo.x < b.leg.lo.x) && decide (a.leg.hi.x < b.leg.hi.x) && decide (b.leg.lo.x <= a.leg.hi.x)) from rfl)
 have hil := (List.getElem?_eq_some_iff.1 ha).1
 have hkl := (List.getElem?_eq_some_iff.1 hb).1
 have hii : (i : Int) < ((S.mains (bars x.bs) x.rs).length : Int) := by omega
 have hki : (k : Int) < ((S.mains (bars x.bs) x.rs).length : Int) := by omega
 have hDB : Blk ((w.alloc (.cells (dtc x) 34)).alloc (.cells #[.int .i64 i, .int .i64 k] 168)) w.heap.size 34 (dtc x) := (Blk.new w 34 (dtc x)).alloc _
 clear hA ha hb hil hkl h
 generalize (S.mains (bars x.bs) x.rs).length = n at *
 have hRG := hDB.range
 have HDB := lh hDB
 clear hDB
 unfold dtV at HC HM1 HM2
 unfold dtV
 go_enter Tryz.func89, Tryz.ntmps89
 go_upto_region 2 with (first
  | (refine wpList_load_mid rfl 34 (.tmp 2) rfl _ _ rfl _ _ hRG Tryz.underlying34 rfl (by kernel_rfl) ?_)
  | (go_at_call 99; (with_reducible refine (HC.out _ (size_via hB bel) (HA.out.at_ hB bel)).mono ?_); rintro e w1 ⟨rfl, hbw1⟩; obtain ⟨hcw1, hfw1⟩ := bcell hbw1; have hzw1_0 : w.heap.size < w1.heap.size := lt_via hbw1 sz; have hzw1_1 : w.heap.size + 1 < w1.heap.size := lt_via hbw1 sz))
 have hRG1 := (HDB.out.via hbw1).range
 have hi0 : ¬ (i : Int) < 0 := by omega
 have hk0 : ¬ (k : Int) < 0 := by omega
 have hi1 : ¬ (n : Int) <= (i : Int) := by omega
 have hk1 : ¬ (n : Int) <= (k : Int) := by omega
 have hJ0 : w1.cell? ⟨w.heap.size + 1, 0, none⟩ = some (.int .i64 i) := by
  have := (Blk.via (by simpa using Blk.new (w.alloc (.cells (dtc x) 34)) 168 #[.int .i64 i, .int .i64 k]) hbw1).cell 0
  simpa using this
 have hJ1 : w1.cell? ⟨w.heap.size + 1, 1, none⟩ = some (.int .i64 k) := by
  have := (Blk.via (by simpa using Blk.new (w.alloc (.cells (dtc x) 34)) 168 #[.int .i64 i, .int .i64 k]) hbw1).cell 1
  simpa using this
 have hbv1 : Below w.heap.size w w1 := bel
 have HDB1 := lh (HDB.out.via hbw1)
 clear hcw1 hfw1
 clear hRG HDB hbw1 HC
 go_upto_region 5 with (first
  | (refine wpList_load_mid rfl 34 (.tmp 2) rfl _ _ rfl _ _ hRG1 Tryz.underlying34 rfl (by kernel_rfl) ?_)
  | (go_at_call 101; (with_reducible refine (HM1.out _ (size_via hB bel) (HA.out.at_ hB bel)).mono ?_); rintro e w2 ⟨rfl, hbw2⟩; obtain ⟨hcw2, hfw2⟩ := bcell hbw2))
 have hbv2 : Below w.heap.size w w2 := bel
 have hRG2 : (w2.alloc (.cells #[.int .i64 a.leg.lo.x, .int .i64 a.leg.lo.y, .int .i64 a.leg.lo.z, .int .i64 a.leg.hi.x, .int .i64 a.leg.hi.y, .int .i64 a.leg.hi.z] 78)).rangeAt w.heap.size 0 [.string x.m.name, .slice x.mA x.mn x.mc, .slice x.hA x.hn x.hc, .int .i64 x.m.cover, .int .i64 x.m.aggr, .int .i64 x.m.poker, .slice x.bA x.bn x.bc, .slice x.rA x.rn x.rc, .slice x.jA x.jn x.jc, .slice x.dA x.dn x.dc, .int .i64 x.rule.num, .int .i64 x.rule.den, .int .i64 x.rule.pnum, .int .i64 x.rule.pden, .int .i64 x.rule.bnum, .int .i64 x.rule.bden, .int .i64 x.rule.lnum, .int .i64 x.rule.lden, .int .i64 x.rule.least] := ((HDB1.out.via hbw2).alloc _).range
 have hz2 : w.heap.size + 1 < w2.heap.size := lt_via hbw2 hzw1_1
 have hb1 := (Blk.new w2 78 #[.int .i64 a.leg.lo.x, .int .i64 a.leg.lo.y, .int .i64 a.leg.lo.z, .int .i64 a.leg.hi.x, .int .i64 a.leg.hi.y, .int .i64 a.leg.hi.z])
 clear HM1 HDB1 hRG1
 cases hb : b.has
 all_goals (
  rw [hb] at HM2 HE
  clear hb
  go_upto_region 6 with (first
   | (refine wpList_load_mid rfl 34 (.tmp 2) rfl _ _ rfl _ _ hRG2 Tryz.underlying34 rfl (by kernel_rfl) ?_)
   | (go_at_call 101; (with_reducible refine (HM2.out _ (size_via hB bel) (HA.out.at_ hB bel)).mono ?_); rintro e w3 ⟨rfl, hbw3⟩; obtain ⟨hcw3, hfw3⟩ := bcell hbw3))
  have hbv3 : Below w.heap.size w w3 := ba_via hbw3 (ba_alloc hbv2 _)
  have hx := hb1.via hbw3
  have hx0 := hx.cell 0
  have hx3 := hx.cell 3
  have hlx := hx.lt
  simp only [ga1, ga2, ga3] at hx0 hx3
  clear hcw3 hfw3 hcw2 hfw2
  clear hx
  cases ha : a.has
  all_goals (
   rw [ha] at HE
   go_wp2
   all_goals (go_ret; exact ⟨ret_b (by rw [HE.out, Bool.eq_iff_iff]; all_goals (first | (simp; done) | (simp; omega))), ba_alloc hbv3 _⟩)))
set_option maxRecDepth 20000 in
set_option maxHeartbeats 4000000 in
theorem rjoint_out (x : Dt) (jn : Jn) (B : Nat) (w : World) (hB : B <= w.heap.size) (hA : DtAt w B x) (hl : S.laid (bars x.bs) x.rs = true) (h : S.jointIn (S.mains (bars x.bs) x.rs) jn = false) :
 Calls Tryz.prog 89 #[dtV x, jnV jn] w fun e w' => e = .returned (.bool (S.jointOk (S.mains (bars x.bs) x.rs) jn)) /\ Below w.heap.size w w' := by
 have H := lh (show S.jointOk (S.mains (bars x.bs) x.rs) jn = false by unfold S.jointOk; rw [h]; rfl)
 have HA := lh hA
 have HC := lh (fun (W : World) (hw : B <= W.heap.size) (hh : DtAt W B x) => rcount25_any x B W hw hh hl)
 rw [H.out]
 have hcs : jn.first < 0 ∨ (¬ jn.first < 0 /\ ((S.mains (bars x.bs) x.rs).length : Int) <= jn.first) ∨ (¬ jn.first < 0 /\ ¬ ((S.mains (bars x.bs) x.rs).length : Int) <= jn.first /\ jn.second < 0) ∨ (¬ jn.first < 0 /\ ¬ ((S.mains (bars x.bs) x.rs).length : Int) <= jn.first /\ ¬ jn.second < 0 /\ ((S.mains (bars x.bs) x.rs).length : Int) <= jn.second) := by
  simp only [S.jointIn, Bool.and_eq_false_iff, decide_eq_false_iff_not] at h
  omega
 have hDB : Blk ((w.alloc (.cells (dtc x) 34)).alloc (.cells #[.int .i64 jn.first, .int .i64 jn.second] 168)) w.heap.size 34 (dtc x) := (Blk.new w 34 (dtc x)).alloc _
 have hRG := hDB.range
 clear hA h H hDB hl
 generalize (S.mains (bars x.bs) x.rs).length = n at *
 unfold dtV at HC
 unfold dtV jnV
 rcases hcs with h | ⟨h, h'⟩ | ⟨h, h', h2⟩ | ⟨h, h', h2, h3⟩
 all_goals (
  go_enter Tryz.func89, Tryz.ntmps89
  go_wp2_with (first
   | (refine wpList_load_mid rfl 34 (.tmp 2) rfl _ _ rfl _ _ hRG Tryz.underlying34 rfl (by kernel_rfl) ?_)
   | (go_at_call 99; (with_reducible refine (HC.out _ (size_via hB bel) (HA.out.at_ hB bel)).mono ?_); rintro e w1 ⟨rfl, hbw1⟩; obtain ⟨hcw1, hfw1⟩ := bcell hbw1; have hzw1_0 : w.heap.size < w1.heap.size := lt_via hbw1 sz; have hzw1_1 : w.heap.size + 1 < w1.heap.size := lt_via hbw1 sz))
  go_ret
  exact ⟨rfl, bel⟩)
theorem rjoint_any (x : Dt) (jn : Jn) (B : Nat) (w : World) (hB : B <= w.heap.size) (hA : DtAt w B x) (hl : S.laid (bars x.bs) x.rs = true) :
 Calls Tryz.prog 89 #[dtV x, jnV jn] w fun e w' => e = .returned (.bool (S.jointOk (S.mains (bars x.bs) x.rs) jn)) /\ Below w.heap.size w w' := by
 by_cases h : S.jointIn (S.mains (bars x.bs) x.rs) jn = true
 ·have h' := h
  simp only [S.jointIn, Bool.and_eq_true, decide_eq_true_eq] at h'
  obtain ⟨i, hi⟩ : ∃ i : Nat, jn.first = (i : Int) := ⟨jn.first.toNat, by omega⟩
  obtain ⟨k, hk⟩ : ∃ i : Nat, jn.second = (i : Int) := ⟨jn.second.toNat, by omega⟩
  have hix : i < (S.mains (bars x.bs) x.rs).length := by omega
  have hkx : k < (S.mains (bars x.bs) x.rs).length := by omega
  rw [jointOk_in hi hk h (List.getElem?_eq_getElem hix) (List.getElem?_eq_getElem hkx)]
  unfold jnV
  rw [hi, hk]
  exact rjoint_in x B w hB hA hl i k _ _ (List.getElem?_eq_getElem hix) (List.getElem?_eq_getElem hkx)
 ·exact rjoint_out x jn B w hB hA hl (by simpa using h)
end Go.Proofs.YtmfpbafpnoomeaaGreat
