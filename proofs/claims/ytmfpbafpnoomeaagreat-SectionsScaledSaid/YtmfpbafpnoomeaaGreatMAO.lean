/- Lemmas. -/
import Derived.Test.YtmfpbafpnoomeaaGreatMAM
set_option linter.unusedVariables false
set_option linter.unusedSimpArgs false
namespace Go.Proofs.YtmfpbafpnoomeaaGreat
open Go.RowKit
def S.scaleV (a b v : Int) : Int := (v * a + b - 1) / b
def S.scaleSt (a b : Int) (l : List Stp) : List Stp := l.map (fun s => ⟨s.fro, S.scaleV a b s.val⟩)
theorem steps_val {l : List Stp} (h : S.steps l = true) {t : Stp} (ht : t ∈ l) : 0 <= t.val /\ t.val <= 1099511627776 := by
 obtain ⟨k, hkx, rfl⟩ := List.getElem_of_mem ht
 unfold S.steps at h
 rw [Bool.and_eq_true, List.all_eq_true] at h
 have := h.2 k (List.mem_range.2 hkx)
 unfold S.stepAt at this
 rw [List.getElem?_eq_getElem hkx] at this
 simp only [Bool.and_eq_true, decide_eq_true_eq] at this
 omega
theorem scaleV_bd {a b v : Int} (ha : 1 <= a /\ a <= 1000) (hb : 1 <= b /\ b <= 1000) (hv : 0 <= v /\ v <= 1099511627776) : 0 <= v * a /\ v * a <= 1099511627776000 /\ 0 <= S.scaleV a b v := by
 have h1 : 0 <= v * a := Int.mul_nonneg hv.1 (by omega)
 have h2 : v * a <= 1099511627776 * 1000 := Int.mul_le_mul hv.2 ha.2 (by omega) (by decide)
 exact ⟨h1, by omega, Int.ediv_nonneg (by omega) (by omega)⟩
theorem flat_at (A B : List Stp) (s : Stp) (v : Int) : ((A ++ s :: B).flatMap stC).set (A.length * 2 + 1) (.int .i64 v) = (A ++ (⟨s.fro, v⟩ : Stp) :: B).flatMap stC := by
 have hl : (A.flatMap stC).length = A.length * 2 := flat_len stC 2 stC_len A
 rw [List.flatMap_append, List.flatMap_append, List.set_append_right _ _ (by omega), hl, show A.length * 2 + 1 - A.length * 2 = 1 by omega]
 rfl
def S.scaleTo (a b : Int) (l : List Stp) (q : Nat) : List Stp := S.scaleSt a b (l.take q) ++ l.drop q
theorem scaleTo_next (a b : Int) {l : List Stp} {q : Nat} (h : q < l.length) : S.scaleTo a b l q = S.scaleSt a b (l.take q) ++ l[q] :: l.drop (q + 1) /\ S.scaleTo a b l (q + 1) = S.scaleSt a b (l.take q) ++ (⟨l[q].fro, S.scaleV a b l[q].val⟩ : Stp) :: l.drop (q + 1) := by
 unfold S.scaleTo
 constructor
 ·rw [List.drop_eq_getElem_cons h]
 ·rw [take_snoc h]
  unfold S.scaleSt
  rw [List.map_append, List.append_assoc]
  rfl
theorem Blk.below' {w w' : World} {g B : Nat} {t : TypeId} {cs : Array Value} (h : Blk w g t cs) (hb : Below B w w') (hg : g < B) : Blk w' g t cs := (hb.block g hg).trans h
abbrev zeroDm : Array Value := #[.string ⟨#[]⟩, .int .i64 0, .int .i64 0, .int .i64 0, .int .i64 0, .int .i64 0, .int .i64 0, .slice none 0 0]
def ScaledTo (d : Dm) (a b : Int) (w : World) (e : Ending) (w' : World) : Prop :=
 ((e = .returned (.tuple #[.agg zeroDm, .int .i64 5])) ∨ ((∀ s, s ∈ d.st -> S.scaleV a b s.val <= 1099511627776) /\ ∃ A c, e = .returned (.tuple #[dmV ⟨d.name, d.zone, S.scaleSt a b d.st, A, d.n, c⟩, .int .i64 0]) /\ Far w.heap.size w' A ((S.scaleSt a b d.st).flatMap stC))) /\ Below w.heap.size w w'
set_option maxRecDepth 20000 in
set_option maxHeartbeats 8000000 in
theorem scaled_any (d : Dm) (a b : Int) (w : World) (hA : StepsAt w w.heap.size d.A d.n d.st) (hm : d.name.size <= 9223372036854775807) (hn : d.n <= 1000) (hd : S.demRight d = true) (ha : 1 <= a /\ a <= 1000) (hb : 1 <= b /\ b <= 1000) :
 Calls Tryz.prog 36 #[dmV d, .int .i64 a, .int .i64 b] w (ScaledTo d a b w) := by
 have hst : S.steps d.st = true := by
  unfold S.demRight at hd
  simp only [Bool.and_eq_true] at hd
  exact hd.2
 have HR := lh (fun (W : World) (hw : w.heap.size <= W.heap.size) (hh : StepsAt W w.heap.size d.A d.n d.st) => hd ▸ dright_any d w.heap.size W hw hh hm)
 have HA := lh hA
 have HN := lh hA.len
 have HV := lh (fun t (ht : t ∈ d.st) => steps_val hst ht)
 have HW1 := lh (fun W => (show (decide ((1 : Int) <= a) && decide (a <= 1000)) = true by simp [ha.1, ha.2]) ▸ dwithin_any a a 1 1000 W)
 have HW2 := lh (fun W => (show (decide ((1 : Int) <= b) && decide (b <= 1000)) = true by simp [hb.1, hb.2]) ▸ dwithin_any b b 1 1000 W)
 have bz : (b == 0) = false := by simp; omega
 have bn : b ≠ 0 := by omega
 clear hA hm hd hst
 unfold dmV at HR ⊢
 have hDB := (Blk.new w 81 #[.string d.name, .int .i64 d.zone.lo.x, .int .i64 d.zone.lo.y, .int .i64 d.zone.lo.z, .int .i64 d.zone.hi.x, .int .i64 d.zone.hi.y, .int .i64 d.zone.hi.z, .slice d.A d.n d.c]).alloc (.cells zeroDm 81)
 have hRB := Blk.newN (W := w.alloc (.cells #[.string d.name, .int .i64 d.zone.lo.x, .int .i64 d.zone.lo.y, .int .i64 d.zone.lo.z, .int .i64 d.zone.hi.x, .int .i64 d.zone.hi.y, .int .i64 d.zone.hi.z, .slice d.A d.n d.c] 81)) (n := w.heap.size + 1) (by simp) 81 zeroDm
 have hW1 : Below w.heap.size w ((w.alloc (.cells #[.string d.name, .int .i64 d.zone.lo.x, .int .i64 d.zone.lo.y, .int .i64 d.zone.lo.z, .int .i64 d.zone.hi.x, .int .i64 d.zone.hi.y, .int .i64 d.zone.hi.z, .slice d.A d.n d.c] 81)).alloc (.cells zeroDm 81)) := ba_alloc (ba_alloc (Below.refl _ _) _) _
 go_enter Tryz.func36, Tryz.ntmps36
 go_upto_region 1 with fail
 generalize ((w.alloc (.cells #[.string d.name, .int .i64 d.zone.lo.x, .int .i64 d.zone.lo.y, .int .i64 d.zone.lo.z, .int .i64 d.zone.hi.x, .int .i64 d.zone.hi.y, .int .i64 d.zone.hi.z, .slice d.A d.n d.c] 81)).alloc (.cells zeroDm 81)) = W1 at *
 have c0 := hDB.cell 0
 have c1 := hDB.cell 1
 have c2 := hDB.cell 2
 have c3 := hDB.cell 3
 have c4 := hDB.cell 4
 have c5 := hDB.cell 5
 have c6 := hDB.cell 6
 have c7 := hDB.cell 7
 have dl := hDB.lt
 simp only [ga1, ga2, ga3] at c0 c1 c2 c3 c4 c5 c6 c7
 have HD := lh hDB
 have HQ := lh hRB
 clear hDB hRB
 go_upto_region 5 with (first
  | (go_at_call 58; (with_reducible refine (HR.out _ hW1.size (HA.out.below hW1)).mono ?_); rintro e w2 ⟨rfl, hb2⟩)
  | (go_at_call 66; (with_reducible refine (HW1.out _).mono ?_); rintro e w' ⟨rfl, rfl⟩)
  | (go_at_call 66; (with_reducible refine (HW2.out _).mono ?_); rintro e w' ⟨rfl, rfl⟩))
 have hw2 : Below w.heap.size w w2 := ba_via hb2 hW1
 have HD2 := lh (HD.out.via hb2)
 have HQ2 := lh (HQ.out.via hb2)
 have hs2 := hw2.size
 have hbs2 := hb2.size
 have hqlt := HQ.out.lt
 have HCL := lh (cloneSt_any d.st d.A d.n d.c w2 ((HA.out.cells.below hw2).mono hs2) HN.out hn)
 have e7 := HD2.out.cell 7
 have el := HD2.out.lt
 have f7 := HD2.out.frozen 7
 simp only [ga1, ga2, ga3] at e7
 clear c0 c1 c2 c3 c4 c5 c6 c7 HD HQ hb2 HA HR
 go_upto_region 6 with (go_at_call 67; (with_reducible refine HCL.out.mono ?_); rintro e w5 ⟨v5, rfl, hO5, hb5⟩; have hD5 := HD2.out.via hb5; have e7' := hD5.cell 7; have f7' := hD5.frozen 7; have el' := hD5.lt; simp only [ga1, ga2, ga3] at e7'; obtain ⟨A5, c5, hv5, _, _, hxx⟩ := own_form hO5 (by unfold maxLen; omega); clear hxx; subst hv5)
 have hX6 : Exc [w.heap.size] w5 (w5.setCell ⟨w.heap.size, 7, none⟩ (.slice A5 d.n c5)) := exc_setCells w.heap.size [.slice A5 d.n c5] 7 w5
 have hO6 := ownsRow_setCell_below hO5 (a := ⟨w.heap.size, 7, none⟩) (show w.heap.size < w2.heap.size by omega) (.slice A5 d.n c5)
 have hQ6 := (HQ2.out.via hb5).exc hX6 (by simp)
 obtain ⟨cs6, hD6, _, hcs6⟩ := Blk.put [.slice A5 d.n c5] 7 w5 _ hD5 (by simp)
 have hw6 : Below w.heap.size w (w5.setCell ⟨w.heap.size, 7, none⟩ (.slice A5 d.n c5)) := (ba_via hb5 hw2).setCell (Nat.le_refl _) _
 have hsz6 := hX6.size
 have hsz5 := hb5.size
 change Blk (w5.setCell ⟨w.heap.size, 7, none⟩ (.slice A5 d.n c5)) _ _ cs6 at hD6
 generalize (w5.setCell ⟨w.heap.size, 7, none⟩ (.slice A5 d.n c5)) = W6 at *
 have c0 := hD6.cell 0
 have c1 := hD6.cell 1
 have c2 := hD6.cell 2
 have c3 := hD6.cell 3
 have c4 := hD6.cell 4
 have c5' := hD6.cell 5
 have c6 := hD6.cell 6
 have c7 := hD6.cell 7
 have dl6 := hD6.lt
 rw [hcs6] at c0 c1 c2 c3 c4 c5' c6 c7
 simp only [List.length_cons, List.length_nil, Nat.zero_add, Nat.reduceAdd, Nat.reduceLeDiff, Nat.reduceLT, and_true, and_false, if_false, if_true, Nat.sub_self, List.getElem?_toArray, List.getElem?_cons_zero, List.getElem?_cons_succ, Nat.le_refl, false_and, reduceIte] at c0 c1 c2 c3 c4 c5' c6 c7
 have HQ6 := lh hQ6
 have hb2s : w.heap.size + 1 < w2.heap.size := by omega
 have hs26 : w2.heap.size <= W6.heap.size := by omega
 clear hcs6 hD6 hQ6 hX6 hO5 HD2 HQ2 HCL e7 f7 el hD5 e7' f7' el' hb5 hw2 hsz5
 go_wp2
 go_loopw [35] (fun i wr => ∃ q : Nat, q <= d.n /\ i = .int .i64 q /\ Hid (∀ j (h : j < d.st.length), j < q -> S.scaleV a b d.st[j].val <= 1099511627776) /\ wr.ownsRow w2.heap.size 136 2 (.slice A5 d.n c5) d.n ((S.scaleTo a b d.st q).flatMap stC) /\ Below w2.heap.size W6 wr) (fun i _ => d.n - (intOf i).toNat)
 case atStart => exact ⟨0, Nat.zero_le _, rfl, lh (fun j h hj => absurd hj (Nat.not_lt_zero _)), hO6, Below.refl _ _⟩
 case round =>
  obtain ⟨q, hq, rfl, hno, hO, hbr⟩ := hrel
  have hsr := hbr.size
  have hsw : w2.heap.size <= wr.heap.size := Nat.le_trans hs26 hsr
  have k7 := (hbr.cell (p := ⟨w.heap.size, 7, none⟩) (show w.heap.size < w2.heap.size by omega)).trans c7
  have kl : w.heap.size < wr.heap.size := by omega
  have HQR := lh ((HQ6.out).below' hbr hb2s)
  have hwr : Below w.heap.size w wr := hw6.trans (hbr.mono hs2)
  by_cases hlt : q < d.n
  ·have hqx : q < d.st.length := by rw [HN.out]; exact hlt
   have hqi : (q : Int) < d.n := by omega
   obtain ⟨s1, s2⟩ := scaleTo_next a b hqx
   have hv := HV.out _ (List.getElem_mem hqx)
   have hbd := scaleV_bd ha hb hv
   have HNO := lh (fun (hle : S.scaleV a b d.st[q].val <= 1099511627776) => show ∀ j (h : j < d.st.length), j < q + 1 -> S.scaleV a b d.st[j].val <= 1099511627776 from fun j h hj => by
    by_cases hjq : j < q
    ·exact hno.out j h hjq
    ·obtain rfl : j = q := by omega
     exact hle)
   have hlT : (S.scaleSt a b (d.st.take q)).length = q := by unfold S.scaleSt; simp; omega
   generalize d.st[q] = sq at *
   rw [s1] at hO
   have HS2 := lh s2
   rcases hO.2 with ⟨_, h0⟩ | ⟨g, cap, cur, hv5, hbg, hg, hxx⟩
   ·omega
   clear hxx
   injection hv5 with hA5 _ hc5
   obtain ⟨o8, ho8⟩ : ∃ o8, o8 = 0 := ⟨_, rfl⟩
   have hA5' : A5 = some ⟨g, o8, none⟩ := by rw [ho8]; exact hA5
   have hO7 := hO
   rw [hA5] at hO7
   have x0 : wr.cell? ⟨g, o8 + q * 2, none⟩ = some (.int .i64 sq.fro) := by
    rw [ho8, Nat.zero_add, hO7.cellAt (q * 2) (by omega)]
    have h1 := flat_get stC 2 stC_len (S.scaleSt a b (d.st.take q) ++ sq :: d.st.drop (q + 1)) q (by rw [List.length_append, hlT]; simp) 0 (by omega)
    simp only [Nat.add_zero] at h1
    rw [h1]
    simp [hlT]
   have x1 : wr.cell? ⟨g, o8 + q * 2 + 1, none⟩ = some (.int .i64 sq.val) := by
    rw [ho8, Nat.zero_add, hO7.cellAt (q * 2 + 1) (by omega)]
    have h1 := flat_get stC 2 stC_len (S.scaleSt a b (d.st.take q) ++ sq :: d.st.drop (q + 1)) q (by rw [List.length_append, hlT]; simp) 1 (by omega)
    rw [h1]
    simp [hlT]
   have gl : g < wr.heap.size := (Array.getElem?_eq_some_iff.1 hg).1
   have HO7 := lh hO7
   have HO8 := lh ho8
   clear hA5 hO hO7 s1 s2 ho8 hg hno
   subst hA5'
   obtain ⟨X, hX⟩ : ∃ X, X = sq.val * a := ⟨_, rfl⟩
   obtain ⟨V, hV⟩ : ∃ V, V = S.scaleV a b sq.val := ⟨_, rfl⟩
   rw [<- hX] at hbd
   have hVX : (X + b - 1) / b = V := by rw [hV, hX]; rfl
   rw [<- hV] at HNO hbd HS2
   have e1 : IntKind.i64.wrap (sq.val * a) = X := by rw [<- hX]; exact IntWalk.i64_in _ (by omega)
   have e2 : IntKind.i64.wrap (X + b) = X + b := IntWalk.i64_in _ (by omega)
   have e3 : IntKind.i64.wrap (X + b - 1) = X + b - 1 := IntWalk.i64_in _ (by omega)
   have hVle : V <= X + b - 1 := by rw [<- hVX]; exact Int.ediv_le_self _ (by omega)
   have e4 : IntKind.i64.wrap V = V := IntWalk.i64_in _ (by omega)
   have e5 : (X + b - 1).tdiv b = V := by rw [Int.tdiv_eq_ediv_of_nonneg (by omega)]; exact hVX
   have HX := lh hX
   clear hX hV hVX
   go_upto_region 9 with fail
   have hSB := Blk.new wr 136 #[.int .i64 sq.fro, .int .i64 sq.val]
   have hbS : Below wr.heap.size wr (wr.alloc (.cells #[.int .i64 sq.fro, .int .i64 sq.val] 136)) := ba_alloc (Below.refl _ _) _
   generalize (wr.alloc (.cells #[.int .i64 sq.fro, .int .i64 sq.val] 136)) = W7 at *
   have y0 := hSB.cell 0
   have y1 := hSB.cell 1
   have yl := hSB.lt
   simp only [ga1, ga2, ga3] at y0 y1
   have k7' := (hbS.cell (p := ⟨w.heap.size, 7, none⟩) kl).trans k7
   have kl' : w.heap.size < W7.heap.size := Nat.lt_of_lt_of_le kl hbS.size
   have z1 := (hbS.cell (p := ⟨g, o8 + q * 2 + 1, none⟩) gl).trans x1
   have gl7 : g < W7.heap.size := Nat.lt_of_lt_of_le gl hbS.size
   have HO9 := lh (own_kept HO7.out (fun k hk => hbS.block k (HO7.out.lt k hk).2))
   have zf : W7.frozen? ⟨g, o8 + q * 2 + 1, none⟩ = false := by rw [HO8.out, Nat.zero_add]; exact HO9.out.frozenAt _
   have hw7 : Below w.heap.size w W7 := hwr.trans (hbS.mono hwr.size)
   have HB7 := lh (hbr.trans (hbS.mono hsw))
   have HQ7 := lh (HQR.out.via hbS)
   generalize wr.heap.size = g7 at *
   clear k7 kl x0 x1 gl hSB hbS HQR hwr hbr HO7
   by_cases hbig : 1099511627776 < V
   ·have bb : decide (1099511627776 < V) = true := decide_eq_true hbig
    have hQR := HQ7.out
    have r0 := hQR.cell 0
    have fq0 := hQR.frozen 0
    have r1 := hQR.cell 1
    have fq1 := hQR.frozen 1
    have r2 := hQR.cell 2
    have fq2 := hQR.frozen 2
    have r3 := hQR.cell 3
    have fq3 := hQR.frozen 3
    have r4 := hQR.cell 4
    have fq4 := hQR.frozen 4
    have r5 := hQR.cell 5
    have fq5 := hQR.frozen 5
    have r6 := hQR.cell 6
    have fq6 := hQR.frozen 6
    have r7 := hQR.cell 7
    have fq7 := hQR.frozen 7
    have rl := hQR.lt
    simp only [ga1, ga2, ga3] at r0 r1 r2 r3 r4 r5 r6 r7
    clear hQR
    clear z1 gl7 HO9 zf HB7 HNO HS2
    go_wp2
    exact bodyPost_ret (v := .tuple #[.agg zeroDm, .int .i64 5]) (by simp [results, Tryz.results36, go_sem, *]) rfl ⟨.inl rfl, by (repeat (refine Below.setCell ?_ (by simp) _)); exact hw7⟩
   ·have bb : decide (1099511627776 < V) = false := decide_eq_false hbig
    have HN2 := lh (HNO.out (by omega))
    clear HNO hbig HQ7
    go_wp2
    go_roundw
    case rel =>
     refine ⟨q + 1, by omega, by go_num, HN2, ?_, HB7.out.setCell hbg _⟩
     have h := (HO9.out.stored (q * 2 + 1) (.int .i64 V)).1
     have hf := flat_at (S.scaleSt a b (d.st.take q)) (d.st.drop (q + 1)) sq V
     rw [hlT] at hf
     rw [hf] at h
     rw [HS2.out, HO8.out, Nat.zero_add]
     exact h
    case measure => simp [intOf]; omega
  ·have hqn : q = d.n := by omega
   have hqi : ¬ ((q : Int) < d.n) := by omega
   have hall : ∀ s, s ∈ d.st -> S.scaleV a b s.val <= 1099511627776 := fun s hs => by
    obtain ⟨j, hj, rfl⟩ := List.getElem_of_mem hs
    exact hno.out j hj (by rw [hqn, <- HN.out]; exact hj)
   have hfull : S.scaleTo a b d.st q = S.scaleSt a b d.st := by
    unfold S.scaleTo
    rw [List.take_of_length_le (by rw [hqn, HN.out]; exact Nat.le_refl _), List.drop_eq_nil_of_le (by rw [hqn, HN.out]; exact Nat.le_refl _), List.append_nil]
   rw [hfull] at hO
   have HAL := lh hall
   have HOF := lh hO
   have k0 := (hbr.cell (p := ⟨w.heap.size, 0, none⟩) (show w.heap.size < w2.heap.size by omega)).trans c0
   have k1 := (hbr.cell (p := ⟨w.heap.size, 1, none⟩) (show w.heap.size < w2.heap.size by omega)).trans c1
   have k2 := (hbr.cell (p := ⟨w.heap.size, 2, none⟩) (show w.heap.size < w2.heap.size by omega)).trans c2
   have k3 := (hbr.cell (p := ⟨w.heap.size, 3, none⟩) (show w.heap.size < w2.heap.size by omega)).trans c3
   have k4 := (hbr.cell (p := ⟨w.heap.size, 4, none⟩) (show w.heap.size < w2.heap.size by omega)).trans c4
   have k5 := (hbr.cell (p := ⟨w.heap.size, 5, none⟩) (show w.heap.size < w2.heap.size by omega)).trans c5'
   have k6 := (hbr.cell (p := ⟨w.heap.size, 6, none⟩) (show w.heap.size < w2.heap.size by omega)).trans c6
   have hQR := HQR.out
   have r0 := hQR.cell 0
   have fq0 := hQR.frozen 0
   have r1 := hQR.cell 1
   have fq1 := hQR.frozen 1
   have r2 := hQR.cell 2
   have fq2 := hQR.frozen 2
   have r3 := hQR.cell 3
   have fq3 := hQR.frozen 3
   have r4 := hQR.cell 4
   have fq4 := hQR.frozen 4
   have r5 := hQR.cell 5
   have fq5 := hQR.frozen 5
   have r6 := hQR.cell 6
   have fq6 := hQR.frozen 6
   have r7 := hQR.cell 7
   have fq7 := hQR.frozen 7
   have rl := hQR.lt
   simp only [ga1, ga2, ga3] at r0 r1 r2 r3 r4 r5 r6 r7
   clear hQR
   clear hno hO hall hfull c0 c1 c2 c3 c4 c5' c6 c7 hbr HQR
   go_wp2
   exact bodyPost_ret (v := .tuple #[.agg #[.string d.name, .int .i64 d.zone.lo.x, .int .i64 d.zone.lo.y, .int .i64 d.zone.lo.z, .int .i64 d.zone.hi.x, .int .i64 d.zone.hi.y, .int .i64 d.zone.hi.z, .slice A5 d.n c5], .int .i64 0]) (by simp [results, Tryz.results36, go_sem, *]) rfl ⟨.inr ⟨HAL.out, A5, c5, rfl, (own_far (show World.ownsRow _ w2.heap.size 136 2 (.slice A5 d.n c5) d.n ((S.scaleSt a b d.st).flatMap stC) from by (repeat (refine ownsRow_setCell_below ?_ (by simp; omega) _)); exact HOF.out)).mono (by omega)⟩, by (repeat (refine Below.setCell ?_ (by simp) _)); exact hwr⟩
def S.spareOf (L : List Prt) : Int × Int × Int := match S.spareL L with | none => (0, 0, 12) | some q => (q.there - q.wants, q.lo, 0)
set_option maxRecDepth 20000 in
set_option maxHeartbeats 8000000 in
theorem spare_yes (x : Dt) (d : Int) (L : List Prt) (w : World) (hL : L.length <= 400) (hbd : ∀ i (h : i < L.length), 0 <= L[i].there /\ L[i].there <= 1099511627776 /\ 0 <= L[i].wants /\ L[i].wants <= 1099511627776)
 (hPA : ∀ W, Below w.heap.size w W -> Calls Tryz.prog 42 #[dtV x, .int .i64 d] W (GivesPr L W)) :
 Calls Tryz.prog 17 #[dtV x, .int .i64 d] w fun e w' => e = .returned (.tuple #[.int .i64 (S.spareOf L).1, .int .i64 (S.spareOf L).2.1, .int .i64 (S.spareOf L).2.2]) /\ Below w.heap.size w w' := by
 have HPA := lh hPA
 have HBD := lh hbd
 clear hPA hbd
 unfold dtV at HPA
 unfold dtV
 have hDB := Blk.new w 34 (dtc x)
 have hW1 : Below w.heap.size w (w.alloc (.cells (dtc x) 34)) := ba_alloc (Below.refl _ _) _
 go_enter Tryz.func17, Tryz.ntmps17
 go_upto_region 1 with fail
 generalize (w.alloc (.cells (dtc x) 34)) = W1 at *
 have HDB := lh hDB
 clear hDB
 go_upto_region 4 with (first
  | ((with_reducible refine at_load 34 2 ?_); refine wpList_load_mid rfl 34 (.tmp 2) rfl _ _ rfl _ _ (HDB.out.via belr).range Tryz.underlying34 rfl (by kernel_rfl) ?_)
  | (go_at_call 42; (with_reducible refine (HPA.out _ belr).mono ?_); rintro e w2 ⟨A2, c2, rfl, hC2, hbw2⟩))
 have hw2 : Below w.heap.size w w2 := ba_via hbw2 hW1
 have HC2 := lh hC2
 clear hC2 hbw2 hW1 HDB HPA
 obtain ⟨n, hn⟩ : ∃ n, n = L.length := ⟨_, rfl⟩
 have HN := lh hn
 rw [<- hn] at hL
 rw [<- hn]
 clear hn
 go_wp2
 go_loopw [9, 23] (fun v i wr => ∃ q : Nat, q <= n /\ i = .int .i64 q /\ ∃ bs : Int, v = .int .i64 bs /\ Hid ((bs = -1 /\ S.spareL (L.take q) = none) ∨ ∃ j, ∃ hj : j < L.length, bs = (j : Int) /\ S.spareL (L.take q) = some L[j]) /\ Below w2.heap.size w2 wr) (fun _ i _ => n - (intOf i).toNat)
 case atStart => exact ⟨0, Nat.zero_le _, rfl, -1, rfl, lh (.inl ⟨rfl, rfl⟩), Below.refl _ _⟩
 case round =>
  obtain ⟨q, hq, rfl, bs, rfl, hbs, hbr⟩ := hrel
  have hsr := hbr.size
  have hbwr : Below w.heap.size w wr := ba_via hbr hw2
  by_cases hlt : q < n
  ·have hqx : q < L.length := by rw [<- HN.out]; exact hlt
   have hqi : (q : Int) < n := by omega
   have HNX := lh (spareL_next hqx)
   obtain ⟨t0, t1, t2, t3⟩ := HBD.out q hqx
   have hCS := HC2.out.below hbr
   obtain ⟨b, o, hA2, hbb, hxx⟩ := hCS.at_ (by rw [flat_len prC 4 prC_len]; omega)
   clear hxx
   subst hA2
   have c0 := hCS.row0 prC_len hqx rfl
   have c1' := hCS.rowj prC_len hqx 1 rfl
   have c2' := hCS.rowj prC_len hqx 2 rfl
   have c3' := hCS.rowj prC_len hqx 3 rfl
   have hbl : b < wr.heap.size := by omega
   have HCS := lh hCS
   have HLQ := lh (show ∃ hj : q < L.length, L[q] = L[q] from ⟨hqx, rfl⟩)
   clear hCS
   obtain ⟨p, hp⟩ : ∃ p, p = L[q] := ⟨_, rfl⟩
   have HP := lh hp
   rw [<- hp] at c0 c1' c2' c3' t0 t1 t2 t3 HNX
   clear hp
   go_upto_region 8 with fail
   have hC11 := Blk.new wr 104 #[.int .i64 p.lo, .int .i64 p.hi, .int .i64 p.there, .int .i64 p.wants]
   have hb11 : Below wr.heap.size wr (wr.alloc (.cells #[.int .i64 p.lo, .int .i64 p.hi, .int .i64 p.there, .int .i64 p.wants] 104)) := ba_alloc (Below.refl _ _) _
   generalize (wr.alloc (.cells #[.int .i64 p.lo, .int .i64 p.hi, .int .i64 p.there, .int .i64 p.wants] 104)) = W11 at *
   have p2 := hC11.cell 2
   have p3 := hC11.cell 3
   have pl := hC11.lt
   simp only [ga1, ga2, ga3] at p2 p3
   have hbl2 : b < W11.heap.size := Nat.lt_of_lt_of_le hbl hb11.size
   have HCW := lh (HCS.out.below (hb11.mono hsr))
   have HB := lh (hbr.trans (hb11.mono hsr))
   have hsW : w2.heap.size <= W11.heap.size := Nat.le_trans hsr hb11.size
   generalize wr.heap.size = g11 at *
   clear c0 c1' c2' c3' hC11 hb11 hbr HCS
   have e1 : IntKind.i64.wrap (p.there - p.wants) = p.there - p.wants := IntWalk.i64_in _ (by omega)
   obtain ⟨cb, hcb⟩ : ∃ cb : Bool, Hid ((cb = true /\ S.spareL (L.take (q + 1)) = some p) ∨ (cb = false /\ S.spareL (L.take (q + 1)) = S.spareL (L.take q))) /\ Hid ((cb = false /\ decide (0 < p.wants) = false) ∨ (decide (0 < p.wants) = true /\ cb = true /\ bs = -1) ∨ (decide (0 < p.wants) = true /\ ∃ j, ∃ hj : j < L.length, bs = (j : Int) /\ cb = decide (p.there - p.wants < L[j].there - L[j].wants))) := by
    by_cases hw : 0 < p.wants
    ·rcases hbs.out with ⟨h1, h2⟩ | ⟨j, hj, h1, h2⟩
     ·exact ⟨true, lh (.inl ⟨rfl, by rw [HNX.out, h2]; unfold S.spareNext; rw [if_pos hw]⟩), lh (.inr (.inl ⟨decide_eq_true hw, rfl, h1⟩))⟩
     ·refine ⟨decide (p.there - p.wants < L[j].there - L[j].wants), lh ?_, lh (.inr (.inr ⟨decide_eq_true hw, j, hj, h1, rfl⟩))⟩
      rw [HNX.out, h2]
      unfold S.spareNext
      rw [if_pos hw]
      show _ ∨ _ /\ (if p.spare < L[j].spare then some p else some L[j]) = some L[j]
      by_cases hs : p.spare < L[j].spare
      ·left
       exact ⟨decide_eq_true hs, if_pos hs⟩
      ·right
       exact ⟨decide_eq_false hs, if_neg hs⟩
    ·exact ⟨false, lh (.inr ⟨rfl, by rw [HNX.out]; unfold S.spareNext; rw [if_neg hw]⟩), lh (.inl ⟨rfl, decide_eq_false hw⟩)⟩
   obtain ⟨HC1, HC2'⟩ := hcb
   go_cut [53] from 28 to 53 (fun s wx => s = .bool cb /\ Below W11.heap.size W11 wx)
   case first =>
    rcases HC2'.out with ⟨rfl, hb1⟩ | ⟨hb1, rfl, rfl⟩ | ⟨hb1, j, hj, rfl, hcbe⟩
    ·go_quiet (fail)
     go_wp2
     go_meet
     exact ⟨rfl, ba_drewN (Below.refl _ _) _⟩
    ·go_quiet (fail)
     go_wp2
     go_meet
     exact ⟨rfl, ba_drewN (Below.refl _ _) _⟩
    ·have k2 := HCW.out.rowj prC_len hj 2 rfl
     have k3 := HCW.out.rowj prC_len hj 3 rfl
     obtain ⟨u0, u1, u2, u3⟩ := HBD.out j hj
     have hji : (j : Int) < n := by rw [HN.out]; omega
     have hjn : ¬ ((j : Int) < 0) := by omega
     have hjb : decide ((j : Int) < 0) = false := decide_eq_false hjn
     have HCE := lh hcbe
     clear hcbe
     generalize L[j] = r at *
     have e2 : IntKind.i64.wrap (r.there - r.wants) = r.there - r.wants := IntWalk.i64_in _ (by omega)
     go_quiet (fail)
     go_wp2
     go_meet
     exact ⟨by rw [HCE.out], ba_drewN (Below.refl _ _) _⟩
   case rest =>
    obtain ⟨rfl, hbc⟩ := hcut
    have hbE : Below w2.heap.size w2 wc := HB.out.trans (hbc.mono hsW)
    clear HC2' p2 p3 pl
    cases cb
    ·have HR := lh (show (bs = -1 /\ S.spareL (L.take (q + 1)) = none) ∨ ∃ j, ∃ hj : j < L.length, bs = (j : Int) /\ S.spareL (L.take (q + 1)) = some L[j] by
      rcases HC1.out with ⟨h1, _⟩ | ⟨_, h2⟩
      ·cases h1
      ·rw [h2]; exact hbs.out)
     go_wp2
     go_roundw
     case rel => exact ⟨q + 1, by omega, by go_num, bs, rfl, HR, hbE⟩
     case measure => simp [intOf]; omega
    ·have HR := lh (show ((q : Int) = -1 /\ S.spareL (L.take (q + 1)) = none) ∨ ∃ j, ∃ hj : j < L.length, (q : Int) = (j : Int) /\ S.spareL (L.take (q + 1)) = some L[j] by
      rcases HC1.out with ⟨_, h2⟩ | ⟨h1, _⟩
      ·exact .inr ⟨q, hqx, rfl, by rw [h2, HP.out]⟩
      ·cases h1)
     go_wp2
     go_roundw
     case rel => exact ⟨q + 1, by omega, by go_num, q, rfl, HR, hbE⟩
     case measure => simp [intOf]; omega
  ·have hqn : q = n := by omega
   have hqi : ¬ ((q : Int) < n) := by omega
   have hT : L.take q = L := List.take_of_length_le (by rw [hqn, HN.out]; exact Nat.le_refl _)
   have hbs2 := hbs.out
   rw [hT] at hbs2
   rcases hbs2 with ⟨rfl, h2⟩ | ⟨j, hj, rfl, h2⟩
   ·have HE := lh (show S.spareOf L = (0, 0, 12) by unfold S.spareOf; rw [h2])
    clear hT h2
    subst hqn
    go_wp2
    go_ret3
    exact ⟨by rw [HE.out]; rfl, hbwr⟩
   ·have HE := lh (show S.spareOf L = (L[j].there - L[j].wants, L[j].lo, 0) by unfold S.spareOf; rw [h2])
    have hCS := HC2.out.below hbr
    obtain ⟨b, o, hA2, hbb, hxx⟩ := hCS.at_ (by rw [flat_len prC 4 prC_len]; omega)
    clear hxx
    subst hA2
    have k0 := hCS.row0 prC_len hj rfl
    have k2 := hCS.rowj prC_len hj 2 rfl
    have k3 := hCS.rowj prC_len hj 3 rfl
    obtain ⟨u0, u1, u2, u3⟩ := HBD.out j hj
    have hji : (j : Int) < n := by rw [HN.out]; omega
    have hjn : ¬ ((j : Int) < 0) := by omega
    have hbl : b < wr.heap.size := by omega
    clear hT h2 hCS
    generalize L[j] = r at *
    have e2 : IntKind.i64.wrap (r.there - r.wants) = r.there - r.wants := IntWalk.i64_in _ (by omega)
    subst hqn
    go_upto_region 13 with fail
    go_quiet (fail)
    go_wp2
    go_ret3
    exact ⟨by rw [HE.out]; rfl, ba_drewN hbwr _⟩
abbrev fnC (s : ByteArray) : List Value := [.int .i64 1, .string s]
theorem fnC_len (s : ByteArray) : (fnC s).length = 2 := rfl
theorem elemFn : Elem Tryz.prog 62 71 (.agg #[.int .i64 0, .string ⟨#[]⟩]) 2 24 := ⟨Tryz.underlying62, by kernel_rfl, rfl, by decide⟩
def S.failN (ds : List Dm) (Ls : Nat -> List Sp) : Nat -> List ByteArray
 | 0 => []
 | q + 1 => S.failN ds Ls q ++ (match Ls q, ds[q]? with | _ :: _, some d => [d.name] | _, _ => [])
theorem failN_len (ds : List Dm) (Ls : Nat -> List Sp) : ∀ q, (S.failN ds Ls q).length <= q := by
 intro q
 induction q with
 | zero => exact Nat.le_refl _
 | succ q ih =>
  show (S.failN ds Ls q ++ _).length <= q + 1
  rw [List.length_append]
  split <;> simp <;> omega
def GivesFn (L : List ByteArray) (w : World) (e : Ending) (w' : World) : Prop :=
 ∃ (A : Option Addr) (c : Nat), e = .returned (.tuple #[.slice A L.length c, .int .i64 0]) /\ Cells w' w'.heap.size A (L.flatMap fnC) /\ Below w.heap.size w w'
set_option maxRecDepth 20000 in
set_option maxHeartbeats 8000000 in
theorem check_yes (x : Dt) (ds : List Dm) (Ls : Nat -> List Sp) (w : World) (hds : ds.length = x.dn) (h20 : x.dn <= 20) (hLs : ∀ k, (Ls k).length <= 400)
 (hdc : ∀ k (dm : Dm), ds[k]? = some dm -> ∀ W, Below w.heap.size w W -> ∃ bD oD, x.dA = some ⟨bD, oD, none⟩ /\ bD < W.heap.size /\ ∀ j v, (dmC dm)[j]? = some v -> W.cell? ⟨bD, oD + k * 8 + j, none⟩ = some v)
 (hLV : ∀ W, Below w.heap.size w W -> Calls Tryz.prog 53 #[dtV x] W fun e w' => e = .returned (.bool true) /\ Below W.heap.size W w')
 (hSP : ∀ k, k < x.dn -> ∀ W, Below w.heap.size w W -> Calls Tryz.prog 13 #[dtV x, .int .i64 k] W (GivesSpn (Ls k) W)) :
 Calls Tryz.prog 21 #[dtV x] w (GivesFn (S.failN ds Ls x.dn) w) := by
 have HLV := lh hLV
 have HSP := lh hSP
 have HDC := lh hdc
 have HLS := lh hLs
 have HDS := lh hds
 clear hLV hSP hdc hLs hds
 unfold dtV at HLV HSP
 unfold dtV
 have hDB := Blk.new w 34 #[.string x.m.name, .slice x.mA x.mn x.mc, .slice x.hA x.hn x.hc, .int .i64 x.m.cover, .int .i64 x.m.aggr, .int .i64 x.m.poker, .slice x.bA x.bn x.bc, .slice x.rA x.rn x.rc, .slice x.jA x.jn x.jc, .slice x.dA x.dn x.dc, .int .i64 x.rule.num, .int .i64 x.rule.den, .int .i64 x.rule.pnum, .int .i64 x.rule.pden, .int .i64 x.rule.bnum, .int .i64 x.rule.bden, .int .i64 x.rule.lnum, .int .i64 x.rule.lden, .int .i64 x.rule.least]
 have hW1 : Below w.heap.size w (w.alloc (.cells #[.string x.m.name, .slice x.mA x.mn x.mc, .slice x.hA x.hn x.hc, .int .i64 x.m.cover, .int .i64 x.m.aggr, .int .i64 x.m.poker, .slice x.bA x.bn x.bc, .slice x.rA x.rn x.rc, .slice x.jA x.jn x.jc, .slice x.dA x.dn x.dc, .int .i64 x.rule.num, .int .i64 x.rule.den, .int .i64 x.rule.pnum, .int .i64 x.rule.pden, .int .i64 x.rule.bnum, .int .i64 x.rule.bden, .int .i64 x.rule.lnum, .int .i64 x.rule.lden, .int .i64 x.rule.least] 34)) := ba_alloc (Below.refl _ _) _
 go_enter Tryz.func21, Tryz.ntmps21
 go_upto_region 1 with fail
 generalize (w.alloc (.cells #[.string x.m.name, .slice x.mA x.mn x.mc, .slice x.hA x.hn x.hc, .int .i64 x.m.cover, .int .i64 x.m.aggr, .int .i64 x.m.poker, .slice x.bA x.bn x.bc, .slice x.rA x.rn x.rc, .slice x.jA x.jn x.jc, .slice x.dA x.dn x.dc, .int .i64 x.rule.num, .int .i64 x.rule.den, .int .i64 x.rule.pnum, .int .i64 x.rule.pden, .int .i64 x.rule.bnum, .int .i64 x.rule.bden, .int .i64 x.rule.lnum, .int .i64 x.rule.lden, .int .i64 x.rule.least] 34)) = W1 at *
 have HDB := lh hDB
 clear hDB
 go_upto_region 4 with (first
  | ((with_reducible refine at_load 34 1 ?_); refine wpList_load_mid rfl 34 (.tmp 1) rfl _ _ rfl _ _ (HDB.out.via belr).range Tryz.underlying34 rfl (by kernel_rfl) ?_)
  | (go_at_call 53; (with_reducible refine (HLV.out _ belr).mono ?_); rintro e w2 ⟨rfl, hbw2⟩))
 have hw2 : Below w.heap.size w w2 := ba_via hbw2 hW1
 have HD2 := lh (HDB.out.via hbw2)
 have hDx := HD2.out
 have d9 := hDx.cell 9
 have dl := hDx.lt
 simp only [ga1, ga2, ga3] at d9
 clear hDx HDB hbw2 hW1 HLV
 go_wp2
 go_loopw [4, 15] (fun v i wr => ∃ q : Nat, q <= x.dn /\ i = .int .i64 q /\ wr.ownsRow w2.heap.size 71 2 v (S.failN ds Ls q).length ((S.failN ds Ls q).flatMap fnC) /\ Below w2.heap.size w2 wr) (fun _ i _ => x.dn - (intOf i).toNat)
 case atStart => exact ⟨0, Nat.zero_le _, rfl, World.ownsRow_nil _ _ _ _, Below.refl _ _⟩
 case round =>
  obtain ⟨q, hq, rfl, hO, hbr⟩ := hrel
  have HO := lh hO
  have hsr := hbr.size
  have hbwr : Below w.heap.size w wr := ba_via hbr hw2
  have hfl := failN_len ds Ls q
  clear hO d9 dl
  by_cases hlt : q < x.dn
  ·have hqx : q < ds.length := by rw [HDS.out]; exact hlt
   have hqi : (q : Int) < x.dn := by omega
   have HFN := lh (show S.failN ds Ls (q + 1) = S.failN ds Ls q ++ (match Ls q, ds[q]? with | _ :: _, some d => [d.name] | _, _ => []) from rfl)
   obtain ⟨bD, oD, hdA, hbD, hdm⟩ := HDC.out q ds[q] (List.getElem?_eq_getElem hqx) wr hbwr
   rw [List.getElem?_eq_getElem hqx] at HFN
   generalize ds[q] = dm at *
   have hlq := HLS.out q
   have m0 := hdm 0 _ rfl
   have m1 := hdm 1 _ rfl
   have m2 := hdm 2 _ rfl
   have m3 := hdm 3 _ rfl
   have m4 := hdm 4 _ rfl
   have m5 := hdm 5 _ rfl
   have m6 := hdm 6 _ rfl
   have m7 := hdm 7 _ rfl
   simp only [Nat.add_zero] at m0
   rw [hdA]
   have HDR := lh (HD2.out.via hbr)
   rw [hdA] at HDR
   have HSQ := lh (fun (W : World) (hw : Below wr.heap.size wr W) => HSP.out q hlt W (ba_via hw hbwr))
   rw [hdA] at HSQ
   clear hdm
   generalize Ls q = lq at *
   obtain ⟨fl, hfe⟩ : ∃ fl, fl = (S.failN ds Ls q).length := ⟨_, rfl⟩
   have HO2 := HO.out
   rw [<- hfe] at hfl HO2
   have HFE := lh hfe
   clear hfe HO
   have HO := lh HO2
   clear HO2
   go_upto_region 7 with fail
   have hb6 : Below wr.heap.size wr (wr.alloc (.cells #[.string dm.name, .int .i64 dm.zone.lo.x, .int .i64 dm.zone.lo.y, .int .i64 dm.zone.lo.z, .int .i64 dm.zone.hi.x, .int .i64 dm.zone.hi.y, .int .i64 dm.zone.hi.z, .slice dm.A dm.n dm.c] 81)) := ba_alloc (Below.refl _ _) _
   have hC6 := Blk.new wr 81 #[.string dm.name, .int .i64 dm.zone.lo.x, .int .i64 dm.zone.lo.y, .int .i64 dm.zone.lo.z, .int .i64 dm.zone.hi.x, .int .i64 dm.zone.hi.y, .int .i64 dm.zone.hi.z, .slice dm.A dm.n dm.c]
   generalize (wr.alloc (.cells #[.string dm.name, .int .i64 dm.zone.lo.x, .int .i64 dm.zone.lo.y, .int .i64 dm.zone.lo.z, .int .i64 dm.zone.hi.x, .int .i64 dm.zone.hi.y, .int .i64 dm.zone.hi.z, .slice dm.A dm.n dm.c] 81)) = W6 at *
   have HC6 := lh hC6
   have HD6 := lh (HDR.out.via hb6)
   clear m0 m1 m2 m3 m4 m5 m6 m7 hC6 HDR
   go_upto_region 10 with (first
    | ((with_reducible refine at_load 34 1 ?_); refine wpList_load_mid rfl 34 (.tmp 1) rfl _ _ rfl _ _ (HD6.out.via belr).range Tryz.underlying34 rfl (by kernel_rfl) ?_)
    | (go_at_call 13; (with_reducible refine (HSQ.out _ (ba_via belr hb6)).mono ?_); rintro e w8 ⟨A8, c8, rfl, hC8, hbw8⟩))
   have h68 : Below wr.heap.size wr w8 := ba_via hbw8 hb6
   have h8s := h68.size
   have HO8 := lh (own_kept HO.out (fun k hk => h68.block k (HO.out.lt k hk).2))
   have HB8 := lh (hbr.trans (h68.mono hsr))
   have hN8 := HC6.out.via hbw8
   have n0 := hN8.cell 0
   have nl := hN8.lt
   simp only [ga1, ga2, ga3] at n0
   clear hN8 HC6 HD6 HSQ hC8 hb6 hbw8 hbr HO
   cases lq with
   | nil =>
    have HN := lh (show S.failN ds Ls (q + 1) = S.failN ds Ls q by rw [HFN.out]; simp)
    clear HFN
    go_wp2
    go_roundw
    case rel => exact ⟨q + 1, by omega, by go_num, by rw [HN.out, <- HFE.out]; exact HO8.out, HB8.out⟩
    case measure => simp [intOf]; omega
   | cons t r =>
    have HN := lh (show S.failN ds Ls (q + 1) = S.failN ds Ls q ++ [dm.name] from HFN.out)
    obtain ⟨lz, hlz⟩ : ∃ lz, lz = (t :: r).length := ⟨_, rfl⟩
    have hz1 : 0 < lz := by rw [hlz]; simp
    have hz2 : decide (0 < lz) = true := decide_eq_true hz1
    have hz3 : decide ((0 : Int) < (lz : Int)) = true := decide_eq_true (by omega)
    rw [<- hlz]
    clear HFN hlz hlq
    go_wp2_with (at_builtin; refine wpList_append_cells rfl (.tmp 32) (.tmp 36) _ rfl elemFn w2.heap.size _ fl ((S.failN ds Ls q).flatMap fnC) rfl (own_kept HO8.out (fun k hk => (ba_alloc (Below.refl _ _) _).block k (HO8.out.lt k hk).2)) (some ⟨w8.heap.size, 0, none⟩) 1 1 [.int .i64 1, .string dm.name] _ rfl rfl (Cells.newRow w8 #[.int .i64 1, .string dm.name] 71 (0, 0)) (by simp [Value.oneCell']) (by unfold maxLen; omega) (by omega) (by simp; omega) ?_; intro v2 wE hOE hbE)
    go_roundw
    case rel => exact ⟨q + 1, by omega, by go_num, by rw [HN.out, List.length_append, <- HFE.out]; simpa using hOE, HB8.out.trans (((ba_alloc (Below.refl _ _) _).mono (by omega)).trans hbE)⟩
    case measure => simp [intOf]; omega
  ·have hqn : q = x.dn := by omega
   have hqi : ¬ ((q : Int) < x.dn) := by omega
   rw [hqn] at HO
   obtain ⟨A9, c9, hu, _, _, hC9⟩ := own_form HO.out (by unfold maxLen; have := failN_len ds Ls x.dn; omega)
   subst hu
   go_wp2
   go_ret2
   exact ⟨A9, c9, rfl, hC9, hbwr⟩
set_option maxHeartbeats 1000000 in
theorem passes_any (x : Dt) (L : List ByteArray) (w : World) (hL : L.length <= 100)
 (hCK : ∀ W, Below w.heap.size w W -> Calls Tryz.prog 21 #[dtV x] W (GivesFn L W)) :
 Calls Tryz.prog 22 #[dtV x] w fun e w' => e = .returned (.tuple #[.bool (decide (L.length = 0)), .int .i64 0]) /\ Below w.heap.size w w' := by
 have HCK := lh hCK
 clear hCK
 unfold dtV at HCK
 unfold dtV
 have hDB := Blk.new w 34 #[.string x.m.name, .slice x.mA x.mn x.mc, .slice x.hA x.hn x.hc, .int .i64 x.m.cover, .int .i64 x.m.aggr, .int .i64 x.m.poker, .slice x.bA x.bn x.bc, .slice x.rA x.rn x.rc, .slice x.jA x.jn x.jc, .slice x.dA x.dn x.dc, .int .i64 x.rule.num, .int .i64 x.rule.den, .int .i64 x.rule.pnum, .int .i64 x.rule.pden, .int .i64 x.rule.bnum, .int .i64 x.rule.bden, .int .i64 x.rule.lnum, .int .i64 x.rule.lden, .int .i64 x.rule.least]
 have hW1 : Below w.heap.size w (w.alloc (.cells #[.string x.m.name, .slice x.mA x.mn x.mc, .slice x.hA x.hn x.hc, .int .i64 x.m.cover, .int .i64 x.m.aggr, .int .i64 x.m.poker, .slice x.bA x.bn x.bc, .slice x.rA x.rn x.rc, .slice x.jA x.jn x.jc, .slice x.dA x.dn x.dc, .int .i64 x.rule.num, .int .i64 x.rule.den, .int .i64 x.rule.pnum, .int .i64 x.rule.pden, .int .i64 x.rule.bnum, .int .i64 x.rule.bden, .int .i64 x.rule.lnum, .int .i64 x.rule.lden, .int .i64 x.rule.least] 34)) := ba_alloc (Below.refl _ _) _
 go_enter Tryz.func22, Tryz.ntmps22
 go_upto_region 1 with fail
 generalize (w.alloc (.cells #[.string x.m.name, .slice x.mA x.mn x.mc, .slice x.hA x.hn x.hc, .int .i64 x.m.cover, .int .i64 x.m.aggr, .int .i64 x.m.poker, .slice x.bA x.bn x.bc, .slice x.rA x.rn x.rc, .slice x.jA x.jn x.jc, .slice x.dA x.dn x.dc, .int .i64 x.rule.num, .int .i64 x.rule.den, .int .i64 x.rule.pnum, .int .i64 x.rule.pden, .int .i64 x.rule.bnum, .int .i64 x.rule.bden, .int .i64 x.rule.lnum, .int .i64 x.rule.lden, .int .i64 x.rule.least] 34)) = W1 at *
 have HDB := lh hDB
 clear hDB
 go_upto_region 2 with (first
  | ((with_reducible refine at_load 34 1 ?_); refine wpList_load_mid rfl 34 (.tmp 1) rfl _ _ rfl _ _ (HDB.out.via belr).range Tryz.underlying34 rfl (by kernel_rfl) ?_)
  | (go_at_call 21; (with_reducible refine (HCK.out _ belr).mono ?_); rintro e w2 ⟨A2, c2, rfl, hC2, hbw2⟩))
 have hw2 : Below w.heap.size w w2 := ba_via hbw2 hW1
 clear hC2 hbw2 hW1 HDB HCK
 obtain ⟨n, hn⟩ : ∃ n, n = L.length := ⟨_, rfl⟩
 obtain ⟨bb, hbb⟩ : ∃ bb : Bool, bb = decide (L.length = 0) := ⟨_, rfl⟩
 have HB := lh hbb
 have hz : ((n : Int) == 0) = bb := by rw [hbb, <- hn, Bool.eq_iff_iff]; simp
 rw [<- hn]
 clear hbb hn
 go_wp2
 go_ret2
 exact ⟨by rw [<- HB.out]; rfl, hw2⟩
section
variable {x : Dt} {ds : List Dm} {w : World}
theorem good_Spare (h : DtOk w x ds) (hlk : S.look x (S.dems ds) = true) (hC : (S.cOf x).length <= 100) {k : Nat} {dm : Dm} (hk : ds[k]? = some dm) {rs : List Rod} (hrs : RodsOf x (S.nOf x) rs) :
 ∀ W, Below w.heap.size w W -> Calls Tryz.prog 17 #[dtV x, .int .i64 k] W fun e w' => e = .returned (.tuple #[.int .i64 (S.spareOf (S.partsD x rs dm)).1, .int .i64 (S.spareOf (S.partsD x rs dm)).2.1, .int .i64 (S.spareOf (S.partsD x rs dm)).2.2]) /\ Below W.heap.size W w' := fun W hw =>
 spare_yes x k (S.partsD x rs dm) W (partsD_len h hlk hC hk hrs) (fun i hi => by
  unfold S.partsD at hi ⊢
  rw [partsOf_get hi]
  have h1 := valueOf_bd (sup_valid hlk hC hrs dm.zone) ((S.spots (S.supplyOf x rs (S.cOf x) dm.zone) dm.st).getD i 0)
  have h2 := valueOf_bd (dem_steps hlk hk).1 ((S.spots (S.supplyOf x rs (S.cOf x) dm.zone) dm.st).getD i 0)
  exact ⟨h1.1, h1.2, h2.1, h2.2⟩) (fun V hV => good_parts h hlk hC hk hrs V (hw.trans (hV.mono hw.size)))
def S.spansD (x : Dt) (rs : List Rod) (ds : List Dm) (k : Nat) : List Sp := match ds[k]? with | some dm => S.spansL (S.partsD x rs dm) | none => []
theorem good_Check (h : DtOk w x ds) (hlk : S.look x (S.dems ds) = true) (hC : (S.cOf x).length <= 100) {rs : List Rod} (hrs : RodsOf x (S.nOf x) rs) :
 ∀ W, Below w.heap.size w W -> Calls Tryz.prog 21 #[dtV x] W (GivesFn (S.failN ds (S.spansD x rs ds) x.dn) W) := fun W hw => by
 have h20 : ds.length <= 20 := by
  have := (look_ok hlk).dems
  unfold S.dems at this
  simp only [Bool.and_eq_true, decide_eq_true_eq] at this
  exact this.1
 have hLV := sec_lv h
 rw [hlk] at hLV
 refine check_yes x ds (S.spansD x rs ds) W h.dems.len (by rw [<- h.dems.len]; exact h20) (fun k => ?_) (fun k dm hk V hV => sec_dem h hk V (hw.trans (hV.mono hw.size))) (fun V hV => hLV V (hw.trans (hV.mono hw.size))) (fun k hk V hV => ?_)
 ·unfold S.spansD
  cases hk : ds[k]? with
  | none => exact Nat.zero_le _
  | some dm => exact Nat.le_trans (spansL_len _) (partsD_len h hlk hC hk hrs)
 ·have hkx : k < ds.length := by rw [h.dems.len]; exact hk
  unfold S.spansD
  rw [List.getElem?_eq_getElem hkx]
  exact good_Spans h hlk hC (List.getElem?_eq_getElem hkx) hrs V (hw.trans (hV.mono hw.size))
theorem good_Passes (h : DtOk w x ds) (hlk : S.look x (S.dems ds) = true) (hC : (S.cOf x).length <= 100) {rs : List Rod} (hrs : RodsOf x (S.nOf x) rs) :
 ∀ W, Below w.heap.size w W -> Calls Tryz.prog 22 #[dtV x] W fun e w' => e = .returned (.tuple #[.bool (decide ((S.failN ds (S.spansD x rs ds) x.dn).length = 0)), .int .i64 0]) /\ Below W.heap.size W w' := fun W hw => by
 have h20 : ds.length <= 20 := by
  have := (look_ok hlk).dems
  unfold S.dems at this
  simp only [Bool.and_eq_true, decide_eq_true_eq] at this
  exact this.1
 have hn := failN_len ds (S.spansD x rs ds) x.dn
 have hd := h.dems.len
 exact passes_any x _ W (by omega) (fun V hV => good_Check h hlk hC hrs V (hw.trans (hV.mono hw.size)))
end
end Go.Proofs.YtmfpbafpnoomeaaGreat
