/- Lemmas. -/
import Derived.Test.YtmfpbafpnoomeaaGreatMY
set_option linter.unusedVariables false
set_option linter.unusedSimpArgs false
namespace Go.Proofs.YtmfpbafpnoomeaaGreat
open Go.RowKit
theorem isMain_any (b : Bx) (w : World) :
 Calls Tryz.prog 237 #[boxV b] w fun e w' => e = .returned (.bool (S.isMainB b)) /\ Below w.heap.size w w' := by
 have H := lh (show S.isMainB b = (decide (b.lo.x < b.hi.x) && decide (b.lo.y = b.hi.y) && decide (b.lo.z = b.hi.z)) from rfl)
 unfold boxV
 go_enter Tryz.func237, Tryz.ntmps237
 go_wp2
 all_goals (go_ret; exact ⟨ret_b (by rw [H.out, Bool.eq_iff_iff]; all_goals (first | (simp at *; done) | (simp at *; omega))), bel⟩)
theorem notok_any (b : Bx) (w : World) : Calls Tryz.prog 235 #[boxV b] w fun e w' => e = .returned (.bool (S.boxNot b)) /\ Below w.heap.size w w' := by
 have HV := lh (fun w => bvalid_any b w)
 unfold boxV
 go_enter Tryz.func235, Tryz.ntmps235
 go_wp2_with (go_at_call 94; (with_reducible refine (HV.out _).mono ?_); rintro e w1 ⟨rfl, hbw1⟩; obtain ⟨hcw1, hfw1⟩ := bcell hbw1; have hzw1_0 : w.heap.size < w1.heap.size := lt_via hbw1 sz)
 go_ret
 exact ⟨rfl, bel⟩
abbrev S.pbox (p : Pt) : Bx := ⟨p, p⟩
def S.touch (xs : List Bx) (j : Nat) (p : Pt) : Bool := S.cont (xs.getD j S.zbox) (S.pbox p)
def S.bent (xs : List Bx) (k : Nat) (p : Pt) : Bool := (decide (0 < k) && S.touch xs (k - 1) p) || (decide (k + 1 < xs.length) && S.touch xs (k + 1) p)
def S.heads (r : Rule) (m : Mem) (b : Bar) : Bool := S.rule r && S.member m && S.bar b
def S.given (r : Rule) (m : Mem) (b : Bar) (xs : List Bx) : Int :=
 if S.heads r m b = false then 1 else if anyb xs S.boxNot = true then 1 else if xs.length = (S.legsOf b.code).length then (if idxf xs S.isMainB < 0 then 12 else 0) else 3
structure EndsAt (w : World) (B : Nat) (A : Option Addr) (n : Nat) (A' : Option Addr) (n' : Nat) (m : Mem) (D : Option Addr) (dn : Nat) (b : Bar) (L : Option Addr) (k : Nat) (xs : List Bx) : Prop where
 sol : SolAt w B A n A' n' m.boxes m.holes
 bar : BarAt w B D dn b
 legs : Cells w B L (xs.flatMap boxC)
 len : xs.length = k
 max : k <= 9223372036854775807
 name : m.name.size <= 9223372036854775807
theorem EndsAt.at_ {w w' : World} {B : Nat} {A : Option Addr} {n : Nat} {A' : Option Addr} {n' : Nat} {m : Mem} {D : Option Addr} {dn : Nat} {b : Bar} {L : Option Addr} {k : Nat} {xs : List Bx}
 (h : EndsAt w B A n A' n' m D dn b L k xs) (hB : B <= w.heap.size) (hb : Below w.heap.size w w') : EndsAt w' B A n A' n' m D dn b L k xs :=
 ⟨h.sol.at_ hB hb, h.bar.at_ hB hb, h.legs.below (hb.mono hB), h.len, h.max, h.name⟩
theorem given_zero {r : Rule} {m : Mem} {b : Bar} {xs : List Bx} (h : S.given r m b xs = 0) : S.heads r m b = true /\ anyb xs S.boxNot = false /\ xs.length = (S.legsOf b.code).length /\ 0 <= idxf xs S.isMainB := by
 unfold S.given at h
 cases h1 : S.heads r m b
 ·rw [h1] at h; simp at h
 ·cases h2 : anyb xs S.boxNot
  ·by_cases h3 : xs.length = (S.legsOf b.code).length
   ·by_cases h4 : idxf xs S.isMainB < 0
    ·simp [h1, h2, h3, h4] at h
    ·exact ⟨rfl, rfl, h3, by omega⟩
   ·simp [h1, h2, h3] at h
  ·simp [h1, h2] at h
theorem idxf_some {α : Type} {xs : List α} {p : α -> Bool} (h : 0 <= idxf xs p) : ∃ k : Nat, ∃ hk : k < xs.length, idxf xs p = k /\ p xs[k] = true := by
 unfold idxf at h ⊢
 cases hf : xs.findIdx? p with
 | none => rw [hf] at h; simp at h
 | some k =>
  obtain ⟨hk, hp, _⟩ := List.findIdx?_eq_some_iff_getElem.1 hf
  exact ⟨k, hk, rfl, hp⟩
def S.endLen (r : Rule) (m : Mem) (b : Bar) (xs : List Bx) (k : Nat) (p : Pt) : Int := S.length r b.size (S.poor m.boxes (xs.getD k S.zbox)) (S.bent xs k p)
theorem bar_size {b : Bar} (h : S.bar b = true) : S.size b.size = true := by
 simp only [S.bar, S.barHead, Bool.and_eq_true] at h
 exact h.1.1.1.1.2
theorem take_lens (b : Bar) {k : Nat} (hk : k < (S.legsOf b.code).length) (hj : (S.legsOf b.code)[k].1 < b.dims.length) :
 i64s ((S.legLens b).take (k + 1)) = i64s ((S.legLens b).take k) ++ [.int .i64 b.dims[(S.legsOf b.code)[k].1]] := by
 have hk' : k < (S.legLens b).length := by simpa [S.legLens] using hk
 rw [List.take_succ_eq_append_getElem hk', i64s, List.map_append]
 simp [S.legLens, List.getD_eq_getElem?_getD, List.getElem?_eq_getElem hj]
set_option maxHeartbeats 2000000 in
theorem legs_yes (b : Bar) (A : Option Addr) (n c : Nat) (B : Nat) (w : World) (hB : B <= w.heap.size) (hA : BarAt w B A n b) (h : S.bar b = true) :
 Calls Tryz.prog 236 #[barV b A n c] w (GivesRow 3 1 (S.legsOf b.code).length (i64s (S.legLens b)) 0 w) := by
 have HA := lh (hA.below ((Below.refl B w).alloc hB (.cells #[.string b.mark, .int .i64 b.size, .int .i64 b.count, .int .i64 b.code, .slice A n c] 138)))
 have hcl := hA.cells
 have HN := lh hA.len
 have HD := lh (bar_head h)
 have hmx := hA.max
 have hl6 := legs_len b.code
 clear hA
 unfold barV
 go_enter Tryz.func236, Tryz.ntmps236
 go_wp2_with (first
  | (go_at_call 203; (with_reducible refine (valid_any b A n c B _ (by simp; omega) HA.out).mono ?_); rintro e w1 ⟨rfl, hbw1⟩; obtain ⟨hcw1, hfw1⟩ := bcell hbw1; have hzw1_0 : w.heap.size < w1.heap.size := lt_via hbw1 sz)
  | (go_at_call 212; (with_reducible refine (legs_any b.code _).mono ?_); rintro e w2 ⟨A2, rfl, hs, hb2, _⟩; obtain ⟨hcw2, hfw2⟩ := bcell hb2; have hz2 : w.heap.size < w2.heap.size := lt_via hb2 (by omega)))
 have hbw : Below w.heap.size w w2 := bel
 have hcl2 := hcl.below (hbw.mono hB)
 go_loopw [4, 14] (fun v i wr => ∃ (k : Nat) (A3 : Option Addr) (c3 : Nat), k <= (S.legsOf b.code).length /\ i = .int .i64 k /\ v = .slice A3 k c3 /\ Row w2 wr none w.heap.size 3 1 (.slice A3 k c3) k (i64s ((S.legLens b).take k)) /\ Exc [] w2 wr) (fun _ i _ => (S.legsOf b.code).length - (intOf i).toNat)
 case atStart => exact ⟨0, none, 0, Nat.zero_le _, rfl, rfl, Row.none_ _ _ _ _, Exc.refl _ _⟩
 case round =>
  obtain ⟨k, A3, c3, hk, rfl, rfl, hR, hX⟩ := hrel
  by_cases hlt : k < (S.legsOf b.code).length
  ·have hbx : Below w2.heap.size w2 wr := hX.below (Nat.le_refl _) (by simp)
   have hs' := hs.below hbx
   obtain ⟨b4, o4, rfl, hbl, _⟩ := hs'.at_ (by rw [flat_len legC 2 legC_len]; omega)
   have c0 := hs'.row0 legC_len hlt rfl
   have c1 := hs'.rowj legC_len hlt 1 rfl
   have hj : (S.legsOf b.code)[k].1 < n := by have := legs_dim b.code hlt; have := HN.out; have := HD.out; omega
   have hjd : (S.legsOf b.code)[k].1 < b.dims.length := by have := HN.out; omega
   have hcl3 := hcl2.below (hbx.mono (Nat.le_trans hB hbw.size))
   obtain ⟨bd, od, rfl, hbd, hcd⟩ := hcl3.at_ (by simp; omega)
   have hck := hcd _ _ (i64s_get hjd)
   clear hcd
   obtain ⟨hcr, hfr⟩ := bcell hbx
   have hbd2 : bd < wr.heap.size := by have := hbx.size; have := hbw.size; omega
   have hbl2 : b4 < wr.heap.size := by have := hbx.size; omega
   have hz3 : w.heap.size < wr.heap.size := lt_via hbx hz2
   have HT := lh (take_lens b hlt hjd)
   have hk6 : k <= 6 := by omega
   go_wp2_with (at_builtin; refine wpList_push rfl (.tmp 18) (.tmp 25) _ rfl elemInt ((hR.alloc _).alloc _) ((hX.alloc _).alloc _) (by simp) hbw.size rfl (wr.heap.size + 1) 1 1 [.int .i64 b.dims[(S.legsOf b.code)[k].1]] rfl rfl ?_ (by simp [Value.oneCell']) (by unfold maxLen; omega) (by omega) ?_; (· simp); intro v' w' hR' hX' hO'; clear hcr hfr)
   obtain ⟨A5, c5, rfl, _, _, _⟩ := own_form hR'.own
   go_roundw
   case rel => exact ⟨k + 1, A5, c5, by omega, by go_num, rfl, by rw [HT.out]; exact hR', hX'⟩
   case measure => simp [intOf]; omega
  ·have he : k = (S.legsOf b.code).length := by omega
   have ht : (S.legLens b).take k = S.legLens b := List.take_of_length_le (by simp [S.legLens]; omega)
   have HE := lh he
   have HT := lh ht
   clear he ht
   go_wp2
   go_ret2
   refine ⟨A3, c3, by rw [HE.out]; rfl, ?_, ?_⟩
   ·have := hR.own
    rw [HT.out] at this
    rwa [HE.out] at this
   ·exact ba_via (hX.below (Nat.le_refl _) (by simp)) hbw
theorem ptD_get {l : List Pt} {k : Nat} (h : k < l.length) : l[k]? = some (S.ptD l k) := by simp [S.ptD, List.getElem?_eq_getElem h]
theorem Cells.two {w : World} {B b o : Nat} {l : List Pt} (h : Cells w B (some ⟨b, o, none⟩) (l.flatMap ptC)) {k : Nat} (hk : k + 1 < l.length) : Cells w B (some ⟨b, o + k * 3, none⟩) ([S.ptD l k, S.ptD l (k + 1)].flatMap ptC) := by
 obtain ⟨b', o', he, hb, _⟩ := h.at_ (by rw [flat_len ptC 3 ptC_len]; omega)
 injection he with he
 injection he with h1 h2
 subst h1 h2
 obtain ⟨c0, c1, c2⟩ := h.pts (ptD_get (show k < l.length by omega))
 obtain ⟨d0, d1, d2⟩ := h.pts (ptD_get hk)
 refine .inr ⟨b, o + k * 3, rfl, hb, fun j v hv => ?_⟩
 have e : o + (k + 1) * 3 = o + k * 3 + 3 := by omega
 rw [e] at d0 d1 d2
 simp only [List.flatMap_cons, List.flatMap_nil, List.append_nil, List.cons_append, List.nil_append] at hv
 have hj : j < 6 := by
  have := (List.getElem?_eq_some_iff.1 hv).1
  simpa using this
 have : j = 0 ∨ j = 1 ∨ j = 2 ∨ j = 3 ∨ j = 4 ∨ j = 5 := by omega
 rcases this with rfl | rfl | rfl | rfl | rfl | rfl
 all_goals (simp only [List.getElem?_cons_zero, List.getElem?_cons_succ, Option.some.injEq] at hv; subst hv)
 ·exact c0
 ·exact c1
 ·exact c2
 ·exact d0
 ·exact d1
 ·exact d2
set_option maxRecDepth 20000 in
set_option maxHeartbeats 2000000 in
theorem rlegs16_any (l : List BarR) (rs : List Rn) (A : Option Addr) (n c : Nat) (A' : Option Addr) (n' c' : Nat) (B : Nat) (w : World) (hB : B <= w.heap.size) (hA : BarsAt w B A n l) (hR : RunsAt w B A' n' rs) (i k j k0 : Nat) (r : BarR) (hL : Lies l rs i k j k0 r) (L : Nat) (hLL : (S.legsOf r.b.code).length = L) :
 Calls Tryz.prog 147 #[.slice A n c, .slice A' n' c', .int .i64 i] w (GivesOne 78 6 L ((S.legsL (S.laidPath r.b (rs[k]'hL.st.lt) j)).flatMap boxC) w) := by
 have HP := lh (rpoints16_any l rs A n c A' n' c' B w hB hA hR i k j k0 r hL L hLL)
 have HLP := lh (show (S.laidPath r.b (rs[k]'hL.st.lt) j).length = L + 1 by rw [laidPath_len, hLL])
 have hl6 := legs_len r.b.code
 rw [hLL] at hl6
 clear hA hR
 generalize S.laidPath r.b (rs[k]'hL.st.lt) j = LP at *
 clear hL hLL
 have HLN := lh (show (S.legsL LP).length = L by rw [S.legsL, legsTo_len, HLP.out]; rfl)
 have HLL := lh (show S.legsL LP = S.legsTo LP L by rw [S.legsL, HLP.out]; rfl)
 have HLS := lh (fun m => legsTo_snoc LP m)
 have HTW := lh (fun (p q : Pt) (W : World) (A : Option Addr) (c B' : Nat) (hw : B' <= W.heap.size) (hs : Cells W B' A ([p, q].flatMap ptC)) => hull_two p q ▸ rhull_any A 2 c [p, q] p B' W rfl (by omega) hw hs rfl)
 go_enter Tryz.func147, Tryz.ntmps147
 go_wp2_with (first
  | (go_at_call 193; (with_reducible refine (HP.out).mono ?_); rintro e w1 ⟨Aw1, cw1, rfl, how1, hbw1⟩; obtain ⟨hcw1, hfw1⟩ := bcell hbw1))
 have hs1 := (own_cells how1 (by unfold maxLen; omega)).1
 have hcw := (own_cells how1 (by unfold maxLen; omega)).2.1
 have hbw : Below w.heap.size w w1 := hbw1
 clear hcw1 hfw1 how1
 go_loopw [8, 9] (fun v i wr => ∃ (q : Nat) (A3 : Option Addr) (c3 : Nat), q <= L /\ i = .int .i64 ((q + 1 : Nat) : Int) /\ v = .slice A3 q c3 /\ Row w1 wr none w.heap.size 78 6 (.slice A3 q c3) q ((S.legsTo LP q).flatMap boxC) /\ Exc [] w1 wr) (fun _ i _ => L + 1 - (intOf i).toNat)
 case atStart => exact ⟨0, none, 0, Nat.zero_le _, rfl, rfl, by simpa [S.legsTo] using Row.none_ _ _ _ _, Exc.refl _ _⟩
 case round =>
  obtain ⟨q, A3, c3, hq, rfl, rfl, hRW, hX⟩ := hrel
  have hbx : Below w1.heap.size w1 wr := hX.below (Nat.le_refl _) (by simp)
  have hsz := hbx.size
  by_cases hlt : q < L
  ·have hs' := hs1.below hbx
   obtain ⟨b4, o4, rfl, hbl, _⟩ := hs'.at_ (by rw [flat_len ptC 3 ptC_len, HLP.out]; omega)
   have hs2 := Cells.two (k := q) hs' (by have := HLP.out; omega)
   have HTq := lh (fun (W : World) (A : Option Addr) (c B' : Nat) (hw : B' <= W.heap.size) (hs : Cells W B' A ([S.ptD LP q, S.ptD LP (q + 1)].flatMap ptC)) => HTW.out _ _ W A c B' hw hs)
   have HSq := lh (show (S.legsTo LP (q + 1)).flatMap boxC = (S.legsTo LP q).flatMap boxC ++ boxC (S.legB (S.ptD LP q) (S.ptD LP (q + 1))) by rw [HLS.out, List.flatMap_append]; simp)
   generalize S.legB (S.ptD LP q) (S.ptD LP (q + 1)) = X at *
   generalize [S.ptD LP q, S.ptD LP (q + 1)].flatMap ptC = P2 at *
   have hki : (q : Int) + 1 < (L : Int) + 1 := by omega
   have hq6 : q <= 6 := by omega
   have hcp : q + 1 + 1 <= cw1 := by omega
   have hcpi : (q : Int) + 1 + 1 <= (cw1 : Int) := by omega
   have e2 : q + 1 + 1 - q = 2 := by omega
   go_wp2_with (first
    | (go_at_call 194; (with_reducible refine (HTq.out _ _ _ _ (Nat.le_trans (Nat.le_refl _) hsz) hs2).mono ?_); rintro e w2 ⟨rfl, hbw2⟩; obtain ⟨hcw2, hfw2⟩ := bcell hbw2)
    | (at_builtin; refine wpList_push rfl (.tmp 20) (.tmp 28) _ rfl elemBx ((hRW.via hbw2).alloc _) ((Exc.via hbw2 hX).alloc _) (by simp) hbw.size rfl (w2.heap.size) 1 1 [.int .i64 X.lo.x, .int .i64 X.lo.y, .int .i64 X.lo.z, .int .i64 X.hi.x, .int .i64 X.hi.y, .int .i64 X.hi.z] rfl rfl ?_ (by simp [Value.oneCell']) (by unfold maxLen; omega) (by omega) ?_; (· intro j u hu; exact by have := (Cells.newRow w2 #[.int .i64 X.lo.x, .int .i64 X.lo.y, .int .i64 X.lo.z, .int .i64 X.hi.x, .int .i64 X.hi.y, .int .i64 X.hi.z] 78 (0, 0)).get (k := j) (v := u) hu; rwa [Nat.zero_add] at this); intro v' w' hR' hX' hO'))
   obtain ⟨A5, c5, rfl, _, _, _⟩ := own_form hR'.own
   go_roundw
   case rel => exact ⟨q + 1, A5, c5, by omega, by go_num, rfl, by rw [HSq.out]; exact hR', hX'⟩
   case measure => simp [intOf]; omega
  ·have he : q = L := by omega
   subst he
   have hki : ¬ (q : Int) + 1 < (q : Int) + 1 := by omega
   go_wp2
   go_ret
   refine ⟨A3, c3, rfl, ?_, ba_via hbx hbw⟩
   have := hRW.own
   rwa [<- HLL.out] at this
theorem right_pts {bs : List Bar} {r : Rn} {k0 : Nat} {b : Bar} (ho : RunOk bs r k0 b) (hr : S.right bs r = true) : S.rightPts b r = true := by
 unfold S.right at hr
 rw [Bool.and_eq_true, ho.at_] at hr
 exact hr.2
theorem laid_near {bs : List Bar} {r : Rn} {k0 : Nat} {b : Bar} (ho : RunOk bs r k0 b) (hr : S.right bs r = true) {n : Nat} (hn : (n : Int) < r.count) : S.near (S.laidPath b r n) 1048576 = true := by
 have hp := right_pts ho hr
 unfold S.rightPts at hp
 rw [Bool.and_eq_true, List.all_eq_true, List.all_eq_true] at hp
 rw [<- laid_pts ho.turn ho.bar, List.all_eq_true]
 intro p hpm
 have h0 := hp.1 p hpm
 have h1 := hp.2 p hpm
 unfold S.ptOk S.laidPt at *
 by_cases hz : n = 0
 ·subst hz
  exact h0
 ·rw [if_pos (by omega)] at h1
  rw [if_neg (by omega)] at h0
  rw [if_pos (by omega)]
  generalize S.plus p r.at_ 1 = q at *
  obtain ⟨ax, ay, az⟩ := near1_out h0
  obtain ⟨bx, by', bz⟩ := near1_out h1
  rw [show S.plus q r.step n = ⟨q.x + n * r.step.x, q.y + n * r.step.y, q.z + n * r.step.z⟩ from rfl]
  have cx := conv ax bx (show (0 : Int) <= n by omega) (show (n : Int) <= r.count - 1 by omega)
  have cy := conv ay by' (show (0 : Int) <= n by omega) (show (n : Int) <= r.count - 1 by omega)
  have cz := conv az bz (show (0 : Int) <= n by omega) (show (n : Int) <= r.count - 1 by omega)
  simp only [S.near1, Bool.and_eq_true, decide_eq_true_eq]
  omega
def BlkE7 (W : World) (g : Nat) (t : TypeId) : Prop := ∃ c0 c1 c2 c3 c4 c5 c6 : Value, Blk W g t #[c0, c1, c2, c3, c4, c5, c6]
theorem BlkE7.newN {W : World} {n : Nat} (hn : W.heap.size = n) (t : TypeId) (c0 c1 c2 c3 c4 c5 c6 : Value) : BlkE7 (W.alloc (.cells #[c0, c1, c2, c3, c4, c5, c6] t)) n t := ⟨c0, c1, c2, c3, c4, c5, c6, Blk.newN hn t _⟩
theorem BlkE7.map {W w : World} {g : Nat} {t : TypeId} (h : BlkE7 W g t) (f : ∀ cs, Blk W g t cs -> Blk w g t cs) : BlkE7 w g t := by
 obtain ⟨c0, c1, c2, c3, c4, c5, c6, h⟩ := h
 exact ⟨c0, c1, c2, c3, c4, c5, c6, f _ h⟩
theorem BlkE7.alloc {W : World} {g : Nat} {t : TypeId} (h : BlkE7 W g t) (o : Obj) : BlkE7 (W.alloc o) g t := h.map fun _ h => h.alloc o
theorem BlkE7.drew {W : World} {g : Nat} {t : TypeId} (h : BlkE7 W g t) : BlkE7 W.drew g t := h
theorem BlkE7.via {W w : World} {g : Nat} {t : TypeId} (h : BlkE7 W g t) (hb : Below W.heap.size W w) : BlkE7 w g t := h.map fun _ h => h.via hb
theorem Blk.set7 {W : World} {g : Nat} {t : TypeId} (h : BlkE7 W g t) (v0 v1 v2 v3 v4 v5 v6 : Value) : Blk (((((((W.setCell ⟨g, 0, none⟩ v0).setCell ⟨g, 1, none⟩ v1).setCell ⟨g, 2, none⟩ v2).setCell ⟨g, 3, none⟩ v3).setCell ⟨g, 4, none⟩ v4).setCell ⟨g, 5, none⟩ v5).setCell ⟨g, 6, none⟩ v6) g t #[v0, v1, v2, v3, v4, v5, v6] := by
 obtain ⟨c0, c1, c2, c3, c4, c5, c6, hB⟩ := h
 have h9 := ((((((hB.set 0 v0).set 1 v1).set 2 v2).set 3 v3).set 4 v4).set 5 v5).set 6 v6
 simp only [List.setIfInBounds_toArray, List.set_cons_zero, List.set_cons_succ] at h9
 exact h9
theorem Blk.far7 {W : World} {g g' : Nat} {t : TypeId} {cs : Array Value} (h : Blk W g' t cs) (hn : g ≠ g') (v0 v1 v2 v3 v4 v5 v6 : Value) : Blk (((((((W.setCell ⟨g, 0, none⟩ v0).setCell ⟨g, 1, none⟩ v1).setCell ⟨g, 2, none⟩ v2).setCell ⟨g, 3, none⟩ v3).setCell ⟨g, 4, none⟩ v4).setCell ⟨g, 5, none⟩ v5).setCell ⟨g, 6, none⟩ v6) g' t cs :=
 ((((((h.far hn.symm _).far hn.symm _).far hn.symm _).far hn.symm _).far hn.symm _).far hn.symm _).far hn.symm _
theorem BlkE7.far7 {W : World} {g g' : Nat} {t : TypeId} (h : BlkE7 W g' t) (hn : g ≠ g') (v0 v1 v2 v3 v4 v5 v6 : Value) : BlkE7 (((((((W.setCell ⟨g, 0, none⟩ v0).setCell ⟨g, 1, none⟩ v1).setCell ⟨g, 2, none⟩ v2).setCell ⟨g, 3, none⟩ v3).setCell ⟨g, 4, none⟩ v4).setCell ⟨g, 5, none⟩ v5).setCell ⟨g, 6, none⟩ v6) g' t := h.map fun _ h => h.far7 hn _ _ _ _ _ _ _
theorem at_load {P : Program} {ops : Array Oper} {Q : Exit -> Act -> World -> Prop} {rest : List Oper} {a : Act} {w : World} (ty : TypeId) (s : Nat) {dst : Option Nat} {t : TypeId} {pos : String} {after : Array Edge}
 (h : wpList P ops Q ({ dst := dst, op := .load ty (.tmp s), type := t, pos := pos, after := after, guard := none } :: rest) a w) : wpList P ops Q ({ dst := dst, op := .load ty (.tmp s), type := t, pos := pos, after := after, guard := none } :: rest) a w := h
set_option maxRecDepth 100000 in
set_option maxHeartbeats 4000000 in
theorem made_any (n d : Nat) (w : World) (hn : n <= 1152921504606846976) (hd : d <= 1152921504606846976) (hd0 : 1 <= d) :
 Calls Tryz.prog 81 #[uV n, .bool false, uV d] w fun e w' => e = .returned (.tuple #[.agg #[.int .i64 ((n / Nat.gcd n d : Nat) : Int), .int .i64 ((d / Nat.gcd n d : Nat) : Int)], .int .i64 0]) /\ Below w.heap.size w w' := by
 have q0 := run_eq_u d 0
 have q1 : (d == 0) = false := by simp; omega
 rw [q1] at q0
 clear q1
 have hg0 : 1 <= Nat.gcd n d := Nat.gcd_pos_of_pos_right _ (by omega)
 have hg1 := Nat.gcd_le_right n (show 0 < d by omega)
 have HG := lh (fun w => gcd2_any n d w hn hd hd0)
 generalize Nat.gcd n d = g at *
 have HN := lh (fun w => div_any n g w hn (by omega) hg0)
 have HD := lh (fun w => div_any d g w hd (by omega) hg0)
 have hn1 := Nat.le_trans (Nat.div_le_self n g) hn
 have hd1 := Nat.le_trans (Nat.div_le_self d g) hd
 generalize n / g = p at *
 generalize n % g = p' at *
 generalize d / g = q at *
 generalize d % g = q' at *
 have hp : ¬ (1152921504606846976 : Int) < p := by omega
 have hq : ¬ (1152921504606846976 : Int) < q := by omega
 have e1 : IntKind.i64.wrap (p : Int) = p := IntWalk.i64_in _ (by omega)
 have e2 : IntKind.i64.wrap (q : Int) = q := IntWalk.i64_in _ (by omega)
 unfold uV at *
 go_enter Tryz.func81, Tryz.ntmps81
 go_wp2_with (first
  | (go_at_call 106; (with_reducible refine (HG.out _).mono ?_); rintro e w1 ⟨rfl, hbw1⟩; obtain ⟨hcw1, hfw1⟩ := bcell hbw1; have hzw1_0 : w.heap.size < w1.heap.size := lt_via hbw1 sz; have hzw1_1 : w.heap.size + 1 < w1.heap.size := lt_via hbw1 sz; have hzw1_2 : w.heap.size + 1 + 1 < w1.heap.size := lt_via hbw1 sz)
  | (go_at_call 107; (with_reducible refine (HN.out _).mono ?_); rintro e w2 ⟨rfl, hbw2⟩; obtain ⟨hcw2, hfw2⟩ := bcell hbw2; have hzw2_0 : w.heap.size < w2.heap.size := lt_via hbw2 sz; have hzw2_1 : w.heap.size + 1 < w2.heap.size := lt_via hbw2 sz; have hzw2_2 : w.heap.size + 1 + 1 < w2.heap.size := lt_via hbw2 sz; have hzw2_3 : w1.heap.size < w2.heap.size := lt_via hbw2 sz)
  | (go_at_call 107; (with_reducible refine (HD.out _).mono ?_); rintro e w3 ⟨rfl, hbw3⟩; obtain ⟨hcw3, hfw3⟩ := bcell hbw3; have hzw3_0 : w.heap.size < w3.heap.size := lt_via hbw3 sz; have hzw3_1 : w.heap.size + 1 < w3.heap.size := lt_via hbw3 sz; have hzw3_2 : w.heap.size + 1 + 1 < w3.heap.size := lt_via hbw3 sz; have hzw3_3 : w1.heap.size < w3.heap.size := lt_via hbw3 sz; have hzw3_4 : w2.heap.size < w3.heap.size := lt_via hbw3 sz; have hzw3_5 : w2.heap.size + 1 < w3.heap.size := lt_via hbw3 sz))
 exact bodyPost_ret (v := .tuple #[.agg #[.int .i64 (p : Int), .int .i64 (q : Int)], .int .i64 0]) (by simp [results, Tryz.results81, go_sem, *]) rfl ⟨rfl, bel⟩
set_option maxRecDepth 100000 in
set_option maxHeartbeats 1000000 in
theorem rmake_any (n d : Int) (w : World) (h0 : 0 <= n) (h1 : n <= 1152921504606846976) (hd0 : 1 <= d) (hd : d <= 1152921504606846976) :
 Calls Tryz.prog 51 #[.int .i64 n, .int .i64 d] w fun e w' => e = .returned (.tuple #[.agg #[.int .i64 (n / gcdI n d), .int .i64 (d / gcdI n d)], .int .i64 0]) /\ Below w.heap.size w w' := by
 have HM := lh (fun w => made_any n.toNat d.toNat w (by omega) (by omega) (by omega))
 have e1 : ((n.toNat / Nat.gcd n.toNat d.toNat : Nat) : Int) = n / gcdI n d := by rw [Int.natCast_ediv, Int.toNat_of_nonneg h0]; rfl
 have e2 : ((d.toNat / Nat.gcd n.toNat d.toNat : Nat) : Int) = d / gcdI n d := by rw [Int.natCast_ediv, Int.toNat_of_nonneg (by omega)]; rfl
 unfold uV at HM
 rw [e1, e2, Int.toNat_of_nonneg h0, Int.toNat_of_nonneg (show 0 <= d by omega)] at HM
 clear e1 e2
 generalize n / gcdI n d = p at *
 generalize d / gcdI n d = q at *
 have h2 : decide (n < 0) = false := by simp; omega
 have h3 : decide (d < 0) = false := by simp; omega
 go_enter Tryz.func51, Tryz.ntmps51
 go_wp2_with (first
  | (go_at_call 61; (with_reducible refine (rsz2_any _ _ (by omega) (by omega)).mono ?_); rintro e w' ⟨rfl, rfl⟩)
  | (go_at_call 81; (with_reducible refine (HM.out _).mono ?_); rintro e w1 ⟨rfl, hbw1⟩; obtain ⟨hcw1, hfw1⟩ := bcell hbw1; have hzw1_0 : w.heap.size < w1.heap.size := lt_via hbw1 sz))
 exact bodyPost_ret (v := .tuple #[.agg #[.int .i64 p, .int .i64 q], .int .i64 0]) (by simp [results, Tryz.results51, go_sem, *]) rfl ⟨rfl, bel⟩
end Go.Proofs.YtmfpbafpnoomeaaGreat
