/- Lemmas. -/
import Derived.Deep.LoopGhost
import Derived.Test.YtmfpbafpnoomeaaGreatMQ
import Derived.Test.YtmfpbafpnoomeaaGreatMR
set_option linter.unusedVariables false
set_option linter.unusedSimpArgs false
namespace Go.Proofs.YtmfpbafpnoomeaaGreat
open Go.RowKit
abbrev S.pbox (p : Pt) : Bx := ⟨p, p⟩
def S.touch (xs : List Bx) (j : Nat) (p : Pt) : Bool := S.cont (xs.getD j S.zbox) (S.pbox p)
def S.bent (xs : List Bx) (k : Nat) (p : Pt) : Bool := (decide (0 < k) && S.touch xs (k - 1) p) || (decide (k + 1 < xs.length) && S.touch xs (k + 1) p)
def S.heads (r : Rule) (m : Mem) (b : Bar) : Bool := S.rule r && S.member m && S.bar b
def S.given (r : Rule) (m : Mem) (b : Bar) (xs : List Bx) : Int :=
 if S.heads r m b = false then 1 else if anyb xs S.boxNot = true then 1 else if xs.length = (S.legsOf b.code).length then (if idxf xs S.isMainB < 0 then 12 else 0) else 3
structure EndsAt (w : World) (B : Nat) (A : Option Addr) (n : Nat) (A' : Option Addr) (n' : Nat) (m : Mem) (D : Option Addr) (dn : Nat) (b : Bar) (L : Option Addr) (k : Nat) (xs : List Bx) : Prop where
 sol : SolAt w B A n A' n' m.boxes m.holes
 bar : BarAt w B D dn b
 legs : Cells w B L (xs.flatMap boxC)
 len : xs.length = k
 max : k <= 9223372036854775807
 name : m.name.size <= 9223372036854775807
theorem EndsAt.at_ {w w' : World} {B : Nat} {A : Option Addr} {n : Nat} {A' : Option Addr} {n' : Nat} {m : Mem} {D : Option Addr} {dn : Nat} {b : Bar} {L : Option Addr} {k : Nat} {xs : List Bx}
 (h : EndsAt w B A n A' n' m D dn b L k xs) (hB : B <= w.heap.size) (hb : Below w.heap.size w w') : EndsAt w' B A n A' n' m D dn b L k xs :=
 ⟨h.sol.at_ hB hb, h.bar.at_ hB hb, h.legs.below (hb.mono hB), h.len, h.max, h.name⟩
theorem given_zero {r : Rule} {m : Mem} {b : Bar} {xs : List Bx} (h : S.given r m b xs = 0) : S.heads r m b = true /\ anyb xs S.boxNot = false /\ xs.length = (S.legsOf b.code).length /\ 0 <= idxf xs S.isMainB := by
 unfold S.given at h
 cases h1 : S.heads r m b
 ·rw [h1] at h; simp at h
 ·cases h2 : anyb xs S.boxNot
  ·by_cases h3 : xs.length = (S.legsOf b.code).length
   ·by_cases h4 : idxf xs S.isMainB < 0
    ·simp [h1, h2, h3, h4] at h
    ·exact ⟨rfl, rfl, h3, by omega⟩
   ·simp [h1, h2, h3] at h
  ·simp [h1, h2] at h
theorem idxf_some {α : Type} {xs : List α} {p : α -> Bool} (h : 0 <= idxf xs p) : ∃ k : Nat, ∃ hk : k < xs.length, idxf xs p = k /\ p xs[k] = true := by
 unfold idxf at h ⊢
 cases hf : xs.findIdx? p with
 | none => rw [hf] at h; simp at h
 | some k =>
  obtain ⟨hk, hp, _⟩ := List.findIdx?_eq_some_iff_getElem.1 hf
  exact ⟨k, hk, rfl, hp⟩
def S.endLen (r : Rule) (m : Mem) (b : Bar) (xs : List Bx) (k : Nat) (p : Pt) : Int := S.length r b.size (S.poor m.boxes (xs.getD k S.zbox)) (S.bent xs k p)
theorem bar_size {b : Bar} (h : S.bar b = true) : S.size b.size = true := by
 simp only [S.bar, S.barHead, Bool.and_eq_true] at h
 exact h.1.1.1.1.2
theorem legs_yesL (b : Bar) (A : Option Addr) (n c : Nat) (B : Nat) (w : World) (L : Nat) (hL : (S.legsOf b.code).length = L) (hB : B <= w.heap.size) (hA : BarAt w B A n b) (h : S.bar b = true) :
 Calls Tryz.prog 236 #[barV b A n c] w (GivesRow 3 1 L (i64s (S.legLens b)) 0 w) := hL ▸ legs_yes b A n c B w hB hA h
def S.nb (k m : Nat) : Int := if m = 0 then (k : Int) - 1 else (k : Int) + 1
def S.hit (xs : List Bx) (k : Nat) (p : Pt) (m : Nat) : Bool := decide (0 <= S.nb k m) && decide (S.nb k m < xs.length) && S.touch xs (S.nb k m).toNat p
def S.bentM (xs : List Bx) (k : Nat) (p : Pt) : Nat -> Bool
 | 0 => false
 | m + 1 => S.bentM xs k p m || S.hit xs k p m
theorem bentM_2 (xs : List Bx) (k : Nat) (p : Pt) (hk : k < xs.length) : S.bentM xs k p 2 = S.bent xs k p := by
 simp only [S.bentM, S.hit, S.nb, S.bent, Bool.false_or, if_pos, Nat.succ_ne_zero, if_false]
 congr 1
 ·by_cases h0 : 0 < k
  ·have h1 : ((k : Int) - 1).toNat = k - 1 := by omega
   have h2 : decide (0 <= (k : Int) - 1) = true := by simp; omega
   have h3 : decide ((k : Int) - 1 < xs.length) = true := by simp; omega
   rw [h1, h2, h3]; simp [h0]
  ·have h2 : decide (0 <= (k : Int) - 1) = false := by simp; omega
   rw [h2]; simp [h0]
 ·have h1 : ((k : Int) + 1).toNat = k + 1 := by omega
  have h2 : decide (0 <= (k : Int) + 1) = true := by simp; omega
  have h3 : decide ((k : Int) + 1 < xs.length) = decide (k + 1 < xs.length) := by rw [Bool.eq_iff_iff]; simp; omega
  simp [h1, h2, h3]
theorem hit_no {xs : List Bx} {k : Nat} {p : Pt} {m : Nat} (h : S.nb k m < 0 ∨ (xs.length : Int) <= S.nb k m) : S.hit xs k p m = false := by
 unfold S.hit
 rcases h with h | h
 ·have : decide (0 <= S.nb k m) = false := by simp; omega
  simp [this]
 ·have : decide (S.nb k m < xs.length) = false := by simp; omega
  simp [this]
theorem hit_at {xs : List Bx} {k : Nat} {p : Pt} {m q : Nat} (h : S.nb k m = q) (hq : q < xs.length) : S.hit xs k p m = S.cont xs[q] (S.pbox p) := by
 unfold S.hit S.touch
 rw [h]
 simp [hq, List.getD_eq_getElem?_getD]
theorem pbox_lo {X : Bx} (h : S.boxOk X = true) : S.boxOk (S.pbox X.lo) = true := by
 simp only [S.boxOk, S.okAx, Bool.and_eq_true, decide_eq_true_eq] at h ⊢
 omega
theorem pbox_hi {X : Bx} (h : S.boxOk X = true) : S.boxOk (S.pbox X.hi) = true := by
 simp only [S.boxOk, S.okAx, Bool.and_eq_true, decide_eq_true_eq] at h ⊢
 omega
theorem Exc.trans {M : List Nat} {W w w' : World} (h : Exc M W w) (h' : Exc M w w') : Exc M W w' :=
 ⟨h'.os.trans h.os, h'.tape.trans h.tape, h'.output.trans h.output, Nat.le_trans h.size h'.size, fun k hk hm => (h'.block k (Nat.lt_of_lt_of_le hk h.size) hm).trans (h.block k hk hm)⟩
def EndsBlk (w : World) (T : Nat) (X : Bx) (f0 f1 : Bool) : Prop := Blk w T 293 #[.int .i64 X.lo.x, .int .i64 X.lo.y, .int .i64 X.lo.z, .bool f0, .int .i64 X.hi.x, .int .i64 X.hi.y, .int .i64 X.hi.z, .bool f1]
def S.endP (X : Bx) (z : Nat) : Pt := if z = 0 then X.lo else X.hi
def Flags (z : Nat) (u bl f0 f1 : Bool) : Prop := (z = 0 /\ f0 = u /\ f1 = false) ∨ (z = 1 /\ f0 = bl /\ f1 = u)
theorem ends_cells {w : World} {T : Nat} {X : Bx} {f0 f1 u bl : Bool} {z : Nat} (h : EndsBlk w T X f0 f1) (hf : Flags z u bl f0 f1) :
 w.cell? ⟨T, z * 4, none⟩ = some (.int .i64 (S.endP X z).x) /\ w.cell? ⟨T, z * 4 + 1, none⟩ = some (.int .i64 (S.endP X z).y) /\ w.cell? ⟨T, z * 4 + 2, none⟩ = some (.int .i64 (S.endP X z).z) /\ w.cell? ⟨T, z * 4 + 3, none⟩ = some (.bool u) /\ w.frozen? ⟨T, z * 4 + 3, none⟩ = false := by
 rcases hf with ⟨rfl, rfl, rfl⟩ | ⟨rfl, rfl, rfl⟩
 ·exact ⟨Blk.cell h 0, Blk.cell h 1, Blk.cell h 2, Blk.cell h 3, Blk.frozen h 3⟩
 ·exact ⟨Blk.cell h 4, Blk.cell h 5, Blk.cell h 6, Blk.cell h 7, Blk.frozen h 7⟩
theorem ends_set {w : World} {T : Nat} {X : Bx} {f0 f1 u bl : Bool} {z : Nat} (h : EndsBlk w T X f0 f1) (hf : Flags z u bl f0 f1) (v : Bool) :
 ∃ g0 g1, EndsBlk (w.setCell ⟨T, z * 4 + 3, none⟩ (.bool v)) T X g0 g1 /\ Flags z v bl g0 g1 := by
 rcases hf with ⟨rfl, rfl, rfl⟩ | ⟨rfl, rfl, rfl⟩
 ·refine ⟨v, false, ?_, .inl ⟨rfl, rfl, rfl⟩⟩
  have h6 := Blk.set h 3 (.bool v)
  simp only [List.setIfInBounds_toArray, List.set_cons_zero, List.set_cons_succ] at h6
  exact h6
 ·refine ⟨f0, v, ?_, .inr ⟨rfl, rfl, rfl⟩⟩
  have h6 := Blk.set h 7 (.bool v)
  simp only [List.setIfInBounds_toArray, List.set_cons_zero, List.set_cons_succ] at h6
  exact h6
set_option maxRecDepth 100000 in
set_option maxHeartbeats 8000000 in
theorem aends_yes (r : Rule) (m : Mem) (A : Option Addr) (n c : Nat) (A' : Option Addr) (n' c' : Nat) (b : Bar) (D : Option Addr) (dn dc : Nat) (L : Option Addr) (k kc : Nat) (xs : List Bx) (B : Nat) (w : World) (hB : B <= w.heap.size)
 (hA : EndsAt w B A n A' n' m D dn b L k xs) (h : S.given r m b xs = 0) (j : Nat) (hj : j < xs.length) (hij : idxf xs S.isMainB = j) :
 Calls Tryz.prog 182 #[ruleV r, memV m A n c A' n' c', barV b D dn dc, .slice L k kc] w fun e w' => e = .returned (.tuple #[.int .i64 (S.endLen r m b xs j (xs.getD j S.zbox).lo), .int .i64 (S.endLen r m b xs j (xs.getD j S.zbox).hi), .int .i64 0]) /\ Below w.heap.size w w' := by
 have HA := lh hA
 have hlen := hA.len
 have hmax := hA.max
 obtain ⟨h1, h2, h3, _⟩ := given_zero h
 have h1' := h1
 simp only [S.heads, Bool.and_eq_true] at h1'
 obtain ⟨⟨g0, g1⟩, g2⟩ := h1'
 have hso : S.solid m.boxes m.holes = true := by
  have := g1
  simp only [S.member, Bool.and_eq_true] at this
  exact this.1.1.1.2
 have HOK := lh (fun (q : Nat) (hq : q < xs.length) => boxes_ok h2 _ (List.getElem_mem hq))
 have hleg : S.boxOk xs[j] = true := HOK.out j hj
 have hbd := size_bd (bar_size g2)
 have hl6 := legs_len b.code
 have hk6 : k <= 6 := by omega
 have hjk : j < k := by omega
 have HRO := lh (rule_ok g0)
 have HR := lh (fun w => g0 ▸ avalid_any r w)
 have HM := lh (fun (W : World) (hw : B <= W.heap.size) (hh : EndsAt W B A n A' n' m D dn b L k xs) => g1 ▸ smember_any m A n c A' n' c' B W hw hh.sol hh.name)
 have HV := lh (fun (W : World) (hw : B <= W.heap.size) (hh : EndsAt W B A n A' n' m D dn b L k xs) => g2 ▸ valid_any b D dn dc B W hw hh.bar)
 have HL := lh (fun (W : World) (hw : B <= W.heap.size) (hh : EndsAt W B A n A' n' m D dn b L k xs) => legs_yesL b D dn dc B W k (by rw [<- h3, hlen]) hw hh.bar g2)
 have HC := lh (fun (W : World) (hw : B <= W.heap.size) (hh : EndsAt W B A n A' n' m D dn b L k xs) => h2 ▸ containsfB_any 235 #[] #[] S.boxNot L k kc xs B W hh.len hh.max hw hh.legs Tryz.call235 (fun x w' _ => notok_any x w'))
 have HI := lh (fun (W : World) (hw : B <= W.heap.size) (hh : EndsAt W B A n A' n' m D dn b L k xs) => hij ▸ indexfB_any 237 #[] #[] S.isMainB L k kc xs B W hh.len hh.max hw hh.legs Tryz.call237 (fun x w' _ => isMain_any x w'))
 have HP := lh (fun (W : World) (hw : B <= W.heap.size) (hh : EndsAt W B A n A' n' m D dn b L k xs) => poor_yes m xs[j] A n c A' n' c' B W hw hh.sol hso hleg)
 have HLN := lh (fun (poor bent : Bool) (W : World) => alength_any r b.size poor bent W HRO.out (by omega) (by omega))
 have HBL := lh (bentM_2 xs j xs[j].lo hj)
 have HBH := lh (bentM_2 xs j xs[j].hi hj)
 have hE : ∀ p, S.endLen r m b xs j p = S.length r b.size (S.poor m.boxes xs[j]) (S.bent xs j p) := fun p => by
  unfold S.endLen
  rw [show xs.getD j S.zbox = xs[j] by simp [List.getD_eq_getElem?_getD, hj]]
 rw [hE, hE, show xs.getD j S.zbox = xs[j] by simp [List.getD_eq_getElem?_getD, hj], <- HBL.out, <- HBH.out]
 obtain ⟨bb, o, rfl, hbb, _⟩ := hA.legs.at_ (by rw [flat_len boxC 6 boxC_len]; omega)
 obtain ⟨c0, c1, c2, c3, c4, c5⟩ := hA.legs.boxes (List.getElem?_eq_getElem hj)
 have hbw : bb < w.heap.size := by omega
 have hbw3 : bb < w.heap.size + 1 + 1 + 1 := by omega
 have hbw2 : bb < w.heap.size + 1 + 1 := by omega
 have hbw0 : bb < w.heap.size + 1 := by omega
 have hji : (j : Int) < (k : Int) := by omega
 have hj0 : ¬ (j : Int) < 0 := by omega
 have hok := lh hleg
 clear hA h h1 h2 h3 g0 g1 g2 hso hleg hE hij HBL HBH
 generalize hbl : S.bentM xs j xs[j].lo 2 = bl
 generalize hbh : S.bentM xs j xs[j].hi 2 = bh
 have HBL := lh hbl
 have HBH := lh hbh
 clear hbl hbh
 generalize S.poor m.boxes xs[j] = tp at *
 generalize hX : xs[j] = X at *
 clear hX
 unfold memV boxV at HP
 unfold ruleV at HLN
 unfold ruleV memV barV
 go_enter Tryz.func182, Tryz.ntmps182
 go_wp2_with (first
  | (go_at_call 114; (with_reducible refine (HR.out _).mono ?_); rintro e w1 ⟨rfl, hbw1⟩; obtain ⟨hcw1, hfw1⟩ := bcell hbw1; have hzw1_0 : w.heap.size < w1.heap.size := lt_via hbw1 sz; have hzw1_1 : w.heap.size + 1 < w1.heap.size := lt_via hbw1 sz; have hzw1_2 : w.heap.size + 2 < w1.heap.size := lt_via hbw1 sz)
  | (go_at_call 111; (with_reducible refine (HM.out _ (size_via hB bel) (EndsAt.at_ HA.out hB bel)).mono ?_); rintro e w2 ⟨rfl, hbw2⟩; obtain ⟨hcw2, hfw2⟩ := bcell hbw2; have hzw2_0 : w.heap.size < w2.heap.size := lt_via hbw2 sz; have hzw2_1 : w.heap.size + 1 < w2.heap.size := lt_via hbw2 sz; have hzw2_2 : w.heap.size + 2 < w2.heap.size := lt_via hbw2 sz)
  | (go_at_call 203; (with_reducible refine (HV.out _ (size_via hB bel) (EndsAt.at_ HA.out hB bel)).mono ?_); rintro e w3 ⟨rfl, hbw3⟩; obtain ⟨hcw3, hfw3⟩ := bcell hbw3; have hzw3_0 : w.heap.size < w3.heap.size := lt_via hbw3 sz; have hzw3_1 : w.heap.size + 1 < w3.heap.size := lt_via hbw3 sz; have hzw3_2 : w.heap.size + 2 < w3.heap.size := lt_via hbw3 sz)
  | (go_at_call 202; (with_reducible refine (HC.out _ (size_via hB bel) (EndsAt.at_ HA.out hB bel)).mono ?_); rintro e w4 ⟨rfl, hbw4⟩; obtain ⟨hcw4, hfw4⟩ := bcell hbw4; have hzw4_0 : w.heap.size < w4.heap.size := lt_via hbw4 sz; have hzw4_1 : w.heap.size + 1 < w4.heap.size := lt_via hbw4 sz; have hzw4_2 : w.heap.size + 2 < w4.heap.size := lt_via hbw4 sz)
  | (go_at_call 236; (with_reducible refine (HL.out _ (size_via hB bel) (EndsAt.at_ HA.out hB bel)).mono ?_); rintro e w5 ⟨Aw5, cw5, rfl, how5, hbw5⟩; obtain ⟨hcw5, hfw5⟩ := bcell hbw5; have hzw5_0 : w.heap.size < w5.heap.size := lt_via hbw5 sz; have hzw5_1 : w.heap.size + 1 < w5.heap.size := lt_via hbw5 sz; have hzw5_2 : w.heap.size + 2 < w5.heap.size := lt_via hbw5 sz)
  | ((go_at_call 229; (with_reducible refine (HI.out _ (size_via hB bel) (EndsAt.at_ HA.out hB bel)).mono ?_); rintro e w6 ⟨rfl, hbw6⟩; obtain ⟨hcw6, hfw6⟩ := bcell hbw6; have hzw6_0 : w.heap.size < w6.heap.size := lt_via hbw6 sz; have hzw6_1 : w.heap.size + 1 < w6.heap.size := lt_via hbw6 sz; have hzw6_2 : w.heap.size + 2 < w6.heap.size := lt_via hbw6 sz)
     have hb1' : bb < w1.heap.size := (by omega)
     have hb2' : bb < w2.heap.size := (by omega)
     have hb3' : bb < w3.heap.size := (by omega)
     have hb4' : bb < w4.heap.size := (by omega)
     have hb5' : bb < w5.heap.size := (by omega)
     have hb6' : bb < w6.heap.size := (by omega)))
 have hW0 : Below w.heap.size w w6 := bel
 have hr6 : Blk w6 w.heap.size 32 #[.int .i64 r.num, .int .i64 r.den, .int .i64 r.pnum, .int .i64 r.pden, .int .i64 r.bnum, .int .i64 r.bden, .int .i64 r.lnum, .int .i64 r.lden, .int .i64 r.least] := Blk.via (Blk.via (Blk.via (Blk.via (Blk.via (Blk.via (((Blk.new w _ _).alloc _).alloc _) hbw1) hbw2) hbw3) hbw4) hbw5) hbw6
 have hm6 : Blk w6 (w.heap.size + 1) 26 #[.string m.name, .slice A n c, .slice A' n' c', .int .i64 m.cover, .int .i64 m.aggr, .int .i64 m.poker] := Blk.via (Blk.via (Blk.via (Blk.via (Blk.via (Blk.via (by simpa using (Blk.new (w.alloc (.cells #[.int .i64 r.num, .int .i64 r.den, .int .i64 r.pnum, .int .i64 r.pden, .int .i64 r.bnum, .int .i64 r.bden, .int .i64 r.lnum, .int .i64 r.lden, .int .i64 r.least] 32)) 26 #[.string m.name, .slice A n c, .slice A' n' c', .int .i64 m.cover, .int .i64 m.aggr, .int .i64 m.poker]).alloc (.cells #[.string b.mark, .int .i64 b.size, .int .i64 b.count, .int .i64 b.code, .slice D dn dc] 138)) hbw1) hbw2) hbw3) hbw4) hbw5) hbw6
 have hb6 : Blk w6 (w.heap.size + 1 + 1) 138 #[.string b.mark, .int .i64 b.size, .int .i64 b.count, .int .i64 b.code, .slice D dn dc] := Blk.via (Blk.via (Blk.via (Blk.via (Blk.via (Blk.via (by simpa using Blk.new ((w.alloc (.cells #[.int .i64 r.num, .int .i64 r.den, .int .i64 r.pnum, .int .i64 r.pden, .int .i64 r.bnum, .int .i64 r.bden, .int .i64 r.lnum, .int .i64 r.lden, .int .i64 r.least] 32)).alloc (.cells #[.string m.name, .slice A n c, .slice A' n' c', .int .i64 m.cover, .int .i64 m.aggr, .int .i64 m.poker] 26)) 138 #[.string b.mark, .int .i64 b.size, .int .i64 b.count, .int .i64 b.code, .slice D dn dc]) hbw1) hbw2) hbw3) hbw4) hbw5) hbw6
 have hz6 : w.heap.size + 1 + 1 < w6.heap.size := hb6.lt
 clear hcw1 hfw1 hcw2 hfw2 hcw3 hfw3 hcw4 hfw4 hcw5 hfw5 hcw6 hfw6 how5 hbw1 hbw2 hbw3 hbw4 hbw5 hbw6
 have HLG := lh ((HA.out.at_ hB hW0))
 have HRB := lh ((hr6.alloc (.cells #[.int .i64 X.lo.x, .int .i64 X.lo.y, .int .i64 X.lo.z, .int .i64 X.hi.x, .int .i64 X.hi.y, .int .i64 X.hi.z] 78)).alloc (.cells #[.int .i64 X.lo.x, .int .i64 X.lo.y, .int .i64 X.lo.z, .bool false, .int .i64 X.hi.x, .int .i64 X.hi.y, .int .i64 X.hi.z, .bool false] 293))
 have HMB := lh ((hm6.alloc (.cells #[.int .i64 X.lo.x, .int .i64 X.lo.y, .int .i64 X.lo.z, .int .i64 X.hi.x, .int .i64 X.hi.y, .int .i64 X.hi.z] 78)).alloc (.cells #[.int .i64 X.lo.x, .int .i64 X.lo.y, .int .i64 X.lo.z, .bool false, .int .i64 X.hi.x, .int .i64 X.hi.y, .int .i64 X.hi.z, .bool false] 293))
 have HBB := lh ((hb6.alloc (.cells #[.int .i64 X.lo.x, .int .i64 X.lo.y, .int .i64 X.lo.z, .int .i64 X.hi.x, .int .i64 X.hi.y, .int .i64 X.hi.z] 78)).alloc (.cells #[.int .i64 X.lo.x, .int .i64 X.lo.y, .int .i64 X.lo.z, .bool false, .int .i64 X.hi.x, .int .i64 X.hi.y, .int .i64 X.hi.z, .bool false] 293))
 have HXB := lh ((Blk.new w6 78 #[.int .i64 X.lo.x, .int .i64 X.lo.y, .int .i64 X.lo.z, .int .i64 X.hi.x, .int .i64 X.hi.y, .int .i64 X.hi.z]).alloc (.cells #[.int .i64 X.lo.x, .int .i64 X.lo.y, .int .i64 X.lo.z, .bool false, .int .i64 X.hi.x, .int .i64 X.hi.y, .int .i64 X.hi.z, .bool false] 293))
 have hE0 : EndsBlk ((w6.alloc (.cells #[.int .i64 X.lo.x, .int .i64 X.lo.y, .int .i64 X.lo.z, .int .i64 X.hi.x, .int .i64 X.hi.y, .int .i64 X.hi.z] 78)).alloc (.cells #[.int .i64 X.lo.x, .int .i64 X.lo.y, .int .i64 X.lo.z, .bool false, .int .i64 X.hi.x, .int .i64 X.hi.y, .int .i64 X.hi.z, .bool false] 293)) (w6.heap.size + 1) X false false := by
  have := Blk.new (w6.alloc (.cells #[.int .i64 X.lo.x, .int .i64 X.lo.y, .int .i64 X.lo.z, .int .i64 X.hi.x, .int .i64 X.hi.y, .int .i64 X.hi.z] 78)) 293 #[.int .i64 X.lo.x, .int .i64 X.lo.y, .int .i64 X.lo.z, .bool false, .int .i64 X.hi.x, .int .i64 X.hi.y, .int .i64 X.hi.z, .bool false]
  simpa [EndsBlk] using this
 have hW10 : Below w.heap.size w ((w6.alloc (.cells #[.int .i64 X.lo.x, .int .i64 X.lo.y, .int .i64 X.lo.z, .int .i64 X.hi.x, .int .i64 X.hi.y, .int .i64 X.hi.z] 78)).alloc (.cells #[.int .i64 X.lo.x, .int .i64 X.lo.y, .int .i64 X.lo.z, .bool false, .int .i64 X.hi.x, .int .i64 X.hi.y, .int .i64 X.hi.z, .bool false] 293)) := ba_alloc (ba_alloc hW0 _) _
 have hsz10 : ((w6.alloc (.cells #[.int .i64 X.lo.x, .int .i64 X.lo.y, .int .i64 X.lo.z, .int .i64 X.hi.x, .int .i64 X.hi.y, .int .i64 X.hi.z] 78)).alloc (.cells #[.int .i64 X.lo.x, .int .i64 X.lo.y, .int .i64 X.lo.z, .bool false, .int .i64 X.hi.x, .int .i64 X.hi.y, .int .i64 X.hi.z, .bool false] 293)).heap.size = w6.heap.size + 1 + 1 := by simp
 clear hr6 hm6 hb6 hb1' hb2' hb3' hb4' hb5'
 have e1 : IntKind.i64.wrap ((j : Int) - 1) = (j : Int) - 1 := IntWalk.i64_in _ (by omega)
 have e2 : IntKind.i64.wrap ((j : Int) + 1) = (j : Int) + 1 := IntWalk.i64_in _ (by omega)
 generalize ((w6.alloc (.cells #[.int .i64 X.lo.x, .int .i64 X.lo.y, .int .i64 X.lo.z, .int .i64 X.hi.x, .int .i64 X.hi.y, .int .i64 X.hi.z] 78)).alloc (.cells #[.int .i64 X.lo.x, .int .i64 X.lo.y, .int .i64 X.lo.z, .bool false, .int .i64 X.hi.x, .int .i64 X.hi.y, .int .i64 X.hi.z, .bool false] 293)) = W10 at *
 clear c0 c1 c2 c3 c4 c5
 go_loopw [64] (fun i wr => ∃ z : Nat, z <= 2 /\ i = .int .i64 z /\ (EndsBlk wr (w6.heap.size + 1) X (decide (1 <= z) && bl) (decide (2 <= z) && bh)) /\ Exc [w6.heap.size + 1] W10 wr) (fun i _ => 2 - (intOf i).toNat)
 case atStart => exact ⟨0, by omega, rfl, hE0, Exc.refl _ _⟩
 case round =>
  obtain ⟨z, hz, rfl, hEB, hX⟩ := hrel
  by_cases hlt : z < 2
  ·have hzi : (z : Int) < 2 := by omega
   have hX0 := hX
   go_wp2
   obtain ⟨wo, hwo⟩ : ∃ wo : World, wo = wr := ⟨_, rfl⟩
   subst hwo
   have hN : Blk (wo.alloc (.cells #[.int .i64 ((j : Int) - 1), .int .i64 ((j : Int) + 1)] 3)) wo.heap.size 3 #[.int .i64 ((j : Int) - 1), .int .i64 ((j : Int) + 1)] := Blk.new _ _ _
   have hE1 : EndsBlk (wo.alloc (.cells #[.int .i64 ((j : Int) - 1), .int .i64 ((j : Int) + 1)] 3)) (w6.heap.size + 1) X (decide (1 <= z) && bl) (decide (2 <= z) && bh) := Blk.alloc hEB _
   have hX1 : Exc [w6.heap.size + 1] W10 (wo.alloc (.cells #[.int .i64 ((j : Int) - 1), .int .i64 ((j : Int) + 1)] 3)) := hX.alloc _
   have hso := hX.size
   have HN := lh hN
   have hF0 : Flags z (S.bentM xs j (S.endP X z) 0) bl (decide (1 <= z) && bl) (decide (2 <= z) && bh) := by
    have : z = 0 ∨ z = 1 := by omega
    rcases this with rfl | rfl
    ·exact .inl ⟨rfl, rfl, rfl⟩
    ·exact .inr ⟨rfl, by simp, rfl⟩
   have HPOK := lh (show S.boxOk (S.pbox (S.endP X z)) = true by
    unfold S.endP
    split
    ·exact pbox_lo hok.out
    ·exact pbox_hi hok.out)
   have HPP := lh (show S.endP X z = if z = 0 then X.lo else X.hi from rfl)
   generalize wo.alloc (.cells #[.int .i64 ((j : Int) - 1), .int .i64 ((j : Int) + 1)] 3) = W11 at *
   clear hN
   go_loopw [73] (fun i wr => ∃ q : Nat, q <= 2 /\ i = .int .i64 q /\ Hid (∃ f0 f1, EndsBlk wr (w6.heap.size + 1) X f0 f1 /\ Flags z (S.bentM xs j (S.endP X z) q) bl f0 f1) /\ Exc [w6.heap.size + 1] W11 wr) (fun i _ => 2 - (intOf i).toNat)
   case atStart => exact ⟨0, by omega, rfl, lh ⟨_, _, hE1, hF0⟩, Exc.refl _ _⟩
   case round =>
    obtain ⟨q, hq, rfl, HF, hY⟩ := hrel
    have hsy := hY.size
    by_cases hq2 : q < 2
    ·obtain ⟨f0, f1, hEB2, hFl⟩ := HF.out
     obtain ⟨p0, p1, p2, p3, p4⟩ := ends_cells hEB2 hFl
     have hTl := Blk.lt hEB2
     have hqi : (q : Int) < 2 := by omega
     have hnl : wo.heap.size < W11.heap.size := HN.out.lt
     have hnw : wo.heap.size < wr.heap.size := by omega
     have hn : wr.cell? ⟨wo.heap.size, q, none⟩ = some (.int .i64 (S.nb j q)) := by
      have h1 : Blk wr wo.heap.size 3 #[.int .i64 ((j : Int) - 1), .int .i64 ((j : Int) + 1)] := (hY.block wo.heap.size hnl (by simp; omega)).trans HN.out
      have : q = 0 ∨ q = 1 := by omega
      rcases this with rfl | rfl
      ·exact h1.cell 0
      ·exact h1.cell 1
     have HB1 := lh (show S.bentM xs j (S.endP X z) (q + 1) = (S.bentM xs j (S.endP X z) q || S.hit xs j (S.endP X z) q) from rfl)
     have HNO := lh (fun h => hit_no (xs := xs) (k := j) (p := S.endP X z) (m := q) h)
     have HAT := lh (fun (v : Nat) h (hv : v < xs.length) => hit_at (xs := xs) (k := j) (p := S.endP X z) (m := q) (q := v) h hv)
     have HEB := lh hEB2
     have HFL := lh hFl
     clear hEB2 hFl
     generalize S.bentM xs j (S.endP X z) q = u at *
     generalize S.nb j q = V at *
     generalize S.endP X z = P at *
     by_cases hin : 0 <= V /\ V < k
     ·obtain ⟨v, hv⟩ : ∃ v : Nat, V = v := ⟨V.toNat, by omega⟩
      subst hv
      have hvk : v < k := by omega
      have hvx : v < xs.length := by omega
      have HT := lh (HAT.out v rfl hvx)
      have hbelr : Below w.heap.size w wr := hW10.trans ((hX1.trans hY).below (by omega) (by intro x hx; simp at hx; omega))
      have HE := lh (HA.out.at_ hB hbelr)
      obtain ⟨d0, d1, d2, d3, d4, d5⟩ := HE.out.legs.boxes (List.getElem?_eq_getElem hvx)
      have hbr : bb < wr.heap.size := by omega
      have HCT := lh (fun w => bcontains_yes xs[v] (S.pbox P) w (HOK.out v hvx) HPOK.out)
      generalize S.cont xs[v] (S.pbox P) = t at *
      generalize xs[v] = Y at *
      unfold boxV at HCT
      have g1 : ¬ (v : Int) < 0 := by omega
      have g2 : (v : Int) < (k : Int) := by omega
      have g3 : ¬ (k : Int) <= (v : Int) := by omega
      clear hin
      cases u
      all_goals (
       go_wp2
       refine wp_region_grow (by kernel_rfl) (by kernel_rfl) ?_
       repeat (go_big_quiet_step ((go_at_call 238; exact grow_of (HCT.out _))))
       all_goals (refine wpQuiet_nil ?_; intro wg hbwg; obtain ⟨hcwg, hfwg⟩ := bcell hbwg)
       have hTg : w6.heap.size + 1 < wg.heap.size := (by have := hbwg.size; omega)
       go_wp2
       go_roundw
       case rel =>
        refine ⟨q + 1, by omega, by go_num, lh ?_, (Exc.via hbwg hY).set (.inl (by simp)) _⟩
        first
         | (obtain ⟨i0, i1, hi1, hi2⟩ := ends_set (show EndsBlk wg (w6.heap.size + 1) X f0 f1 from Blk.via HEB.out hbwg) HFL.out t
            exact ⟨i0, i1, hi1, by rw [HB1.out, HT.out]; exact hi2⟩)
         | (obtain ⟨i0, i1, hi1, hi2⟩ := ends_set (show EndsBlk wg (w6.heap.size + 1) X f0 f1 from Blk.via HEB.out hbwg) HFL.out true
            exact ⟨i0, i1, hi1, by rw [HB1.out, HT.out]; exact hi2⟩)
       case measure => simp [intOf]; omega)
     ·have HT := lh (HNO.out (by omega))
      by_cases hv0 : V < 0
      ·clear hin
       go_wp2
       go_roundw
       case rel => exact ⟨q + 1, by omega, by go_num, lh ⟨f0, f1, HEB.out, by rw [HB1.out, HT.out, Bool.or_false]; exact HFL.out⟩, hY⟩
       case measure => simp [intOf]; omega
      ·have hv1 : (k : Int) <= V := by omega
       clear hin
       go_wp2
       go_roundw
       case rel => exact ⟨q + 1, by omega, by go_num, lh ⟨f0, f1, HEB.out, by rw [HB1.out, HT.out, Bool.or_false]; exact HFL.out⟩, hY⟩
       case measure => simp [intOf]; omega
    ·have hq' : q = 2 := by omega
     subst hq'
     have hXX := hX1.trans hY
     have HEE : Hid (EndsBlk wr (w6.heap.size + 1) X (decide (1 <= z + 1) && bl) (decide (2 <= z + 1) && bh)) := lh (by
      obtain ⟨f0, f1, hEB2, hFl⟩ := HF.out
      rcases hFl with ⟨rfl, rfl, rfl⟩ | ⟨rfl, rfl, rfl⟩
      ·have : S.bentM xs j (S.endP X 0) 2 = bl := HBL.out
       rw [this] at hEB2
       simpa using hEB2
      ·have : S.bentM xs j (S.endP X 1) 2 = bh := HBH.out
       rw [this] at hEB2
       simpa using hEB2)
     go_wp2
     go_roundw
     case rel => exact ⟨z + 1, by omega, by go_num, HEE.out, hXX⟩
     case measure => simp [intOf]; omega
  ·have hz2 : z = 2 := by omega
   subst hz2
   have hE2 : Blk wr (w6.heap.size + 1) 293 #[.int .i64 X.lo.x, .int .i64 X.lo.y, .int .i64 X.lo.z, .bool bl, .int .i64 X.hi.x, .int .i64 X.hi.y, .int .i64 X.hi.z, .bool bh] := by simpa [EndsBlk] using hEB
   have hsx := hX.size
   have q4 : Blk wr w.heap.size 32 #[.int .i64 r.num, .int .i64 r.den, .int .i64 r.pnum, .int .i64 r.pden, .int .i64 r.bnum, .int .i64 r.bden, .int .i64 r.lnum, .int .i64 r.lden, .int .i64 r.least] := (hX.block w.heap.size (by omega) (by simp; omega)).trans HRB.out
   have q5 : Blk wr (w.heap.size + 1) 26 #[.string m.name, .slice A n c, .slice A' n' c', .int .i64 m.cover, .int .i64 m.aggr, .int .i64 m.poker] := (hX.block (w.heap.size + 1) (by omega) (by simp; omega)).trans HMB.out
   have q6 : Blk wr (w.heap.size + 1 + 1) 138 #[.string b.mark, .int .i64 b.size, .int .i64 b.count, .int .i64 b.code, .slice D dn dc] := (hX.block (w.heap.size + 1 + 1) (by omega) (by simp; omega)).trans HBB.out
   have q14 : Blk wr w6.heap.size 78 #[.int .i64 X.lo.x, .int .i64 X.lo.y, .int .i64 X.lo.z, .int .i64 X.hi.x, .int .i64 X.hi.y, .int .i64 X.hi.z] := (hX.block w6.heap.size (by omega) (by simp)).trans HXB.out
   have x0 := q4.cell 0
   have x1 := q4.cell 1
   have x2 := q4.cell 2
   have x3 := q4.cell 3
   have x4 := q4.cell 4
   have x5 := q4.cell 5
   have x6 := q4.cell 6
   have x7 := q4.cell 7
   have x8 := q4.cell 8
   simp only [ga1, ga2, ga3] at x0 x1 x2 x3 x4 x5 x6 x7 x8
   have y0 := q5.cell 0
   have y1 := q5.cell 1
   have y2 := q5.cell 2
   have y3 := q5.cell 3
   have y4 := q5.cell 4
   have y5 := q5.cell 5
   simp only [ga1, ga2, ga3] at y0 y1 y2 y3 y4 y5
   have v0 := q6.cell 0
   have v1 := q6.cell 1
   have v2 := q6.cell 2
   have v3 := q6.cell 3
   have v4 := q6.cell 4
   simp only [ga1, ga2, ga3] at v0 v1 v2 v3 v4
   have g0 := q14.cell 0
   have g1 := q14.cell 1
   have g2 := q14.cell 2
   have g3 := q14.cell 3
   have g4 := q14.cell 4
   have g5 := q14.cell 5
   simp only [ga1, ga2, ga3] at g0 g1 g2 g3 g4 g5
   have a0 := hE2.cell 0
   have a1 := hE2.cell 1
   have a2 := hE2.cell 2
   have a3 := hE2.cell 3
   have a4 := hE2.cell 4
   have a5 := hE2.cell 5
   have a6 := hE2.cell 6
   have a7 := hE2.cell 7
   simp only [ga1, ga2, ga3] at a0 a1 a2 a3 a4 a5 a6 a7
   have l4 := q4.lt
   have l5 := q5.lt
   have l6 := q6.lt
   have l14 := q14.lt
   have l15 := hE2.lt
   have hbelr : Below w.heap.size w wr := hW10.trans (hX.below (by omega) (by intro x hx; simp at hx; omega))
   clear q4 q5 q6 q14 hE2 hEB
   go_wp2_with (go_at_call 239; (with_reducible refine (HP.out _ (size_via hB hbelr) (HA.out.at_ hB hbelr)).mono ?_); rintro e w7 ⟨rfl, hbw7⟩; obtain ⟨hcw7, hfw7⟩ := bcell hbw7; have hzw7_0 : w.heap.size < w7.heap.size := lt_via hbw7 sz; have hzw7_1 : w.heap.size + 1 < w7.heap.size := lt_via hbw7 sz; have hzw7_2 : w.heap.size + 2 < w7.heap.size := lt_via hbw7 sz; have hyw7_0 : w6.heap.size < w7.heap.size := lt_via hbw7 sz; have hyw7_1 : w6.heap.size + 1 < w7.heap.size := lt_via hbw7 sz)
   refine wp_region_grow (by kernel_rfl) (by kernel_rfl) ?_
   repeat (go_big_quiet_step ((go_at_call 240; exact grow_of (HLN.out _ _ _))))
   all_goals (refine wpQuiet_nil ?_; intro wh hbwh; obtain ⟨hcwh, hfwh⟩ := bcell hbwh; have hzwh_0 : w.heap.size < wh.heap.size := lt_via hbwh sz; have hzwh_1 : w.heap.size + 1 < wh.heap.size := lt_via hbwh sz; have hzwh_2 : w.heap.size + 2 < wh.heap.size := lt_via hbwh sz)
   go_wp2
   go_returns
   exact ⟨rfl, ba_via hbwh (ba_via hbw7 hbelr)⟩
theorem right_pts {bs : List Bar} {r : Rn} {k0 : Nat} {b : Bar} (ho : RunOk bs r k0 b) (hr : S.right bs r = true) : S.rightPts b r = true := by
 unfold S.right at hr
 rw [Bool.and_eq_true, ho.at_] at hr
 exact hr.2
theorem laid_near {bs : List Bar} {r : Rn} {k0 : Nat} {b : Bar} (ho : RunOk bs r k0 b) (hr : S.right bs r = true) {n : Nat} (hn : (n : Int) < r.count) : S.near (S.laidPath b r n) 1048576 = true := by
 have hp := right_pts ho hr
 unfold S.rightPts at hp
 rw [Bool.and_eq_true, List.all_eq_true, List.all_eq_true] at hp
 rw [<- laid_pts ho.turn ho.bar, List.all_eq_true]
 intro p hpm
 have h0 := hp.1 p hpm
 have h1 := hp.2 p hpm
 unfold S.ptOk S.laidPt at *
 by_cases hz : n = 0
 ·subst hz
  exact h0
 ·rw [if_pos (by omega)] at h1
  rw [if_neg (by omega)] at h0
  rw [if_pos (by omega)]
  generalize S.plus p r.at_ 1 = q at *
  obtain ⟨ax, ay, az⟩ := near1_out h0
  obtain ⟨bx, by', bz⟩ := near1_out h1
  rw [show S.plus q r.step n = ⟨q.x + n * r.step.x, q.y + n * r.step.y, q.z + n * r.step.z⟩ from rfl]
  have cx := conv ax bx (show (0 : Int) <= n by omega) (show (n : Int) <= r.count - 1 by omega)
  have cy := conv ay by' (show (0 : Int) <= n by omega) (show (n : Int) <= r.count - 1 by omega)
  have cz := conv az bz (show (0 : Int) <= n by omega) (show (n : Int) <= r.count - 1 by omega)
  simp only [S.near1, Bool.and_eq_true, decide_eq_true_eq]
  omega
theorem size_cases {d : Int} (h : S.size d = true) : d = 6 ∨ d = 8 ∨ d = 10 ∨ d = 12 ∨ d = 16 ∨ d = 20 ∨ d = 25 ∨ d = 32 ∨ d = 40 := by
 simpa [S.size, S.has, S.sizes] using h
theorem boxOk_x {b : Bx} (h : S.boxOk b = true) : -1048576 <= b.lo.x /\ b.lo.x <= b.hi.x /\ b.hi.x <= 1048576 := by
 simp only [S.boxOk, S.okAx, Bool.and_eq_true, decide_eq_true_eq] at h
 omega
end Go.Proofs.YtmfpbafpnoomeaaGreat
namespace Go.Proofs.YtmfpbafpnoomeaaGreat
open Go.ChangeShapes Go.WideShapes Go.ChangeAt Go.RowKit
section
variable {H : Type} {enc : TypeId × Value -> H} {w : World} {base : Nat} {sp : Nat -> Bool} {hd : Bool}
theorem cellsInts : Tryz.prog.cellsOf 108 = 1 := by kernel_rfl
theorem cellsBar : Tryz.prog.cellsOf 138 = 5 := by kernel_rfl
theorem opn_ints {fuel : Nat} {cs : List Value} {y : Option (DataW H × List MemPlace)} (h : DataW.trod enc Tryz.prog w base sp hd fuel 108 cs = y) (hy : y.isSome = true) :
 ∃ (A : Option Addr) (n c : Nat) (xs : List Int), cs = [.slice A n c] /\ xs.length = n /\ n <= c /\ c <= maxLen /\ Cells w w.heap.size A (i64s xs) /\ ∀ x, x ∈ xs -> I64 x := by
 obtain ⟨z, rfl⟩ := Option.isSome_iff_exists.1 hy
 rcases open_ints Tryz.underlying108 Tryz.underlying3 cellsInt h with ⟨rfl, _⟩ | ⟨a, len, cap, zs, rfl, _, hl, hm, hz, _, hc, hw⟩
 ·exact ⟨none, 0, 0, [], rfl, rfl, Nat.le_refl _, Nat.zero_le _, .inl rfl, by simp⟩
 ·have hlz : len <= zs.length := by rw [hz]; split <;> omega
  refine ⟨some a, len, cap, zs.take len, rfl, by simp; omega, hl, hm, ?_, fun x hx => bounds_i64 (hw x (List.mem_of_mem_take hx))⟩
  by_cases h0 : len = 0
  ·left; simp [h0]
  ·right
   have h1 := hc 0 (by omega)
   have hsp : a.spot = none := by
    unfold World.cell? at h1
    split at h1
    ·split at h1
     ·cases h1
     ·rename_i hn
      simpa [Addr.add] using hn
    ·cases h1
   have hlt : a.block < w.heap.size := by
    unfold World.cell? at h1
    split at h1
    ·rename_i hh
     exact (Array.getElem?_eq_some_iff.1 hh).1
    ·cases h1
   obtain ⟨bb, o, s⟩ := a
   cases hsp
   refine ⟨bb, o, rfl, hlt, fun j v hv => ?_⟩
   have hj : j < len := by
    obtain ⟨hj, _⟩ := List.getElem?_eq_some_iff.1 hv
    simp at hj
    omega
   have h2 := hc j (by omega)
   have h3 : (i64s (zs.take len))[j]? = some (.int .i64 (zs.getD j 0)) := by
    simp [hj, List.getElem?_eq_getElem (show j < zs.length by omega)]
   rw [h3] at hv
   injection hv with hv
   subst hv
   have e : (Addr.add ⟨bb, o, none⟩ j) = ⟨bb, o + j, none⟩ := by unfold Addr.add; split <;> simp_all
   rw [e] at h2
   exact h2
theorem len5 {α : Type} {l : List α} (h : l.length = 5) : ∃ a b c d e, l = [a, b, c, d, e] := by
 match l, h with
 | [a, b, c, d, e], _ => exact ⟨a, b, c, d, e, rfl⟩
structure BarI (b : Bar) : Prop where
 size : I64 b.size
 count : I64 b.count
 code : I64 b.code
 dims : ∀ x, x ∈ b.dims -> I64 x
theorem open_bar {fuel : Nat} {cs : List Value} {x : DataW H × List MemPlace} (h : DataW.trod enc Tryz.prog w base sp hd fuel 138 cs = some x) :
 ∃ (b : Bar) (A : Option Addr) (n c : Nat), cs = (barV b A n c).cells.toList /\ BarAt w w.heap.size A n b /\ n <= c /\ c <= maxLen /\ BarI b := by
 obtain ⟨xs, n, _, _, hl, hxl, hg⟩ := DataW.trod_struct Tryz.underlying138 h
 rw [cellsBar] at hl
 obtain ⟨c0, c1, c2, c3, c4, rfl⟩ := len5 hl
 have hs : ∀ i, i < 5 -> xs[i]?.isSome = true := fun i hi => by
  have : xs.length = 5 := hxl
  simp [this, hi]
 obtain ⟨n0, e0, b0⟩ := opn_str (hg 0 _ rfl) (hs 0 (by decide))
 obtain ⟨n1, e1, b1⟩ := opn_int (hg 1 _ rfl) (hs 1 (by decide))
 obtain ⟨n2, e2, b2⟩ := opn_int (hg 2 _ rfl) (hs 2 (by decide))
 obtain ⟨n3, e3, b3⟩ := opn_int (hg 3 _ rfl) (hs 3 (by decide))
 obtain ⟨A, m, c, zs, e4, hz, hmc, hcm, hcl, hzi⟩ := opn_ints (hg 4 _ rfl) (hs 4 (by decide))
 simp [cellsInt, cellsStr, cellsInts] at e0 e1 e2 e3 e4
 subst e0 e1 e2 e3 e4
 have hmx : maxLen <= 9223372036854775807 := by unfold maxLen; decide
 exact ⟨⟨n0, n1, n2, n3, zs⟩, A, m, c, rfl, ⟨hz, by omega, by show n0.size <= _; omega, hcl⟩, hmc, hcm, ⟨b1, b2, b3, hzi⟩⟩
end
end Go.Proofs.YtmfpbafpnoomeaaGreat
