/- Contracts of the reference for layer 25: Main, Size, Mark, Count. Contract of the program: Ends where its arguments are accepted (printed by tools/gen_aends.py). Two small laws on blocks and guarded l -/
import Derived.Deep.LoopGhost
import Derived.WalkKit
import Derived.OwnWalkIn
import Derived.TacticsInMore
import Derived.LoopNIn
import Derived.LoopIn
import Derived.Shelf.Abstract
import Derived.Test.YtffkmgjmlahfpaaGreatYY
import Derived.Test.YtffkmgjmlahfpaaGreatYQ
import Derived.Test.YtffkmgjmlahfpaaGreatYP
import Derived.Test.YtffkmgjmlahfpaaGreatYX
import Derived.Test.YtffkmgjmlahfpaaGreatYN
import Derived.Test.YtffkmgjmlahfpaaGreatYK
import Derived.Test.YtffkmgjmlahfpaaGreatYT
import Derived.Test.YtffkmgjmlahfpaaGreatYH
set_option linter.unusedVariables false
set_option linter.unusedSimpArgs false
namespace Go.Proofs.YtffkmgjmlahfpaaGreat
open Go.RowKit
theorem mnOf_size (s : Int) (m : ByteArray) (o : Option Bx) : (S.mnOf s m o).size = s := by cases o <;> rfl
set_option maxRecDepth 20000 in
set_option maxHeartbeats 2000000 in
theorem rsize25_any (x : Dt) (B : Nat) (w : World) (hB : B ≤ w.heap.size) (hA : DtAt w B x) (h : S.laid (bars x.bs) x.rs = true) (i : Nat) (m : Mn) (hm : (S.mains (bars x.bs) x.rs)[i]? = some m) :
    Calls Tryz.prog 47 #[dtV x, .int .i64 i] w fun e w' => e = .returned (.int .i64 m.size) ∧ Below w.heap.size w w' := by
  obtain ⟨k, j, k0, r, hL⟩ := lies_of h (List.getElem?_eq_some_iff.1 hm).1
  have hmn : m = S.mnOf r.b.size r.b.mark (S.mainLeg (S.laidPath r.b (x.rs[k]'hL.st.lt) j)) := by
    have := hL.st.get
    rw [hm] at this
    injection this
  have HE := Lib.hid (show m.size = r.b.size by rw [hmn, mnOf_size])
  have HA := Lib.hid hA
  have HLG := Lib.hid (fun (W : World) (hw : B ≤ W.heap.size) (hh : DtAt W B x) => rbar16_any x.bs x.rs x.bA x.bn x.bc x.rA x.rn x.rc B W hw hh.bars hh.runs i k j k0 r hL)
  clear hA hm hmn hL
  unfold dtV
  unfold barV at HLG
  have f1 : ∀ W, (Instr.field 158 (.agg #[.string r.b.mark, .int .i64 r.b.size, .int .i64 r.b.count, .int .i64 r.b.code, .slice r.A r.n r.c]) 1).run Tryz.prog W = .ok (.int .i64 r.b.size) W := fun _ => by kernel_rfl
  go_enter Tryz.func47, Tryz.ntmps47
  go_wp2_with (first
    | (go_at_call 102; (with_reducible refine (HLG.out _ (size_via hB bel) (HA.out.at_ hB bel)).mono ?_); rintro e w1 ⟨rfl, hbw1⟩; obtain ⟨hcw1, hfw1⟩ := bcell hbw1; have hzw1_0 : w.heap.size < w1.heap.size := lt_via hbw1 (by first | omega | (simp; done) | (simp; omega))))
  go_ret
  exact ⟨ret_i HE.out.symm, bel⟩
theorem laid_len {bs : List Bar} {rs : List Rn} (h : S.laid bs rs = true) : ((S.mains bs rs).length : Int) = S.sumAll rs := by
  simp only [S.laid, Bool.and_eq_true, decide_eq_true_eq] at h
  have := mains_sum h.1.1 (fun r hr => runs_in h.2 hr) (k := rs.length) (Nat.le_refl _)
  rwa [List.take_length] at this
theorem rcount25_any (x : Dt) (B : Nat) (w : World) (hB : B ≤ w.heap.size) (hA : DtAt w B x) (h : S.laid (bars x.bs) x.rs = true) :
    Calls Tryz.prog 42 #[dtV x] w fun e w' => e = .returned (.int .i64 (S.mains (bars x.bs) x.rs).length) ∧ Below w.heap.size w w' := by
  have HA := Lib.hid hA
  have hrs : ∀ k (hk : k < x.rs.length), 0 ≤ x.rs[k].count ∧ x.rs[k].count ≤ 1000 := fun k hk => by
    have h2 := h
    simp only [S.laid, Bool.and_eq_true, decide_eq_true_eq] at h2
    have := right_count (runs_in h2.2 (List.getElem_mem hk))
    omega
  have h60 : x.rn ≤ 60 := by
    have h2 := h
    simp only [S.laid, Bool.and_eq_true, decide_eq_true_eq] at h2
    have := hA.runs.len
    omega
  have HC := Lib.hid (fun (W : World) (hw : B ≤ W.heap.size) (hh : DtAt W B x) => (laid_len h).symm ▸ rcount16_any x.rs x.rA x.rn x.rc B W hw hh.runs h60 hrs)
  clear hA hrs h60 h
  unfold dtV
  go_enter Tryz.func42, Tryz.ntmps42
  go_wp2_with (first
    | (go_at_call 94; (with_reducible refine (HC.out _ (size_via hB bel) (HA.out.at_ hB bel)).mono ?_); rintro e w' ⟨rfl, rfl⟩))
  go_ret
  exact ⟨rfl, bel⟩
end Go.Proofs.YtffkmgjmlahfpaaGreat
namespace Go.Proofs.YtffkmgjmlahfpaaGreat
open Go.RowKit
theorem legs_yesL (b : Bar) (A : Option Addr) (n c : Nat) (B : Nat) (w : World) (L : Nat) (hL : (S.legsOf b.code).length = L) (hB : B ≤ w.heap.size) (hA : BarAt w B A n b) (h : S.bar b = true) :
    Calls Tryz.prog 218 #[barV b A n c] w (GivesRow 3 1 L (i64s (S.legLens b)) 0 w) := hL ▸ legs_yes b A n c B w hB hA h
def S.nb (k m : Nat) : Int := if m = 0 then (k : Int) - 1 else (k : Int) + 1
def S.hit (xs : List Bx) (k : Nat) (p : Pt) (m : Nat) : Bool := decide (0 ≤ S.nb k m) && decide (S.nb k m < xs.length) && S.touch xs (S.nb k m).toNat p
def S.bentM (xs : List Bx) (k : Nat) (p : Pt) : Nat → Bool
  | 0 => false
  | m + 1 => S.bentM xs k p m || S.hit xs k p m
theorem bentM_2 (xs : List Bx) (k : Nat) (p : Pt) (hk : k < xs.length) : S.bentM xs k p 2 = S.bent xs k p := by
  simp only [S.bentM, S.hit, S.nb, S.bent, Bool.false_or, if_pos, Nat.succ_ne_zero, if_false]
  congr 1
  · by_cases h0 : 0 < k
    · have h1 : ((k : Int) - 1).toNat = k - 1 := by omega
      have h2 : decide (0 ≤ (k : Int) - 1) = true := by simp; omega
      have h3 : decide ((k : Int) - 1 < xs.length) = true := by simp; omega
      rw [h1, h2, h3]; simp [h0]
    · have h2 : decide (0 ≤ (k : Int) - 1) = false := by simp; omega
      rw [h2]; simp [h0]
  · have h1 : ((k : Int) + 1).toNat = k + 1 := by omega
    have h2 : decide (0 ≤ (k : Int) + 1) = true := by simp; omega
    have h3 : decide ((k : Int) + 1 < xs.length) = decide (k + 1 < xs.length) := by rw [Bool.eq_iff_iff]; simp; omega
    simp [h1, h2, h3]
theorem hit_no {xs : List Bx} {k : Nat} {p : Pt} {m : Nat} (h : S.nb k m < 0 ∨ (xs.length : Int) ≤ S.nb k m) : S.hit xs k p m = false := by
  unfold S.hit
  rcases h with h | h
  · have : decide (0 ≤ S.nb k m) = false := by simp; omega
    simp [this]
  · have : decide (S.nb k m < xs.length) = false := by simp; omega
    simp [this]
theorem hit_at {xs : List Bx} {k : Nat} {p : Pt} {m q : Nat} (h : S.nb k m = q) (hq : q < xs.length) : S.hit xs k p m = S.cont xs[q] (S.pbox p) := by
  unfold S.hit S.touch
  rw [h]
  simp [hq, List.getD_eq_getElem?_getD]
theorem pbox_lo {X : Bx} (h : S.boxOk X = true) : S.boxOk (S.pbox X.lo) = true := by
  simp only [S.boxOk, S.okAx, Bool.and_eq_true, decide_eq_true_eq] at h ⊢
  omega
theorem pbox_hi {X : Bx} (h : S.boxOk X = true) : S.boxOk (S.pbox X.hi) = true := by
  simp only [S.boxOk, S.okAx, Bool.and_eq_true, decide_eq_true_eq] at h ⊢
  omega
theorem Exc.trans {M : List Nat} {W w w' : World} (h : Exc M W w) (h' : Exc M w w') : Exc M W w' :=
  ⟨h'.os.trans h.os, h'.tape.trans h.tape, h'.output.trans h.output, Nat.le_trans h.size h'.size, fun k hk hm => (h'.block k (Nat.lt_of_lt_of_le hk h.size) hm).trans (h.block k hk hm)⟩
def EndsBlk (w : World) (T : Nat) (X : Bx) (f0 f1 : Bool) : Prop := Blk w T 268 #[.int .i64 X.lo.x, .int .i64 X.lo.y, .int .i64 X.lo.z, .bool f0, .int .i64 X.hi.x, .int .i64 X.hi.y, .int .i64 X.hi.z, .bool f1]
def S.endP (X : Bx) (z : Nat) : Pt := if z = 0 then X.lo else X.hi
def Flags (z : Nat) (u bl f0 f1 : Bool) : Prop := (z = 0 ∧ f0 = u ∧ f1 = false) ∨ (z = 1 ∧ f0 = bl ∧ f1 = u)
theorem ends_cells {w : World} {T : Nat} {X : Bx} {f0 f1 u bl : Bool} {z : Nat} (h : EndsBlk w T X f0 f1) (hf : Flags z u bl f0 f1) :
    w.cell? ⟨T, z * 4, none⟩ = some (.int .i64 (S.endP X z).x) ∧ w.cell? ⟨T, z * 4 + 1, none⟩ = some (.int .i64 (S.endP X z).y) ∧ w.cell? ⟨T, z * 4 + 2, none⟩ = some (.int .i64 (S.endP X z).z) ∧ w.cell? ⟨T, z * 4 + 3, none⟩ = some (.bool u) ∧ w.frozen? ⟨T, z * 4 + 3, none⟩ = false := by
  rcases hf with ⟨rfl, rfl, rfl⟩ | ⟨rfl, rfl, rfl⟩
  · exact ⟨Blk.cell h 0, Blk.cell h 1, Blk.cell h 2, Blk.cell h 3, Blk.frozen h 3⟩
  · exact ⟨Blk.cell h 4, Blk.cell h 5, Blk.cell h 6, Blk.cell h 7, Blk.frozen h 7⟩
theorem ends_set {w : World} {T : Nat} {X : Bx} {f0 f1 u bl : Bool} {z : Nat} (h : EndsBlk w T X f0 f1) (hf : Flags z u bl f0 f1) (v : Bool) :
    ∃ g0 g1, EndsBlk (w.setCell ⟨T, z * 4 + 3, none⟩ (.bool v)) T X g0 g1 ∧ Flags z v bl g0 g1 := by
  rcases hf with ⟨rfl, rfl, rfl⟩ | ⟨rfl, rfl, rfl⟩
  · refine ⟨v, false, ?_, .inl ⟨rfl, rfl, rfl⟩⟩
    have h6 := Blk.set h 3 (.bool v)
    simp only [List.setIfInBounds_toArray, List.set_cons_zero, List.set_cons_succ] at h6
    exact h6
  · refine ⟨f0, v, ?_, .inr ⟨rfl, rfl, rfl⟩⟩
    have h6 := Blk.set h 7 (.bool v)
    simp only [List.setIfInBounds_toArray, List.set_cons_zero, List.set_cons_succ] at h6
    exact h6
set_option maxRecDepth 100000 in
set_option maxHeartbeats 8000000 in
theorem aends_yes (r : Rule) (m : Mem) (A : Option Addr) (n c : Nat) (A' : Option Addr) (n' c' : Nat) (b : Bar) (D : Option Addr) (dn dc : Nat) (L : Option Addr) (k kc : Nat) (xs : List Bx) (B : Nat) (w : World) (hB : B ≤ w.heap.size)
    (hA : EndsAt w B A n A' n' m D dn b L k xs) (h : S.given r m b xs = 0) (j : Nat) (hj : j < xs.length) (hij : idxf xs S.isMainB = j) :
    Calls Tryz.prog 155 #[ruleV r, memV m A n c A' n' c', barV b D dn dc, .slice L k kc] w fun e w' => e = .returned (.tuple #[.int .i64 (S.endLen r m b xs j (xs.getD j S.zbox).lo), .int .i64 (S.endLen r m b xs j (xs.getD j S.zbox).hi), .int .i64 0]) ∧ Below w.heap.size w w' := by
  have HA := Lib.hid hA
  have hlen := hA.len
  have hmax := hA.max
  obtain ⟨h1, h2, h3, _⟩ := given_zero h
  have h1' := h1
  simp only [S.heads, Bool.and_eq_true] at h1'
  obtain ⟨⟨g0, g1⟩, g2⟩ := h1'
  have hso : S.solid m.boxes m.holes = true := by
    have := g1
    simp only [S.member, Bool.and_eq_true] at this
    exact this.1.1.1.2
  have HOK := Lib.hid (fun (q : Nat) (hq : q < xs.length) => boxes_ok h2 _ (List.getElem_mem hq))
  have hleg : S.boxOk xs[j] = true := HOK.out j hj
  have hbd := size_bd (bar_size g2)
  have hl6 := legs_len b.code
  have hk6 : k ≤ 6 := by omega
  have hjk : j < k := by omega
  have HRO := Lib.hid (rule_ok g0)
  have HR := Lib.hid (fun w => g0 ▸ avalid_any r w)
  have HM := Lib.hid (fun (W : World) (hw : B ≤ W.heap.size) (hh : EndsAt W B A n A' n' m D dn b L k xs) => g1 ▸ smember_any m A n c A' n' c' B W hw hh.sol hh.name)
  have HV := Lib.hid (fun (W : World) (hw : B ≤ W.heap.size) (hh : EndsAt W B A n A' n' m D dn b L k xs) => g2 ▸ valid_any b D dn dc B W hw hh.bar)
  have HL := Lib.hid (fun (W : World) (hw : B ≤ W.heap.size) (hh : EndsAt W B A n A' n' m D dn b L k xs) => legs_yesL b D dn dc B W k (by rw [← h3, hlen]) hw hh.bar g2)
  have HC := Lib.hid (fun (W : World) (hw : B ≤ W.heap.size) (hh : EndsAt W B A n A' n' m D dn b L k xs) => h2 ▸ containsfB_any 217 #[] #[] S.boxNot L k kc xs B W hh.len hh.max hw hh.legs Tryz.call217 (fun x w' _ => notok_any x w'))
  have HI := Lib.hid (fun (W : World) (hw : B ≤ W.heap.size) (hh : EndsAt W B A n A' n' m D dn b L k xs) => hij ▸ indexfB_any 219 #[] #[] S.isMainB L k kc xs B W hh.len hh.max hw hh.legs Tryz.call219 (fun x w' _ => isMain_any x w'))
  have HP := Lib.hid (fun (W : World) (hw : B ≤ W.heap.size) (hh : EndsAt W B A n A' n' m D dn b L k xs) => poor_yes m xs[j] A n c A' n' c' B W hw hh.sol hso hleg)
  have HLN := Lib.hid (fun (poor bent : Bool) (W : World) => alength_any r b.size poor bent W HRO.out (by omega) (by omega))
  have HBL := Lib.hid (bentM_2 xs j xs[j].lo hj)
  have HBH := Lib.hid (bentM_2 xs j xs[j].hi hj)
  have hE : ∀ p, S.endLen r m b xs j p = S.length r b.size (S.poor m.boxes xs[j]) (S.bent xs j p) := fun p => by
    unfold S.endLen
    rw [show xs.getD j S.zbox = xs[j] by simp [List.getD_eq_getElem?_getD, hj]]
  rw [hE, hE, show xs.getD j S.zbox = xs[j] by simp [List.getD_eq_getElem?_getD, hj], ← HBL.out, ← HBH.out]
  obtain ⟨bb, o, rfl, hbb, _⟩ := hA.legs.at_ (by rw [flat_len boxC 6 boxC_len]; omega)
  obtain ⟨c0, c1, c2, c3, c4, c5⟩ := hA.legs.boxes (List.getElem?_eq_getElem hj)
  have hbw : bb < w.heap.size := by omega
  have hbw3 : bb < w.heap.size + 1 + 1 + 1 := by omega
  have hbw2 : bb < w.heap.size + 1 + 1 := by omega
  have hbw0 : bb < w.heap.size + 1 := by omega
  have hji : (j : Int) < (k : Int) := by omega
  have hj0 : ¬ (j : Int) < 0 := by omega
  have hok := Lib.hid hleg
  clear hA h h1 h2 h3 g0 g1 g2 hso hleg hE hij HBL HBH
  generalize hbl : S.bentM xs j xs[j].lo 2 = bl
  generalize hbh : S.bentM xs j xs[j].hi 2 = bh
  have HBL := Lib.hid hbl
  have HBH := Lib.hid hbh
  clear hbl hbh
  generalize S.poor m.boxes xs[j] = tp at *
  generalize hX : xs[j] = X at *
  clear hX
  unfold memV boxV at HP
  unfold ruleV at HLN
  unfold ruleV memV barV
  go_enter Tryz.func155, Tryz.ntmps155
  go_wp2_with (first
    | (go_at_call 122; (with_reducible refine (HR.out _).mono ?_); rintro e w1 ⟨rfl, hbw1⟩; obtain ⟨hcw1, hfw1⟩ := bcell hbw1; have hzw1_0 : w.heap.size < w1.heap.size := lt_via hbw1 (by first | omega | (simp; done) | (simp; omega)); have hzw1_1 : w.heap.size + 1 < w1.heap.size := lt_via hbw1 (by first | omega | (simp; done) | (simp; omega)); have hzw1_2 : w.heap.size + 2 < w1.heap.size := lt_via hbw1 (by first | omega | (simp; done) | (simp; omega)))
    | (go_at_call 119; (with_reducible refine (HM.out _ (size_via hB bel) (EndsAt.at_ HA.out hB bel)).mono ?_); rintro e w2 ⟨rfl, hbw2⟩; obtain ⟨hcw2, hfw2⟩ := bcell hbw2; have hzw2_0 : w.heap.size < w2.heap.size := lt_via hbw2 (by first | omega | (simp; done) | (simp; omega)); have hzw2_1 : w.heap.size + 1 < w2.heap.size := lt_via hbw2 (by first | omega | (simp; done) | (simp; omega)); have hzw2_2 : w.heap.size + 2 < w2.heap.size := lt_via hbw2 (by first | omega | (simp; done) | (simp; omega)))
    | (go_at_call 215; (with_reducible refine (HV.out _ (size_via hB bel) (EndsAt.at_ HA.out hB bel)).mono ?_); rintro e w3 ⟨rfl, hbw3⟩; obtain ⟨hcw3, hfw3⟩ := bcell hbw3; have hzw3_0 : w.heap.size < w3.heap.size := lt_via hbw3 (by first | omega | (simp; done) | (simp; omega)); have hzw3_1 : w.heap.size + 1 < w3.heap.size := lt_via hbw3 (by first | omega | (simp; done) | (simp; omega)); have hzw3_2 : w.heap.size + 2 < w3.heap.size := lt_via hbw3 (by first | omega | (simp; done) | (simp; omega)))
    | (go_at_call 216; (with_reducible refine (HC.out _ (size_via hB bel) (EndsAt.at_ HA.out hB bel)).mono ?_); rintro e w4 ⟨rfl, hbw4⟩; obtain ⟨hcw4, hfw4⟩ := bcell hbw4; have hzw4_0 : w.heap.size < w4.heap.size := lt_via hbw4 (by first | omega | (simp; done) | (simp; omega)); have hzw4_1 : w.heap.size + 1 < w4.heap.size := lt_via hbw4 (by first | omega | (simp; done) | (simp; omega)); have hzw4_2 : w.heap.size + 2 < w4.heap.size := lt_via hbw4 (by first | omega | (simp; done) | (simp; omega)))
    | (go_at_call 218; (with_reducible refine (HL.out _ (size_via hB bel) (EndsAt.at_ HA.out hB bel)).mono ?_); rintro e w5 ⟨Aw5, cw5, rfl, how5, hbw5⟩; obtain ⟨hcw5, hfw5⟩ := bcell hbw5; have hzw5_0 : w.heap.size < w5.heap.size := lt_via hbw5 (by first | omega | (simp; done) | (simp; omega)); have hzw5_1 : w.heap.size + 1 < w5.heap.size := lt_via hbw5 (by first | omega | (simp; done) | (simp; omega)); have hzw5_2 : w.heap.size + 2 < w5.heap.size := lt_via hbw5 (by first | omega | (simp; done) | (simp; omega)))
    | ((go_at_call 150; (with_reducible refine (HI.out _ (size_via hB bel) (EndsAt.at_ HA.out hB bel)).mono ?_); rintro e w6 ⟨rfl, hbw6⟩; obtain ⟨hcw6, hfw6⟩ := bcell hbw6; have hzw6_0 : w.heap.size < w6.heap.size := lt_via hbw6 (by first | omega | (simp; done) | (simp; omega)); have hzw6_1 : w.heap.size + 1 < w6.heap.size := lt_via hbw6 (by first | omega | (simp; done) | (simp; omega)); have hzw6_2 : w.heap.size + 2 < w6.heap.size := lt_via hbw6 (by first | omega | (simp; done) | (simp; omega)))
       have hb1' : bb < w1.heap.size := (by omega)
       have hb2' : bb < w2.heap.size := (by omega)
       have hb3' : bb < w3.heap.size := (by omega)
       have hb4' : bb < w4.heap.size := (by omega)
       have hb5' : bb < w5.heap.size := (by omega)
       have hb6' : bb < w6.heap.size := (by omega)))
  have hW0 : Below w.heap.size w w6 := bel
  have hr6 : Blk w6 w.heap.size 32 #[.int .i64 r.num, .int .i64 r.den, .int .i64 r.pnum, .int .i64 r.pden, .int .i64 r.bnum, .int .i64 r.bden, .int .i64 r.lnum, .int .i64 r.lden, .int .i64 r.least] := Blk.via (Blk.via (Blk.via (Blk.via (Blk.via (Blk.via (((Blk.new w _ _).alloc _).alloc _) hbw1) hbw2) hbw3) hbw4) hbw5) hbw6
  have hm6 : Blk w6 (w.heap.size + 1) 26 #[.string m.name, .slice A n c, .slice A' n' c', .int .i64 m.cover, .int .i64 m.aggr, .int .i64 m.poker] := Blk.via (Blk.via (Blk.via (Blk.via (Blk.via (Blk.via (by simpa using (Blk.new (w.alloc (.cells #[.int .i64 r.num, .int .i64 r.den, .int .i64 r.pnum, .int .i64 r.pden, .int .i64 r.bnum, .int .i64 r.bden, .int .i64 r.lnum, .int .i64 r.lden, .int .i64 r.least] 32)) 26 #[.string m.name, .slice A n c, .slice A' n' c', .int .i64 m.cover, .int .i64 m.aggr, .int .i64 m.poker]).alloc (.cells #[.string b.mark, .int .i64 b.size, .int .i64 b.count, .int .i64 b.code, .slice D dn dc] 158)) hbw1) hbw2) hbw3) hbw4) hbw5) hbw6
  have hb6 : Blk w6 (w.heap.size + 1 + 1) 158 #[.string b.mark, .int .i64 b.size, .int .i64 b.count, .int .i64 b.code, .slice D dn dc] := Blk.via (Blk.via (Blk.via (Blk.via (Blk.via (Blk.via (by simpa using Blk.new ((w.alloc (.cells #[.int .i64 r.num, .int .i64 r.den, .int .i64 r.pnum, .int .i64 r.pden, .int .i64 r.bnum, .int .i64 r.bden, .int .i64 r.lnum, .int .i64 r.lden, .int .i64 r.least] 32)).alloc (.cells #[.string m.name, .slice A n c, .slice A' n' c', .int .i64 m.cover, .int .i64 m.aggr, .int .i64 m.poker] 26)) 158 #[.string b.mark, .int .i64 b.size, .int .i64 b.count, .int .i64 b.code, .slice D dn dc]) hbw1) hbw2) hbw3) hbw4) hbw5) hbw6
  have hz6 : w.heap.size + 1 + 1 < w6.heap.size := hb6.lt
  clear hcw1 hfw1 hcw2 hfw2 hcw3 hfw3 hcw4 hfw4 hcw5 hfw5 hcw6 hfw6 how5 hbw1 hbw2 hbw3 hbw4 hbw5 hbw6
  have HLG := Lib.hid ((HA.out.at_ hB hW0))
  have HRB := Lib.hid ((hr6.alloc (.cells #[.int .i64 X.lo.x, .int .i64 X.lo.y, .int .i64 X.lo.z, .int .i64 X.hi.x, .int .i64 X.hi.y, .int .i64 X.hi.z] 89)).alloc (.cells #[.int .i64 X.lo.x, .int .i64 X.lo.y, .int .i64 X.lo.z, .bool false, .int .i64 X.hi.x, .int .i64 X.hi.y, .int .i64 X.hi.z, .bool false] 268))
  have HMB := Lib.hid ((hm6.alloc (.cells #[.int .i64 X.lo.x, .int .i64 X.lo.y, .int .i64 X.lo.z, .int .i64 X.hi.x, .int .i64 X.hi.y, .int .i64 X.hi.z] 89)).alloc (.cells #[.int .i64 X.lo.x, .int .i64 X.lo.y, .int .i64 X.lo.z, .bool false, .int .i64 X.hi.x, .int .i64 X.hi.y, .int .i64 X.hi.z, .bool false] 268))
  have HBB := Lib.hid ((hb6.alloc (.cells #[.int .i64 X.lo.x, .int .i64 X.lo.y, .int .i64 X.lo.z, .int .i64 X.hi.x, .int .i64 X.hi.y, .int .i64 X.hi.z] 89)).alloc (.cells #[.int .i64 X.lo.x, .int .i64 X.lo.y, .int .i64 X.lo.z, .bool false, .int .i64 X.hi.x, .int .i64 X.hi.y, .int .i64 X.hi.z, .bool false] 268))
  have HXB := Lib.hid ((Blk.new w6 89 #[.int .i64 X.lo.x, .int .i64 X.lo.y, .int .i64 X.lo.z, .int .i64 X.hi.x, .int .i64 X.hi.y, .int .i64 X.hi.z]).alloc (.cells #[.int .i64 X.lo.x, .int .i64 X.lo.y, .int .i64 X.lo.z, .bool false, .int .i64 X.hi.x, .int .i64 X.hi.y, .int .i64 X.hi.z, .bool false] 268))
  have hE0 : EndsBlk ((w6.alloc (.cells #[.int .i64 X.lo.x, .int .i64 X.lo.y, .int .i64 X.lo.z, .int .i64 X.hi.x, .int .i64 X.hi.y, .int .i64 X.hi.z] 89)).alloc (.cells #[.int .i64 X.lo.x, .int .i64 X.lo.y, .int .i64 X.lo.z, .bool false, .int .i64 X.hi.x, .int .i64 X.hi.y, .int .i64 X.hi.z, .bool false] 268)) (w6.heap.size + 1) X false false := by
    have := Blk.new (w6.alloc (.cells #[.int .i64 X.lo.x, .int .i64 X.lo.y, .int .i64 X.lo.z, .int .i64 X.hi.x, .int .i64 X.hi.y, .int .i64 X.hi.z] 89)) 268 #[.int .i64 X.lo.x, .int .i64 X.lo.y, .int .i64 X.lo.z, .bool false, .int .i64 X.hi.x, .int .i64 X.hi.y, .int .i64 X.hi.z, .bool false]
    simpa [EndsBlk] using this
  have hW10 : Below w.heap.size w ((w6.alloc (.cells #[.int .i64 X.lo.x, .int .i64 X.lo.y, .int .i64 X.lo.z, .int .i64 X.hi.x, .int .i64 X.hi.y, .int .i64 X.hi.z] 89)).alloc (.cells #[.int .i64 X.lo.x, .int .i64 X.lo.y, .int .i64 X.lo.z, .bool false, .int .i64 X.hi.x, .int .i64 X.hi.y, .int .i64 X.hi.z, .bool false] 268)) := ba_alloc (ba_alloc hW0 _) _
  have hsz10 : ((w6.alloc (.cells #[.int .i64 X.lo.x, .int .i64 X.lo.y, .int .i64 X.lo.z, .int .i64 X.hi.x, .int .i64 X.hi.y, .int .i64 X.hi.z] 89)).alloc (.cells #[.int .i64 X.lo.x, .int .i64 X.lo.y, .int .i64 X.lo.z, .bool false, .int .i64 X.hi.x, .int .i64 X.hi.y, .int .i64 X.hi.z, .bool false] 268)).heap.size = w6.heap.size + 1 + 1 := by simp
  clear hr6 hm6 hb6 hb1' hb2' hb3' hb4' hb5'
  have e1 : IntKind.i64.wrap ((j : Int) - 1) = (j : Int) - 1 := IntWalk.i64_in _ (by omega)
  have e2 : IntKind.i64.wrap ((j : Int) + 1) = (j : Int) + 1 := IntWalk.i64_in _ (by omega)
  generalize ((w6.alloc (.cells #[.int .i64 X.lo.x, .int .i64 X.lo.y, .int .i64 X.lo.z, .int .i64 X.hi.x, .int .i64 X.hi.y, .int .i64 X.hi.z] 89)).alloc (.cells #[.int .i64 X.lo.x, .int .i64 X.lo.y, .int .i64 X.lo.z, .bool false, .int .i64 X.hi.x, .int .i64 X.hi.y, .int .i64 X.hi.z, .bool false] 268)) = W10 at *
  clear c0 c1 c2 c3 c4 c5
  go_loopw [64] (fun i wr => ∃ z : Nat, z ≤ 2 ∧ i = .int .i64 z ∧ (EndsBlk wr (w6.heap.size + 1) X (decide (1 ≤ z) && bl) (decide (2 ≤ z) && bh)) ∧ Exc [w6.heap.size + 1] W10 wr) (fun i _ => 2 - (intOf i).toNat)
  case atStart => exact ⟨0, by omega, rfl, hE0, Exc.refl _ _⟩
  case round =>
    obtain ⟨z, hz, rfl, hEB, hX⟩ := hrel
    by_cases hlt : z < 2
    · have hzi : (z : Int) < 2 := by omega
      have hX0 := hX
      go_wp2
      obtain ⟨wo, hwo⟩ : ∃ wo : World, wo = wr := ⟨_, rfl⟩
      subst hwo
      have hN : Blk (wo.alloc (.cells #[.int .i64 ((j : Int) - 1), .int .i64 ((j : Int) + 1)] 3)) wo.heap.size 3 #[.int .i64 ((j : Int) - 1), .int .i64 ((j : Int) + 1)] := Blk.new _ _ _
      have hE1 : EndsBlk (wo.alloc (.cells #[.int .i64 ((j : Int) - 1), .int .i64 ((j : Int) + 1)] 3)) (w6.heap.size + 1) X (decide (1 ≤ z) && bl) (decide (2 ≤ z) && bh) := Blk.alloc hEB _
      have hX1 : Exc [w6.heap.size + 1] W10 (wo.alloc (.cells #[.int .i64 ((j : Int) - 1), .int .i64 ((j : Int) + 1)] 3)) := hX.alloc _
      have hso := hX.size
      have HN := Lib.hid hN
      have hF0 : Flags z (S.bentM xs j (S.endP X z) 0) bl (decide (1 ≤ z) && bl) (decide (2 ≤ z) && bh) := by
        have : z = 0 ∨ z = 1 := by omega
        rcases this with rfl | rfl
        · exact .inl ⟨rfl, rfl, rfl⟩
        · exact .inr ⟨rfl, by simp, rfl⟩
      have HPOK := Lib.hid (show S.boxOk (S.pbox (S.endP X z)) = true by
        unfold S.endP
        split
        · exact pbox_lo hok.out
        · exact pbox_hi hok.out)
      have HPP := Lib.hid (show S.endP X z = if z = 0 then X.lo else X.hi from rfl)
      generalize wo.alloc (.cells #[.int .i64 ((j : Int) - 1), .int .i64 ((j : Int) + 1)] 3) = W11 at *
      clear hN
      go_loopw [73] (fun i wr => ∃ q : Nat, q ≤ 2 ∧ i = .int .i64 q ∧ Hid (∃ f0 f1, EndsBlk wr (w6.heap.size + 1) X f0 f1 ∧ Flags z (S.bentM xs j (S.endP X z) q) bl f0 f1) ∧ Exc [w6.heap.size + 1] W11 wr) (fun i _ => 2 - (intOf i).toNat)
      case atStart => exact ⟨0, by omega, rfl, Lib.hid ⟨_, _, hE1, hF0⟩, Exc.refl _ _⟩
      case round =>
        obtain ⟨q, hq, rfl, HF, hY⟩ := hrel
        have hsy := hY.size
        by_cases hq2 : q < 2
        · obtain ⟨f0, f1, hEB2, hFl⟩ := HF.out
          obtain ⟨p0, p1, p2, p3, p4⟩ := ends_cells hEB2 hFl
          have hTl := Blk.lt hEB2
          have hqi : (q : Int) < 2 := by omega
          have hnl : wo.heap.size < W11.heap.size := HN.out.lt
          have hnw : wo.heap.size < wr.heap.size := by omega
          have hn : wr.cell? ⟨wo.heap.size, q, none⟩ = some (.int .i64 (S.nb j q)) := by
            have h1 : Blk wr wo.heap.size 3 #[.int .i64 ((j : Int) - 1), .int .i64 ((j : Int) + 1)] := (hY.block wo.heap.size hnl (by simp; omega)).trans HN.out
            have : q = 0 ∨ q = 1 := by omega
            rcases this with rfl | rfl
            · exact h1.cell 0
            · exact h1.cell 1
          have HB1 := Lib.hid (show S.bentM xs j (S.endP X z) (q + 1) = (S.bentM xs j (S.endP X z) q || S.hit xs j (S.endP X z) q) from rfl)
          have HNO := Lib.hid (fun h => hit_no (xs := xs) (k := j) (p := S.endP X z) (m := q) h)
          have HAT := Lib.hid (fun (v : Nat) h (hv : v < xs.length) => hit_at (xs := xs) (k := j) (p := S.endP X z) (m := q) (q := v) h hv)
          have HEB := Lib.hid hEB2
          have HFL := Lib.hid hFl
          clear hEB2 hFl
          generalize S.bentM xs j (S.endP X z) q = u at *
          generalize S.nb j q = V at *
          generalize S.endP X z = P at *
          by_cases hin : 0 ≤ V ∧ V < k
          · obtain ⟨v, hv⟩ : ∃ v : Nat, V = v := ⟨V.toNat, by omega⟩
            subst hv
            have hvk : v < k := by omega
            have hvx : v < xs.length := by omega
            have HT := Lib.hid (HAT.out v rfl hvx)
            have hbelr : Below w.heap.size w wr := hW10.trans ((hX1.trans hY).below (by omega) (by intro x hx; simp at hx; omega))
            have HE := Lib.hid (HA.out.at_ hB hbelr)
            obtain ⟨d0, d1, d2, d3, d4, d5⟩ := HE.out.legs.boxes (List.getElem?_eq_getElem hvx)
            have hbr : bb < wr.heap.size := by omega
            have HCT := Lib.hid (fun w => bcontains_yes xs[v] (S.pbox P) w (HOK.out v hvx) HPOK.out)
            generalize S.cont xs[v] (S.pbox P) = t at *
            generalize xs[v] = Y at *
            unfold boxV at HCT
            have g1 : ¬ (v : Int) < 0 := by omega
            have g2 : (v : Int) < (k : Int) := by omega
            have g3 : ¬ (k : Int) ≤ (v : Int) := by omega
            clear hin
            cases u
            all_goals (
              go_wp2
              refine wp_region_grow (by kernel_rfl) (by kernel_rfl) ?_
              repeat (go_big_quiet_step ((go_at_call 220; exact grow_of (HCT.out _))))
              all_goals (refine wpQuiet_nil ?_; intro wg hbwg; obtain ⟨hcwg, hfwg⟩ := bcell hbwg)
              have hTg : w6.heap.size + 1 < wg.heap.size := (by have := hbwg.size; omega)
              go_wp2
              go_roundw
              case rel =>
                refine ⟨q + 1, by omega, by go_num, Lib.hid ?_, (Exc.via hbwg hY).set (.inl (by simp)) _⟩
                first
                  | (obtain ⟨i0, i1, hi1, hi2⟩ := ends_set (show EndsBlk wg (w6.heap.size + 1) X f0 f1 from Blk.via HEB.out hbwg) HFL.out t
                     exact ⟨i0, i1, hi1, by rw [HB1.out, HT.out]; exact hi2⟩)
                  | (obtain ⟨i0, i1, hi1, hi2⟩ := ends_set (show EndsBlk wg (w6.heap.size + 1) X f0 f1 from Blk.via HEB.out hbwg) HFL.out true
                     exact ⟨i0, i1, hi1, by rw [HB1.out, HT.out]; exact hi2⟩)
              case measure => simp [intOf]; omega)
          · have HT := Lib.hid (HNO.out (by omega))
            by_cases hv0 : V < 0
            · clear hin
              go_wp2
              go_roundw
              case rel => exact ⟨q + 1, by omega, by go_num, Lib.hid ⟨f0, f1, HEB.out, by rw [HB1.out, HT.out, Bool.or_false]; exact HFL.out⟩, hY⟩
              case measure => simp [intOf]; omega
            · have hv1 : (k : Int) ≤ V := by omega
              clear hin
              go_wp2
              go_roundw
              case rel => exact ⟨q + 1, by omega, by go_num, Lib.hid ⟨f0, f1, HEB.out, by rw [HB1.out, HT.out, Bool.or_false]; exact HFL.out⟩, hY⟩
              case measure => simp [intOf]; omega
        · have hq' : q = 2 := by omega
          subst hq'
          have hXX := hX1.trans hY
          have HEE : Hid (EndsBlk wr (w6.heap.size + 1) X (decide (1 ≤ z + 1) && bl) (decide (2 ≤ z + 1) && bh)) := Lib.hid (by
            obtain ⟨f0, f1, hEB2, hFl⟩ := HF.out
            rcases hFl with ⟨rfl, rfl, rfl⟩ | ⟨rfl, rfl, rfl⟩
            · have : S.bentM xs j (S.endP X 0) 2 = bl := HBL.out
              rw [this] at hEB2
              simpa using hEB2
            · have : S.bentM xs j (S.endP X 1) 2 = bh := HBH.out
              rw [this] at hEB2
              simpa using hEB2)
          go_wp2
          go_roundw
          case rel => exact ⟨z + 1, by omega, by go_num, HEE.out, hXX⟩
          case measure => simp [intOf]; omega
    · have hz2 : z = 2 := by omega
      subst hz2
      have hE2 : Blk wr (w6.heap.size + 1) 268 #[.int .i64 X.lo.x, .int .i64 X.lo.y, .int .i64 X.lo.z, .bool bl, .int .i64 X.hi.x, .int .i64 X.hi.y, .int .i64 X.hi.z, .bool bh] := by simpa [EndsBlk] using hEB
      have hsx := hX.size
      have q4 : Blk wr w.heap.size 32 #[.int .i64 r.num, .int .i64 r.den, .int .i64 r.pnum, .int .i64 r.pden, .int .i64 r.bnum, .int .i64 r.bden, .int .i64 r.lnum, .int .i64 r.lden, .int .i64 r.least] := (hX.block w.heap.size (by omega) (by simp; omega)).trans HRB.out
      have q5 : Blk wr (w.heap.size + 1) 26 #[.string m.name, .slice A n c, .slice A' n' c', .int .i64 m.cover, .int .i64 m.aggr, .int .i64 m.poker] := (hX.block (w.heap.size + 1) (by omega) (by simp; omega)).trans HMB.out
      have q6 : Blk wr (w.heap.size + 1 + 1) 158 #[.string b.mark, .int .i64 b.size, .int .i64 b.count, .int .i64 b.code, .slice D dn dc] := (hX.block (w.heap.size + 1 + 1) (by omega) (by simp; omega)).trans HBB.out
      have q14 : Blk wr w6.heap.size 89 #[.int .i64 X.lo.x, .int .i64 X.lo.y, .int .i64 X.lo.z, .int .i64 X.hi.x, .int .i64 X.hi.y, .int .i64 X.hi.z] := (hX.block w6.heap.size (by omega) (by simp)).trans HXB.out
      have x0 := q4.cell 0
      have x1 := q4.cell 1
      have x2 := q4.cell 2
      have x3 := q4.cell 3
      have x4 := q4.cell 4
      have x5 := q4.cell 5
      have x6 := q4.cell 6
      have x7 := q4.cell 7
      have x8 := q4.cell 8
      simp only [List.getElem?_toArray, List.getElem?_cons_zero, List.getElem?_cons_succ] at x0 x1 x2 x3 x4 x5 x6 x7 x8
      have y0 := q5.cell 0
      have y1 := q5.cell 1
      have y2 := q5.cell 2
      have y3 := q5.cell 3
      have y4 := q5.cell 4
      have y5 := q5.cell 5
      simp only [List.getElem?_toArray, List.getElem?_cons_zero, List.getElem?_cons_succ] at y0 y1 y2 y3 y4 y5
      have v0 := q6.cell 0
      have v1 := q6.cell 1
      have v2 := q6.cell 2
      have v3 := q6.cell 3
      have v4 := q6.cell 4
      simp only [List.getElem?_toArray, List.getElem?_cons_zero, List.getElem?_cons_succ] at v0 v1 v2 v3 v4
      have g0 := q14.cell 0
      have g1 := q14.cell 1
      have g2 := q14.cell 2
      have g3 := q14.cell 3
      have g4 := q14.cell 4
      have g5 := q14.cell 5
      simp only [List.getElem?_toArray, List.getElem?_cons_zero, List.getElem?_cons_succ] at g0 g1 g2 g3 g4 g5
      have a0 := hE2.cell 0
      have a1 := hE2.cell 1
      have a2 := hE2.cell 2
      have a3 := hE2.cell 3
      have a4 := hE2.cell 4
      have a5 := hE2.cell 5
      have a6 := hE2.cell 6
      have a7 := hE2.cell 7
      simp only [List.getElem?_toArray, List.getElem?_cons_zero, List.getElem?_cons_succ] at a0 a1 a2 a3 a4 a5 a6 a7
      have l4 := q4.lt
      have l5 := q5.lt
      have l6 := q6.lt
      have l14 := q14.lt
      have l15 := hE2.lt
      have hbelr : Below w.heap.size w wr := hW10.trans (hX.below (by omega) (by intro x hx; simp at hx; omega))
      clear q4 q5 q6 q14 hE2 hEB
      go_wp2_with (go_at_call 125; (with_reducible refine (HP.out _ (size_via hB hbelr) (HA.out.at_ hB hbelr)).mono ?_); rintro e w7 ⟨rfl, hbw7⟩; obtain ⟨hcw7, hfw7⟩ := bcell hbw7; have hzw7_0 : w.heap.size < w7.heap.size := lt_via hbw7 (by first | omega | (simp; done) | (simp; omega)); have hzw7_1 : w.heap.size + 1 < w7.heap.size := lt_via hbw7 (by first | omega | (simp; done) | (simp; omega)); have hzw7_2 : w.heap.size + 2 < w7.heap.size := lt_via hbw7 (by first | omega | (simp; done) | (simp; omega)); have hyw7_0 : w6.heap.size < w7.heap.size := lt_via hbw7 (by first | omega | (simp; done) | (simp; omega)); have hyw7_1 : w6.heap.size + 1 < w7.heap.size := lt_via hbw7 (by first | omega | (simp; done) | (simp; omega)))
      refine wp_region_grow (by kernel_rfl) (by kernel_rfl) ?_
      repeat (go_big_quiet_step ((go_at_call 170; exact grow_of (HLN.out _ _ _))))
      all_goals (refine wpQuiet_nil ?_; intro wh hbwh; obtain ⟨hcwh, hfwh⟩ := bcell hbwh; have hzwh_0 : w.heap.size < wh.heap.size := lt_via hbwh (by first | omega | (simp; done) | (simp; omega)); have hzwh_1 : w.heap.size + 1 < wh.heap.size := lt_via hbwh (by first | omega | (simp; done) | (simp; omega)); have hzwh_2 : w.heap.size + 2 < wh.heap.size := lt_via hbwh (by first | omega | (simp; done) | (simp; omega)))
      go_wp2
      go_returns
      exact ⟨rfl, ba_via hbwh (ba_via hbw7 hbelr)⟩
end Go.Proofs.YtffkmgjmlahfpaaGreat
namespace Go.Proofs.YtffkmgjmlahfpaaGreat
open Go.RowKit
theorem quietBy {w : World} {b o : Nat} {cs : List Value} (h : ∀ W, Below w.heap.size w W → W.rangeAt b o cs) : ∀ W, (∃ g, W = grow w g) → W.rangeAt b o cs := by
  rintro W ⟨g, rfl⟩
  exact h _ (grow_below _ _)
theorem quietLoad {P : Program} {ops : Array Oper} {C : World → Prop} {Q : Act → Prop} {rest : List Oper} {op : Oper} {a : Act} (hw : Region.wanted op (yielded ops a.tmps) = true) (ty : TypeId) (x : Operand) (ho : op.op = .load ty x)
    (b o : Nat) (hx : a.eval x = .pointer (some ⟨b, o, none⟩)) (cs : List Value) (d : TypeDesc) (hS : ∀ w, C w → w.rangeAt b o cs)
    (hu : P.underlying ty = some d) (hd : d.isRow = true) (hi : (P.info? ty).map (·.size) = some cs.length)
    (h : ∀ a', a.put op.dst (.agg cs.toArray) = a' → wpQuiet P ops C Q rest a') : wpQuiet P ops C Q (op :: rest) a := by
  unfold wpQuiet
  rw [if_pos hw]
  refine ⟨.agg cs.toArray, fun w hw' => ?_, h _ rfl⟩
  unfold Oper.quietAt execOp
  simp only [ho, hx, Instr.loadAt, Instr.sureAddr, Sem.run_bind, Sem.run_pure, Result.andThen_ok, run_loadVar_mid w b o ty cs d (hS w hw') hu hd hi]
  exact ⟨rfl, rfl⟩
end Go.Proofs.YtffkmgjmlahfpaaGreat
namespace Go.Proofs.YtffkmgjmlahfpaaGreat
open Go.RowKit
structure It where
  k : Nat
  A : Option Addr
  pts : List Pt
abbrev itE (y : It) : Array Value := #[.int .i64 y.k, .slice y.A y.pts.length y.pts.length]
structure KpL (B : Nat) (M : List Nat) (A C : World) : Prop where
  bel : Below B A C
  cells : ∀ k cs t fr, k ∉ M → A.heap[k]? = some (.cells cs t fr) → C.heap[k]? = some (.cells cs t fr)
theorem KpL.blk {B : Nat} {M : List Nat} {A C : World} (h : KpL B M A C) {g : Nat} {t : TypeId} {cs : Array Value} (hb : Blk A g t cs) (hg : g ∉ M) : Blk C g t cs := h.cells g cs t _ hg hb
def itR (x : Dt) (n0 : Nat) (pre : List It) (y : It) (V : World) : Prop :=
  y.k = pre.length ∧ (∃ k j k0 r, ∃ hL : Lies x.bs x.rs y.k k j k0 r, y.pts = S.laidPath r.b (x.rs[k]'hL.st.lt) j) ∧ ∃ g, y.A = some ⟨g, 0, none⟩ ∧ n0 ≤ g ∧ Blk V g 87 (y.pts.flatMap ptC).toArray
def fillA (cs : List Value) (m : Nat) : Array Value := (cs.take m ++ List.replicate (cs.length - m) (Value.int .i64 0)).toArray
theorem fillA_zero (cs : List Value) : fillA cs 0 = (List.replicate cs.length (Value.int .i64 0)).toArray := by simp [fillA]
theorem fillA_full (cs : List Value) : fillA cs cs.length = cs.toArray := by simp [fillA]
theorem fillA_get {cs : List Value} {m j : Nat} (hj : j < cs.length) : (fillA cs m)[j]? = if j < m then cs[j]? else some (Value.int .i64 0) := by
  unfold fillA
  simp only [List.getElem?_toArray]
  by_cases h : j < m
  · rw [if_pos h, List.getElem?_append_left (by simp; omega), List.getElem?_take, if_pos h]
  · have hl : (cs.take m).length = m := by rw [List.length_take]; omega
    rw [if_neg h, List.getElem?_append_right (by omega), hl, List.getElem?_replicate, if_pos (by omega)]
theorem fillA_out {cs : List Value} {m j : Nat} (hm : m ≤ cs.length) (hj : cs.length ≤ j) : (fillA cs m)[j]? = none := by
  rw [Array.getElem?_eq_none]
  simp [fillA]
  omega
theorem fillA_three {cs : List Value} {m : Nat} (hm : m + 3 ≤ cs.length) {D : Array Value} (hD : D = fillA cs m ∨ ∃ u0 u1 u2, D = (((fillA cs m).setIfInBounds m u0).setIfInBounds (m + 1) u1).setIfInBounds (m + 2) u2) {v0 v1 v2 : Value} (h0 : cs[m]? = some v0) (h1 : cs[m + 1]? = some v1) (h2 : cs[m + 2]? = some v2) :
    ((D.setIfInBounds m v0).setIfInBounds (m + 1) v1).setIfInBounds (m + 2) v2 = fillA cs (m + 3) := by
  have hz : (fillA cs m).size = cs.length := by simp [fillA]; omega
  have hs : D.size = cs.length := by
    rcases hD with rfl | ⟨u0, u1, u2, rfl⟩
    · exact hz
    · simpa using hz
  have hget : ∀ j, j ≠ m → j ≠ m + 1 → j ≠ m + 2 → D[j]? = (fillA cs m)[j]? := by
    intro j a b c
    rcases hD with rfl | ⟨u0, u1, u2, rfl⟩
    · rfl
    · rw [Array.getElem?_setIfInBounds, if_neg (by omega), Array.getElem?_setIfInBounds, if_neg (by omega), Array.getElem?_setIfInBounds, if_neg (by omega)]
  apply Array.ext_getElem?
  intro j
  by_cases hj : j < cs.length
  · rw [fillA_get hj]
    by_cases e2 : j = m + 2
    · subst e2
      rw [if_pos (by omega), Array.getElem?_setIfInBounds, if_pos rfl, if_pos (by simp [hs]; omega), h2]
    · rw [Array.getElem?_setIfInBounds, if_neg (by omega)]
      by_cases e1 : j = m + 1
      · subst e1
        rw [if_pos (by omega), Array.getElem?_setIfInBounds, if_pos rfl, if_pos (by simp [hs]; omega), h1]
      · rw [Array.getElem?_setIfInBounds, if_neg (by omega)]
        by_cases e0 : j = m
        · subst e0
          rw [if_pos (by omega), Array.getElem?_setIfInBounds, if_pos rfl, if_pos (by simp [hs]; omega), h0]
        · rw [Array.getElem?_setIfInBounds, if_neg (by omega), hget j e0 e1 e2, fillA_get hj]
          by_cases h : j < m
          · rw [if_pos h, if_pos (by omega)]
          · rw [if_neg h, if_neg (by omega)]
  · rw [fillA_out (by omega) (by omega), Array.getElem?_eq_none]
    simp [hs]
    omega
theorem three_get {D : Array Value} {m : Nat} (h : m + 3 ≤ D.size) (a b c : Value) :
    (((D.setIfInBounds m a).setIfInBounds (m + 1) b).setIfInBounds (m + 2) c)[m]? = some a ∧ (((D.setIfInBounds m a).setIfInBounds (m + 1) b).setIfInBounds (m + 2) c)[m + 1]? = some b ∧ (((D.setIfInBounds m a).setIfInBounds (m + 1) b).setIfInBounds (m + 2) c)[m + 2]? = some c := by
  refine ⟨?_, ?_, ?_⟩
  · rw [Array.getElem?_setIfInBounds, if_neg (by omega), Array.getElem?_setIfInBounds, if_neg (by omega), Array.getElem?_setIfInBounds, if_pos rfl, if_pos (by omega)]
  · rw [Array.getElem?_setIfInBounds, if_neg (by omega), Array.getElem?_setIfInBounds, if_pos rfl, if_pos (by simp; omega)]
  · rw [Array.getElem?_setIfInBounds, if_pos rfl, if_pos (by simp; omega)]
theorem fillA_size {cs : List Value} {m : Nat} (h : m ≤ cs.length) : (fillA cs m).size = cs.length := by
  simp [fillA]
  omega
theorem laid_map {b : Bar} {r : Rn} (ht : S.turn r.tx r.ty = true) (h : S.bar b = true) (j : Nat) : (S.turned b r).map (S.laidPt r j) = S.laidPath b r j := by
  rw [turned_eq ht h]
  unfold S.laidPath
  rw [List.map_map]
  apply List.map_congr_left
  intro p _
  show S.laidPt r j (S.placed r.tx r.ty ⟨0, 0, 0⟩ p) = S.placed r.tx r.ty (S.plus r.at_ r.step j) p
  unfold S.laidPt S.placed S.plus
  by_cases hj : (0 : Int) < (j : Int)
  · rw [if_pos hj]
    simp only [Pt.mk.injEq]
    omega
  · have h0 : j = 0 := by omega
    subst h0
    rw [if_neg hj]
    simp only [Pt.mk.injEq]
    omega
theorem laid_bounds {bs : List Bar} {r : Rn} {k0 : Nat} {b : Bar} (ho : RunOk bs r k0 b) {p : Pt} (hp : p ∈ S.turned b r) {j : Nat} (hj : (j : Int) < r.count) :
    S.near1 p 4398046511104 = true ∧ S.near1 r.at_ 4194304 = true ∧ S.near1 (S.plus p r.at_ 1) 4398046511104 = true ∧ ((0 : Int) < j → S.near1 r.step 4194304 = true) := by
  have h1 : S.near1 p 4194304 = true := fpath_near hp
  have h2 := plus_near h1 ho.home (k := 1) (c := 1) (by omega) (by omega)
  refine ⟨near1_mono h1 (by omega), near1_mono ho.home (by omega), near1_mono h2 (by omega), fun h0 => ?_⟩
  obtain ⟨ax, ay, az⟩ := near1_out ho.home
  obtain ⟨bx, by', bz⟩ := near1_out (ho.start 1 (by omega) (by omega))
  simp only [S.plus] at bx by' bz
  simp only [S.near1, Bool.and_eq_true, decide_eq_true_eq]
  omega
theorem lies_at {l : List BarR} {rs : List Rn} (h : S.laid (bars l) rs = true) {i k j k0 : Nat} {b : BarR} (hk : k < rs.length) (hg : l[k0]? = some b) (ho : RunOk (bars l) rs[k] k0 b.b) (hi : (i : Int) = S.sumTo rs k + j) (hj : (j : Int) < rs[k].count) : Lies l rs i k j k0 b := by
  have hh := h
  simp only [S.laid, Bool.and_eq_true, decide_eq_true_eq] at hh
  obtain ⟨⟨hs, hl⟩, hr⟩ := hh
  have hin : ∀ r, r ∈ rs → S.right (bars l) r = true := fun r hr' => runs_in hr hr'
  have hm := mains_sum hs hin (k := k) (by omega)
  have hsn := mains_snoc (bars l) rs hk ho.at_
  have hlen : i < (S.mains (bars l) rs).length := by
    have hm2 := mains_sum hs hin (k := k + 1) (by omega)
    rw [sumTo_succ rs hk] at hm2
    have hm3 := mains_sum hs hin (k := rs.length) (Nat.le_refl _)
    rw [List.take_length] at hm3
    have hmono := sumTo_mono (rs := rs) (fun q hq => by have := right_count (hin _ (List.getElem_mem hq)); omega) (show k + 1 ≤ rs.length by omega) (Nat.le_refl _)
    rw [sumTo_succ rs hk] at hmono
    omega
  obtain ⟨k', j', k0', b', hL⟩ := lies_of h hlen
  refine ⟨⟨hk, ho, hi, hj, ?_⟩, hg, hL.cnt, hL.lim⟩
  -- the same place: read it off the lists
  have hpre : S.mains (bars l) rs = S.mains (bars l) (rs.take (k + 1)) ++ S.mains (bars l) (rs.drop (k + 1)) := by
    unfold S.mains
    rw [← List.flatMap_append, List.take_append_drop]
  rw [hpre, List.getElem?_append_left (by rw [hsn, List.length_append, mainsOf_len]; omega), hsn, List.getElem?_append_right (by omega)]
  have e : i - (S.mains (bars l) (rs.take k)).length = j := by omega
  rw [e]
  unfold S.mainsOf
  rw [List.getElem?_map, List.getElem?_range (by omega)]
  rfl
end Go.Proofs.YtffkmgjmlahfpaaGreat
namespace Go.Proofs.YtffkmgjmlahfpaaGreat
open Go.RowKit
attribute [local go_sem] Oper.semAt_some
theorem pointInfo : (Tryz.prog.info? 87).map (fun i => (i.zero, i.size, i.bytes)) = some (some (.agg #[.int .i64 0, .int .i64 0, .int .i64 0]), 3, 24) := by kernel_rfl
theorem Blk.of_own {w : World} {base E size : Nat} {A : Option Addr} {n c : Nat} {xs : List Value} (h : w.ownsRow base E size (.slice A n c) n xs) (hn : 0 < n) (hm : n ≤ maxLen) :
    ∃ (g : Nat) (cur : Array Value) (t : TypeId) (fr : Nat × Nat), A = some ⟨g, 0, none⟩ ∧ base ≤ g ∧ w.heap[g]? = some (.cells cur t fr) ∧ ∀ (j : Nat) (v : Value), xs[j]? = some v → cur[j]? = some v := by
  have hc := (own_cells h hm).1
  rcases h.2 with ⟨_, h0⟩ | ⟨g, cap, cur, hv, hbg, hh, _⟩
  · omega
  · injection hv with hA _ _
    subst hA
    refine ⟨g, _, _, _, rfl, hbg, hh, fun j v hj => ?_⟩
    have h1 := h.cells (g := g) rfl j v hj
    have e : (⟨g, 0, none⟩ : Addr).add j = ⟨g, j, none⟩ := by unfold Addr.add; split <;> simp_all
    rw [e] at h1
    have h2 := cell_of_row w g j _ _ _ hh
    rw [h2] at h1
    exact h1
theorem made_three (n : Nat) (z : Value) : madeCells #[z, z, z] (n * 3) = (List.replicate (n * 3) z).toArray := by
  apply Array.ext_getElem?
  intro j
  by_cases hj : j < n * 3
  · have h3 : j % 3 = 0 ∨ j % 3 = 1 ∨ j % 3 = 2 := by omega
    have e : (madeCells #[z, z, z] (n * 3))[j]? = some z := by
      unfold madeCells
      rw [Array.getElem?_map, Array.getElem?_range, if_pos (by simpa using hj)]
      simp only [Option.map_some]
      rcases h3 with h | h | h <;> simp [h]
    rw [e]
    simp [hj]
  · rw [Array.getElem?_eq_none (by simp [madeCells]; omega), Array.getElem?_eq_none (by simp; omega)]
theorem make_points (cs : List Value) (n : Nat) (hn : n ≤ 100) (hc : cs.length = n * 3) (V : World) :
    (Instr.makeSlice 221 (.int .i64 (n : Int)) (.int .i64 (n : Int))).run Tryz.prog V = .ok (.slice (some ⟨V.heap.size, 0, none⟩) n n) (V.alloc (.cells (fillA cs 0) 87)) := by
  obtain ⟨i, hi, hz, hsz, hby⟩ := info_parts pointInfo
  have := run_make (P := Tryz.prog) V 221 87 i _ Tryz.underlying221 hi hz .i64 .i64 (n : Int) (n : Int) (by omega) (Int.le_refl _) (by rw [hby]; omega) (by omega)
  rw [this, hsz, fillA_zero, hc, ← made_three]
  rfl
set_option maxRecDepth 20000 in
set_option maxHeartbeats 8000000 in
theorem lall_laid (x : Dt) (B n0 : Nat) (M : List Nat) (b2 b3 : Nat) (m : Nat) (w : World) (h1 : 1 ≤ m) (hB : B ≤ n0) (hn0 : n0 ≤ w.heap.size) (hM : ∀ k, k ∈ M → B ≤ k ∧ k < n0) (h2M : b2 ∉ M) (h3M : b3 ∉ M) (hA : DtAt w B x) (h : S.laid (bars x.bs) x.rs = true)
    (hb3 : Blk w b3 28 #[.slice x.rA x.rn x.rc]) (hb2 : Blk w b2 27 #[.slice x.bA x.bn x.bc]) :
    SeqLaid Fence.wide m Tryz.prog 274 #[.pointer (some ⟨b3, 0, none⟩), .pointer (some ⟨b2, 0, none⟩)] itE (KpL B M) (itR x n0) (fun xs => (xs.length : Int) = S.sumAll x.rs) w := by
  intro l J Jx W hbW hJ hJx hY h0
  refine callsIn_wide.2 ?_
  show Calls Tryz.prog 274 #[.func (.yield l) #[] #[], .pointer (some ⟨b3, 0, none⟩), .pointer (some ⟨b2, 0, none⟩)] W _
  have hBw : B ≤ w.heap.size := by omega
  have hAW := hA.at_ hBw hbW
  have hRc := hAW.runs.cells
  have hrl := hAW.runs.len
  have hrm := hAW.runs.max
  have HBS := Lib.hid hAW.bars
  have hb3W := hb3.via hbW
  have hb2W := hb2.via hbW
  have HF := Lib.hid (fun (k : Nat) (hk : k < x.rs.length) => run_facts (x := x) (B := B) (w := w) h hk)
  have HL := Lib.hid h
  have HJ := Lib.hid hJ
  have HJx := Lib.hid hJx
  have HY := Lib.hid hY
  have hWs := hbW.size
  have hWB : B ≤ W.heap.size := by omega
  clear hA hAW hJ hJx hY h hb3 hb2 hbW
  generalize hrA : x.rA = rA at *
  clear hrA
  have c3 := hb3W.cell 0
  have c2 := hb2W.cell 0
  have l3 := hb3W.lt
  have l2 := hb2W.lt
  simp only [List.getElem?_toArray, List.getElem?_cons_zero, List.getElem?_cons_succ] at c3 c2
  go_enter Tryz.func274, Tryz.ntmps274
  go_wp2
  go_loopw [14, 4] (fun s t wr => ∃ (k : Nat) (pre : List It), k ≤ x.rn ∧ s = .int .i64 k ∧ t = .int .i64 pre.length ∧ Hid ((pre.length : Int) = S.sumTo x.rs k) ∧ J pre wr ∧ Below B W wr ∧ Blk wr b3 28 #[.slice rA x.rn x.rc] ∧ Blk wr b2 27 #[.slice x.bA x.bn x.bc] ∧ W.heap.size ≤ wr.heap.size) (fun s _ _ => x.rn - (intOf s).toNat)
  case atStart => exact ⟨0, [], Nat.zero_le _, rfl, rfl, Lib.hid (by rw [sumTo_zero]; rfl), h0, Below.refl _ _, hb3W, hb2W, Nat.le_refl _⟩
  case round =>
    obtain ⟨k, pre, hk, rfl, rfl, hsum, hJr, hbr, hB3, hB2, hWr⟩ := hrel
    clear c3 c2 l3 l2 hb3W hb2W h0
    by_cases hlt : k < x.rn
    · have hkx : k < x.rs.length := by omega
      have hki : (k : Int) < x.rn := by omega
      have hRr := hRc.below hbr
      obtain ⟨bR, oR, hRe, hbR, hxx⟩ := hRr.at_ (by rw [flat_len rnC 10 rnC_len]; omega)
      clear hxx
      subst hRe
      have c0 := hRr.row0 rnC_len hkx rfl
      have d1 := hRr.rowj rnC_len hkx 1 rfl
      have d2 := hRr.rowj rnC_len hkx 2 rfl
      have d3 := hRr.rowj rnC_len hkx 3 rfl
      have d4 := hRr.rowj rnC_len hkx 4 rfl
      have d5 := hRr.rowj rnC_len hkx 5 rfl
      have d6 := hRr.rowj rnC_len hkx 6 rfl
      have d7 := hRr.rowj rnC_len hkx 7 rfl
      have d8 := hRr.rowj rnC_len hkx 8 rfl
      have d9 := hRr.rowj rnC_len hkx 9 rfl
      obtain ⟨k0, b, hget, hok, hfe, hfi, hle⟩ := HF.out k hkx
      have hbRl : bR < wr.heap.size := by omega
      have HOK := Lib.hid hok
      have HTU := Lib.hid (fun (V : World) (hV : B ≤ V.heap.size) (hh : BarsAt V B x.bA x.bn x.bs) => turned_any x.bs x.rs[k] k0 b x.bA x.bn x.bc B V hV hh hok.index hget hok.bar)
      have hcnt := hok.count
      have hTL : (S.turned b.b x.rs[k]).length = (S.legsOf b.b.code).length + 1 := by
        rw [← path_len b.b, ← List.length_map (f := S.laidPt x.rs[k] ((0 : Nat) : Int)), laid_map hok.turn hok.bar]
        simp [S.laidPath]
      have hl6 := legs_len b.b.code
      have hT0 : 0 < (S.turned b.b x.rs[k]).length ∧ (S.turned b.b x.rs[k]).length ≤ 100 := by omega
      clear hTL hl6
      have HLIES := Lib.hid (fun (j : Nat) (hj : (j : Int) < x.rs[k].count) (i : Nat) (hi : (i : Int) = S.sumTo x.rs k + j) => lies_at HL.out hkx hget hok hi hj)
      unfold rnV at HTU
      clear hRr hok hfe hfi
      generalize hrk : x.rs[k] = r at *
      have e3 := hB3.cell 0
      have e2 := hB2.cell 0
      have l3 := hB3.lt
      have l2 := hB2.lt
      simp only [List.getElem?_toArray, List.getElem?_cons_zero, List.getElem?_cons_succ] at e3 e2
      go_upto_region 4 with fail
      have hW6 : Below wr.heap.size wr (wr.alloc (.cells #[.string r.mark, .int .i64 r.tx, .int .i64 r.ty, .int .i64 r.at_.x, .int .i64 r.at_.y, .int .i64 r.at_.z, .int .i64 r.step.x, .int .i64 r.step.y, .int .i64 r.step.z, .int .i64 r.count] 183)) := ba_alloc (Below.refl _ _) _
      have hB6 := Blk.new wr 183 #[.string r.mark, .int .i64 r.tx, .int .i64 r.ty, .int .i64 r.at_.x, .int .i64 r.at_.y, .int .i64 r.at_.z, .int .i64 r.step.x, .int .i64 r.step.y, .int .i64 r.step.z, .int .i64 r.count]
      generalize (wr.alloc (.cells #[.string r.mark, .int .i64 r.tx, .int .i64 r.ty, .int .i64 r.at_.x, .int .i64 r.at_.y, .int .i64 r.at_.z, .int .i64 r.step.x, .int .i64 r.step.y, .int .i64 r.step.z, .int .i64 r.count] 183)) = W6 at *
      have hbW6 : Below B W W6 := hbr.trans (hW6.mono (by omega))
      have HB6 := Lib.hid hB6
      have hB3' := hB3.via hW6
      have hB2' := hB2.via hW6
      have HB3 := Lib.hid hB3'
      have HB2 := Lib.hid hB2'
      have e2' := hB2'.cell 0
      have l2' := hB2'.lt
      simp only [List.getElem?_toArray, List.getElem?_cons_zero, List.getElem?_cons_succ] at e2'
      have hs6 := hbW6.size
      have hJ6 := HJ.out _ _ _ hJr (hW6.mono (by omega))
      clear c0 d1 d2 d3 d4 d5 d6 d7 d8 d9 e3 e2 l3 l2 hB3 hB2 hB3' hB2' hbr hJr
      go_upto_region 5 with (first
        | (refine wpList_load_mid rfl 183 (.tmp 6) rfl _ _ rfl _ _ (HB6.out).range Tryz.underlying183 rfl (by kernel_rfl) ?_)
        | (go_at_call 244; (with_reducible refine (HTU.out _ (by omega) (HBS.out.below hbW6)).mono ?_); rintro e w7 ⟨A7, c7, rfl, how7, hbw7⟩))
      obtain ⟨g7, cur7, t7, fr7, rfl, hg7, hh7, hc7⟩ := Blk.of_own how7 (by omega) (by unfold maxLen; omega)
      have hB6' := HB6.out.via hbw7
      have HHC := Lib.hid hc7
      have hB3' := HB3.out.via hbw7
      have hB2' := HB2.out.via hbw7
      have hb7W : Below B W w7 := hbW6.trans (hbw7.mono (by omega))
      have hJ7 := HJ.out _ _ _ hJ6 (hbw7.mono hs6)
      have hs7 := hbw7.size
      have d9 := hB6'.cell 9
      have l6 := hB6'.lt
      simp only [List.getElem?_toArray, List.getElem?_cons_zero, List.getElem?_cons_succ] at d9
      clear how7 HB6 HB3 HB2 e2' l2' hJ6 hbW6 hB6 hW6 HTU hc7
      have HSS := Lib.hid (sumTo_succ x.rs hkx)
      rw [hrk] at HSS
      go_wp2
      clear d9 l6
      go_loopw [23, 4] (fun s t wq => ∃ (j : Nat) (pre' : List It), (j : Int) ≤ r.count ∧ s = .int .i64 j ∧ t = .int .i64 pre'.length ∧ Hid ((pre'.length : Int) = S.sumTo x.rs k + j) ∧ J pre' wq ∧ Below B W wq ∧ Blk wq b3 28 #[.slice (some ⟨bR, oR, none⟩) x.rn x.rc] ∧ Blk wq b2 27 #[.slice x.bA x.bn x.bc] ∧ Blk wq wr.heap.size 183 #[.string r.mark, .int .i64 r.tx, .int .i64 r.ty, .int .i64 r.at_.x, .int .i64 r.at_.y, .int .i64 r.at_.z, .int .i64 r.step.x, .int .i64 r.step.y, .int .i64 r.step.z, .int .i64 r.count] ∧ wq.heap[g7]? = some (.cells cur7 t7 fr7) ∧ w7.heap.size ≤ wq.heap.size) (fun s _ _ => r.count.toNat - (intOf s).toNat)
      case atStart => exact ⟨0, pre, by omega, rfl, rfl, Lib.hid (by have := hsum.out; omega), hJ7, hb7W, hB3', hB2', hB6', hh7, Nat.le_refl _⟩
      case round =>
        generalize wr = wq at *
        obtain ⟨j, pre', hj, rfl, rfl, hsum', hJq, hbq, hB3, hB2, hB6, hq7, hsq⟩ := hrel
        clear hJ7 hb7W hB3' hB2' hB6' hh7 hbw7
        by_cases hltj : (j : Int) < r.count
        · have hjl := HLIES.out j hltj
          have hJL := Lib.hid hjl
          clear hjl
          have hCl : (((S.turned b.b r).map (S.laidPt r j)).flatMap ptC).length = (S.turned b.b r).length * 3 := by rw [flat_len ptC 3 ptC_len, List.length_map]
          have HCL := Lib.hid hCl
          have HCG := Lib.hid (fun (i : Nat) (hi : i < (S.turned b.b r).length) (q : Nat) (hq : q < 3) => show (((S.turned b.b r).map (S.laidPt r j)).flatMap ptC)[i * 3 + q]? = (ptC (S.laidPt r j (S.turned b.b r)[i]))[q]? from by
            rw [flat_get ptC 3 ptC_len _ i (by rw [List.length_map]; exact hi) q hq, List.getElem_map])
          have hmk := make_points _ (S.turned b.b r).length (by omega) hCl
          have HBD := Lib.hid (fun (p : Pt) (hp : p ∈ S.turned b.b r) => laid_bounds HOK.out hp hltj)
          have HPM := Lib.hid (show (S.turned b.b r).map (S.laidPt r j) = S.laidPath b.b r j from laid_map HOK.out.turn HOK.out.bar j)
          have HQL := Lib.hid (fun (i : Nat) (hi : i < (S.turned b.b r).length) (q : Nat) (v : Value) (hv : (ptC (S.turned b.b r)[i])[q]? = some v) (hq : q < 3) => HHC.out (i * 3 + q) v (by rw [flat_get ptC 3 ptC_len _ i hi q hq]; exact hv))
          clear hCl
          generalize hCs : ((S.turned b.b r).map (S.laidPt r j)).flatMap ptC = Cs at *
          have HCS := Lib.hid hCs
          clear hCs
          have d9 := hB6.cell 9
          have l6 := hB6.lt
          simp only [List.getElem?_toArray, List.getElem?_cons_zero, List.getElem?_cons_succ] at d9
          go_upto_region 9 with fail
          have hBA := Blk.new wq 87 (fillA Cs 0)
          have hWA : Below wq.heap.size wq (wq.alloc (.cells (fillA Cs 0) 87)) := ba_alloc (Below.refl _ _) _
          have hsA : (wq.alloc (.cells (fillA Cs 0) 87)).heap.size = wq.heap.size + 1 := by simp
          clear hmk d9
          generalize (wq.alloc (.cells (fillA Cs 0) 87)) = wA at *
          have hBA6 := hB6.via hWA
          have hA7 : wA.heap[g7]? = some (.cells cur7 t7 fr7) := (hWA.block g7 (Array.getElem?_eq_some_iff.1 hq7).1).trans hq7
          have l7 := (Array.getElem?_eq_some_iff.1 hq7).1
          go_wp2
          go_loopw [31] (fun s wx => ∃ i : Nat, i ≤ (S.turned b.b r).length ∧ s = .int .i64 i ∧ Blk wx wq.heap.size 87 (fillA Cs (i * 3)) ∧ Exc [wq.heap.size] wA wx) (fun s _ => (S.turned b.b r).length - (intOf s).toNat)
          case atStart => exact ⟨0, Nat.zero_le _, rfl, by rw [Nat.zero_mul]; exact hBA, Exc.refl _ _⟩
          case round =>
            generalize wr = wx at *
            obtain ⟨i, hi, rfl, hC, hX⟩ := hrel
            have hsx := hX.size
            by_cases hlti : i < (S.turned b.b r).length
            · have hii : (i : Int) < (S.turned b.b r).length := by omega
              have hx7 : wx.heap[g7]? = some (.cells cur7 t7 fr7) := (hX.block g7 (by omega) (by simp; omega)).trans hA7
              have hbd := HBD.out (S.turned b.b r)[i] (List.getElem_mem hlti)
              have p0 : wx.cell? ⟨g7, i * 3, none⟩ = some (.int .i64 (S.turned b.b r)[i].x) := (cell_of_row wx g7 (i * 3) cur7 t7 fr7 hx7).trans (HQL.out i hlti 0 _ rfl (by omega))
              have p1 : wx.cell? ⟨g7, i * 3 + 1, none⟩ = some (.int .i64 (S.turned b.b r)[i].y) := (cell_of_row wx g7 (i * 3 + 1) cur7 t7 fr7 hx7).trans (HQL.out i hlti 1 _ rfl (by omega))
              have p2 : wx.cell? ⟨g7, i * 3 + 2, none⟩ = some (.int .i64 (S.turned b.b r)[i].z) := (cell_of_row wx g7 (i * 3 + 2) cur7 t7 fr7 hx7).trans (HQL.out i hlti 2 _ rfl (by omega))
              have HG0 := Lib.hid (HCG.out i hlti 0 (by omega))
              have HG1 := Lib.hid (HCG.out i hlti 1 (by omega))
              have HG2 := Lib.hid (HCG.out i hlti 2 (by omega))
              have l7x : g7 < wx.heap.size := by omega
              have hX6 := hBA6.exc hX (by simp; omega)
              generalize (S.turned b.b r)[i] = p at *
              go_upto_region 12 with fail
              have h12 : Below wx.heap.size wx (wx.alloc (.cells #[.int .i64 p.x, .int .i64 p.y, .int .i64 p.z] 87)) := ba_alloc (Below.refl _ _) _
              have hB12 := Blk.new wx 87 #[.int .i64 p.x, .int .i64 p.y, .int .i64 p.z]
              have hC12 := hC.alloc (.cells #[.int .i64 p.x, .int .i64 p.y, .int .i64 p.z] 87)
              have hX12 := hX.alloc (.cells #[.int .i64 p.x, .int .i64 p.y, .int .i64 p.z] 87)
              have hX612 := hX6.alloc (.cells #[.int .i64 p.x, .int .i64 p.y, .int .i64 p.z] 87)
              generalize (wx.alloc (.cells #[.int .i64 p.x, .int .i64 p.y, .int .i64 p.z] 87)) = W12 at *
              have s0 := hB12.cell 0
              have s1 := hB12.cell 1
              have s2 := hB12.cell 2
              have sl := hB12.lt
              have r3 := hX612.cell 3
              have r4 := hX612.cell 4
              have r5 := hX612.cell 5
              have rl := hX612.lt
              simp only [List.getElem?_toArray, List.getElem?_cons_zero, List.getElem?_cons_succ] at s0 s1 s2 r3 r4 r5
              have hCl := HCL.out
              have hm3 : i * 3 + 3 ≤ Cs.length := by omega
              have HP1 := Lib.hid (fun (V : World) => plus_any p r.at_ 1 hbd.1 hbd.2.1 (by omega) V)
              have HP2 := Lib.hid (fun (h0 : (0 : Int) < j) (V : World) => plus_any (S.plus p r.at_ 1) r.step j hbd.2.2.1 (hbd.2.2.2 h0) (by omega) V)
              unfold ptV at HP1 HP2
              have HLP := Lib.hid (show S.laidPt r j p = if (0 : Int) < (j : Int) then S.plus (S.plus p r.at_ 1) r.step j else S.plus p r.at_ 1 from rfl)
              clear p0 p1 p2 hx7 l7x hC hX hX6 hB12 hX612 hbd
              generalize S.plus p r.at_ 1 = q1 at *
              go_upto_region 13 with (first
                | (go_at_call 245; (with_reducible refine (HP1.out _).mono ?_); rintro e w5 ⟨rfl, hbw5⟩; have hC5 := hC12.via hbw5; have y0 := hC5.cell (i * 3); have y1 := hC5.cell (i * 3 + 1); have y2 := hC5.cell (i * 3 + 2); rw [fillA_get (by omega), if_neg (by omega)] at y0 y1 y2; have f0 := hC5.frozen (i * 3); have f1 := hC5.frozen (i * 3 + 1); have f2 := hC5.frozen (i * 3 + 2); have yl := hC5.lt))
              have hD := ((hC5.set (i * 3) (.int .i64 q1.x)).set (i * 3 + 1) (.int .i64 q1.y)).set (i * 3 + 2) (.int .i64 q1.z)
              have hX13 : Exc [wq.heap.size] wA (((w5.setCell ⟨wq.heap.size, i * 3, none⟩ (.int .i64 q1.x)).setCell ⟨wq.heap.size, i * 3 + 1, none⟩ (.int .i64 q1.y)).setCell ⟨wq.heap.size, i * 3 + 2, none⟩ (.int .i64 q1.z)) := (((Exc.via hbw5 hX12).set (.inl (by simp)) _).set (.inl (by simp)) _).set (.inl (by simp)) _
              have hs13 : wq.heap.size < (((w5.setCell ⟨wq.heap.size, i * 3, none⟩ (.int .i64 q1.x)).setCell ⟨wq.heap.size, i * 3 + 1, none⟩ (.int .i64 q1.y)).setCell ⟨wq.heap.size, i * 3 + 2, none⟩ (.int .i64 q1.z)).heap.size := hD.lt
              have hsz : (fillA Cs (i * 3)).size = Cs.length := fillA_size (by omega)
              clear y0 y1 y2 f0 f1 f2 yl hC5 hbw5 hC12 hX12 s0 s1 s2 sl r3 r4 r5 rl HP1
              generalize (((w5.setCell ⟨wq.heap.size, i * 3, none⟩ (.int .i64 q1.x)).setCell ⟨wq.heap.size, i * 3 + 1, none⟩ (.int .i64 q1.y)).setCell ⟨wq.heap.size, i * 3 + 2, none⟩ (.int .i64 q1.z)) = W13 at *
              clear w5
              have hv0 : Cs[i * 3]? = some (.int .i64 (S.laidPt r j p).x) := HG0.out
              have hv1 : Cs[i * 3 + 1]? = some (.int .i64 (S.laidPt r j p).y) := HG1.out
              have hv2 : Cs[i * 3 + 2]? = some (.int .i64 (S.laidPt r j p).z) := HG2.out
              rw [HLP.out] at hv0 hv1 hv2
              by_cases hj0 : (0 : Int) < (j : Int)
              · rw [if_pos hj0] at hv0 hv1 hv2
                have HV := Lib.hid (And.intro hv0 (And.intro hv1 hv2))
                have HPP := Lib.hid (HP2.out hj0)
                have hX6 := hBA6.exc hX13 (by simp; omega)
                have r6 := hX6.cell 6
                have r7 := hX6.cell 7
                have r8 := hX6.cell 8
                have rl := hX6.lt
                simp only [List.getElem?_toArray, List.getElem?_cons_zero, List.getElem?_cons_succ] at r6 r7 r8
                obtain ⟨g0, g1, g2⟩ := three_get (D := fillA Cs (i * 3)) (m := i * 3) (by omega) (.int .i64 q1.x) (.int .i64 q1.y) (.int .i64 q1.z)
                have y0 := (hD.cell (i * 3)).trans g0
                have y1 := (hD.cell (i * 3 + 1)).trans g1
                have y2 := (hD.cell (i * 3 + 2)).trans g2
                clear hv0 hv1 hv2 HLP HP2 HG0 HG1 HG2 g0 g1 g2 hX6
                generalize S.plus q1 r.step j = q2 at *
                go_upto_region 14 with fail
                refine wp_region_mix 1 [9] (by kernel_rfl) (by kernel_rfl) (of_decide_eq_true (by kernel_rfl)) ?_
                try simp only [wpSegs, List.take_succ_cons, List.take_zero, List.drop_succ_cons, List.drop_zero, List.take_nil, List.drop_nil]
                repeat (go_big_quiet_step (fail))
                refine wpQuiet_nil ?_
                show wpList _ _ _ _ _ _
                go_wp2_with ((go_at_call 245; (with_reducible refine (HPP.out _).mono ?_); rintro e w6 ⟨rfl, hbw6⟩))
                refine seg_next (grow_to belr) ?_
                try simp only [wpSegs, List.take_succ_cons, List.take_zero, List.drop_succ_cons, List.drop_zero, List.take_nil, List.drop_nil]
                repeat (go_big_quiet_step (fail))
                refine wpQuiet_nil ?_
                show wpList _ _ _ _ _ _
                have hb6 : Below W13.heap.size W13 w6 := belr
                have hD6 := hD.via hb6
                have hsz6 := hb6.size
                obtain ⟨g0, g1, g2⟩ := three_get (D := fillA Cs (i * 3)) (m := i * 3) (by omega) (.int .i64 q1.x) (.int .i64 q1.y) (.int .i64 q1.z)
                have z0 := (hD6.cell (i * 3)).trans g0
                have z1 := (hD6.cell (i * 3 + 1)).trans g1
                have z2 := (hD6.cell (i * 3 + 2)).trans g2
                have f0 := hD6.frozen (i * 3)
                have f1 := hD6.frozen (i * 3 + 1)
                have f2 := hD6.frozen (i * 3 + 2)
                have hl6 := hD6.lt
                have hXE : Exc [wq.heap.size] wA (((w6.setCell ⟨wq.heap.size, i * 3, none⟩ (.int .i64 q2.x)).setCell ⟨wq.heap.size, i * 3 + 1, none⟩ (.int .i64 q2.y)).setCell ⟨wq.heap.size, i * 3 + 2, none⟩ (.int .i64 q2.z)) := (((Exc.via hb6 hX13).set (.inl (by simp)) _).set (.inl (by simp)) _).set (.inl (by simp)) _
                have hE := ((hD6.set (i * 3) (.int .i64 q2.x)).set (i * 3 + 1) (.int .i64 q2.y)).set (i * 3 + 2) (.int .i64 q2.z)
                clear g0 g1 g2 y0 y1 y2 r6 r7 r8
                go_wp2
                go_roundw
                case rel =>
                  refine ⟨i + 1, by omega, by go_num, ?_, hXE⟩
                  rw [show (i + 1) * 3 = i * 3 + 3 by omega, ← fillA_three hm3 (.inr ⟨_, _, _, rfl⟩) HV.out.1 HV.out.2.1 HV.out.2.2]
                  exact hE
                case measure => simp [intOf]; omega
              · rw [if_neg hj0] at hv0 hv1 hv2
                have HV := Lib.hid (And.intro hv0 (And.intro hv1 hv2))
                clear hv0 hv1 hv2 HLP HP2 HG0 HG1 HG2
                go_wp2
                go_roundw
                case rel =>
                  refine ⟨i + 1, by omega, by go_num, ?_, hX13⟩
                  rw [show (i + 1) * 3 = i * 3 + 3 by omega, ← fillA_three hm3 (.inl rfl) HV.out.1 HV.out.2.1 HV.out.2.2]
                  exact hD
                case measure => simp [intOf]; omega
            · have hie : i = (S.turned b.b r).length := by omega
              subst hie
              rw [← HCL.out, fillA_full] at hC
              have hXq : Below B wq wx := (hWA.mono (by omega)).trans (hX.below (by omega) (by intro g hg; simp at hg; omega))
              have hbx : Below B W wx := hbq.trans hXq
              have hJx' : J pre' wx := HJ.out _ _ _ hJq ((hWA.mono (by omega)).trans (hX.below (by omega) (by intro g hg; simp at hg; omega)))
              have hx7 : wx.heap[g7]? = some (.cells cur7 t7 fr7) := (hX.block g7 (by omega) (by simp; omega)).trans hA7
              have hx3 := (hB3.via hWA).exc hX (by have := hB3.lt; simp; omega)
              have hx2 := (hB2.via hWA).exc hX (by have := hB2.lt; simp; omega)
              have hx6 := hBA6.exc hX (by simp; omega)
              have hpl : ((S.turned b.b r).map (S.laidPt r j)).length = (S.turned b.b r).length := List.length_map ..
              have hRy : itR x n0 pre' ⟨pre'.length, some ⟨wq.heap.size, 0, none⟩, (S.turned b.b r).map (S.laidPt r j)⟩ wx := by
                refine ⟨rfl, ⟨k, j, k0, b, hJL.out pre'.length hsum'.out, ?_⟩, wq.heap.size, rfl, by omega, ?_⟩
                · show (S.turned b.b r).map (S.laidPt r j) = S.laidPath b.b x.rs[k] j
                  rw [hrk]
                  exact HPM.out
                · show Blk wx wq.heap.size _ (((S.turned b.b r).map (S.laidPt r j)).flatMap ptC).toArray
                  rw [HCS.out]
                  exact hC
              obtain ⟨fn, tmps, assign, body, hy, hR⟩ := HY.out pre' _ wx hJx' hRy
              simp only [itE, hpl] at hy
              have HRY := Lib.hid hRy
              clear hRy hpl hC hX hJx' hJq hbq hB3 hB2 hB6 hq7 hBA6 hA7 hXq
              go_upto_region 16 with fail
              refine (wpIn_wide (n := m)).1 ?_
              gi_wp2
              refine hR.mono ?_
              have hnM : ∀ g, n0 ≤ g → g ∉ M := fun g hg hm => by have := hM g hm; omega
              rintro e V' ⟨hkp, (⟨rfl, hJ'⟩ | ⟨rfl, hJz⟩)⟩
              · have hv7 := hkp.cells g7 _ _ _ (hnM g7 (by omega)) hx7
                have hv3 := hkp.blk hx3 h3M
                have hv2 := hkp.blk hx2 h2M
                have hv6 := hkp.blk hx6 (hnM _ (by omega))
                have hbv : Below B W V' := hbx.trans hkp.bel
                have hsv := hkp.bel.size
                have hlim := (hJL.out pre'.length hsum'.out).lim
                have e1 : IntKind.i64.wrap ((pre'.length : Int) + 1) = (pre'.length : Int) + 1 := IntWalk.i64_in _ (by omega)
                gi_wp2
                go_wp2
                go_roundw
                case rel => exact ⟨j + 1, pre' ++ [⟨pre'.length, some ⟨wq.heap.size, 0, none⟩, (S.turned b.b r).map (S.laidPt r j)⟩], by omega, by go_num, by simp, Lib.hid (by have := hsum'.out; simp; omega), hJ', hbv, hv3, hv2, hv6, hv7, by omega⟩
                case measure => simp [intOf]; omega
              · gi_wp2
                go_wp2
                refine bodyPost_ret (results_none rfl _ _ _) rfl ?_
                obtain ⟨q1, q2, g, q3, q4, q5⟩ := HRY.out
                exact ⟨⟨_, rfl⟩, .inr ⟨pre', _, hJz, q1, q2, g, q3, q4, hkp.blk q5 (hnM g q4)⟩⟩
        · have hje : (j : Int) = r.count := by omega
          have d9 := hB6.cell 9
          have l6 := hB6.lt
          simp only [List.getElem?_toArray, List.getElem?_cons_zero, List.getElem?_cons_succ] at d9
          have hsq2 := hsum'
          clear hB6 hltj hj
          have HJE := Lib.hid hje
          clear hje
          have hnl : ¬ ((j : Int) < r.count) := by have := HJE.out; omega
          go_wp2
          go_roundw
          case rel => exact ⟨k + 1, pre', by omega, by go_num, rfl, Lib.hid (by have := HSS.out; have := hsq2.out; have := HJE.out; omega), hJq, hbq, hB3, hB2, by omega⟩
          case measure => simp [intOf]; omega
    · have hke : k = x.rn := by omega
      have HKE := Lib.hid hke
      clear hke
      have hki : ¬ ((k : Int) < x.rn) := by have := HKE.out; omega
      go_wp2
      go_end0
      refine ⟨⟨_, rfl⟩, .inl ⟨pre, ?_, hJr⟩⟩
      have h5 := hsum.out
      rw [HKE.out, ← hrl] at h5
      exact h5
end Go.Proofs.YtffkmgjmlahfpaaGreat
namespace Go.Proofs.YtffkmgjmlahfpaaGreat
open Go.RowKit Go.Shelf
attribute [local go_sem] Oper.semAt_some
theorem lies_unique {l : List BarR} {rs : List Rn} {i k j k0 k' j' k0' : Nat} {r r' : BarR} (h : Lies l rs i k j k0 r) (h' : Lies l rs i k' j' k0' r') : k = k' ∧ j = j' ∧ k0 = k0' ∧ r = r' := by
  have hc : ∀ q (hq : q < rs.length), 0 ≤ rs[q].count := fun q hq => (h.cnt q hq).1
  have key : ∀ {a b c d : Nat} (ha : a < rs.length) (hb : b < rs.length), (i : Int) = S.sumTo rs a + c → (c : Int) < rs[a].count → (i : Int) = S.sumTo rs b + d → ¬ a < b := by
    intro a b c d ha hb h1 h2 h3 hab
    have h4 := sumTo_mono (rs := rs) hc (show a + 1 ≤ b by omega) (by omega)
    rw [sumTo_succ rs ha] at h4
    omega
  have hk : k = k' := by
    have h1 := key h.st.lt h'.st.lt h.st.sum h.st.inr h'.st.sum
    have h2 := key h'.st.lt h.st.lt h'.st.sum h'.st.inr h.st.sum
    omega
  subst hk
  have hj : j = j' := by
    have h1 := h.st.sum
    have h2 := h'.st.sum
    omega
  subst hj
  have hk0 : k0 = k0' := by
    have h1 := h.st.ok.index
    have h2 := h'.st.ok.index
    omega
  subst hk0
  have h1 := h.get
  rw [h'.get] at h1
  injection h1 with h1
  exact ⟨rfl, rfl, rfl, h1.symm⟩
theorem lies_lt {l : List BarR} {rs : List Rn} {i k j k0 : Nat} {r : BarR} (h : Lies l rs i k j k0 r) : (i : Int) < S.sumAll rs := by
  have hc : ∀ q (hq : q < rs.length), 0 ≤ rs[q].count := fun q hq => (h.cnt q hq).1
  have h1 := sumTo_mono (rs := rs) hc (show k + 1 ≤ rs.length by have := h.st.lt; omega) (Nat.le_refl _)
  rw [sumTo_succ rs h.st.lt] at h1
  have h2 := h.st.sum
  have h3 := h.st.inr
  show (i : Int) < S.sumTo rs rs.length
  omega
theorem lall_any (A A' : Option Addr) (n c n' c' : Nat) (w : World) :
    Calls Tryz.prog 257 #[.slice A n c, .slice A' n' c'] w fun e w' => e = .returned (.func (.func 274) #[] #[.pointer (some ⟨w.heap.size + 1, 0, none⟩), .pointer (some ⟨w.heap.size, 0, none⟩)]) ∧ Blk w' w.heap.size 27 #[.slice A n c] ∧ Blk w' (w.heap.size + 1) 28 #[.slice A' n' c'] ∧ Below w.heap.size w w' := by
  have h2 := (Blk.new w 27 #[.slice A n c]).alloc (.cells #[.slice A' n' c'] 28)
  have h3 := Blk.newN (W := w.alloc (.cells #[.slice A n c] 27)) (n := w.heap.size + 1) (by simp) 28 #[.slice A' n' c']
  go_enter Tryz.func257, Tryz.ntmps257
  go_wp2
  go_ret
  exact ⟨rfl, h2, h3, bel⟩
theorem put_blk {W : World} {l g : Nat} {o : Obj} {T : TypeId} {cs : Array Value} (h : Blk W g T cs) (hl : W.heap[l]? = some o) (hc : o.isCells = false) (o' : Obj) : Blk (W.putObj l o') g T cs := by
  refine (World.putObj_heap_other (fun e => ?_)).trans h
  subst e
  unfold Blk at h
  rw [h] at hl
  cases hl
  cases hc
theorem KpL.refl (B : Nat) (M : List Nat) (A : World) : KpL B M A A := ⟨Below.refl _ _, fun _ _ _ _ _ h => h⟩
theorem KpL.trans {B : Nat} {M : List Nat} {A C D : World} (h : KpL B M A C) (k : KpL B M C D) : KpL B M A D := ⟨h.bel.trans k.bel, fun q cs t fr hq hh => k.cells q cs t fr hq (h.cells q cs t fr hq hh)⟩
theorem KpL.put {B : Nat} {M : List Nat} {W : World} {l : Nat} {o : Obj} (o' : Obj) (hB : B ≤ l) (hl : W.heap[l]? = some o) (hc : o.isCells = false) : KpL B M W (W.putObj l o') :=
  ⟨⟨rfl, rfl, rfl, by simp, fun k hk => World.putObj_heap_other (by omega)⟩, fun k cs t fr _ hh => (World.putObj_heap_other (fun e => by subst e; rw [hh] at hl; cases hl; cases hc)).trans hh⟩
theorem KpL.set {B : Nat} {M : List Nat} {A W : World} (h : KpL B M A W) {p : Addr} (hp : p.block ∈ M) (hB : B ≤ p.block) (u : Value) : KpL B M A (W.setCell p u) :=
  ⟨h.bel.setCell hB u, fun k cs t fr hk hh => (Below.heap_setCell W p u k (fun e => hk (e ▸ hp))).trans (h.cells k cs t fr hk hh)⟩
theorem itR_put {x : Dt} {n0 : Nat} {pre : List It} {y : It} {V : World} (h : itR x n0 pre y V) {l : Nat} {o : Obj} (hl : V.heap[l]? = some o) (hc : o.isCells = false) (o' : Obj) : itR x n0 pre y (V.putObj l o') := by
  obtain ⟨h1, h2, g, h3, h4, h5⟩ := h
  exact ⟨h1, h2, g, h3, h4, put_blk h5 hl hc o'⟩
set_option maxRecDepth 20000 in
set_option maxHeartbeats 8000000 in
theorem lpath_any (x : Dt) (i : Nat) (B : Nat) (w : World) (hB : B ≤ w.heap.size) (hA : DtAt w B x) (h : S.laid (bars x.bs) x.rs = true) {k j k0 : Nat} {r : BarR} (hL : Lies x.bs x.rs i k j k0 r) :
    Calls Tryz.prog 211 #[.slice x.bA x.bn x.bc, .slice x.rA x.rn x.rc, .int .i64 i] w fun e w' => ∃ g, e = .returned (.tuple #[.slice (some ⟨g, 0, none⟩) (S.laidPath r.b (x.rs[k]'hL.st.lt) j).length (S.laidPath r.b (x.rs[k]'hL.st.lt) j).length, .int .i64 0]) ∧ w.heap.size ≤ g ∧ Blk w' g 87 ((S.laidPath r.b (x.rs[k]'hL.st.lt) j).flatMap ptC).toArray ∧ Below w.heap.size w w' := by
  refine (callsIn_wide (n := 6)).1 ?_
  have HLV := Lib.hid (fun (W : World) (hw : Below w.heap.size w W) => h ▸ laid_any x.bs x.rs x.bA x.bn x.bc x.rA x.rn x.rc B W (size_via hB hw) (hA.at_ hB hw).bars (hA.at_ hB hw).runs)
  have HAL := Lib.hid (fun (W : World) => lall_any x.bA x.rA x.bn x.bc x.rn x.rc W)
  refine callsIn_of_wp_marks Tryz.func211 rfl trivial ?_ rfl
  simp only [Tryz.ntmps211, List.size_toArray, List.length_cons, List.length_nil, Nat.reduceAdd, Nat.reduceSub, Array.replicate_succ, Array.replicate_zero, List.push_toArray, List.append_toArray, List.nil_append, List.cons_append]
  gi_wp2_with (first
    | (refine ⟨trivial, ?_⟩; gi_at_call 120; refine (callsIn_wide.2 (HLV.out _ belr)).mono ?_; rintro e w1 ⟨rfl, hbw1⟩)
    | (refine ⟨trivial, ?_⟩; gi_at_call 257; refine (callsIn_wide.2 (HAL.out _)).mono ?_; rintro e w2 ⟨rfl, hb2, hb3, hbw2⟩))
  have hW0 : Below w.heap.size w (((w.alloc (.cells #[.int .i64 i] 3)).alloc (.cells #[.slice none 0 0] 221)).alloc (.cells #[.int .i64 0] 38)) := ba_alloc (ba_alloc (ba_alloc (Below.refl _ _) _) _) _
  have hB5 := ((Blk.new w 3 #[.int .i64 i]).alloc (.cells #[.slice none 0 0] 221)).alloc (.cells #[.int .i64 0] 38)
  have hB6 := (Blk.newN (W := w.alloc (.cells #[.int .i64 i] 3)) (n := w.heap.size + 1) (by simp) 221 #[.slice none 0 0]).alloc (.cells #[.int .i64 0] 38)
  have hB7 := Blk.newN (W := (w.alloc (.cells #[.int .i64 i] 3)).alloc (.cells #[.slice none 0 0] 221)) (n := w.heap.size + 1 + 1) (by simp) 38 #[.int .i64 0]
  have hs0 : (((w.alloc (.cells #[.int .i64 i] 3)).alloc (.cells #[.slice none 0 0] 221)).alloc (.cells #[.int .i64 0] 38)).heap.size = w.heap.size + 3 := by simp
  have hb02 := hbw1.trans (hbw2.mono hbw1.size)
  have hs1 := hbw1.size
  have hs2 := hbw2.size
  have hb5 := hB5.via hb02
  have hb6 := hB6.via hb02
  have hb7 := hB7.via hb02
  have hbW2 : Below w.heap.size w w2 := ba_via hb02 hW0
  rw [hs0] at hs1
  have hl2 := hb2.lt
  have hl3 := hb3.lt
  have hAw2 : DtAt w2 B x := hA.at_ hB hbW2
  clear hbw1 hbw2 hB5 hB6 hB7 hW0 hs0 hb02 HLV HAL
  generalize w1.heap.size = d2 at *
  have hlim := hL.lim
  refine wpIn_rangeFunc_laid (α := It) (encs := itE) (Kp := KpL B [w.heap.size + 1, w.heap.size + 1 + 1]) (R := itR x w2.heap.size) (S := fun xs => (xs.length : Int) = S.sumAll x.rs) (w0 := w2) rfl (by omega) (gf := 274) (lb := #[.pointer (some ⟨d2 + 1, 0, none⟩), .pointer (some ⟨d2, 0, none⟩)]) rfl trivial (enters_of Tryz.func274 (by kernel_rfl) rfl)
    (lall_laid x B w2.heap.size [w.heap.size + 1, w.heap.size + 1 + 1] d2 (d2 + 1) _ w2 (by omega) (by omega) (Nat.le_refl _) (by intro q hq; simp at hq; omega) (by simp; omega) (by simp; omega) hAw2 h hb3 hb2)
    (fun hh kk => hh.trans kk) (fun W l o o' hl ho hc _ => KpL.put o' (by omega) ho hc)
    (fun pre y V V' hR l o o' hl ho hc e => by subst e; exact itR_put hR ho hc o')
    (Below.refl _ _) (fun _ => rfl)
    (fun pre W => pre.length ≤ i ∧ Blk W w.heap.size 3 #[.int .i64 i] ∧ Blk W (w.heap.size + 1) 221 #[.slice none 0 0] ∧ Blk W (w.heap.size + 1 + 1) 38 #[.int .i64 0] ∧ Below w.heap.size w W)
    (fun c pre W => c = .ret ∧ ∃ p0 y, pre = p0 ++ [y] ∧ y.k = i ∧ Blk W (w.heap.size + 1) 221 #[.slice y.A y.pts.length y.pts.length] ∧ Blk W (w.heap.size + 1 + 1) 38 #[.int .i64 0] ∧ Below w.heap.size w W)
    ?abI ?abX ⟨Nat.zero_le _, hb5, hb6, hb7, hbW2⟩
    (fun y => { tmps := #[.slice x.bA x.bn x.bc, .slice x.rA x.rn x.rc, .int .i64 i, undef, undef, .pointer (some ⟨w.heap.size, 0, none⟩), .pointer (some ⟨w.heap.size + 1, 0, none⟩), .pointer (some ⟨w.heap.size + 1 + 1, 0, none⟩), .int .i64 y.k, .slice y.A y.pts.length y.pts.length, .slice x.bA x.bn x.bc, .slice x.rA x.rn x.rc, .bool true, .bool false, .slice x.bA x.bn x.bc, .slice x.rA x.rn x.rc, .func (.func 274) #[] #[.pointer (some ⟨d2 + 1, 0, none⟩), .pointer (some ⟨d2, 0, none⟩)], .int .i64 y.k, .slice y.A y.pts.length y.pts.length, undef, undef, undef, undef], defers := [] }) ?assign ?body ?done ?stop
  case abI =>
    rintro pre A C ⟨h1, h5, h6, h7, hbA⟩ hb
    exact ⟨h1, (hb.block _ (by omega)).trans h5, (hb.block _ (by omega)).trans h6, (hb.block _ (by omega)).trans h7, hbA.trans (hb.mono (by omega))⟩
  case abX =>
    rintro c pre A C ⟨h1, p0, y, h2, h3, h6, h7, hbA⟩ hb
    exact ⟨h1, p0, y, h2, h3, (hb.block _ (by omega)).trans h6, (hb.block _ (by omega)).trans h7, hbA.trans (hb.mono (by omega))⟩
  case assign =>
    intro l y W K hK
    gi_wp2
    exact hK
  case body =>
    rintro l pre y W ⟨h1, h5, h6, h7, hbW⟩ hR
    have c5 := h5.cell 0
    have c6 := h6.cell 0
    have c7 := h7.cell 0
    have f6 := h6.frozen 0
    have f7 := h7.frozen 0
    have l5 := h5.lt
    have l6 := h6.lt
    have l7 := h7.lt
    simp only [List.getElem?_toArray, List.getElem?_cons_zero, List.getElem?_cons_succ] at c5 c6 c7
    cases hk : ((y.k : Int) == (i : Int))
    · have hne : y.k ≠ i := fun e => by rw [e] at hk; simp at hk
      have HNE := Lib.hid hne
      clear hne
      gi_wp2
      exact ⟨KeepsOthers.refl _, KpL.refl _ _ _, by have := hR.1; have := HNE.out; simp; omega, h5, h6, h7, hbW⟩
    · have heq : y.k = i := by have := beq_iff_eq.1 hk; omega
      have HEQ := Lib.hid heq
      clear heq
      gi_wp2
      refine ⟨(KeepsOthers.setCell _ _ _).trans (KeepsOthers.setCell _ _ _), ((KpL.refl _ _ _).set (by simp) (by simp; omega) _).set (by simp) (by simp; omega) _, rfl, pre, y, rfl, HEQ.out, ?_, ?_, ?_⟩
      · have := (h6.set 0 (.slice y.A y.pts.length y.pts.length)).far (p := ⟨w.heap.size + 1 + 1, 0, none⟩) (by simp) (.int .i64 0)
        simpa using this
      · have := (h7.far (p := ⟨w.heap.size + 1, 0, none⟩) (by simp) (.slice y.A y.pts.length y.pts.length)).set 0 (.int .i64 0)
        simpa using this
      · exact (hbW.setCell (p := ⟨w.heap.size + 1, 0, none⟩) (by simp) _).setCell (p := ⟨w.heap.size + 1 + 1, 0, none⟩) (by simp; omega) _
  case done =>
    rintro D xs W hD hS ⟨h1, _⟩ hK
    have := lies_lt hL
    omega
  case stop =>
    rintro D c pre y W hD ⟨rfl, p0, y', hp, hk, h6, h7, hbW⟩ hR hK
    obtain ⟨rfl, e⟩ := List.append_inj' hp rfl
    simp only [List.cons.injEq, and_true] at e
    subst e
    gi_wp2
    refine ⟨by simp, .inl ⟨_, _, rfl, run_takeDeferred hK, ?_⟩⟩
    have c6 := (put_blk h6 hK rfl (.deferred none)).cell 0
    have c7 := (put_blk h7 hK rfl (.deferred none)).cell 0
    simp only [List.getElem?_toArray, List.getElem?_cons_zero, List.getElem?_cons_succ] at c6 c7
    obtain ⟨_, ⟨k', j', k0', r', hL', hpts⟩, g, hgA, hgn, hBg⟩ := hR
    rw [hk] at hL'
    obtain ⟨rfl, rfl, rfl, rfl⟩ := lies_unique hL' hL
    refine ⟨.tuple #[.slice y.A y.pts.length y.pts.length, .int .i64 0], ?_, g, by rw [hgA, ← hpts], by omega, by rw [← hpts]; exact put_blk hBg hK rfl _, hbW.trans ⟨rfl, rfl, rfl, by simp, fun q hq => World.putObj_heap_other (by omega)⟩⟩
    simp [results, Tryz.f211, go_sem, c6, c7]
end Go.Proofs.YtffkmgjmlahfpaaGreat
namespace Go.Proofs.YtffkmgjmlahfpaaGreat
open Go.RowKit
set_option maxRecDepth 20000 in
set_option maxHeartbeats 2000000 in
theorem lpoints_any (l : List Pt) (A : Option Addr) (n c : Nat) (B : Nat) (w : World) (hB : B ≤ w.heap.size) (hn : l.length = n) (hm : n ≤ 1000) (hs : Cells w B A (l.flatMap ptC)) :
    Calls Tryz.prog 213 #[.slice A n c] w (GivesOne 89 6 n ((l.map S.ptBox).flatMap boxC) w) := by
  have HN := Lib.hid hn
  have HT := Lib.hid (fun (k : Nat) (hk : k < l.length) => show ((l.take (k + 1)).map S.ptBox).flatMap boxC = ((l.take k).map S.ptBox).flatMap boxC ++ boxC (S.ptBox l[k]) from by
    rw [List.take_succ_eq_append_getElem hk, List.map_append, List.flatMap_append]
    simp)
  have HTK := Lib.hid (show l.take n = l from List.take_of_length_le (by omega))
  clear hn
  go_enter Tryz.func213, Tryz.ntmps213
  go_wp2
  go_loopw [3, 8] (fun v i wr => ∃ (q : Nat) (A3 : Option Addr) (c3 : Nat), q ≤ n ∧ i = .int .i64 q ∧ v = .slice A3 q c3 ∧ Row w wr none w.heap.size 89 6 (.slice A3 q c3) q (((l.take q).map S.ptBox).flatMap boxC) ∧ Exc [] w wr) (fun _ i _ => n - (intOf i).toNat)
  case atStart => exact ⟨0, none, 0, Nat.zero_le _, rfl, rfl, by simpa using Row.none_ _ _ _ _, Exc.refl _ _⟩
  case round =>
    obtain ⟨q, A3, c3, hq, rfl, rfl, hRW, hX⟩ := hrel
    have hbx : Below w.heap.size w wr := hX.below (Nat.le_refl _) (by simp)
    by_cases hlt : q < n
    · have hqx : q < l.length := by have := HN.out; omega
      have hqi : (q : Int) < n := by omega
      have hs' := hs.below (hbx.mono hB)
      obtain ⟨b, o, rfl, hbB, hxx⟩ := hs'.at_ (by rw [flat_len ptC 3 ptC_len]; omega)
      clear hxx
      have c0 := hs'.row0 ptC_len hqx rfl
      have c1 := hs'.rowj ptC_len hqx 1 rfl
      have c2 := hs'.rowj ptC_len hqx 2 rfl
      have hbl : b < wr.heap.size := by have := hbx.size; omega
      have HTQ := Lib.hid (HT.out q hqx)
      clear hs'
      generalize l[q] = p at *
      go_upto_region 5 with fail
      have hR2 := hRW.alloc (.cells #[.int .i64 p.x, .int .i64 p.y, .int .i64 p.z] 87)
      have hX2 := hX.alloc (.cells #[.int .i64 p.x, .int .i64 p.y, .int .i64 p.z] 87)
      have hB2 := Blk.new wr 87 #[.int .i64 p.x, .int .i64 p.y, .int .i64 p.z]
      generalize (wr.alloc (.cells #[.int .i64 p.x, .int .i64 p.y, .int .i64 p.z] 87)) = W2 at *
      have s0 := hB2.cell 0
      have s1 := hB2.cell 1
      have s2 := hB2.cell 2
      have sl := hB2.lt
      simp only [List.getElem?_toArray, List.getElem?_cons_zero, List.getElem?_cons_succ] at s0 s1 s2
      go_wp2_with (at_builtin; refine wpList_push rfl (.tmp 12) (.tmp 16) _ rfl elemBx (hR2.alloc _) (hX2.alloc _) (by simp) (Nat.le_refl _) rfl W2.heap.size 1 1 [.int .i64 p.x, .int .i64 p.y, .int .i64 p.z, .int .i64 p.x, .int .i64 p.y, .int .i64 p.z] rfl rfl ?_ (by simp [Value.oneCell']) (by unfold maxLen; omega) (by omega) ?_; (· intro j u hu; exact by have := (Cells.newRow W2 #[.int .i64 p.x, .int .i64 p.y, .int .i64 p.z, .int .i64 p.x, .int .i64 p.y, .int .i64 p.z] 89 (0, 0)).get (k := j) (v := u) hu; rwa [Nat.zero_add] at this); intro v' w' hR' hX' hO')
      obtain ⟨A5, c5, rfl, _, _, _⟩ := own_form hR'.own (by unfold maxLen; omega)
      go_roundw
      case rel => exact ⟨q + 1, A5, c5, by omega, by go_num, rfl, by rw [HTQ.out]; exact hR', hX'⟩
      case measure => simp [intOf]; omega
    · have he : q = n := by omega
      subst he
      go_wp2
      go_ret
      rw [HTK.out] at hRW
      exact ⟨A3, c3, rfl, hRW.own, hbx⟩
theorem ptBox_ok {p : Pt} (h : S.near1 p 1048576 = true) : S.boxOk (S.ptBox p) = true := by
  obtain ⟨ax, ay, az⟩ := near1_out h
  simp only [S.boxOk, S.okAx, Bool.and_eq_true, decide_eq_true_eq]
  refine ⟨⟨⟨⟨?_, ?_⟩, ?_⟩, ⟨?_, ?_⟩, ?_⟩, ⟨?_, ?_⟩, ?_⟩ <;> first | exact Int.le_refl _ | exact ax.1 | exact ax.2 | exact ay.1 | exact ay.2 | exact az.1 | exact az.2
set_option maxRecDepth 20000 in
set_option maxHeartbeats 4000000 in
theorem llegs_any (x : Dt) (i : Nat) (B : Nat) (w : World) (hB : B ≤ w.heap.size) (hA : DtAt w B x) (h : S.laid (bars x.bs) x.rs = true) {k j k0 : Nat} {r : BarR} (hL : Lies x.bs x.rs i k j k0 r) (L : Nat) (hLL : (S.legsOf r.b.code).length = L) :
    Calls Tryz.prog 147 #[.slice x.bA x.bn x.bc, .slice x.rA x.rn x.rc, .int .i64 i] w (GivesRow 89 6 L ((S.legsL (S.laidPath r.b (x.rs[k]'hL.st.lt) j)).flatMap boxC) 0 w) := by
  have HP := Lib.hid (fun (W : World) (hw : Below w.heap.size w W) => lpath_any x i B W (size_via hB hw) (hA.at_ hB hw) h hL)
  have hnear : S.near (S.laidPath r.b (x.rs[k]'hL.st.lt) j) 1048576 = true := by
    have hr := h
    simp only [S.laid, Bool.and_eq_true] at hr
    exact laid_near hL.st.ok (runs_in hr.2 (List.getElem_mem hL.st.lt)) hL.st.inr
  have HNR := Lib.hid (fun (q : Nat) (hq : q < (S.laidPath r.b (x.rs[k]'hL.st.lt) j).length) => show S.near1 (S.ptD (S.laidPath r.b (x.rs[k]'hL.st.lt) j) q) 1048576 = true from by
    have := near_in hnear hq
    simpa [S.ptD, List.getElem?_eq_getElem hq] using this)
  have HLP := Lib.hid (show (S.laidPath r.b (x.rs[k]'hL.st.lt) j).length = L + 1 by rw [laidPath_len, hLL])
  have hl6 := legs_len r.b.code
  rw [hLL] at hl6
  clear hA hnear
  generalize S.laidPath r.b (x.rs[k]'hL.st.lt) j = LP at *
  clear hL hLL h
  have HLL := Lib.hid (show S.legsL LP = S.legsTo LP L by rw [S.legsL, HLP.out]; rfl)
  have HLS := Lib.hid (fun m => legsTo_snoc LP m)
  have HTW := Lib.hid (fun (p q : Pt) (hp : S.near1 p 1048576 = true) (hq : S.near1 q 1048576 = true) (W : World) (A : Option Addr) (c B' : Nat) (hw : B' ≤ W.heap.size) (hs : Cells W B' A ([S.ptBox p, S.ptBox q].flatMap boxC)) =>
    hull_two p q ▸ bhull_yes A 2 c [S.ptBox p, S.ptBox q] (S.ptBox p) B' W rfl (by omega) hw hs rfl (by simp [anyb, S.boxNot, ptBox_ok hp, ptBox_ok hq]))
  rw [HLP.out] at HP
  unfold boxV at HTW
  go_enter Tryz.func147, Tryz.ntmps147
  go_wp2_with (first
    | (go_at_call 211; (with_reducible refine (HP.out _ belr).mono ?_); rintro e w1 ⟨g1, rfl, hg1, hB1, hbw1⟩))
  have hs1 : Cells w1 w1.heap.size (some ⟨g1, 0, none⟩) (LP.flatMap ptC) := .inr ⟨g1, 0, rfl, hB1.lt, fun q v hv => by rw [Nat.zero_add]; exact (hB1.cell q).trans (by simpa using hv)⟩
  have hbw : Below w.heap.size w w1 := hbw1
  clear hbw1 hB1
  go_loopw [10, 11] (fun v i wr => ∃ (q : Nat) (A3 : Option Addr) (c3 : Nat), q ≤ L ∧ i = .int .i64 ((q + 1 : Nat) : Int) ∧ v = .slice A3 q c3 ∧ Row w1 wr none w.heap.size 89 6 (.slice A3 q c3) q ((S.legsTo LP q).flatMap boxC) ∧ Exc [] w1 wr) (fun _ i _ => L + 1 - (intOf i).toNat)
  case atStart => exact ⟨0, none, 0, Nat.zero_le _, rfl, rfl, by simpa [S.legsTo] using Row.none_ _ _ _ _, Exc.refl _ _⟩
  case round =>
    obtain ⟨q, A3, c3, hq, rfl, rfl, hRW, hX⟩ := hrel
    have hbx : Below w1.heap.size w1 wr := hX.below (Nat.le_refl _) (by simp)
    have hsz := hbx.size
    by_cases hlt : q < L
    · have hs' := hs1.below hbx
      have hs2 := Cells.two (k := q) hs' (by have := HLP.out; omega)
      have hp1 := HNR.out q (by have := HLP.out; omega)
      have hp2 := HNR.out (q + 1) (by have := HLP.out; omega)
      have HTq := Lib.hid (fun (W : World) (A : Option Addr) (c B' : Nat) (hw : B' ≤ W.heap.size) (hs : Cells W B' A (([S.ptD LP q, S.ptD LP (q + 1)].map S.ptBox).flatMap boxC)) => HTW.out _ _ hp1 hp2 W A c B' hw hs)
      have HPT := Lib.hid (fun (W : World) (hw : Below wr.heap.size wr W) (A : Option Addr) (c : Nat) (hs : Cells W w1.heap.size A ([S.ptD LP q, S.ptD LP (q + 1)].flatMap ptC)) => lpoints_any [S.ptD LP q, S.ptD LP (q + 1)] A 2 c w1.heap.size W (by have := hw.size; omega) rfl (by omega) hs)
      have HSq := Lib.hid (show (S.legsTo LP (q + 1)).flatMap boxC = (S.legsTo LP q).flatMap boxC ++ boxC (S.legB (S.ptD LP q) (S.ptD LP (q + 1))) by rw [HLS.out, List.flatMap_append]; simp)
      generalize S.legB (S.ptD LP q) (S.ptD LP (q + 1)) = X at *
      generalize ([S.ptD LP q, S.ptD LP (q + 1)].map S.ptBox).flatMap boxC = P3 at *
      generalize [S.ptD LP q, S.ptD LP (q + 1)].flatMap ptC = P2 at *
      have hki : (q : Int) + 1 < (L : Int) + 1 := by omega
      have hq6 : q ≤ 6 := by omega
      have hcp : q + 1 + 1 ≤ L + 1 := by omega
      have hcpi : (q : Int) + 1 + 1 ≤ (L : Int) + 1 := by omega
      have e2 : q + 1 + 1 - q = 2 := by omega
      clear hp1 hp2 hs'
      rw [Nat.zero_add] at hs2
      go_upto_region 9 with (first
        | (go_at_call 213; (with_reducible refine (HPT.out _ belr _ _ (hs2.below (Below.mono belr hsz))).mono ?_); rintro e w2 ⟨A2, c2, rfl, how2, hbw2⟩)
        | (go_at_call 212; (with_reducible refine (HTq.out _ _ _ _ (Nat.le_refl _) (own_cells how2 (by unfold maxLen; omega)).1).mono ?_); rintro e w3 ⟨rfl, hbw3⟩))
      have hb3 : Below wr.heap.size wr (w3.alloc (.cells #[.int .i64 X.lo.x, .int .i64 X.lo.y, .int .i64 X.lo.z, .int .i64 X.hi.x, .int .i64 X.hi.y, .int .i64 X.hi.z] 89)) := ba_alloc (ba_via hbw3 hbw2) _
      have hB3 := Blk.new w3 89 #[.int .i64 X.lo.x, .int .i64 X.lo.y, .int .i64 X.lo.z, .int .i64 X.hi.x, .int .i64 X.hi.y, .int .i64 X.hi.z]
      generalize (w3.alloc (.cells #[.int .i64 X.lo.x, .int .i64 X.lo.y, .int .i64 X.lo.z, .int .i64 X.hi.x, .int .i64 X.hi.y, .int .i64 X.hi.z] 89)) = W3 at *
      have s0 := hB3.cell 0
      have s1 := hB3.cell 1
      have s2 := hB3.cell 2
      have s3 := hB3.cell 3
      have s4 := hB3.cell 4
      have s5 := hB3.cell 5
      have sl := hB3.lt
      simp only [List.getElem?_toArray, List.getElem?_cons_zero, List.getElem?_cons_succ] at s0 s1 s2 s3 s4 s5
      have hR3 := hRW.via hb3
      have hX3 : Exc [] w1 W3 := Exc.via hb3 hX
      have hws := hbw.size
      clear hbw2 hbw3 how2
      go_wp2_with (at_builtin; refine wpList_push rfl (.tmp 44) (.tmp 46) _ rfl elemBx (hR3.alloc _) (hX3.alloc _) (by simp) hws rfl W3.heap.size 1 1 [.int .i64 X.lo.x, .int .i64 X.lo.y, .int .i64 X.lo.z, .int .i64 X.hi.x, .int .i64 X.hi.y, .int .i64 X.hi.z] rfl rfl ?_ (by simp [Value.oneCell']) (by unfold maxLen; omega) (by omega) ?_; (· intro j u hu; exact by have := (Cells.newRow W3 #[.int .i64 X.lo.x, .int .i64 X.lo.y, .int .i64 X.lo.z, .int .i64 X.hi.x, .int .i64 X.hi.y, .int .i64 X.hi.z] 89 (0, 0)).get (k := j) (v := u) hu; rwa [Nat.zero_add] at this); intro v' w' hR' hX' hO')
      obtain ⟨A5, c5, rfl, _, _, _⟩ := own_form hR'.own (by unfold maxLen; omega)
      go_roundw
      case rel => exact ⟨q + 1, A5, c5, by omega, by go_num, rfl, by rw [HSq.out]; exact hR', hX'⟩
      case measure => simp [intOf]; omega
    · have he : q = L := by omega
      subst he
      have hki : ¬ (q : Int) + 1 < (q : Int) + 1 := by omega
      go_wp2
      go_ret2
      refine ⟨A3, c3, rfl, ?_, ba_via hbx hbw⟩
      have := hRW.own
      rwa [← HLL.out] at this
set_option maxRecDepth 20000 in
set_option maxHeartbeats 4000000 in
theorem laidMark_any (x : Dt) (i : Nat) (B : Nat) (w : World) (hB : B ≤ w.heap.size) (hA : DtAt w B x) (h : S.laid (bars x.bs) x.rs = true) {k j k0 : Nat} {r : BarR} (hL : Lies x.bs x.rs i k j k0 r) :
    Calls Tryz.prog 146 #[.slice x.bA x.bn x.bc, .slice x.rA x.rn x.rc, .int .i64 i] w fun e w' => e = .returned (.tuple #[.string (x.rs[k]'hL.st.lt).mark, .int .i64 0]) ∧ Below w.heap.size w w' := by
  have HLV := Lib.hid (fun (W : World) (hw : Below w.heap.size w W) => h ▸ laid_any x.bs x.rs x.bA x.bn x.bc x.rA x.rn x.rc B W (size_via hB hw) (hA.at_ hB hw).bars (hA.at_ hB hw).runs)
  have hRc := hA.runs.cells
  have hrl := hA.runs.len
  have hrm := hA.runs.max
  have hlt := hL.st.lt
  have hsum := hL.st.sum
  have hinr := hL.st.inr
  have hlim := hL.lim
  have hcnt := hL.cnt
  have hc : ∀ q (hq : q < x.rs.length), 0 ≤ x.rs[q].count := fun q hq => (hcnt q hq).1
  have HSM := Lib.hid (fun (q : Nat) (hq : q ≤ k) => sumTo_mono (rs := x.rs) hc hq (by omega))
  have HSS := Lib.hid (fun (q : Nat) (hq : q < x.rs.length) => sumTo_succ x.rs hq)
  have HSZ := Lib.hid (fun (q : Nat) (hq : q ≤ x.rs.length) => sumTo_mono (rs := x.rs) hc (Nat.zero_le q) hq)
  have HCN := Lib.hid hcnt
  have HSUM := Lib.hid hsum
  have HS0 := Lib.hid (sumTo_zero x.rs)
  clear hA h hcnt hc hsum
  generalize x.rA = rA at *
  go_enter Tryz.func146, Tryz.ntmps146
  have hi0 : ¬ ((i : Int) < 0) := by omega
  go_wp2_with (first
    | (go_at_call 120; (with_reducible refine (HLV.out _ belr).mono ?_); rintro e w1 ⟨rfl, hbw1⟩))
  go_loopw [2, 18] (fun v s wr => ∃ q : Nat, q ≤ k ∧ s = .int .i64 q ∧ v = .int .i64 ((i : Int) - S.sumTo x.rs q) ∧ Below w.heap.size w wr) (fun _ s _ => k + 1 - (intOf s).toNat)
  case atStart => exact ⟨0, Nat.zero_le _, rfl, by rw [HS0.out]; simp, hbw1⟩
  case round =>
    obtain ⟨q, hq, rfl, rfl, hbr⟩ := hrel
    have hqx : q < x.rs.length := by omega
    have hqi : (q : Int) < x.rn := by omega
    have hRr := hRc.below (hbr.mono hB)
    obtain ⟨bR, oR, hRe, hbR, hxx⟩ := hRr.at_ (by rw [flat_len rnC 10 rnC_len]; omega)
    clear hxx
    subst hRe
    have c0 := hRr.row0 rnC_len hqx rfl
    have d1 := hRr.rowj rnC_len hqx 1 rfl
    have d2 := hRr.rowj rnC_len hqx 2 rfl
    have d3 := hRr.rowj rnC_len hqx 3 rfl
    have d4 := hRr.rowj rnC_len hqx 4 rfl
    have d5 := hRr.rowj rnC_len hqx 5 rfl
    have d6 := hRr.rowj rnC_len hqx 6 rfl
    have d7 := hRr.rowj rnC_len hqx 7 rfl
    have d8 := hRr.rowj rnC_len hqx 8 rfl
    have d9 := hRr.rowj rnC_len hqx 9 rfl
    have hbl : bR < wr.heap.size := by have := hbr.size; omega
    have hz := HSZ.out q (by omega)
    have hsq := HSM.out q hq
    rw [HS0.out] at hz
    have HSQ := Lib.hid (HSS.out q hqx)
    have hcq := HCN.out q hqx
    by_cases hqk : q = k
    · subst hqk
      have hyes : ((i : Int) - S.sumTo x.rs q) < x.rs[q].count := by have := HSUM.out; omega
      clear hRr
      generalize S.sumTo x.rs q = sm at *
      generalize hrr : x.rs[q] = rr at *
      have HRR := Lib.hid hrr
      clear hrr
      go_wp2
      go_ret2
      exact ⟨by rw [HRR.out]; rfl, bel⟩
    · have hno : ¬ (((i : Int) - S.sumTo x.rs q) < x.rs[q].count) := by
        have h1 := HSM.out (q + 1) (by omega)
        have h2 := HSQ.out
        have h3 := HSUM.out
        omega
      have hqk2 : q < k := by omega
      have HN1 := Lib.hid (show S.sumTo x.rs (q + 1) = S.sumTo x.rs q + x.rs[q].count from HSQ.out)
      have hb1 := HSM.out (q + 1) (by omega)
      have hi1 := HSUM.out
      have e1 : IntKind.i64.wrap ((i : Int) - S.sumTo x.rs q - x.rs[q].count) = (i : Int) - S.sumTo x.rs q - x.rs[q].count := IntWalk.i64_in _ (by omega)
      clear hRr hqk hb1 hi1
      generalize S.sumTo x.rs q = sm at *
      generalize x.rs[q] = rr at *
      go_wp2
      go_roundw
      case rel => exact ⟨q + 1, by omega, by go_num, by rw [HN1.out]; congr 1; omega, bel⟩
      case measure => simp [intOf]; omega
end Go.Proofs.YtffkmgjmlahfpaaGreat
namespace Go.Proofs.YtffkmgjmlahfpaaGreat
open Go.RowKit
structure Rod where
  bar : BarR
  legs : List Bx
  A : Option Addr
  c : Nat
  main : Int
abbrev rodC (r : Rod) : List Value := [.string r.bar.b.mark, .int .i64 r.bar.b.size, .int .i64 r.bar.b.count, .int .i64 r.bar.b.code, .slice r.bar.A r.bar.n r.bar.c, .slice r.A r.legs.length r.c, .int .i64 r.main]
theorem rodC_len (r : Rod) : (rodC r).length = 7 := rfl
theorem elemRod : Elem Tryz.prog 145 160 (.agg #[.string ⟨#[]⟩, .int .i64 0, .int .i64 0, .int .i64 0, .slice none 0 0, .slice none 0 0, .int .i64 0]) 7 96 := ⟨Tryz.underlying145, by kernel_rfl, rfl, by decide⟩
structure RodOk (x : Dt) (i : Nat) (r : Rod) : Prop where
  ex : ∃ k j k0, ∃ hL : Lies x.bs x.rs i k j k0 r.bar, r.legs = S.legsL (S.laidPath r.bar.b (x.rs[k]'hL.st.lt) j)
  main : r.main = idxf r.legs S.isMainB
def LegsAt (w : World) (base : Nat) (v : Value) (r : Rod) : Prop :=
  ∃ (g : Nat) (cur : Array Value) (t : TypeId) (fr : Nat × Nat), r.A = some ⟨g, 0, none⟩ ∧ base ≤ g ∧ v.ownBlock ≠ some g ∧ w.heap[g]? = some (.cells cur t fr) ∧ ∀ (j : Nat) (u : Value), (r.legs.flatMap boxC)[j]? = some u → cur[j]? = some u
structure RodsAt (w : World) (base : Nat) (v : Value) (rs : List Rod) : Prop where
  own : w.ownsRow base 160 7 v rs.length (rs.flatMap rodC)
  each : ∀ r, r ∈ rs → LegsAt w base v r
def GivesRods (x : Dt) (n : Nat) (w : World) (e : Ending) (w' : World) : Prop :=
  ∃ (A : Option Addr) (c : Nat) (rs : List Rod), e = .returned (.tuple #[.slice A rs.length c, .int .i64 0]) ∧ rs.length = n ∧ (∀ (i : Nat) (hi : i < rs.length), RodOk x i rs[i]) ∧ RodsAt w' w.heap.size (.slice A rs.length c) rs ∧ Below w.heap.size w w'
theorem LegsAt.kept {w w2 : World} {base : Nat} {v : Value} {r : Rod} (h : LegsAt w base v r) (hb : Below w.heap.size w w2) : LegsAt w2 base v r := by
  obtain ⟨g, cur, t, fr, h1, h2, h3, h4, h5⟩ := h
  exact ⟨g, cur, t, fr, h1, h2, h3, (hb.block g (Array.getElem?_eq_some_iff.1 h4).1).trans h4, h5⟩
theorem RodsAt.kept {w w2 : World} {base : Nat} {v : Value} {rs : List Rod} (h : RodsAt w base v rs) (hb : Below w.heap.size w w2) : RodsAt w2 base v rs :=
  ⟨own_kept h.own (fun k hk => hb.block k (h.own.lt k hk).2), fun r hr => (h.each r hr).kept hb⟩
theorem RodsAt.push {w w2 : World} {base : Nat} {v v2 : Value} {rs : List Rod} {r : Rod} (h : RodsAt w base v rs) (hr : LegsAt w base v r)
    (hown : w2.ownsRow base 160 7 v2 (rs.length + 1) (rs.flatMap rodC ++ rodC r)) (hk : ∀ k, k < w.heap.size → v.ownBlock ≠ some k → w2.heap[k]? = w.heap[k]?) (hv : ∀ k, v2.ownBlock = some k → some k = v.ownBlock ∨ w.heap.size ≤ k) : RodsAt w2 base v2 (rs ++ [r]) := by
  refine ⟨by simpa using hown, fun q hq => ?_⟩
  have hq2 : LegsAt w base v q := by
    rcases List.mem_append.1 hq with hq | hq
    · exact h.each q hq
    · rw [List.mem_singleton] at hq
      subst hq
      exact hr
  obtain ⟨g, cur, t, fr, h1, h2, h3, h4, h5⟩ := hq2
  have hlt := (Array.getElem?_eq_some_iff.1 h4).1
  refine ⟨g, cur, t, fr, h1, h2, fun he => ?_, (hk g hlt h3).trans h4, h5⟩
  rcases hv g he with h6 | h6
  · exact h3 h6.symm
  · omega
theorem rmark_any (m : ByteArray) (r : BarR) (g : Nat) (w : World) (hc : w.cell? ⟨g, 0, none⟩ = some (.string m)) (hg : g < w.heap.size) :
    Calls Tryz.prog 149 #[barV r.b r.A r.n r.c, .pointer (some ⟨g, 0, none⟩)] w fun e w' => e = .returned (.bool (S.isMark m r.b)) ∧ Below w.heap.size w w' := by
  unfold barV
  go_enter Tryz.func149, Tryz.ntmps149
  go_wp2
  go_ret
  exact ⟨rfl, bel⟩
theorem rmain2_any (b : Bx) (w : World) : Calls Tryz.prog 151 #[boxV b] w fun e w' => e = .returned (.bool (S.isMainB b)) ∧ Below w.heap.size w w' := by
  have H := Lib.hid (show S.isMainB b = (decide (b.lo.x < b.hi.x) && decide (b.lo.y = b.hi.y) && decide (b.lo.z = b.hi.z)) from rfl)
  unfold boxV
  by_cases h1 : b.lo.x < b.hi.x
  · cases h2 : (b.lo.y == b.hi.y)
    · have h2' : ¬ (b.lo.y = b.hi.y) := by simpa using h2
      have HE := Lib.hid (show S.isMainB b = false by rw [H.out]; simp [h2'])
      clear h2'
      go_enter Tryz.func151, Tryz.ntmps151
      go_wp2
      go_ret
      exact ⟨ret_b HE.out.symm, bel⟩
    · have h2' : b.lo.y = b.hi.y := by simpa using h2
      cases h3 : (b.lo.z == b.hi.z)
      · have h3' : ¬ (b.lo.z = b.hi.z) := by simpa using h3
        have HE := Lib.hid (show S.isMainB b = false by rw [H.out]; simp [h3'])
        clear h2' h3'
        go_enter Tryz.func151, Tryz.ntmps151
        go_wp2
        go_ret
        exact ⟨ret_b HE.out.symm, bel⟩
      · have h3' : b.lo.z = b.hi.z := by simpa using h3
        have HE := Lib.hid (show S.isMainB b = true by rw [H.out]; simp [h1, h2', h3'])
        clear h2' h3'
        go_enter Tryz.func151, Tryz.ntmps151
        go_wp2
        go_ret
        exact ⟨ret_b HE.out.symm, bel⟩
  · have HE := Lib.hid (show S.isMainB b = false by rw [H.out]; simp [h1])
    go_enter Tryz.func151, Tryz.ntmps151
    go_wp2
    go_ret
    exact ⟨ret_b HE.out.symm, bel⟩
end Go.Proofs.YtffkmgjmlahfpaaGreat
namespace Go.Proofs.YtffkmgjmlahfpaaGreat
open Go.RowKit
def S.steelArea (d : Int) : Int := (7854 * d * d + 50) / 100
def Tells (w : World) (F : Nat) (fst cap : Array Value) (v : Int) : Prop :=
  ∀ (w' : World), Below w.heap.size w w' → Calls Tryz.prog F (fst ++ cap) w' fun e w'' => e = .returned (.int .i64 v) ∧ Below w'.heap.size w' w''
theorem steel_sized (F : Nat) (fst cap : Array Value) (d v : Int) (w : World) (h : S.size d = true) (hF : ∀ args w, Sem.run Tryz.prog (callFunc F args) w = .ok (.enter F args) w) (hf : Tells w F fst cap v) :
    Calls Tryz.prog 99 #[.int .i64 d, .func (.func F) fst cap] w fun e w' => e = .returned (.tuple #[.int .i64 v, .int .i64 0]) ∧ Below w.heap.size w w' := by
  go_enter Tryz.func99, Tryz.ntmps99
  go_wp2_with (first
    | (go_at_call 160; (with_reducible refine (ssize_any d _).mono ?_); rintro e w1 ⟨rfl, hbw1⟩; obtain ⟨hcw1, hfw1⟩ := bcell hbw1)
    | (refine (hf _ hbw1).mono ?_; rintro e w2 ⟨rfl, hbw2⟩))
  go_ret2
  exact ⟨rfl, bel⟩
theorem sarea_any (d : Int) (w : World) (h : S.size d = true) :
    Calls Tryz.prog 101 #[.int .i64 d] w fun e w' => e = .returned (.int .i64 (S.steelArea d)) ∧ w = w' := by
  rcases size_cases h with rfl | rfl | rfl | rfl | rfl | rfl | rfl | rfl | rfl
  all_goals (
    go_enter Tryz.func101, Tryz.ntmps101
    go_wp2
    go_ret
    exact ⟨rfl, rfl⟩)
theorem sarea1_any (d : Int) (g : Nat) (w : World) (hc : w.cell? ⟨g, 0, none⟩ = some (.int .i64 d)) (h : S.size d = true) :
    Calls Tryz.prog 100 #[.pointer (some ⟨g, 0, none⟩)] w fun e w' => e = .returned (.int .i64 (S.steelArea d)) ∧ Below w.heap.size w w' := by
  go_enter Tryz.func100, Tryz.ntmps100
  go_wp2_with (go_at_call 101; (with_reducible refine (sarea_any d _ h).mono ?_); rintro e w' ⟨rfl, rfl⟩)
  go_ret
  exact ⟨rfl, Below.refl _ _⟩
theorem steelArea_any (d : Int) (w : World) (h : S.size d = true) :
    Calls Tryz.prog 46 #[.int .i64 d] w fun e w' => e = .returned (.tuple #[.int .i64 (S.steelArea d), .int .i64 0]) ∧ Below w.heap.size w w' := by
  have hf : Tells (w.alloc (.cells #[.int .i64 d] 3)) 100 #[] #[.pointer (some ⟨w.heap.size, 0, none⟩)] (S.steelArea d) := fun w' hb =>
    sarea1_any d w.heap.size w' ((hb.cell (p := ⟨w.heap.size, 0, none⟩) (by simp)).trans (by simp)) h
  go_enter Tryz.func46, Tryz.ntmps46
  go_wp2_with (go_at_call 99; (with_reducible refine (steel_sized _ _ _ d (S.steelArea d) _ h Tryz.call100 hf).mono ?_); rintro e w1 ⟨rfl, hbw1⟩; obtain ⟨hcw1, hfw1⟩ := bcell hbw1; have hzw1_0 : w.heap.size < w1.heap.size := lt_via hbw1 (by first | omega | (simp; done) | (simp; omega)))
  go_ret2
  exact ⟨rfl, bel⟩
abbrev rodV (r : Rod) : Value := .agg #[.string r.bar.b.mark, .int .i64 r.bar.b.size, .int .i64 r.bar.b.count, .int .i64 r.bar.b.code, .slice r.bar.A r.bar.n r.bar.c, .slice r.A r.legs.length r.c, .int .i64 r.main]
theorem rleg_any (r : Rod) (k : Nat) (b : Bx) (B : Nat) (w : World) (hB : B ≤ w.heap.size) (hk : r.legs[k]? = some b) (hm : r.main = k) (hs : Cells w B r.A (r.legs.flatMap boxC)) :
    Calls Tryz.prog 90 #[rodV r] w fun e w' => e = .returned (boxV b) ∧ Below w.heap.size w w' := by
  unfold rodV boxV
  rw [hm]
  clear hm
  obtain ⟨hkx, hkb⟩ := List.getElem?_eq_some_iff.1 hk
  obtain ⟨g, o, hA, hg, hx⟩ := hs.at_ (by rw [flat_len boxC 6 boxC_len]; omega)
  clear hx
  rw [hA] at hs ⊢
  obtain ⟨c0, c1, c2, c3, c4, c5⟩ := hs.boxes hk
  have hkl : (k : Int) < r.legs.length := by omega
  clear hs hk hkb hkx hA
  have hgl : g < w.heap.size := by omega
  have hgl1 : g < w.heap.size + 1 := by omega
  go_enter Tryz.func90, Tryz.ntmps90
  go_wp2
  exact bodyPost_ret (v := .agg #[.int .i64 b.lo.x, .int .i64 b.lo.y, .int .i64 b.lo.z, .int .i64 b.hi.x, .int .i64 b.hi.y, .int .i64 b.hi.z]) (by simp [results, Tryz.results90, go_sem, *]) rfl ⟨rfl, bel⟩
def cmpI (a b : Int) : Int := if a < b then -1 else if b < a then 1 else 0
theorem cmpI_neg (a b : Int) : decide (cmpI a b < 0) = decide (a < b) := by
  unfold cmpI
  split
  · rename_i h; simp [h]
  · rename_i h
    split <;> simp [h]
theorem isNaN_any (a : Int) (w : World) :
    Calls Tryz.prog 214 #[.int .i64 a] w fun e w' => e = .returned (.bool false) ∧ w = w' := by
  go_enter Tryz.func214, Tryz.ntmps214
  go_wp2
  go_ret
  exact ⟨rfl, rfl⟩
theorem cmp_any (a b : Int) (w : World) :
    Calls Tryz.prog 154 #[.int .i64 a, .int .i64 b] w fun e w' => e = .returned (.int .i64 (cmpI a b)) ∧ Below w.heap.size w w' := by
  have H := Lib.hid (show cmpI a b = (if a < b then -1 else if b < a then 1 else 0) from rfl)
  by_cases h1 : a < b
  · go_enter Tryz.func154, Tryz.ntmps154
    go_wp2_with (first | (go_at_call 214; (with_reducible refine (isNaN_any _ _).mono ?_); rintro e w' ⟨rfl, rfl⟩))
    go_ret
    exact ⟨ret_i (by rw [H.out, if_pos (by omega)]), Below.refl _ _⟩
  · by_cases h2 : b < a
    · go_enter Tryz.func154, Tryz.ntmps154
      go_wp2_with (first | (go_at_call 214; (with_reducible refine (isNaN_any _ _).mono ?_); rintro e w' ⟨rfl, rfl⟩))
      go_ret
      exact ⟨ret_i (by rw [H.out, if_neg (by omega), if_pos (by omega)]), Below.refl _ _⟩
    · go_enter Tryz.func154, Tryz.ntmps154
      go_wp2_with (first | (go_at_call 214; (with_reducible refine (isNaN_any _ _).mono ?_); rintro e w' ⟨rfl, rfl⟩))
      go_ret
      exact ⟨ret_i (by rw [H.out, if_neg (by omega), if_neg (by omega)]), Below.refl _ _⟩
end Go.Proofs.YtffkmgjmlahfpaaGreat
namespace Go.Proofs.YtffkmgjmlahfpaaGreat
open Go.RowKit
set_option maxHeartbeats 1000000 in
theorem rcmp_any (rs : List Rod) (a b : Nat) (p q : Rod) (g : Nat) (A : Option Addr) (n c : Nat) (B : Nat) (w : World) (hB : B ≤ w.heap.size) (hn : rs.length = n) (ha : rs[a]? = some p) (hb : rs[b]? = some q)
    (hg : w.cell? ⟨g, 0, none⟩ = some (.slice A n c)) (hgl : g < w.heap.size) (hs : Cells w B A (rs.flatMap rodC)) :
    Calls Tryz.prog 153 #[.int .i64 a, .int .i64 b, .pointer (some ⟨g, 0, none⟩)] w fun e w' => e = .returned (.int .i64 (cmpI p.bar.b.size q.bar.b.size)) ∧ Below w.heap.size w w' := by
  obtain ⟨hax, hpa⟩ := List.getElem?_eq_some_iff.1 ha
  obtain ⟨hbx, hqb⟩ := List.getElem?_eq_some_iff.1 hb
  obtain ⟨g2, o, hA, hg2, hx⟩ := hs.at_ (by rw [flat_len rodC 7 rodC_len]; omega)
  clear hx
  rw [hA] at hs hg
  have c1 := hs.rowj rodC_len hax 1 rfl
  have c2 := hs.rowj rodC_len hbx 1 rfl
  rw [hpa] at c1
  rw [hqb] at c2
  have han : (a : Int) < n := by omega
  have hbn : (b : Int) < n := by omega
  have hg2l : g2 < w.heap.size := by omega
  clear hs ha hb hpa hqb hax hbx hA hn
  go_enter Tryz.func153, Tryz.ntmps153
  go_upto_region 1 with fail
  refine wp_region_mix 0 [12] (by kernel_rfl) (by kernel_rfl) (of_decide_eq_true (by kernel_rfl)) ?_
  try simp only [wpSegs, List.take_succ_cons, List.take_zero, List.drop_succ_cons, List.drop_zero, List.take_nil, List.drop_nil]
  repeat (go_big_quiet_step (fail))
  refine wpQuiet_nil ?_
  show wpList _ _ _ _ _ _
  go_wp2_with ((go_at_call 154; (with_reducible refine (cmp_any _ _ _).mono ?_); rintro e w1 ⟨rfl, hbw1⟩))
  refine seg_next (grow_to belr) ?_
  try simp only [wpSegs, List.take_succ_cons, List.take_zero, List.drop_succ_cons, List.drop_zero, List.take_nil, List.drop_nil]
  repeat (go_big_quiet_step (fail))
  refine wpQuiet_nil ?_
  show wpList _ _ _ _ _ _
  go_wp2
  go_ret
  exact ⟨rfl, bel⟩
def minBy (K : Int → Int) (xs : List Int) : Int := xs.tail.foldl (fun m a => if K a < K m then a else m) (xs.headD 0)
theorem minBy_one (K : Int → Int) {xs : List Int} (h : 0 < xs.length) : minBy K (xs.take 1) = xs[0] := by
  cases xs with
  | nil => simp at h
  | cons x l => simp [minBy]
theorem minBy_next (K : Int → Int) {xs : List Int} {k : Nat} (h : k < xs.length) (h0 : 0 < k) : minBy K (xs.take (k + 1)) = if K xs[k] < K (minBy K (xs.take k)) then xs[k] else minBy K (xs.take k) := by
  have e : xs.take (k + 1) = xs.take k ++ [xs[k]] := by rw [List.take_add_one, List.getElem?_eq_getElem h]; rfl
  have hne : xs.take k ≠ [] := by
    intro h2
    have h3 : (xs.take k).length = 0 := by rw [h2]; rfl
    rw [List.length_take] at h3
    omega
  rw [e]
  generalize xs.take k = t at *
  cases t with
  | nil => exact absurd rfl hne
  | cons x l => simp [minBy, List.foldl_append]
theorem minBy_mem (K : Int → Int) {xs : List Int} {k : Nat} (h0 : 0 < k) (hk : k ≤ xs.length) : minBy K (xs.take k) ∈ xs := by
  induction k with
  | zero => omega
  | succ k ih =>
    by_cases h : k = 0
    · subst h
      rw [minBy_one K (by omega)]
      exact List.getElem_mem _
    · rw [minBy_next K (by omega) (by omega)]
      split
      · exact List.getElem_mem _
      · exact ih (by omega) (by omega)
set_option maxHeartbeats 1000000 in
theorem minf_any (K : Int → Int) (A : Option Addr) (n c : Nat) (xs : List Int) (g : Nat) (B : Nat) (w : World) (hn : xs.length = n) (h0 : 0 < n) (hm : n ≤ 1000000) (hB : B ≤ w.heap.size) (hs : Cells w B A (i64s xs))
    (hf : ∀ (a b : Int) (w' : World), a ∈ xs → b ∈ xs → Below w.heap.size w w' → Calls Tryz.prog 153 #[.int .i64 a, .int .i64 b, .pointer (some ⟨g, 0, none⟩)] w' fun e w'' => e = .returned (.int .i64 (cmpI (K a) (K b))) ∧ Below w'.heap.size w' w'') :
    Calls Tryz.prog 152 #[.slice A n c, .func (.func 153) #[] #[.pointer (some ⟨g, 0, none⟩)]] w fun e w' => e = .returned (.int .i64 (minBy K xs)) ∧ Below w.heap.size w w' := by
  have HN := Lib.hid hn
  have HF := Lib.hid hf
  have hF := Tryz.call153
  obtain ⟨b, o, hA, hbB, hx⟩ := hs.at_ (by simp; omega)
  clear hx hn hf
  subst hA
  have hbl : b < w.heap.size := by omega
  have H1 := Lib.hid (minBy_one K (xs := xs) (by have := HN.out; omega))
  have c0 := hs.get (i64s_get (xs := xs) (k := 0) (by have := HN.out; omega))
  generalize hx0 : xs[0]'(by have := HN.out; omega) = x0 at *
  clear hx0
  simp only [Nat.add_zero] at c0
  go_enter Tryz.func152, Tryz.ntmps152
  go_wp2
  go_loopw [5, 6] (fun m i wr => ∃ k : Nat, 1 ≤ k ∧ k ≤ n ∧ i = .int .i64 k ∧ ∃ v : Int, m = .int .i64 v ∧ Hid (v = minBy K (xs.take k)) ∧ Below w.heap.size w wr) (fun _ i _ => n - (intOf i).toNat)
  case atStart => exact ⟨1, Nat.le_refl _, h0, rfl, x0, rfl, Lib.hid H1.out.symm, Below.refl _ _⟩
  case round =>
    obtain ⟨k, hk1, hk, rfl, v, rfl, hv, hbr⟩ := hrel
    by_cases hlt : k < n
    · have hkx : k < xs.length := by have := HN.out; omega
      have hs' := hs.below (hbr.mono hB)
      have hck := hs'.get (i64s_get hkx)
      have hvm : v ∈ xs := by rw [hv.out]; exact minBy_mem K hk1 (by omega)
      have HN1 := Lib.hid (minBy_next K hkx hk1)
      have HFk := Lib.hid (fun (W : World) (hw : Below w.heap.size w W) => HF.out xs[k] v W (List.getElem_mem _) hvm hw)
      rw [← hv.out] at HN1
      generalize xs[k] = xk at *
      have hbl2 : b < wr.heap.size := by have := hbr.size; omega
      have hkn : (k : Int) < n := by omega
      have HCN := Lib.hid (cmpI_neg (K xk) (K v))
      clear hvm
      cases hc : decide (K xk < K v)
      · have hc2 : decide (cmpI (K xk) (K v) < 0) = false := HCN.out.trans hc
        have hc3 := Lib.hid hc
        clear hc
        go_wp2_with (first | (refine (HFk.out _ hbr).mono ?_; rintro e w1 ⟨rfl, hb1⟩))
        go_roundw
        case rel => exact ⟨k + 1, by omega, by omega, by go_num, v, rfl, Lib.hid (by rw [HN1.out, if_neg (of_decide_eq_false hc3.out)]), hbr.trans (hb1.mono hbr.size)⟩
        case measure => simp [intOf]; omega
      · have hc2 : decide (cmpI (K xk) (K v) < 0) = true := HCN.out.trans hc
        have hc3 := Lib.hid hc
        clear hc
        go_wp2_with (first | (refine (HFk.out _ hbr).mono ?_; rintro e w1 ⟨rfl, hb1⟩; have hck1 := (hb1.cell (p := ⟨b, o + k, none⟩) hbl2).trans hck))
        go_roundw
        case rel => exact ⟨k + 1, by omega, by omega, by go_num, xk, rfl, Lib.hid (by rw [HN1.out, if_pos (of_decide_eq_true hc3.out)]), hbr.trans (hb1.mono hbr.size)⟩
        case measure => simp [intOf]; omega
    · have HE := Lib.hid (show v = minBy K xs by rw [hv.out, List.take_of_length_le (by have := HN.out; omega)])
      clear hv
      go_wp2
      go_ret
      exact ⟨ret_i HE.out, hbr⟩
end Go.Proofs.YtffkmgjmlahfpaaGreat
namespace Go.Proofs.YtffkmgjmlahfpaaGreat
open Go.ChangeShapes Go.WideShapes Go.ChangeAt Go.RowKit
section
variable {H : Type} {enc : TypeId × Value → H} {w : World} {base : Nat} {sp : Nat → Bool} {hd : Bool}
theorem cellsInts : Tryz.prog.cellsOf 58 = 1 := by kernel_rfl
theorem cellsBar : Tryz.prog.cellsOf 158 = 5 := by kernel_rfl
theorem opn_ints {fuel : Nat} {cs : List Value} {y : Option (DataW H × List MemPlace)} (h : DataW.trod enc Tryz.prog w base sp hd fuel 58 cs = y) (hy : y.isSome = true) :
    ∃ (A : Option Addr) (n c : Nat) (xs : List Int), cs = [.slice A n c] ∧ xs.length = n ∧ n ≤ c ∧ c ≤ maxLen ∧ Cells w w.heap.size A (i64s xs) ∧ ∀ x, x ∈ xs → I64 x := by
  obtain ⟨z, rfl⟩ := Option.isSome_iff_exists.1 hy
  rcases open_ints Tryz.underlying58 Tryz.underlying3 cellsInt h with ⟨rfl, _⟩ | ⟨a, len, cap, zs, rfl, _, hl, hm, hz, _, hc, hw⟩
  · exact ⟨none, 0, 0, [], rfl, rfl, Nat.le_refl _, Nat.zero_le _, .inl rfl, by simp⟩
  · have hlz : len ≤ zs.length := by rw [hz]; split <;> omega
    refine ⟨some a, len, cap, zs.take len, rfl, by simp; omega, hl, hm, ?_, fun x hx => bounds_i64 (hw x (List.mem_of_mem_take hx))⟩
    by_cases h0 : len = 0
    · left; simp [h0]
    · right
      have h1 := hc 0 (by omega)
      have hsp : a.spot = none := by
        unfold World.cell? at h1
        split at h1
        · split at h1
          · cases h1
          · rename_i hn
            simpa [Addr.add] using hn
        · cases h1
      have hlt : a.block < w.heap.size := by
        unfold World.cell? at h1
        split at h1
        · rename_i hh
          exact (Array.getElem?_eq_some_iff.1 hh).1
        · cases h1
      obtain ⟨bb, o, s⟩ := a
      cases hsp
      refine ⟨bb, o, rfl, hlt, fun j v hv => ?_⟩
      have hj : j < len := by
        obtain ⟨hj, _⟩ := List.getElem?_eq_some_iff.1 hv
        simp at hj
        omega
      have h2 := hc j (by omega)
      have h3 : (i64s (zs.take len))[j]? = some (.int .i64 (zs.getD j 0)) := by
        simp [hj, List.getElem?_eq_getElem (show j < zs.length by omega)]
      rw [h3] at hv
      injection hv with hv
      subst hv
      have e : (Addr.add ⟨bb, o, none⟩ j) = ⟨bb, o + j, none⟩ := by unfold Addr.add; split <;> simp_all
      rw [e] at h2
      exact h2
theorem len5 {α : Type} {l : List α} (h : l.length = 5) : ∃ a b c d e, l = [a, b, c, d, e] := by
  match l, h with
  | [a, b, c, d, e], _ => exact ⟨a, b, c, d, e, rfl⟩
structure BarI (b : Bar) : Prop where
  size : I64 b.size
  count : I64 b.count
  code : I64 b.code
  dims : ∀ x, x ∈ b.dims → I64 x
theorem open_bar {fuel : Nat} {cs : List Value} {x : DataW H × List MemPlace} (h : DataW.trod enc Tryz.prog w base sp hd fuel 158 cs = some x) :
    ∃ (b : Bar) (A : Option Addr) (n c : Nat), cs = (barV b A n c).cells.toList ∧ BarAt w w.heap.size A n b ∧ n ≤ c ∧ c ≤ maxLen ∧ BarI b := by
  obtain ⟨xs, n, _, _, hl, hxl, hg⟩ := DataW.trod_struct Tryz.underlying158 h
  rw [cellsBar] at hl
  obtain ⟨c0, c1, c2, c3, c4, rfl⟩ := len5 hl
  have hs : ∀ i, i < 5 → xs[i]?.isSome = true := fun i hi => by
    have : xs.length = 5 := hxl
    simp [this, hi]
  obtain ⟨n0, e0, b0⟩ := opn_str (hg 0 _ rfl) (hs 0 (by decide))
  obtain ⟨n1, e1, b1⟩ := opn_int (hg 1 _ rfl) (hs 1 (by decide))
  obtain ⟨n2, e2, b2⟩ := opn_int (hg 2 _ rfl) (hs 2 (by decide))
  obtain ⟨n3, e3, b3⟩ := opn_int (hg 3 _ rfl) (hs 3 (by decide))
  obtain ⟨A, m, c, zs, e4, hz, hmc, hcm, hcl, hzi⟩ := opn_ints (hg 4 _ rfl) (hs 4 (by decide))
  simp [cellsInt, cellsStr, cellsInts] at e0 e1 e2 e3 e4
  subst e0 e1 e2 e3 e4
  have hmx : maxLen ≤ 9223372036854775807 := by unfold maxLen; decide
  exact ⟨⟨n0, n1, n2, n3, zs⟩, A, m, c, rfl, ⟨hz, by omega, by show n0.size ≤ _; omega, hcl⟩, hmc, hcm, ⟨b1, b2, b3, hzi⟩⟩
end
end Go.Proofs.YtffkmgjmlahfpaaGreat
namespace Go.Proofs.YtffkmgjmlahfpaaGreat
open Go.ChangeShapes Go.WideShapes Go.ChangeAt Go.RowKit
section
variable {H : Type} {enc : TypeId × Value → H} {w : World} {base : Nat} {sp : Nat → Bool} {hd : Bool}
instance : Inhabited Sp := ⟨⟨0, 0⟩⟩
structure SpI (s : Sp) : Prop where
  lo : I64 s.lo
  hi : I64 s.hi
end
end Go.Proofs.YtffkmgjmlahfpaaGreat
