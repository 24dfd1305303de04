/- Runs as data; contracts: laid.turned, laid.right. Contracts: laid.right. Contracts: laid.right, its points. -/
import Derived.Test.YtnmolefblaahmaaGreatML
import Derived.Test.YtnmolefblaahmaaGreatMK
set_option linter.unusedVariables false
set_option linter.unusedSimpArgs false
namespace Go.Proofs.YtnmolefblaahmaaGreat
open Go.RowKit
structure Rn where
 mark : ByteArray
 tx : Int
 ty : Int
 at_ : Pt
 step : Pt
 count : Int
abbrev rnC (r : Rn) : List Value := [.string r.mark, .int .i64 r.tx, .int .i64 r.ty, .int .i64 r.at_.x, .int .i64 r.at_.y, .int .i64 r.at_.z, .int .i64 r.step.x, .int .i64 r.step.y, .int .i64 r.step.z, .int .i64 r.count]
abbrev rnV (r : Rn) : Value := .agg #[.string r.mark, .int .i64 r.tx, .int .i64 r.ty, .int .i64 r.at_.x, .int .i64 r.at_.y, .int .i64 r.at_.z, .int .i64 r.step.x, .int .i64 r.step.y, .int .i64 r.step.z, .int .i64 r.count]
theorem rnC_len (r : Rn) : (rnC r).length = 10 := rfl
def GivesOne (E size : Nat) (n : Nat) (xs : List Value) (w : World) (e : Ending) (w' : World) : Prop :=
 ∃ A c, e = .returned (.slice A n c) ∧ w'.ownsRow w.heap.size E size (.slice A n c) n xs ∧ Below w.heap.size w w'
theorem own_mono {w : World} {base base' E size : Nat} {v : Value} {n : Nat} {xs : List Value} (h : w.ownsRow base' E size v n xs) (hb : base ≤ base') : w.ownsRow base E size v n xs := by
 refine ⟨h.1, ?_⟩
 rcases h.2 with hn | ⟨g, cap, cur, rfl, hg, rest⟩
 ·exact .inl hn
 ·exact .inr ⟨g, cap, cur, rfl, Nat.le_trans hb hg, rest⟩
def S.barAt (l : List Bar) (m : ByteArray) : Option Bar := l[(S.index l m).toNat]?
def S.turned (b : Bar) (r : Rn) : List Pt := S.fpath r.tx r.ty ⟨0, 0, 0⟩ (S.path b)
theorem path_len (b : Bar) : (S.path b).length = (S.legsOf b.code).length + 1 := by simp [S.path, S.pathTo]
theorem fpath_le (x y : Int) (o : Pt) (l : List Pt) : (S.fpath x y o l).length ≤ l.length := by
 unfold S.fpath; split <;> simp
theorem turned_any (l : List BarR) (r : Rn) (k : Nat) (b : BarR) (A : Option Addr) (n c : Nat) (B : Nat) (w : World) (hB : B ≤ w.heap.size) (hA : BarsAt w B A n l) (hk : S.index (bars l) r.mark = (k : Int)) (hb : l[k]? = some b) (hv : S.bar b.b = true) :
 Calls Tryz.prog 140 #[.slice A n c, rnV r] w (GivesOne 76 3 (S.turned b.b r).length ((S.turned b.b r).flatMap ptC) w) := by
 have HA := Lib.hid hA
 obtain ⟨hkx, hkb⟩ := List.getElem?_eq_some_iff.1 hb
 have hkn : k < n := by have := hA.len; omega
 have hs' := hA.cells
 obtain ⟨bb, o, rfl, hbb, _⟩ := hs'.at_ (by rw [flat_len barC 5 barC_len]; omega)
 have hbb' : bb < w.heap.size := by omega
 have c0 := hs'.row0 barC_len hkx rfl
 have c1 := hs'.rowj barC_len hkx 1 rfl
 have c2 := hs'.rowj barC_len hkx 2 rfl
 have c3 := hs'.rowj barC_len hkx 3 rfl
 have c4 := hs'.rowj barC_len hkx 4 rfl
 have HE := Lib.hid (hA.each l[k] (List.getElem_mem hkx))
 rw [hkb] at c0 c1 c2 c3 c4 HE
 have HI := Lib.hid (fun (W : World) (hw : B ≤ W.heap.size) (hh : BarsAt W B (some ⟨bb, o, none⟩) n l) => hk ▸ lfind_any l r.mark (some ⟨bb, o, none⟩) n c B W hw hh)
 have HP := Lib.hid (fun (W : World) (hw : B ≤ W.heap.size) (hh : BarAt W B b.A b.n b.b) => path_yes b.b b.A b.n b.c B W hw hh hv)
 have hl6 := legs_len b.b.code
 have HT := Lib.hid (show S.turned b.b r = S.fpath r.tx r.ty ⟨0, 0, 0⟩ (S.path b.b) from rfl)
 have HF := Lib.hid (fun (W : World) (A' : Option Addr) (c' : Nat) (hh : Cells W W.heap.size A' ((S.path b.b).flatMap ptC)) => fpath_any r.tx r.ty ⟨0, 0, 0⟩ (S.path b.b) A' ((S.legsOf b.b.code).length + 1) c' W.heap.size W (path_len b.b) (by omega) (Nat.le_refl _) hh)
 have z91 : ∀ W, (Instr.build 76 #[]).run Tryz.prog W = .ok (.agg #[.int .i64 0, .int .i64 0, .int .i64 0]) W := fun _ => by kernel_rfl
 rw [HT.out]
 unfold barV at HP
 unfold turnV ptV at HF
 generalize S.fpath r.tx r.ty ⟨0, 0, 0⟩ (S.path b.b) = F at *
 generalize S.fpErr r.tx r.ty ⟨0, 0, 0⟩ (S.path b.b) = fe at *
 clear hA hs' hk hb hkb hv HT
 unfold rnV
 go_enter Tryz.func140, Tryz.ntmps140
 go_wp2_with (first
  | (go_at_call 138; (with_reducible refine (HI.out _ (by simp; omega) (HA.out.at_ hB bel)).mono ?_); rintro e w1 ⟨rfl, hbw1⟩; obtain ⟨hcw1, hfw1⟩ := bcell hbw1; have hzw1_0 : w.heap.size < w1.heap.size := lt_via hbw1 sz)
  | (go_at_call 164; (with_reducible refine (HP.out _ (by have := hbw1.size; simp at this; omega) (HE.out.below (((Below.refl B w).alloc hB _).trans (hbw1.mono (by simp; omega))))).mono ?_); rintro e w2 ⟨Aw2, cw2, rfl, how2, hbw2⟩; obtain ⟨hcw2, hfw2⟩ := bcell hbw2; have hzw2_0 : w.heap.size < w2.heap.size := lt_via hbw2 sz)
  | (go_at_call 165; (with_reducible refine (HF.out _ _ _ (own_cells how2 (by unfold maxLen; omega)).1).mono ?_); rintro e w3 ⟨Aw3, cw3, rfl, how3, hbw3⟩; obtain ⟨hcw3, hfw3⟩ := bcell hbw3; have hzw3_0 : w.heap.size < w3.heap.size := lt_via hbw3 sz))
 go_ret
 have hbel : Below w.heap.size w w2 := bel
 exact ⟨_, _, rfl, own_mono how3 (by have := hbel.size; omega), hbel.trans (hbw3.mono hbel.size)⟩
def S.pt0 (p : Pt) : Bool := decide (p.x = 0) && decide (p.y = 0) && decide (p.z = 0)
theorem run_eq0 (p : Pt) (W : World) : (binOp .eql 76 (.agg #[.int .i64 p.x, .int .i64 p.y, .int .i64 p.z]) (.agg #[.int .i64 0, .int .i64 0, .int .i64 0])).run Tryz.prog W = .ok (.bool (S.pt0 p)) W := by
 by_cases h1 : p.x = 0
 ·by_cases h2 : p.y = 0
  ·by_cases h3 : p.z = 0
   ·simp [go_sem, S.pt0, h1, h2, h3]
   ·simp [go_sem, S.pt0, h1, h2, h3]
  ·simp [go_sem, S.pt0, h1, h2]
 ·simp [go_sem, S.pt0, h1]
theorem near1_mono {p : Pt} {a b : Int} (h : S.near1 p a = true) (hab : a ≤ b) : S.near1 p b = true := by
 simp only [S.near1, Bool.and_eq_true, decide_eq_true_eq] at h ⊢
 omega
theorem placed_near {x y : Int} {o p : Pt} {m : Int} (h : S.turn x y = true) (ho : S.near1 o m = true) (hp : S.near1 p m = true) : S.near1 (S.placed x y o p) (4 * m) = true := by
 obtain ⟨qx, qy, qz⟩ := near1_out (image_near h hp)
 obtain ⟨ox, oy, oz⟩ := near1_out ho
 rw [show S.placed x y o p = ⟨o.x + (S.image x y p).x, o.y + (S.image x y p).y, o.z + (S.image x y p).z⟩ from rfl]
 simp only [S.near1, Bool.and_eq_true, decide_eq_true_eq]
 omega
theorem fpath_near {x y : Int} {o : Pt} {l : List Pt} {p : Pt} (hp : p ∈ S.fpath x y o l) : S.near1 p 4194304 = true := by
 unfold S.fpath at hp
 split at hp
 ·rename_i h
  have h1 : S.turn x y = true ∧ S.near1 o 1048576 = true ∧ S.near l 1048576 = true := by
   unfold S.fpErr at h
   split at h
   ·cases h
   ·rename_i h1
    split at h
    ·cases h
    ·split at h
     ·cases h
     ·rename_i h2
      simp only [not_or, Bool.not_eq_false] at h1 h2
      exact ⟨by simpa using h1, h2⟩
  obtain ⟨q, hq, rfl⟩ := List.mem_map.1 hp
  have hq' : S.near1 q 1048576 = true := by
   have h2 := h1.2.2
   unfold S.near at h2
   rw [List.all_eq_true] at h2
   exact h2 _ hq
  exact placed_near h1.1 h1.2.1 hq'
 ·simp at hp
theorem plus_near {p s : Pt} {k a b c : Int} (hp : S.near1 p a = true) (hs : S.near1 s b = true) (hk : 0 ≤ k ∧ k ≤ c) (hb : 0 ≤ b) : S.near1 (S.plus p s k) (a + c * b) = true := by
 obtain ⟨px, py, pz⟩ := near1_out hp
 obtain ⟨sx, sy, sz⟩ := near1_out hs
 have hm : ∀ q : Int, -b ≤ q ∧ q ≤ b → -(c * b) ≤ k * q ∧ k * q ≤ c * b := fun q hq => by
  have h1 : k * q ≤ k * b := Int.mul_le_mul_of_nonneg_left hq.2 hk.1
  have h2 : k * (-b) ≤ k * q := Int.mul_le_mul_of_nonneg_left hq.1 hk.1
  have h3 : k * b ≤ c * b := Int.mul_le_mul_of_nonneg_right hk.2 hb
  rw [Int.mul_neg] at h2
  omega
 have m0 := hm _ sx
 have m1 := hm _ sy
 have m2 := hm _ sz
 rw [show S.plus p s k = ⟨p.x + k * s.x, p.y + k * s.y, p.z + k * s.z⟩ from rfl]
 simp only [S.near1, Bool.and_eq_true, decide_eq_true_eq]
 generalize c * b = cb at *
 omega
def S.laidPt (r : Rn) (k : Int) (p : Pt) : Pt := if 0 < k then S.plus (S.plus p r.at_ 1) r.step k else S.plus p r.at_ 1
def S.ptOk (r : Rn) (k : Int) (p : Pt) : Bool := S.near1 (S.laidPt r k p) 1048576
def S.rightHead (l : List Bar) (r : Rn) : Bool := !decide (S.index l r.mark < 0) && S.turn r.tx r.ty && decide (1 ≤ r.count) && decide (r.count ≤ 1000) && S.near1 r.at_ 1048576
def S.rightStep (r : Rn) : Bool := !decide (1 < r.count) || (!S.pt0 r.step && S.near1 r.step 2097152)
def S.rightPts (b : Bar) (r : Rn) : Bool := (S.turned b r).all (S.ptOk r 0) && (S.turned b r).all (S.ptOk r (r.count - 1))
def S.right (l : List Bar) (r : Rn) : Bool := S.rightHead l r && S.rightStep r && (match S.barAt l r.mark with | some b => S.rightPts b r | none => false)
theorem right_no0 (l : List BarR) (r : Rn) (A : Option Addr) (n c : Nat) (B : Nat) (w : World) (hB : B ≤ w.heap.size) (hA : BarsAt w B A n l) (h : S.rightHead (bars l) r = false) :
 Calls Tryz.prog 94 #[.slice A n c, rnV r] w fun e w' => e = .returned (.bool false) ∧ Below w.heap.size w w' := by
 have HA := Lib.hid hA
 have HI := Lib.hid (fun (W : World) (hw : B ≤ W.heap.size) (hh : BarsAt W B A n l) => lfind_any l r.mark A n c B W hw hh)
 have HV := Lib.hid (fun w => fvalid_any r.tx r.ty w)
 have HP := Lib.hid (fun w => isplace_any r.at_ 1048576 (by omega) w)
 unfold S.rightHead at h
 generalize S.index (bars l) r.mark = j at *
 generalize S.turn r.tx r.ty = t1 at *
 generalize S.near1 r.at_ 1048576 = t2 at *
 have hcs : j < 0 ∨ (¬ j < 0 ∧ t1 = false) ∨ (¬ j < 0 ∧ t1 = true ∧ r.count < 1) ∨ (¬ j < 0 ∧ t1 = true ∧ ¬ r.count < 1 ∧ 1000 < r.count) ∨ (¬ j < 0 ∧ t1 = true ∧ ¬ r.count < 1 ∧ ¬ 1000 < r.count ∧ t2 = false) := by
  by_cases h0 : j < 0
  ·exact .inl h0
  ·cases t1
   ·exact .inr (.inl ⟨h0, rfl⟩)
   ·by_cases h1 : r.count < 1
    ·exact .inr (.inr (.inl ⟨h0, rfl, h1⟩))
    ·by_cases h2 : 1000 < r.count
     ·exact .inr (.inr (.inr (.inl ⟨h0, rfl, h1, h2⟩)))
     ·cases t2
      ·exact .inr (.inr (.inr (.inr ⟨h0, rfl, h1, h2, rfl⟩)))
      ·exfalso
       have h3 : 1 ≤ r.count := by omega
       have h4 : r.count ≤ 1000 := by omega
       simp [h0, h3, h4] at h
 clear hA h
 unfold turnV at HV
 unfold ptV at HP
 unfold rnV
 rcases hcs with h0 | ⟨h0, rfl⟩ | ⟨h0, rfl, h1⟩ | ⟨h0, rfl, h1, h2⟩ | ⟨h0, rfl, h1, h2, rfl⟩
 all_goals (
  go_enter Tryz.func94, Tryz.ntmps94
  go_wp2_with (first
   | (go_at_call 138; (with_reducible refine (HI.out _ (by simp; omega) (HA.out.at_ hB bel)).mono ?_); rintro e w1 ⟨rfl, hbw1⟩; obtain ⟨hcw1, hfw1⟩ := bcell hbw1; have hzw1_0 : w.heap.size < w1.heap.size := lt_via hbw1 sz)
   | (go_at_call 139; (with_reducible refine (HV.out _).mono ?_); rintro e w2 ⟨rfl, hbw2⟩; obtain ⟨hcw2, hfw2⟩ := bcell hbw2; have hzw2_0 : w.heap.size < w2.heap.size := lt_via hbw2 sz)
   | (go_at_call 67; (with_reducible refine (HP.out _).mono ?_); rintro e w3 ⟨rfl, hbw3⟩; obtain ⟨hcw3, hfw3⟩ := bcell hbw3; have hzw3_0 : w.heap.size < w3.heap.size := lt_via hbw3 sz))
  go_ret
  exact ⟨rfl, bel⟩)
theorem rightHead_out {l : List Bar} {r : Rn} (h : S.rightHead l r = true) : (0 ≤ S.index l r.mark ∧ S.turn r.tx r.ty = true ∧ S.near1 r.at_ 1048576 = true) ∧ ¬ r.count < 1 ∧ ¬ 1000 < r.count := by
 simp only [S.rightHead, Bool.and_eq_true, Bool.not_eq_true', decide_eq_true_eq, decide_eq_false_iff_not] at h
 exact ⟨⟨by omega, h.1.1.1.2, h.2⟩, by omega, by omega⟩
theorem right_no1 (l : List BarR) (r : Rn) (A : Option Addr) (n c : Nat) (B : Nat) (w : World) (hB : B ≤ w.heap.size) (hA : BarsAt w B A n l) (h : S.rightHead (bars l) r = true) (h' : S.rightStep r = false) :
 Calls Tryz.prog 94 #[.slice A n c, rnV r] w fun e w' => e = .returned (.bool false) ∧ Below w.heap.size w w' := by
 have HA := Lib.hid hA
 obtain ⟨⟨h0, h1, h2⟩, h3, h4⟩ := rightHead_out h
 have HI := Lib.hid (fun (W : World) (hw : B ≤ W.heap.size) (hh : BarsAt W B A n l) => lfind_any l r.mark A n c B W hw hh)
 have HV := Lib.hid (fun w => h1 ▸ fvalid_any r.tx r.ty w)
 have HP := Lib.hid (fun w => h2 ▸ isplace_any r.at_ 1048576 (by omega) w)
 have HS := Lib.hid (fun w => isplace_any r.step 2097152 (by omega) w)
 have hz : ∀ W, (binOp .eql 76 (.agg #[.int .i64 r.step.x, .int .i64 r.step.y, .int .i64 r.step.z]) (.agg #[.int .i64 0, .int .i64 0, .int .i64 0])).run Tryz.prog W = .ok (.bool (S.pt0 r.step)) W := fun W => run_eq0 r.step W
 have z91 : ∀ W, (Instr.build 76 #[]).run Tryz.prog W = .ok (.agg #[.int .i64 0, .int .i64 0, .int .i64 0]) W := fun _ => by kernel_rfl
 unfold S.rightStep at h'
 clear hA h
 generalize S.index (bars l) r.mark = j at *
 generalize S.near1 r.step 2097152 = t2 at *
 generalize S.pt0 r.step = t1 at *
 have hj : ¬ j < 0 := by omega
 have hcs : (1 < r.count ∧ t1 = true) ∨ (1 < r.count ∧ t1 = false ∧ t2 = false) := by
  by_cases h5 : 1 < r.count
  ·cases t1
   ·cases t2
    ·exact .inr ⟨h5, rfl, rfl⟩
    ·simp [h5] at h'
   ·exact .inl ⟨h5, rfl⟩
  ·simp [h5] at h'
 clear h0 h1 h2 h'
 unfold turnV at HV
 unfold ptV at HP HS
 unfold rnV
 rcases hcs with ⟨h5, rfl⟩ | ⟨h5, rfl, rfl⟩
 all_goals (
  go_enter Tryz.func94, Tryz.ntmps94
  go_wp2_with (first
   | (go_at_call 138; (with_reducible refine (HI.out _ (by simp; omega) (HA.out.at_ hB bel)).mono ?_); rintro e w1 ⟨rfl, hbw1⟩; obtain ⟨hcw1, hfw1⟩ := bcell hbw1; have hzw1_0 : w.heap.size < w1.heap.size := lt_via hbw1 sz)
   | (go_at_call 139; (with_reducible refine (HV.out _).mono ?_); rintro e w2 ⟨rfl, hbw2⟩; obtain ⟨hcw2, hfw2⟩ := bcell hbw2; have hzw2_0 : w.heap.size < w2.heap.size := lt_via hbw2 sz)
   | (go_at_call 67; (with_reducible refine (HP.out _).mono ?_); rintro e w3 ⟨rfl, hbw3⟩; obtain ⟨hcw3, hfw3⟩ := bcell hbw3; have hzw3_0 : w.heap.size < w3.heap.size := lt_via hbw3 sz)
   | (go_at_call 67; (with_reducible refine (HS.out _).mono ?_); rintro e w4 ⟨rfl, hbw4⟩; obtain ⟨hcw4, hfw4⟩ := bcell hbw4; have hzw4_0 : w.heap.size < w4.heap.size := lt_via hbw4 sz))
  go_ret
  exact ⟨rfl, bel⟩)
theorem all_no {α : Type} {l : List α} {p : α → Bool} {k : Nat} (hk : k < l.length) (h : p l[k] = false) : l.all p = false := by
 rw [List.all_eq_false]
 exact ⟨_, List.getElem_mem hk, by simp [h]⟩
theorem all_yes {α : Type} {l : List α} {p : α → Bool} (h : ∀ j (hj : j < l.length), p l[j] = true) : l.all p = true := by
 rw [List.all_eq_true]
 intro x hx
 obtain ⟨j, hj, rfl⟩ := List.mem_iff_getElem.1 hx
 exact h j hj
set_option maxHeartbeats 4000000 in
theorem right_in (l : List BarR) (r : Rn) (k0 : Nat) (b : BarR) (A : Option Addr) (n c : Nat) (B : Nat) (w : World) (hB : B ≤ w.heap.size) (hA : BarsAt w B A n l) (h : S.rightHead (bars l) r = true) (h' : S.rightStep r = true) (hk0 : S.index (bars l) r.mark = (k0 : Int)) (hbk : l[k0]? = some b) (hv : S.bar b.b = true) :
 Calls Tryz.prog 94 #[.slice A n c, rnV r] w fun e w' => e = .returned (.bool (S.rightPts b.b r)) ∧ Below w.heap.size w w' := by
 have HA := Lib.hid hA
 obtain ⟨⟨h0, h1, h2⟩, h3, h4⟩ := rightHead_out h
 have HI := Lib.hid (fun (W : World) (hw : B ≤ W.heap.size) (hh : BarsAt W B A n l) => lfind_any l r.mark A n c B W hw hh)
 have HV := Lib.hid (fun w => h1 ▸ fvalid_any r.tx r.ty w)
 have HP := Lib.hid (fun w => h2 ▸ isplace_any r.at_ 1048576 (by omega) w)
 have HS := Lib.hid (fun w => isplace_any r.step 2097152 (by omega) w)
 have HT := Lib.hid (fun (W : World) (hw : B ≤ W.heap.size) (hh : BarsAt W B A n l) => turned_any l r k0 b A n c B W hw hh hk0 hbk hv)
 have HM := Lib.hid (fun (p : Pt) w => isplace_any p 1048576 (by omega) w)
 have hz : ∀ W, (binOp .eql 76 (.agg #[.int .i64 r.step.x, .int .i64 r.step.y, .int .i64 r.step.z]) (.agg #[.int .i64 0, .int .i64 0, .int .i64 0])).run Tryz.prog W = .ok (.bool (S.pt0 r.step)) W := fun W => run_eq0 r.step W
 have z91 : ∀ W, (Instr.build 76 #[]).run Tryz.prog W = .ok (.agg #[.int .i64 0, .int .i64 0, .int .i64 0]) W := fun _ => by kernel_rfl
 have HR := Lib.hid (show S.rightPts b.b r = ((S.turned b.b r).all (S.ptOk r 0) && (S.turned b.b r).all (S.ptOk r (r.count - 1))) from rfl)
 have hlen : (S.turned b.b r).length ≤ 7 := Nat.le_trans (fpath_le _ _ _ _) (by rw [path_len]; have := legs_len b.b.code; omega)
 have HNP := Lib.hid (fun (k : Nat) (hk : k < (S.turned b.b r).length) => fpath_near (x := r.tx) (y := r.ty) (o := ⟨0, 0, 0⟩) (l := S.path b.b) (List.getElem_mem (l := S.turned b.b r) hk))
 have HPT := Lib.hid (show ∀ (kv : Int) (p : Pt), S.ptOk r kv p = S.near1 (if 0 < kv then S.plus (S.plus p r.at_ 1) r.step kv else S.plus p r.at_ 1) 1048576 from fun _ _ => rfl)
 have HPL1 := Lib.hid (fun (p : Pt) (hp : S.near1 p 4194304 = true) (w : World) => plus_any p r.at_ 1 (near1_mono hp (by omega)) (near1_mono h2 (by omega)) (by omega) w)
 have hcs : (¬ 1 < r.count) ∨ (1 < r.count ∧ S.pt0 r.step = false ∧ S.near1 r.step 2097152 = true) := by
  by_cases h5 : 1 < r.count
  ·simp [S.rightStep, h5] at h'
   exact .inr ⟨h5, h'⟩
  ·exact .inl h5
 have HPL2 := Lib.hid (fun (p : Pt) (hp : S.near1 p 4194304 = true) (kv : Int) (hkv : 0 < kv) (hkv2 : kv = 0 ∨ kv = r.count - 1) (w : World) => by
  have hst : S.near1 r.step 2097152 = true := by
   rcases hcs with h5 | h5
   ·exfalso; omega
   ·exact h5.2.2
  exact plus_any (S.plus p r.at_ 1) r.step kv (near1_mono (plus_near hp (near1_mono h2 (show (1048576 : Int) ≤ 4194304 by omega)) (c := 1) (by omega) (by omega)) (by omega)) (near1_mono hst (by omega)) (by omega) w)
 unfold turnV at HV
 unfold ptV at HP HS HPL1 HPL2 HM
 unfold rnV at HT
 clear hA h h' h0 h1 h2 hv hbk
 generalize S.ptOk r = PO at *
 generalize S.turned b.b r = T at *
 have hj : ¬ S.index (bars l) r.mark < 0 := by omega
 generalize S.index (bars l) r.mark = j at *
 clear hk0
 unfold rnV
 rcases hcs with h5 | ⟨h5, h6, h7⟩
 ·skip
  go_enter Tryz.func94, Tryz.ntmps94
  go_wp2_with (first
   | (go_at_call 138; (with_reducible refine (HI.out _ (by simp; omega) (HA.out.at_ hB bel)).mono ?_); rintro e w1 ⟨rfl, hbw1⟩; obtain ⟨hcw1, hfw1⟩ := bcell hbw1; have hzw1_0 : w.heap.size < w1.heap.size := lt_via hbw1 sz)
   | (go_at_call 139; (with_reducible refine (HV.out _).mono ?_); rintro e w2 ⟨rfl, hbw2⟩; obtain ⟨hcw2, hfw2⟩ := bcell hbw2; have hzw2_0 : w.heap.size < w2.heap.size := lt_via hbw2 sz)
   | (go_at_call 67; (with_reducible refine (HP.out _).mono ?_); rintro e w3 ⟨rfl, hbw3⟩; obtain ⟨hcw3, hfw3⟩ := bcell hbw3; have hzw3_0 : w.heap.size < w3.heap.size := lt_via hbw3 sz)
   | (go_at_call 67; (with_reducible refine (HS.out _).mono ?_); rintro e w4 ⟨rfl, hbw4⟩; obtain ⟨hcw4, hfw4⟩ := bcell hbw4; have hzw4_0 : w.heap.size < w4.heap.size := lt_via hbw4 sz)
   | (go_at_call 140; (with_reducible refine (HT.out _ (size_via hB bel) (HA.out.at_ hB bel)).mono ?_); rintro e w5 ⟨Aw5, cw5, rfl, how5, hbw5⟩; obtain ⟨hcw5, hfw5⟩ := bcell hbw5; have hzw5_0 : w.heap.size < w5.heap.size := lt_via hbw5 sz))
  have hbA : Below (w.alloc (.cells #[.string r.mark, .int .i64 r.tx, .int .i64 r.ty, .int .i64 r.at_.x, .int .i64 r.at_.y, .int .i64 r.at_.z, .int .i64 r.step.x, .int .i64 r.step.y, .int .i64 r.step.z, .int .i64 r.count] 109)).heap.size (w.alloc (.cells #[.string r.mark, .int .i64 r.tx, .int .i64 r.ty, .int .i64 r.at_.x, .int .i64 r.at_.y, .int .i64 r.at_.z, .int .i64 r.step.x, .int .i64 r.step.y, .int .i64 r.step.z, .int .i64 r.count] 109)) w5 := bel
  have hRn := ((Blk.new w 109 #[.string r.mark, .int .i64 r.tx, .int .i64 r.ty, .int .i64 r.at_.x, .int .i64 r.at_.y, .int .i64 r.at_.z, .int .i64 r.step.x, .int .i64 r.step.y, .int .i64 r.step.z, .int .i64 r.count]).via hbA).alloc (.cells #[.int .i64 0, .int .i64 (r.count - 1)] 3)
  have hC := (own_cells how5 (by unfold maxLen; omega)).1.alloc (Nat.le_refl _) (.cells #[.int .i64 0, .int .i64 (r.count - 1)] 3)
  have hLit := Blk.new w5 3 #[.int .i64 0, .int .i64 (r.count - 1)]
  have hbw : Below w.heap.size w (w5.alloc (.cells #[.int .i64 0, .int .i64 (r.count - 1)] 3)) := bel
  have hs6 : (w5.alloc (.cells #[.int .i64 0, .int .i64 (r.count - 1)] 3)).heap.size = w5.heap.size + 1 := by simp
  clear hcw1 hfw1 hcw2 hfw2 hcw3 hfw3 hcw5 hfw5 hbA
  try clear hcw4 hfw4
  generalize w5.alloc (.cells #[.int .i64 0, .int .i64 (r.count - 1)] 3) = w6 at *
  go_loopw [61] (fun i wr => ∃ k : Nat, k ≤ 2 ∧ i = .int .i64 k ∧ (1 ≤ k → T.all (PO 0) = true) ∧ (2 ≤ k → T.all (PO (r.count - 1)) = true) ∧ Below w6.heap.size w6 wr) (fun i _ => 2 - (intOf i).toNat)
  case atStart => exact ⟨0, by omega, rfl, fun h => absurd h (by omega), fun h => absurd h (by omega), Below.refl _ _⟩
  case round =>
   obtain ⟨k, hk, rfl, ha1, ha2, hbr⟩ := hrel
   by_cases hlt : k < 2
   ·obtain ⟨kv, hkc, hkv, hyes, hno⟩ : ∃ kv : Int, (#[Value.int .i64 0, .int .i64 (r.count - 1)] : Array Value)[k]? = some (.int .i64 kv) ∧ (kv = 0 ∨ kv = r.count - 1) ∧ (T.all (PO kv) = true → (1 ≤ k + 1 → T.all (PO 0) = true) ∧ (2 ≤ k + 1 → T.all (PO (r.count - 1)) = true)) ∧ (T.all (PO kv) = false → (T.all (PO 0) && T.all (PO (r.count - 1))) = false) := by
     have hk2 : k = 0 ∨ k = 1 := by omega
     rcases hk2 with rfl | rfl
     ·exact ⟨0, rfl, .inl rfl, fun h => ⟨fun _ => h, fun h2 => absurd h2 (by omega)⟩, fun h => by rw [h]; rfl⟩
     ·exact ⟨r.count - 1, rfl, .inr rfl, fun h => ⟨fun _ => ha1 (by omega), fun _ => h⟩, fun h => by rw [h]; simp⟩
    have HY := Lib.hid hyes
    have HNO := Lib.hid hno
    have hl := (hLit.via hbr).cell k
    rw [hkc] at hl
    have hl' := (hLit.via hbr).lt
    have hRr := hRn.via hbr
    have hCr := hC.below (hbr.mono (by omega))
    have hsr := hbr.size
    have hlti : (k : Int) < 2 := by omega
    have hbwr : Below w.heap.size w wr := hbw.trans (hbr.mono hbw.size)
    clear ha1 ha2 hyes hno hkc hLit hRn hC
    go_wp2
    go_loopw [67] (fun i wq => ∃ q : Nat, q ≤ T.length ∧ i = .int .i64 q ∧ (∀ m (hm : m < T.length), m < q → PO kv T[m] = true) ∧ Below wr.heap.size wr wq) (fun i _ => T.length - (intOf i).toNat)
    case atStart => exact ⟨0, Nat.zero_le _, rfl, fun m _ hm => absurd hm (by omega), Below.refl _ _⟩
    case round =>
     obtain ⟨q, hq, rfl, hal, hbq⟩ := hrel
     have HAL := Lib.hid hal
     clear hal
     by_cases hqt : q < T.length
     ·have hRq := hRr.via hbq
      have hCq := hCr.below (hbq.mono (by omega))
      obtain ⟨bp, op, rfl, hbp, _⟩ := hCq.at_ (by rw [flat_len ptC 3 ptC_len]; omega)
      have c0 := hCq.row0 ptC_len hqt rfl
      have c1 := hCq.rowj ptC_len hqt 1 rfl
      have c2 := hCq.rowj ptC_len hqt 2 rfl
      have a0 := hRq.cell 3
      have a1 := hRq.cell 4
      have a2 := hRq.cell 5
      have s0 := hRq.cell 6
      have s1 := hRq.cell 7
      have s2 := hRq.cell 8
      have ltR := hRq.lt
      have hsq := hbq.size
      simp only [List.getElem?_toArray, List.getElem?_cons_zero, List.getElem?_cons_succ] at a0 a1 a2 s0 s1 s2
      have HGO := Lib.hid (fun (h : PO kv T[q] = true) (m : Nat) (hm : m < T.length) (hmq : m < q + 1) => show PO kv T[m] = true from by
       by_cases hmq' : m = q
       ·subst hmq'; exact h
       ·exact HAL.out m hm (by omega))
      have HBAD := Lib.hid (fun (h : PO kv T[q] = false) => HNO.out (all_no (p := PO kv) hqt h))
      have hnp := HNP.out q hqt
      have HX := Lib.hid (HPT.out kv T[q])
      generalize T[q] = p at *
      clear hRr hRq hCr hCq
      have HQ1 := Lib.hid (HPL1.out p hnp)
      by_cases hkp : 0 < kv
      ·exfalso; omega
      ·rw [if_neg hkp] at HX
       clear HPL2
       generalize S.plus p r.at_ 1 = p1 at *
       have HM2 := Lib.hid (HM.out p1)
       generalize S.near1 p1 1048576 = t at *
       cases t
       ·go_wp2_with (first
         | (go_at_call 69; (with_reducible refine (HQ1.out _).mono ?_); rintro e v1 ⟨rfl, hbv1⟩; obtain ⟨hcv1, hfv1⟩ := bcell hbv1; have hzv1_0 : w.heap.size < v1.heap.size := lt_via hbv1 sz; have hyv1_0 : wr.heap.size < v1.heap.size := lt_via hbv1 sz)
         | (go_at_call 67; (with_reducible refine (HM2.out _).mono ?_); rintro e v3 ⟨rfl, hbv3⟩; obtain ⟨hcv3, hfv3⟩ := bcell hbv3; have hzv3_0 : w.heap.size < v3.heap.size := lt_via hbv3 sz; have hyv3_0 : v1.heap.size < v3.heap.size := lt_via hbv3 sz))
        go_ret
        refine ⟨ret_b (by rw [HR.out]; exact (HBAD.out HX.out).symm), hbwr.trans (Below.mono ?_ hbwr.size)⟩
        exact hbq.trans (Below.mono bel hsq)
       ·go_wp2_with (first
         | (go_at_call 69; (with_reducible refine (HQ1.out _).mono ?_); rintro e v1 ⟨rfl, hbv1⟩; obtain ⟨hcv1, hfv1⟩ := bcell hbv1; have hzv1_0 : w.heap.size < v1.heap.size := lt_via hbv1 sz; have hyv1_0 : wr.heap.size < v1.heap.size := lt_via hbv1 sz)
         | (go_at_call 67; (with_reducible refine (HM2.out _).mono ?_); rintro e v3 ⟨rfl, hbv3⟩; obtain ⟨hcv3, hfv3⟩ := bcell hbv3; have hzv3_0 : w.heap.size < v3.heap.size := lt_via hbv3 sz; have hyv3_0 : v1.heap.size < v3.heap.size := lt_via hbv3 sz))
        go_roundw
        case rel => exact ⟨q + 1, by omega, by go_num, HGO.out HX.out, hbq.trans (Below.mono bel hsq)⟩
        case measure => simp [intOf]; omega
     ·have hy := HY.out (all_yes (fun m hm => HAL.out m hm (by omega)))
      have HY2 := Lib.hid hy
      clear hy
      go_wp2
      go_roundw
      case rel => exact ⟨k + 1, by omega, by go_num, HY2.out.1, HY2.out.2, hbr.trans (hbq.mono hbr.size)⟩
      case measure => simp [intOf]; omega
   ·have h1' := ha1 (by omega)
    have h2' := ha2 (by omega)
    go_wp2
    go_ret
    exact ⟨ret_b (by rw [HR.out, h1', h2']; rfl), hbw.trans (hbr.mono hbw.size)⟩
 ·rw [h7] at HS; simp only [h6] at hz; clear h6 h7
  go_enter Tryz.func94, Tryz.ntmps94
  go_wp2_with (first
   | (go_at_call 138; (with_reducible refine (HI.out _ (by simp; omega) (HA.out.at_ hB bel)).mono ?_); rintro e w1 ⟨rfl, hbw1⟩; obtain ⟨hcw1, hfw1⟩ := bcell hbw1; have hzw1_0 : w.heap.size < w1.heap.size := lt_via hbw1 sz)
   | (go_at_call 139; (with_reducible refine (HV.out _).mono ?_); rintro e w2 ⟨rfl, hbw2⟩; obtain ⟨hcw2, hfw2⟩ := bcell hbw2; have hzw2_0 : w.heap.size < w2.heap.size := lt_via hbw2 sz)
   | (go_at_call 67; (with_reducible refine (HP.out _).mono ?_); rintro e w3 ⟨rfl, hbw3⟩; obtain ⟨hcw3, hfw3⟩ := bcell hbw3; have hzw3_0 : w.heap.size < w3.heap.size := lt_via hbw3 sz)
   | (go_at_call 67; (with_reducible refine (HS.out _).mono ?_); rintro e w4 ⟨rfl, hbw4⟩; obtain ⟨hcw4, hfw4⟩ := bcell hbw4; have hzw4_0 : w.heap.size < w4.heap.size := lt_via hbw4 sz)
   | (go_at_call 140; (with_reducible refine (HT.out _ (size_via hB bel) (HA.out.at_ hB bel)).mono ?_); rintro e w5 ⟨Aw5, cw5, rfl, how5, hbw5⟩; obtain ⟨hcw5, hfw5⟩ := bcell hbw5; have hzw5_0 : w.heap.size < w5.heap.size := lt_via hbw5 sz))
  have hbA : Below (w.alloc (.cells #[.string r.mark, .int .i64 r.tx, .int .i64 r.ty, .int .i64 r.at_.x, .int .i64 r.at_.y, .int .i64 r.at_.z, .int .i64 r.step.x, .int .i64 r.step.y, .int .i64 r.step.z, .int .i64 r.count] 109)).heap.size (w.alloc (.cells #[.string r.mark, .int .i64 r.tx, .int .i64 r.ty, .int .i64 r.at_.x, .int .i64 r.at_.y, .int .i64 r.at_.z, .int .i64 r.step.x, .int .i64 r.step.y, .int .i64 r.step.z, .int .i64 r.count] 109)) w5 := bel
  have hRn := ((Blk.new w 109 #[.string r.mark, .int .i64 r.tx, .int .i64 r.ty, .int .i64 r.at_.x, .int .i64 r.at_.y, .int .i64 r.at_.z, .int .i64 r.step.x, .int .i64 r.step.y, .int .i64 r.step.z, .int .i64 r.count]).via hbA).alloc (.cells #[.int .i64 0, .int .i64 (r.count - 1)] 3)
  have hC := (own_cells how5 (by unfold maxLen; omega)).1.alloc (Nat.le_refl _) (.cells #[.int .i64 0, .int .i64 (r.count - 1)] 3)
  have hLit := Blk.new w5 3 #[.int .i64 0, .int .i64 (r.count - 1)]
  have hbw : Below w.heap.size w (w5.alloc (.cells #[.int .i64 0, .int .i64 (r.count - 1)] 3)) := bel
  have hs6 : (w5.alloc (.cells #[.int .i64 0, .int .i64 (r.count - 1)] 3)).heap.size = w5.heap.size + 1 := by simp
  clear hcw1 hfw1 hcw2 hfw2 hcw3 hfw3 hcw5 hfw5 hbA
  try clear hcw4 hfw4
  generalize w5.alloc (.cells #[.int .i64 0, .int .i64 (r.count - 1)] 3) = w6 at *
  go_loopw [61] (fun i wr => ∃ k : Nat, k ≤ 2 ∧ i = .int .i64 k ∧ (1 ≤ k → T.all (PO 0) = true) ∧ (2 ≤ k → T.all (PO (r.count - 1)) = true) ∧ Below w6.heap.size w6 wr) (fun i _ => 2 - (intOf i).toNat)
  case atStart => exact ⟨0, by omega, rfl, fun h => absurd h (by omega), fun h => absurd h (by omega), Below.refl _ _⟩
  case round =>
   obtain ⟨k, hk, rfl, ha1, ha2, hbr⟩ := hrel
   by_cases hlt : k < 2
   ·obtain ⟨kv, hkc, hkv, hyes, hno⟩ : ∃ kv : Int, (#[Value.int .i64 0, .int .i64 (r.count - 1)] : Array Value)[k]? = some (.int .i64 kv) ∧ (kv = 0 ∨ kv = r.count - 1) ∧ (T.all (PO kv) = true → (1 ≤ k + 1 → T.all (PO 0) = true) ∧ (2 ≤ k + 1 → T.all (PO (r.count - 1)) = true)) ∧ (T.all (PO kv) = false → (T.all (PO 0) && T.all (PO (r.count - 1))) = false) := by
     have hk2 : k = 0 ∨ k = 1 := by omega
     rcases hk2 with rfl | rfl
     ·exact ⟨0, rfl, .inl rfl, fun h => ⟨fun _ => h, fun h2 => absurd h2 (by omega)⟩, fun h => by rw [h]; rfl⟩
     ·exact ⟨r.count - 1, rfl, .inr rfl, fun h => ⟨fun _ => ha1 (by omega), fun _ => h⟩, fun h => by rw [h]; simp⟩
    have HY := Lib.hid hyes
    have HNO := Lib.hid hno
    have hl := (hLit.via hbr).cell k
    rw [hkc] at hl
    have hl' := (hLit.via hbr).lt
    have hRr := hRn.via hbr
    have hCr := hC.below (hbr.mono (by omega))
    have hsr := hbr.size
    have hlti : (k : Int) < 2 := by omega
    have hbwr : Below w.heap.size w wr := hbw.trans (hbr.mono hbw.size)
    clear ha1 ha2 hyes hno hkc hLit hRn hC
    go_wp2
    go_loopw [67] (fun i wq => ∃ q : Nat, q ≤ T.length ∧ i = .int .i64 q ∧ (∀ m (hm : m < T.length), m < q → PO kv T[m] = true) ∧ Below wr.heap.size wr wq) (fun i _ => T.length - (intOf i).toNat)
    case atStart => exact ⟨0, Nat.zero_le _, rfl, fun m _ hm => absurd hm (by omega), Below.refl _ _⟩
    case round =>
     obtain ⟨q, hq, rfl, hal, hbq⟩ := hrel
     have HAL := Lib.hid hal
     clear hal
     by_cases hqt : q < T.length
     ·have hRq := hRr.via hbq
      have hCq := hCr.below (hbq.mono (by omega))
      obtain ⟨bp, op, rfl, hbp, _⟩ := hCq.at_ (by rw [flat_len ptC 3 ptC_len]; omega)
      have c0 := hCq.row0 ptC_len hqt rfl
      have c1 := hCq.rowj ptC_len hqt 1 rfl
      have c2 := hCq.rowj ptC_len hqt 2 rfl
      have a0 := hRq.cell 3
      have a1 := hRq.cell 4
      have a2 := hRq.cell 5
      have s0 := hRq.cell 6
      have s1 := hRq.cell 7
      have s2 := hRq.cell 8
      have ltR := hRq.lt
      have hsq := hbq.size
      simp only [List.getElem?_toArray, List.getElem?_cons_zero, List.getElem?_cons_succ] at a0 a1 a2 s0 s1 s2
      have HGO := Lib.hid (fun (h : PO kv T[q] = true) (m : Nat) (hm : m < T.length) (hmq : m < q + 1) => show PO kv T[m] = true from by
       by_cases hmq' : m = q
       ·subst hmq'; exact h
       ·exact HAL.out m hm (by omega))
      have HBAD := Lib.hid (fun (h : PO kv T[q] = false) => HNO.out (all_no (p := PO kv) hqt h))
      have hnp := HNP.out q hqt
      have HX := Lib.hid (HPT.out kv T[q])
      generalize T[q] = p at *
      clear hRr hRq hCr hCq
      have HQ1 := Lib.hid (HPL1.out p hnp)
      by_cases hkp : 0 < kv
      ·have HQ2 := Lib.hid (HPL2.out p hnp kv hkp hkv)
       rw [if_pos hkp] at HX
       generalize S.plus (S.plus p r.at_ 1) r.step kv = p2 at *
       generalize S.plus p r.at_ 1 = p1 at *
       have HM2 := Lib.hid (HM.out p2)
       generalize S.near1 p2 1048576 = t at *
       cases t
       ·go_wp2_with (first
         | (go_at_call 69; (with_reducible refine (HQ1.out _).mono ?_); rintro e v1 ⟨rfl, hbv1⟩; obtain ⟨hcv1, hfv1⟩ := bcell hbv1; have hzv1_0 : w.heap.size < v1.heap.size := lt_via hbv1 sz; have hyv1_0 : wr.heap.size < v1.heap.size := lt_via hbv1 sz)
         | (go_at_call 69; (with_reducible refine (HQ2.out _).mono ?_); rintro e v2 ⟨rfl, hbv2⟩; obtain ⟨hcv2, hfv2⟩ := bcell hbv2; have hzv2_0 : w.heap.size < v2.heap.size := lt_via hbv2 sz; have hyv2_0 : v1.heap.size < v2.heap.size := lt_via hbv2 sz)
         | (go_at_call 67; (with_reducible refine (HM2.out _).mono ?_); rintro e v3 ⟨rfl, hbv3⟩; obtain ⟨hcv3, hfv3⟩ := bcell hbv3; have hzv3_0 : w.heap.size < v3.heap.size := lt_via hbv3 sz; have hyv3_0 : v1.heap.size < v3.heap.size := lt_via hbv3 sz))
        go_ret
        refine ⟨ret_b (by rw [HR.out]; exact (HBAD.out HX.out).symm), hbwr.trans (Below.mono ?_ hbwr.size)⟩
        exact hbq.trans (Below.mono bel hsq)
       ·go_wp2_with (first
         | (go_at_call 69; (with_reducible refine (HQ1.out _).mono ?_); rintro e v1 ⟨rfl, hbv1⟩; obtain ⟨hcv1, hfv1⟩ := bcell hbv1; have hzv1_0 : w.heap.size < v1.heap.size := lt_via hbv1 sz; have hyv1_0 : wr.heap.size < v1.heap.size := lt_via hbv1 sz)
         | (go_at_call 69; (with_reducible refine (HQ2.out _).mono ?_); rintro e v2 ⟨rfl, hbv2⟩; obtain ⟨hcv2, hfv2⟩ := bcell hbv2; have hzv2_0 : w.heap.size < v2.heap.size := lt_via hbv2 sz; have hyv2_0 : v1.heap.size < v2.heap.size := lt_via hbv2 sz)
         | (go_at_call 67; (with_reducible refine (HM2.out _).mono ?_); rintro e v3 ⟨rfl, hbv3⟩; obtain ⟨hcv3, hfv3⟩ := bcell hbv3; have hzv3_0 : w.heap.size < v3.heap.size := lt_via hbv3 sz; have hyv3_0 : v1.heap.size < v3.heap.size := lt_via hbv3 sz))
        go_roundw
        case rel => exact ⟨q + 1, by omega, by go_num, HGO.out HX.out, hbq.trans (Below.mono bel hsq)⟩
        case measure => simp [intOf]; omega
      ·rw [if_neg hkp] at HX
       clear HPL2
       generalize S.plus p r.at_ 1 = p1 at *
       have HM2 := Lib.hid (HM.out p1)
       generalize S.near1 p1 1048576 = t at *
       cases t
       ·go_wp2_with (first
         | (go_at_call 69; (with_reducible refine (HQ1.out _).mono ?_); rintro e v1 ⟨rfl, hbv1⟩; obtain ⟨hcv1, hfv1⟩ := bcell hbv1; have hzv1_0 : w.heap.size < v1.heap.size := lt_via hbv1 sz; have hyv1_0 : wr.heap.size < v1.heap.size := lt_via hbv1 sz)
         | (go_at_call 67; (with_reducible refine (HM2.out _).mono ?_); rintro e v3 ⟨rfl, hbv3⟩; obtain ⟨hcv3, hfv3⟩ := bcell hbv3; have hzv3_0 : w.heap.size < v3.heap.size := lt_via hbv3 sz; have hyv3_0 : v1.heap.size < v3.heap.size := lt_via hbv3 sz))
        go_ret
        refine ⟨ret_b (by rw [HR.out]; exact (HBAD.out HX.out).symm), hbwr.trans (Below.mono ?_ hbwr.size)⟩
        exact hbq.trans (Below.mono bel hsq)
       ·go_wp2_with (first
         | (go_at_call 69; (with_reducible refine (HQ1.out _).mono ?_); rintro e v1 ⟨rfl, hbv1⟩; obtain ⟨hcv1, hfv1⟩ := bcell hbv1; have hzv1_0 : w.heap.size < v1.heap.size := lt_via hbv1 sz; have hyv1_0 : wr.heap.size < v1.heap.size := lt_via hbv1 sz)
         | (go_at_call 67; (with_reducible refine (HM2.out _).mono ?_); rintro e v3 ⟨rfl, hbv3⟩; obtain ⟨hcv3, hfv3⟩ := bcell hbv3; have hzv3_0 : w.heap.size < v3.heap.size := lt_via hbv3 sz; have hyv3_0 : v1.heap.size < v3.heap.size := lt_via hbv3 sz))
        go_roundw
        case rel => exact ⟨q + 1, by omega, by go_num, HGO.out HX.out, hbq.trans (Below.mono bel hsq)⟩
        case measure => simp [intOf]; omega
     ·have hy := HY.out (all_yes (fun m hm => HAL.out m hm (by omega)))
      have HY2 := Lib.hid hy
      clear hy
      go_wp2
      go_roundw
      case rel => exact ⟨k + 1, by omega, by go_num, HY2.out.1, HY2.out.2, hbr.trans (hbq.mono hbr.size)⟩
      case measure => simp [intOf]; omega
   ·have h1' := ha1 (by omega)
    have h2' := ha2 (by omega)
    go_wp2
    go_ret
    exact ⟨ret_b (by rw [HR.out, h1', h2']; rfl), hbw.trans (hbr.mono hbw.size)⟩
end Go.Proofs.YtnmolefblaahmaaGreat
