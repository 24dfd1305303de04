/- Runs as data; contracts: laid.turned, laid.right. Contracts: laid.right. -/
import Derived.Test.YtffkmgjmlahfpaaGreatPL
import Derived.Test.YtffkmgjmlahfpaaGreatPK
set_option linter.unusedVariables false
set_option linter.unusedSimpArgs false
namespace Go.Proofs.YtffkmgjmlahfpaaGreat
open Go.RowKit
structure Rn where
  mark : ByteArray
  tx : Int
  ty : Int
  at_ : Pt
  step : Pt
  count : Int
abbrev rnC (r : Rn) : List Value := [.string r.mark, .int .i64 r.tx, .int .i64 r.ty, .int .i64 r.at_.x, .int .i64 r.at_.y, .int .i64 r.at_.z, .int .i64 r.step.x, .int .i64 r.step.y, .int .i64 r.step.z, .int .i64 r.count]
abbrev rnV (r : Rn) : Value := .agg #[.string r.mark, .int .i64 r.tx, .int .i64 r.ty, .int .i64 r.at_.x, .int .i64 r.at_.y, .int .i64 r.at_.z, .int .i64 r.step.x, .int .i64 r.step.y, .int .i64 r.step.z, .int .i64 r.count]
theorem rnC_len (r : Rn) : (rnC r).length = 10 := rfl
def GivesOne (E size : Nat) (n : Nat) (xs : List Value) (w : World) (e : Ending) (w' : World) : Prop :=
  ∃ A c, e = .returned (.slice A n c) ∧ w'.ownsRow w.heap.size E size (.slice A n c) n xs ∧ Below w.heap.size w w'
theorem own_mono {w : World} {base base' E size : Nat} {v : Value} {n : Nat} {xs : List Value} (h : w.ownsRow base' E size v n xs) (hb : base ≤ base') : w.ownsRow base E size v n xs := by
  refine ⟨h.1, ?_⟩
  rcases h.2 with hn | ⟨g, cap, cur, rfl, hg, rest⟩
  · exact .inl hn
  · exact .inr ⟨g, cap, cur, rfl, Nat.le_trans hb hg, rest⟩
def S.barAt (l : List Bar) (m : ByteArray) : Option Bar := l[(S.index l m).toNat]?
def S.turned (b : Bar) (r : Rn) : List Pt := S.fpath r.tx r.ty ⟨0, 0, 0⟩ (S.path b)
theorem path_len (b : Bar) : (S.path b).length = (S.legsOf b.code).length + 1 := by simp [S.path, S.pathTo]
theorem fpath_le (x y : Int) (o : Pt) (l : List Pt) : (S.fpath x y o l).length ≤ l.length := by
  unfold S.fpath; split <;> simp
theorem turned_any (l : List BarR) (r : Rn) (k : Nat) (b : BarR) (A : Option Addr) (n c : Nat) (B : Nat) (w : World) (hB : B ≤ w.heap.size) (hA : BarsAt w B A n l) (hk : S.index (bars l) r.mark = (k : Int)) (hb : l[k]? = some b) (hv : S.bar b.b = true) :
    Calls Tryz.prog 244 #[.slice A n c, rnV r] w (GivesOne 87 3 (S.turned b.b r).length ((S.turned b.b r).flatMap ptC) w) := by
  have HA := Lib.hid hA
  obtain ⟨hkx, hkb⟩ := List.getElem?_eq_some_iff.1 hb
  have hkn : k < n := by have := hA.len; omega
  have hs' := hA.cells
  obtain ⟨bb, o, rfl, hbb, _⟩ := hs'.at_ (by rw [flat_len barC 5 barC_len]; omega)
  have hbb' : bb < w.heap.size := by omega
  have c0 := hs'.row0 barC_len hkx rfl
  have c1 := hs'.rowj barC_len hkx 1 rfl
  have c2 := hs'.rowj barC_len hkx 2 rfl
  have c3 := hs'.rowj barC_len hkx 3 rfl
  have c4 := hs'.rowj barC_len hkx 4 rfl
  have HE := Lib.hid (hA.each l[k] (List.getElem_mem hkx))
  rw [hkb] at c0 c1 c2 c3 c4 HE
  have HI := Lib.hid (fun (W : World) (hw : B ≤ W.heap.size) (hh : BarsAt W B (some ⟨bb, o, none⟩) n l) => hk ▸ lfind_any l r.mark (some ⟨bb, o, none⟩) n c B W hw hh)
  have HP := Lib.hid (fun (W : World) (hw : B ≤ W.heap.size) (hh : BarAt W B b.A b.n b.b) => path_yes b.b b.A b.n b.c B W hw hh hv)
  have hl6 := legs_len b.b.code
  have HT := Lib.hid (show S.turned b.b r = S.fpath r.tx r.ty ⟨0, 0, 0⟩ (S.path b.b) from rfl)
  have HF := Lib.hid (fun (W : World) (A' : Option Addr) (c' : Nat) (hh : Cells W W.heap.size A' ((S.path b.b).flatMap ptC)) => fpath_any r.tx r.ty ⟨0, 0, 0⟩ (S.path b.b) A' ((S.legsOf b.b.code).length + 1) c' W.heap.size W (path_len b.b) (by omega) (Nat.le_refl _) hh)
  have z91 : ∀ W, (Instr.build 87 #[]).run Tryz.prog W = .ok (.agg #[.int .i64 0, .int .i64 0, .int .i64 0]) W := fun _ => by kernel_rfl
  rw [HT.out]
  unfold barV at HP
  unfold turnV ptV at HF
  generalize S.fpath r.tx r.ty ⟨0, 0, 0⟩ (S.path b.b) = F at *
  generalize S.fpErr r.tx r.ty ⟨0, 0, 0⟩ (S.path b.b) = fe at *
  clear hA hs' hk hb hkb hv HT
  unfold rnV
  go_enter Tryz.func244, Tryz.ntmps244
  go_wp2_with (first
    | (go_at_call 241; (with_reducible refine (HI.out _ (by simp; omega) (HA.out.at_ hB bel)).mono ?_); rintro e w1 ⟨rfl, hbw1⟩; obtain ⟨hcw1, hfw1⟩ := bcell hbw1; have hzw1_0 : w.heap.size < w1.heap.size := lt_via hbw1 (by first | omega | (simp; done) | (simp; omega)))
    | (go_at_call 189; (with_reducible refine (HP.out _ (by have := hbw1.size; simp at this; omega) (HE.out.below (((Below.refl B w).alloc hB _).trans (hbw1.mono (by simp; omega))))).mono ?_); rintro e w2 ⟨Aw2, cw2, rfl, how2, hbw2⟩; obtain ⟨hcw2, hfw2⟩ := bcell hbw2; have hzw2_0 : w.heap.size < w2.heap.size := lt_via hbw2 (by first | omega | (simp; done) | (simp; omega)))
    | (go_at_call 190; (with_reducible refine (HF.out _ _ _ (own_cells how2 (by unfold maxLen; omega)).1).mono ?_); rintro e w3 ⟨Aw3, cw3, rfl, how3, hbw3⟩; obtain ⟨hcw3, hfw3⟩ := bcell hbw3; have hzw3_0 : w.heap.size < w3.heap.size := lt_via hbw3 (by first | omega | (simp; done) | (simp; omega))))
  go_ret
  have hbel : Below w.heap.size w w2 := bel
  exact ⟨_, _, rfl, own_mono how3 (by have := hbel.size; omega), hbel.trans (hbw3.mono hbel.size)⟩
def S.pt0 (p : Pt) : Bool := decide (p.x = 0) && decide (p.y = 0) && decide (p.z = 0)
theorem run_eq0 (p : Pt) (W : World) : (binOp .eql 87 (.agg #[.int .i64 p.x, .int .i64 p.y, .int .i64 p.z]) (.agg #[.int .i64 0, .int .i64 0, .int .i64 0])).run Tryz.prog W = .ok (.bool (S.pt0 p)) W := by
  by_cases h1 : p.x = 0
  · by_cases h2 : p.y = 0
    · by_cases h3 : p.z = 0
      · simp [go_sem, S.pt0, h1, h2, h3]
      · simp [go_sem, S.pt0, h1, h2, h3]
    · simp [go_sem, S.pt0, h1, h2]
  · simp [go_sem, S.pt0, h1]
theorem near1_mono {p : Pt} {a b : Int} (h : S.near1 p a = true) (hab : a ≤ b) : S.near1 p b = true := by
  simp only [S.near1, Bool.and_eq_true, decide_eq_true_eq] at h ⊢
  omega
theorem placed_near {x y : Int} {o p : Pt} {m : Int} (h : S.turn x y = true) (ho : S.near1 o m = true) (hp : S.near1 p m = true) : S.near1 (S.placed x y o p) (4 * m) = true := by
  obtain ⟨qx, qy, qz⟩ := near1_out (image_near h hp)
  obtain ⟨ox, oy, oz⟩ := near1_out ho
  rw [show S.placed x y o p = ⟨o.x + (S.image x y p).x, o.y + (S.image x y p).y, o.z + (S.image x y p).z⟩ from rfl]
  simp only [S.near1, Bool.and_eq_true, decide_eq_true_eq]
  omega
theorem fpath_near {x y : Int} {o : Pt} {l : List Pt} {p : Pt} (hp : p ∈ S.fpath x y o l) : S.near1 p 4194304 = true := by
  unfold S.fpath at hp
  split at hp
  · rename_i h
    have h1 : S.turn x y = true ∧ S.near1 o 1048576 = true ∧ S.near l 1048576 = true := by
      unfold S.fpErr at h
      split at h
      · cases h
      · rename_i h1
        split at h
        · cases h
        · split at h
          · cases h
          · rename_i h2
            simp only [not_or, Bool.not_eq_false] at h1 h2
            exact ⟨by simpa using h1, h2⟩
    obtain ⟨q, hq, rfl⟩ := List.mem_map.1 hp
    have hq' : S.near1 q 1048576 = true := by
      have h2 := h1.2.2
      unfold S.near at h2
      rw [List.all_eq_true] at h2
      exact h2 _ hq
    exact placed_near h1.1 h1.2.1 hq'
  · simp at hp
theorem plus_near {p s : Pt} {k a b c : Int} (hp : S.near1 p a = true) (hs : S.near1 s b = true) (hk : 0 ≤ k ∧ k ≤ c) (hb : 0 ≤ b) : S.near1 (S.plus p s k) (a + c * b) = true := by
  obtain ⟨px, py, pz⟩ := near1_out hp
  obtain ⟨sx, sy, sz⟩ := near1_out hs
  have hm : ∀ q : Int, -b ≤ q ∧ q ≤ b → -(c * b) ≤ k * q ∧ k * q ≤ c * b := fun q hq => by
    have h1 : k * q ≤ k * b := Int.mul_le_mul_of_nonneg_left hq.2 hk.1
    have h2 : k * (-b) ≤ k * q := Int.mul_le_mul_of_nonneg_left hq.1 hk.1
    have h3 : k * b ≤ c * b := Int.mul_le_mul_of_nonneg_right hk.2 hb
    rw [Int.mul_neg] at h2
    omega
  have m0 := hm _ sx
  have m1 := hm _ sy
  have m2 := hm _ sz
  rw [show S.plus p s k = ⟨p.x + k * s.x, p.y + k * s.y, p.z + k * s.z⟩ from rfl]
  simp only [S.near1, Bool.and_eq_true, decide_eq_true_eq]
  generalize c * b = cb at *
  omega
def S.laidPt (r : Rn) (k : Int) (p : Pt) : Pt := if 0 < k then S.plus (S.plus p r.at_ 1) r.step k else S.plus p r.at_ 1
def S.ptOk (r : Rn) (k : Int) (p : Pt) : Bool := S.near1 (S.laidPt r k p) 1048576
def S.rightHead (l : List Bar) (r : Rn) : Bool := !decide (S.index l r.mark < 0) && S.turn r.tx r.ty && decide (1 ≤ r.count) && decide (r.count ≤ 1000) && S.near1 r.at_ 1048576
def S.rightStep (r : Rn) : Bool := !decide (1 < r.count) || (!S.pt0 r.step && S.near1 r.step 2097152)
def S.rightPts (b : Bar) (r : Rn) : Bool := (S.turned b r).all (S.ptOk r 0) && (S.turned b r).all (S.ptOk r (r.count - 1))
def S.right (l : List Bar) (r : Rn) : Bool := S.rightHead l r && S.rightStep r && (match S.barAt l r.mark with | some b => S.rightPts b r | none => false)
theorem right_no0 (l : List BarR) (r : Rn) (A : Option Addr) (n c : Nat) (B : Nat) (w : World) (hB : B ≤ w.heap.size) (hA : BarsAt w B A n l) (h : S.rightHead (bars l) r = false) :
    Calls Tryz.prog 184 #[.slice A n c, rnV r] w fun e w' => e = .returned (.bool false) ∧ Below w.heap.size w w' := by
  have HA := Lib.hid hA
  have HI := Lib.hid (fun (W : World) (hw : B ≤ W.heap.size) (hh : BarsAt W B A n l) => lfind_any l r.mark A n c B W hw hh)
  have HV := Lib.hid (fun w => fvalid_any r.tx r.ty w)
  have HP := Lib.hid (fun w => isplace_any r.at_ 1048576 (by omega) w)
  unfold S.rightHead at h
  generalize S.index (bars l) r.mark = j at *
  generalize S.turn r.tx r.ty = t1 at *
  generalize S.near1 r.at_ 1048576 = t2 at *
  have hcs : j < 0 ∨ (¬ j < 0 ∧ t1 = false) ∨ (¬ j < 0 ∧ t1 = true ∧ r.count < 1) ∨ (¬ j < 0 ∧ t1 = true ∧ ¬ r.count < 1 ∧ 1000 < r.count) ∨ (¬ j < 0 ∧ t1 = true ∧ ¬ r.count < 1 ∧ ¬ 1000 < r.count ∧ t2 = false) := by
    by_cases h0 : j < 0
    · exact .inl h0
    · cases t1
      · exact .inr (.inl ⟨h0, rfl⟩)
      · by_cases h1 : r.count < 1
        · exact .inr (.inr (.inl ⟨h0, rfl, h1⟩))
        · by_cases h2 : 1000 < r.count
          · exact .inr (.inr (.inr (.inl ⟨h0, rfl, h1, h2⟩)))
          · cases t2
            · exact .inr (.inr (.inr (.inr ⟨h0, rfl, h1, h2, rfl⟩)))
            · exfalso
              have h3 : 1 ≤ r.count := by omega
              have h4 : r.count ≤ 1000 := by omega
              simp [h0, h3, h4] at h
  clear hA h
  unfold turnV at HV
  unfold ptV at HP
  unfold rnV
  rcases hcs with h0 | ⟨h0, rfl⟩ | ⟨h0, rfl, h1⟩ | ⟨h0, rfl, h1, h2⟩ | ⟨h0, rfl, h1, h2, rfl⟩
  all_goals (
    go_enter Tryz.func184, Tryz.ntmps184
    go_wp2_with (first
      | (go_at_call 241; (with_reducible refine (HI.out _ (by simp; omega) (HA.out.at_ hB bel)).mono ?_); rintro e w1 ⟨rfl, hbw1⟩; obtain ⟨hcw1, hfw1⟩ := bcell hbw1; have hzw1_0 : w.heap.size < w1.heap.size := lt_via hbw1 (by first | omega | (simp; done) | (simp; omega)))
      | (go_at_call 242; (with_reducible refine (HV.out _).mono ?_); rintro e w2 ⟨rfl, hbw2⟩; obtain ⟨hcw2, hfw2⟩ := bcell hbw2; have hzw2_0 : w.heap.size < w2.heap.size := lt_via hbw2 (by first | omega | (simp; done) | (simp; omega)))
      | (go_at_call 243; (with_reducible refine (HP.out _).mono ?_); rintro e w3 ⟨rfl, hbw3⟩; obtain ⟨hcw3, hfw3⟩ := bcell hbw3; have hzw3_0 : w.heap.size < w3.heap.size := lt_via hbw3 (by first | omega | (simp; done) | (simp; omega))))
    go_ret
    exact ⟨rfl, bel⟩)
theorem rightHead_out {l : List Bar} {r : Rn} (h : S.rightHead l r = true) : (0 ≤ S.index l r.mark ∧ S.turn r.tx r.ty = true ∧ S.near1 r.at_ 1048576 = true) ∧ ¬ r.count < 1 ∧ ¬ 1000 < r.count := by
  simp only [S.rightHead, Bool.and_eq_true, Bool.not_eq_true', decide_eq_true_eq, decide_eq_false_iff_not] at h
  exact ⟨⟨by omega, h.1.1.1.2, h.2⟩, by omega, by omega⟩
theorem right_no1 (l : List BarR) (r : Rn) (A : Option Addr) (n c : Nat) (B : Nat) (w : World) (hB : B ≤ w.heap.size) (hA : BarsAt w B A n l) (h : S.rightHead (bars l) r = true) (h' : S.rightStep r = false) :
    Calls Tryz.prog 184 #[.slice A n c, rnV r] w fun e w' => e = .returned (.bool false) ∧ Below w.heap.size w w' := by
  have HA := Lib.hid hA
  obtain ⟨⟨h0, h1, h2⟩, h3, h4⟩ := rightHead_out h
  have HI := Lib.hid (fun (W : World) (hw : B ≤ W.heap.size) (hh : BarsAt W B A n l) => lfind_any l r.mark A n c B W hw hh)
  have HV := Lib.hid (fun w => h1 ▸ fvalid_any r.tx r.ty w)
  have HP := Lib.hid (fun w => h2 ▸ isplace_any r.at_ 1048576 (by omega) w)
  have HS := Lib.hid (fun w => isplace_any r.step 2097152 (by omega) w)
  have hz : ∀ W, (binOp .eql 87 (.agg #[.int .i64 r.step.x, .int .i64 r.step.y, .int .i64 r.step.z]) (.agg #[.int .i64 0, .int .i64 0, .int .i64 0])).run Tryz.prog W = .ok (.bool (S.pt0 r.step)) W := fun W => run_eq0 r.step W
  have z91 : ∀ W, (Instr.build 87 #[]).run Tryz.prog W = .ok (.agg #[.int .i64 0, .int .i64 0, .int .i64 0]) W := fun _ => by kernel_rfl
  unfold S.rightStep at h'
  clear hA h
  generalize S.index (bars l) r.mark = j at *
  generalize S.near1 r.step 2097152 = t2 at *
  generalize S.pt0 r.step = t1 at *
  have hj : ¬ j < 0 := by omega
  have hcs : (1 < r.count ∧ t1 = true) ∨ (1 < r.count ∧ t1 = false ∧ t2 = false) := by
    by_cases h5 : 1 < r.count
    · cases t1
      · cases t2
        · exact .inr ⟨h5, rfl, rfl⟩
        · simp [h5] at h'
      · exact .inl ⟨h5, rfl⟩
    · simp [h5] at h'
  clear h0 h1 h2 h'
  unfold turnV at HV
  unfold ptV at HP HS
  unfold rnV
  rcases hcs with ⟨h5, rfl⟩ | ⟨h5, rfl, rfl⟩
  all_goals (
    go_enter Tryz.func184, Tryz.ntmps184
    go_wp2_with (first
      | (go_at_call 241; (with_reducible refine (HI.out _ (by simp; omega) (HA.out.at_ hB bel)).mono ?_); rintro e w1 ⟨rfl, hbw1⟩; obtain ⟨hcw1, hfw1⟩ := bcell hbw1; have hzw1_0 : w.heap.size < w1.heap.size := lt_via hbw1 (by first | omega | (simp; done) | (simp; omega)))
      | (go_at_call 242; (with_reducible refine (HV.out _).mono ?_); rintro e w2 ⟨rfl, hbw2⟩; obtain ⟨hcw2, hfw2⟩ := bcell hbw2; have hzw2_0 : w.heap.size < w2.heap.size := lt_via hbw2 (by first | omega | (simp; done) | (simp; omega)))
      | (go_at_call 243; (with_reducible refine (HP.out _).mono ?_); rintro e w3 ⟨rfl, hbw3⟩; obtain ⟨hcw3, hfw3⟩ := bcell hbw3; have hzw3_0 : w.heap.size < w3.heap.size := lt_via hbw3 (by first | omega | (simp; done) | (simp; omega)))
      | (go_at_call 243; (with_reducible refine (HS.out _).mono ?_); rintro e w4 ⟨rfl, hbw4⟩; obtain ⟨hcw4, hfw4⟩ := bcell hbw4; have hzw4_0 : w.heap.size < w4.heap.size := lt_via hbw4 (by first | omega | (simp; done) | (simp; omega))))
    go_ret
    exact ⟨rfl, bel⟩)
end Go.Proofs.YtffkmgjmlahfpaaGreat
