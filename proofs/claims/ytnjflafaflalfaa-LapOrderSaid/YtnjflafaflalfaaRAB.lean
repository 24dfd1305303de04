/- Contracts: laid.right. -/
import Derived.Test.YtnjflafaflalfaaRAA
set_option linter.unusedVariables false
set_option linter.unusedSimpArgs false
namespace Go.Proofs.Ytnjflafaflalfaa
open Go.RowKit
def S.pt0 (p : Pt) : Bool := decide (p.x = 0) && decide (p.y = 0) && decide (p.z = 0)
theorem run_eq0 (p : Pt) (W : World) : (binOp .eql 70 (.agg #[.int .i64 p.x, .int .i64 p.y, .int .i64 p.z]) (.agg #[.int .i64 0, .int .i64 0, .int .i64 0])).run Try.prog W = .ok (.bool (S.pt0 p)) W := by
  by_cases h1 : p.x = 0
  · by_cases h2 : p.y = 0
    · by_cases h3 : p.z = 0
      · simp [go_sem, S.pt0, h1, h2, h3]
      · simp [go_sem, S.pt0, h1, h2, h3]
    · simp [go_sem, S.pt0, h1, h2]
  · simp [go_sem, S.pt0, h1]
theorem near1_mono {p : Pt} {a b : Int} (h : S.near1 p a = true) (hab : a ≤ b) : S.near1 p b = true := by
  simp only [S.near1, Bool.and_eq_true, decide_eq_true_eq] at h ⊢
  omega
theorem placed_near {x y : Int} {o p : Pt} {m : Int} (h : S.turn x y = true) (ho : S.near1 o m = true) (hp : S.near1 p m = true) : S.near1 (S.placed x y o p) (4 * m) = true := by
  obtain ⟨qx, qy, qz⟩ := near1_out (image_near h hp)
  obtain ⟨ox, oy, oz⟩ := near1_out ho
  rw [show S.placed x y o p = ⟨o.x + (S.image x y p).x, o.y + (S.image x y p).y, o.z + (S.image x y p).z⟩ from rfl]
  simp only [S.near1, Bool.and_eq_true, decide_eq_true_eq]
  omega
theorem fpath_near {x y : Int} {o : Pt} {l : List Pt} {p : Pt} (hp : p ∈ S.fpath x y o l) : S.near1 p 4194304 = true := by
  unfold S.fpath at hp
  split at hp
  · rename_i h
    have h1 : S.turn x y = true ∧ S.near1 o 1048576 = true ∧ S.near l 1048576 = true := by
      unfold S.fpErr at h
      split at h
      · cases h
      · rename_i h1
        split at h
        · cases h
        · split at h
          · cases h
          · rename_i h2
            simp only [not_or, Bool.not_eq_false] at h1 h2
            exact ⟨by simpa using h1, h2⟩
    obtain ⟨q, hq, rfl⟩ := List.mem_map.1 hp
    have hq' : S.near1 q 1048576 = true := by
      have h2 := h1.2.2
      unfold S.near at h2
      rw [List.all_eq_true] at h2
      exact h2 _ hq
    exact placed_near h1.1 h1.2.1 hq'
  · simp at hp
theorem plus_near {p s : Pt} {k a b c : Int} (hp : S.near1 p a = true) (hs : S.near1 s b = true) (hk : 0 ≤ k ∧ k ≤ c) (hb : 0 ≤ b) : S.near1 (S.plus p s k) (a + c * b) = true := by
  obtain ⟨px, py, pz⟩ := near1_out hp
  obtain ⟨sx, sy, sz⟩ := near1_out hs
  have hm : ∀ q : Int, -b ≤ q ∧ q ≤ b → -(c * b) ≤ k * q ∧ k * q ≤ c * b := fun q hq => by
    have h1 : k * q ≤ k * b := Int.mul_le_mul_of_nonneg_left hq.2 hk.1
    have h2 : k * (-b) ≤ k * q := Int.mul_le_mul_of_nonneg_left hq.1 hk.1
    have h3 : k * b ≤ c * b := Int.mul_le_mul_of_nonneg_right hk.2 hb
    rw [Int.mul_neg] at h2
    omega
  have m0 := hm _ sx
  have m1 := hm _ sy
  have m2 := hm _ sz
  rw [show S.plus p s k = ⟨p.x + k * s.x, p.y + k * s.y, p.z + k * s.z⟩ from rfl]
  simp only [S.near1, Bool.and_eq_true, decide_eq_true_eq]
  generalize c * b = cb at *
  omega
def S.laidPt (r : Rn) (k : Int) (p : Pt) : Pt := if 0 < k then S.plus (S.plus p r.at_ 1) r.step k else S.plus p r.at_ 1
def S.ptOk (r : Rn) (k : Int) (p : Pt) : Bool := S.near1 (S.laidPt r k p) 1048576
def S.rightHead (l : List Bar) (r : Rn) : Bool := !decide (S.index l r.mark < 0) && S.turn r.tx r.ty && decide (1 ≤ r.count) && decide (r.count ≤ 1000) && S.near1 r.at_ 1048576
def S.rightStep (r : Rn) : Bool := !decide (1 < r.count) || (!S.pt0 r.step && S.near1 r.step 2097152)
def S.rightPts (b : Bar) (r : Rn) : Bool := (S.turned b r).all (S.ptOk r 0) && (S.turned b r).all (S.ptOk r (r.count - 1))
def S.right (l : List Bar) (r : Rn) : Bool := S.rightHead l r && S.rightStep r && (match S.barAt l r.mark with | some b => S.rightPts b r | none => false)
theorem right_no0 (l : List BarR) (r : Rn) (A : Option Addr) (n c : Nat) (B : Nat) (w : World) (hB : B ≤ w.heap.size) (hA : BarsAt w B A n l) (h : S.rightHead (bars l) r = false) :
    Calls Try.prog 40 #[.slice A n c, rnV r] w fun e w' => e = .returned (.bool false) ∧ Below w.heap.size w w' := by
  have HA := Lib.hid hA
  have HI := Lib.hid (fun (W : World) (hw : B ≤ W.heap.size) (hh : BarsAt W B A n l) => lfind_any l r.mark A n c B W hw hh)
  have HV := Lib.hid (fun w => fvalid_any r.tx r.ty w)
  have HP := Lib.hid (fun w => isplace_any r.at_ 1048576 (by omega) w)
  unfold S.rightHead at h
  generalize S.index (bars l) r.mark = j at *
  generalize S.turn r.tx r.ty = t1 at *
  generalize S.near1 r.at_ 1048576 = t2 at *
  have hcs : j < 0 ∨ (¬ j < 0 ∧ t1 = false) ∨ (¬ j < 0 ∧ t1 = true ∧ r.count < 1) ∨ (¬ j < 0 ∧ t1 = true ∧ ¬ r.count < 1 ∧ 1000 < r.count) ∨ (¬ j < 0 ∧ t1 = true ∧ ¬ r.count < 1 ∧ ¬ 1000 < r.count ∧ t2 = false) := by
    by_cases h0 : j < 0
    · exact .inl h0
    · cases t1
      · exact .inr (.inl ⟨h0, rfl⟩)
      · by_cases h1 : r.count < 1
        · exact .inr (.inr (.inl ⟨h0, rfl, h1⟩))
        · by_cases h2 : 1000 < r.count
          · exact .inr (.inr (.inr (.inl ⟨h0, rfl, h1, h2⟩)))
          · cases t2
            · exact .inr (.inr (.inr (.inr ⟨h0, rfl, h1, h2, rfl⟩)))
            · exfalso
              have h3 : 1 ≤ r.count := by omega
              have h4 : r.count ≤ 1000 := by omega
              simp [h0, h3, h4] at h
  clear hA h
  unfold turnV at HV
  unfold ptV at HP
  unfold rnV
  rcases hcs with h0 | ⟨h0, rfl⟩ | ⟨h0, rfl, h1⟩ | ⟨h0, rfl, h1, h2⟩ | ⟨h0, rfl, h1, h2, rfl⟩
  all_goals (
    go_enter Try.func40, Try.ntmps40
    go_wp2_with (first
      | (go_at_call 57; (with_reducible refine (HI.out _ (by simp; omega) (HA.out.at_ hB bel)).mono ?_); rintro e w1 ⟨rfl, hbw1⟩; obtain ⟨hcw1, hfw1⟩ := bcell hbw1; have hzw1_0 : w.heap.size < w1.heap.size := lt_via hbw1 (by first | omega | (simp; done) | (simp; omega)))
      | (go_at_call 58; (with_reducible refine (HV.out _).mono ?_); rintro e w2 ⟨rfl, hbw2⟩; obtain ⟨hcw2, hfw2⟩ := bcell hbw2; have hzw2_0 : w.heap.size < w2.heap.size := lt_via hbw2 (by first | omega | (simp; done) | (simp; omega)))
      | (go_at_call 59; (with_reducible refine (HP.out _).mono ?_); rintro e w3 ⟨rfl, hbw3⟩; obtain ⟨hcw3, hfw3⟩ := bcell hbw3; have hzw3_0 : w.heap.size < w3.heap.size := lt_via hbw3 (by first | omega | (simp; done) | (simp; omega))))
    go_ret
    exact ⟨rfl, bel⟩)
theorem rightHead_out {l : List Bar} {r : Rn} (h : S.rightHead l r = true) : (0 ≤ S.index l r.mark ∧ S.turn r.tx r.ty = true ∧ S.near1 r.at_ 1048576 = true) ∧ ¬ r.count < 1 ∧ ¬ 1000 < r.count := by
  simp only [S.rightHead, Bool.and_eq_true, Bool.not_eq_true', decide_eq_true_eq, decide_eq_false_iff_not] at h
  exact ⟨⟨by omega, h.1.1.1.2, h.2⟩, by omega, by omega⟩
theorem right_no1 (l : List BarR) (r : Rn) (A : Option Addr) (n c : Nat) (B : Nat) (w : World) (hB : B ≤ w.heap.size) (hA : BarsAt w B A n l) (h : S.rightHead (bars l) r = true) (h' : S.rightStep r = false) :
    Calls Try.prog 40 #[.slice A n c, rnV r] w fun e w' => e = .returned (.bool false) ∧ Below w.heap.size w w' := by
  have HA := Lib.hid hA
  obtain ⟨⟨h0, h1, h2⟩, h3, h4⟩ := rightHead_out h
  have HI := Lib.hid (fun (W : World) (hw : B ≤ W.heap.size) (hh : BarsAt W B A n l) => lfind_any l r.mark A n c B W hw hh)
  have HV := Lib.hid (fun w => h1 ▸ fvalid_any r.tx r.ty w)
  have HP := Lib.hid (fun w => h2 ▸ isplace_any r.at_ 1048576 (by omega) w)
  have HS := Lib.hid (fun w => isplace_any r.step 2097152 (by omega) w)
  have hz : ∀ W, (binOp .eql 70 (.agg #[.int .i64 r.step.x, .int .i64 r.step.y, .int .i64 r.step.z]) (.agg #[.int .i64 0, .int .i64 0, .int .i64 0])).run Try.prog W = .ok (.bool (S.pt0 r.step)) W := fun W => run_eq0 r.step W
  have z91 : ∀ W, (Instr.build 70 #[]).run Try.prog W = .ok (.agg #[.int .i64 0, .int .i64 0, .int .i64 0]) W := fun _ => by kernel_rfl
  unfold S.rightStep at h'
  clear hA h
  generalize S.index (bars l) r.mark = j at *
  generalize S.near1 r.step 2097152 = t2 at *
  generalize S.pt0 r.step = t1 at *
  have hj : ¬ j < 0 := by omega
  have hcs : (1 < r.count ∧ t1 = true) ∨ (1 < r.count ∧ t1 = false ∧ t2 = false) := by
    by_cases h5 : 1 < r.count
    · cases t1
      · cases t2
        · exact .inr ⟨h5, rfl, rfl⟩
        · simp [h5] at h'
      · exact .inl ⟨h5, rfl⟩
    · simp [h5] at h'
  clear h0 h1 h2 h'
  unfold turnV at HV
  unfold ptV at HP HS
  unfold rnV
  rcases hcs with ⟨h5, rfl⟩ | ⟨h5, rfl, rfl⟩
  all_goals (
    go_enter Try.func40, Try.ntmps40
    go_wp2_with (first
      | (go_at_call 57; (with_reducible refine (HI.out _ (by simp; omega) (HA.out.at_ hB bel)).mono ?_); rintro e w1 ⟨rfl, hbw1⟩; obtain ⟨hcw1, hfw1⟩ := bcell hbw1; have hzw1_0 : w.heap.size < w1.heap.size := lt_via hbw1 (by first | omega | (simp; done) | (simp; omega)))
      | (go_at_call 58; (with_reducible refine (HV.out _).mono ?_); rintro e w2 ⟨rfl, hbw2⟩; obtain ⟨hcw2, hfw2⟩ := bcell hbw2; have hzw2_0 : w.heap.size < w2.heap.size := lt_via hbw2 (by first | omega | (simp; done) | (simp; omega)))
      | (go_at_call 59; (with_reducible refine (HP.out _).mono ?_); rintro e w3 ⟨rfl, hbw3⟩; obtain ⟨hcw3, hfw3⟩ := bcell hbw3; have hzw3_0 : w.heap.size < w3.heap.size := lt_via hbw3 (by first | omega | (simp; done) | (simp; omega)))
      | (go_at_call 59; (with_reducible refine (HS.out _).mono ?_); rintro e w4 ⟨rfl, hbw4⟩; obtain ⟨hcw4, hfw4⟩ := bcell hbw4; have hzw4_0 : w.heap.size < w4.heap.size := lt_via hbw4 (by first | omega | (simp; done) | (simp; omega))))
    go_ret
    exact ⟨rfl, bel⟩)
end Go.Proofs.Ytnjflafaflalfaa
