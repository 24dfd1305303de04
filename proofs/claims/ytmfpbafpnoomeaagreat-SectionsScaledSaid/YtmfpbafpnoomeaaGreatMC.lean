/- Lemmas. -/
import Derived.Test.YtmfpbafpnoomeaaGreatMB
set_option linter.unusedVariables false
set_option linter.unusedSimpArgs false
namespace Go.Proofs.YtmfpbafpnoomeaaGreat
open Go.RowKit
namespace S
def co (p : Pt) (k : Nat) : Int := if k = 0 then p.x else if k = 1 then p.y else p.z
def okLen (n : Int) : Bool := decide (-1048576 <= n) && decide (n <= 1048576)
end S
abbrev ptVal (p : Pt) : Value := .agg #[.int .i64 p.x, .int .i64 p.y, .int .i64 p.z]
theorem coord_any (p : Pt) (k : Nat) (hk : k < 3) (w : World) :
 Calls Tryz.prog 175 #[ptVal p, .int .i64 k] w fun e w' => e = .returned (.int .i64 (S.co p k)) /\ Below w.heap.size w w' := by
 have : k = 0 ∨ k = 1 ∨ k = 2 := by omega
 unfold ptVal
 rcases this with rfl | rfl | rfl
 all_goals (
  go_enter Tryz.func175, Tryz.ntmps175
  go_wp2
  go_ret
  exact ⟨rfl, bel⟩)
theorem islen_any (n : Int) (w : World) :
 Calls Tryz.prog 174 #[.int .i64 n] w fun e w' => e = .returned (.bool (S.okLen n)) /\ w = w' := by
 have H := lh (show S.okLen n = (decide (-1048576 <= n) && decide (n <= 1048576)) from rfl)
 go_enter Tryz.func174, Tryz.ntmps174
 go_wp2
 all_goals (go_ret; exact ⟨ret_b (by rw [H.out, Bool.eq_iff_iff]; all_goals (first | (simp; done) | (simp; omega))), rfl⟩)
theorem okAx_iff (l h : Int) : S.okAx l h = (S.okLen l && S.okLen h && !decide (h < l)) := by
 rw [Bool.eq_iff_iff]
 simp only [S.okAx, S.okLen, Bool.and_eq_true, decide_eq_true_eq, Bool.not_eq_true', decide_eq_false_iff_not]
 constructor <;> (intro h; omega)
theorem boxOk_all (b : Bx) : S.boxOk b = true ↔ ∀ k, k < 3 -> S.okAx (S.co b.lo k) (S.co b.hi k) = true := by
 simp only [S.boxOk, Bool.and_eq_true]
 constructor
 ·rintro ⟨⟨h1, h2⟩, h3⟩ k hk
  have : k = 0 ∨ k = 1 ∨ k = 2 := by omega
  rcases this with rfl | rfl | rfl
  ·exact h1
  ·exact h2
  ·exact h3
 ·intro h
  exact ⟨⟨h 0 (by omega), h 1 (by omega)⟩, h 2 (by omega)⟩
theorem boxOk_not {b : Bx} {k : Nat} (hk : k < 3) (h : S.okAx (S.co b.lo k) (S.co b.hi k) = false) : S.boxOk b = false := by
 cases hb : S.boxOk b with
 | false => rfl
 | true => rw [(boxOk_all b).1 hb k hk] at h; cases h
set_option maxRecDepth 100000 in
set_option maxHeartbeats 4000000 in
theorem rbvalid_any (b : Bx) (w : World) :
 Calls Tryz.prog 123 #[boxV b] w fun e w' => e = .returned (.bool (S.boxOk b)) /\ Below w.heap.size w w' := by
 have HA := lh (boxOk_all b)
 have HX := lh (fun k (hk : k < 3) => boxOk_not (b := b) hk)
 have HC := lh (fun k hk w => coord_any b.lo k hk w)
 have HD := lh (fun k hk w => coord_any b.hi k hk w)
 unfold boxV
 unfold ptVal at HC HD
 go_enter Tryz.func123, Tryz.ntmps123
 go_wp2
 have hB0 : Blk (w.alloc (.cells #[.int .i64 b.lo.x, .int .i64 b.lo.y, .int .i64 b.lo.z, .int .i64 b.hi.x, .int .i64 b.hi.y, .int .i64 b.hi.z] 78)) w.heap.size 78 #[.int .i64 b.lo.x, .int .i64 b.lo.y, .int .i64 b.lo.z, .int .i64 b.hi.x, .int .i64 b.hi.y, .int .i64 b.hi.z] := Blk.new _ _ _
 have hW0 : Below w.heap.size w (w.alloc (.cells #[.int .i64 b.lo.x, .int .i64 b.lo.y, .int .i64 b.lo.z, .int .i64 b.hi.x, .int .i64 b.hi.y, .int .i64 b.hi.z] 78)) := bel
 have HB0 := lh hB0
 clear hB0
 generalize w.alloc (.cells #[.int .i64 b.lo.x, .int .i64 b.lo.y, .int .i64 b.lo.z, .int .i64 b.hi.x, .int .i64 b.hi.y, .int .i64 b.hi.z] 78) = W0 at *
 go_loopw [3] (fun i wr => ∃ k : Nat, k <= 3 /\ i = .int .i64 k /\ (∀ j, j < k -> S.okAx (S.co b.lo j) (S.co b.hi j) = true) /\ Below W0.heap.size W0 wr) (fun i _ => 3 - (intOf i).toNat)
 case atStart => exact ⟨0, by omega, rfl, fun j hj => absurd hj (by omega), Below.refl _ _⟩
 case round =>
  obtain ⟨k, hk, rfl, hno, hbr⟩ := hrel
  have HNO := lh hno
  clear hno
  have hB := HB0.out.via hbr
  have x0 := hB.cell 0
  have x1 := hB.cell 1
  have x2 := hB.cell 2
  have x3 := hB.cell 3
  have x4 := hB.cell 4
  have x5 := hB.cell 5
  simp only [ga1, ga2, ga3] at x0 x1 x2 x3 x4 x5
  have hBl := hB.lt
  clear hB
  by_cases hlt : k < 3
  ·have hki : (k : Int) < 3 := by omega
   have H1 := lh (HC.out k hlt)
   have H2 := lh (HD.out k hlt)
   have HN := lh (HX.out k hlt)
   have HS := lh (okAx_iff (S.co b.lo k) (S.co b.hi k))
   have HLk := lh (fun w => islen_any (S.co b.lo k) w)
   have HHk := lh (fun w => islen_any (S.co b.hi k) w)
   have hcc : ∀ j, j < k + 1 -> j ≠ k -> j < k := fun j h1 h2 => by omega
   generalize hlo : S.co b.lo k = lo at *
   generalize hhi : S.co b.hi k = hi at *
   have HLO := lh hlo
   have HHI := lh hhi
   clear hlo hhi
   generalize S.okLen lo = t1 at *
   generalize S.okLen hi = t2 at *
   cases hg : decide (hi < lo) <;> cases t1 <;> cases t2
   all_goals (
    go_wp2
    refine wp_region_grow (by kernel_rfl) (by kernel_rfl) ?_
    repeat (go_big_quiet_step ((first | (go_at_call 175; with_reducible exact grow_of (H1.out _)) | (go_at_call 175; with_reducible exact grow_of (H2.out _)) | (go_at_call 174; exact grow_of_eq (HLk.out _)) | (go_at_call 174; exact grow_of_eq (HHk.out _)))))
    all_goals (refine wpQuiet_nil ?_; intro wg hbwg; obtain ⟨hcwg, hfwg⟩ := bcell hbwg)
    go_wp2
    first
     | (go_ret; exact ⟨ret_b (HN.out (by rw [HS.out, hg]; rfl)).symm, ba_via hbwg (ba_via hbr hW0)⟩)
     | (go_roundw
        case rel =>
         refine ⟨k + 1, by omega, by go_num, fun j hj => ?_, ba_via hbwg hbr⟩
         by_cases hjk : j = k
         ·subst hjk; rw [HLO.out, HHI.out, HS.out, hg]; rfl
         ·exact HNO.out j (by omega)
        case measure => simp [intOf]; omega))
  ·go_wp2
   go_ret
   exact ⟨ret_b (HA.out.2 (fun j hj => HNO.out j (by omega))).symm, ba_via hbr hW0⟩
end Go.Proofs.YtmfpbafpnoomeaaGreat
