/- Contracts of the reference for layer 2: Gcd (the binary one), Made, Make, for numbers below 2^61. -/
import Derived.Test.YtiebbklljckbdaaRRatioA
import Derived.WalkSmall
import Derived.Deep.LoopGhost
import Derived.Deep.RegionWith
set_option linter.unusedVariables false
set_option linter.unusedSimpArgs false
namespace Go.Proofs.Ytiebbklljckbdaa
open Go.RowKit
theorem run_eq_u (a b : Nat) (W : World) : (binOp .eql 113 (uV a) (uV b)).run Try.prog W = .ok (.bool (a == b)) W := by
  by_cases h : a = b
  · subst h; simp [go_sem]
  · have h2 : ((a : Int) == (b : Int)) = false := by simp; omega
    have h3 : (a == b) = false := by simp [h]
    simp [go_sem, h2, h3, h]
theorem run_neq_u (a b : Nat) (W : World) : (binOp .neq 113 (uV a) (uV b)).run Try.prog W = .ok (.bool (a != b)) W := by
  by_cases h : a = b
  · subst h; simp [go_sem]
  · have h2 : ((a : Int) == (b : Int)) = false := by simp; omega
    have h3 : (a == b) = false := by simp [h]
    simp [go_sem, h2, h3, h, bne]
/-- Two magnitudes in memory: blocks s and s + 1. -/
structure Two (s : Nat) (W0 w : World) (x y : Nat) : Prop where
  fst : Blk w s 113 #[.int .u64 0, .int .u64 (x : Int)]
  snd : Blk w (s + 1) 113 #[.int .u64 0, .int .u64 (y : Int)]
  exc : Exc [s, s + 1] W0 w
theorem Two.via {s : Nat} {W0 w w' : World} {x y : Nat} (h : Two s W0 w x y) (hb : Below w.heap.size w w') : Two s W0 w' x y := ⟨h.fst.via hb, h.snd.via hb, Exc.via hb h.exc⟩
theorem Two.drew {s : Nat} {W0 w : World} {x y : Nat} (h : Two s W0 w x y) : Two s W0 w.drew x y := ⟨h.fst, h.snd, h.exc.drew⟩
theorem Two.drewN {s : Nat} {W0 w : World} {x y : Nat} (h : Two s W0 w x y) (n : Nat) : Two s W0 (w.drewN n) x y := ⟨h.fst, h.snd, h.exc.drewN n⟩
theorem Two.setx {s : Nat} {W0 w : World} {x y : Nat} (h : Two s W0 w x y) (z : Nat) : Two s W0 ((w.setCell ⟨s, 0, none⟩ (.int .u64 0)).setCell ⟨s, 1, none⟩ (.int .u64 (z : Int))) z y := by
  refine ⟨?_, (h.snd.far (by simp) _).far (by simp) _, (h.exc.set (.inl (by simp)) _).set (.inl (by simp)) _⟩
  have h6 := (h.fst.set 0 (.int .u64 0)).set 1 (.int .u64 (z : Int))
  simp only [List.setIfInBounds_toArray, List.set_cons_zero, List.set_cons_succ] at h6
  exact h6
theorem Two.sety {s : Nat} {W0 w : World} {x y : Nat} (h : Two s W0 w x y) (z : Nat) : Two s W0 ((w.setCell ⟨s + 1, 0, none⟩ (.int .u64 0)).setCell ⟨s + 1, 1, none⟩ (.int .u64 (z : Int))) x z := by
  refine ⟨(h.fst.far (by simp) _).far (by simp) _, ?_, (h.exc.set (.inl (by simp)) _).set (.inl (by simp)) _⟩
  have h6 := (h.snd.set 0 (.int .u64 0)).set 1 (.int .u64 (z : Int))
  simp only [List.setIfInBounds_toArray, List.set_cons_zero, List.set_cons_succ] at h6
  exact h6
structure TwoC (s : Nat) (w : World) (x y : Nat) : Prop where
  a0 : w.cell? ⟨s, 0, none⟩ = some (.int .u64 0)
  a1 : w.cell? ⟨s, 1, none⟩ = some (.int .u64 (x : Int))
  b0 : w.cell? ⟨s + 1, 0, none⟩ = some (.int .u64 0)
  b1 : w.cell? ⟨s + 1, 1, none⟩ = some (.int .u64 (y : Int))
  f0 : w.frozen? ⟨s, 0, none⟩ = false
  f1 : w.frozen? ⟨s, 1, none⟩ = false
  g0 : w.frozen? ⟨s + 1, 0, none⟩ = false
  g1 : w.frozen? ⟨s + 1, 1, none⟩ = false
  la : s < w.heap.size
  lb : s + 1 < w.heap.size
theorem Two.cells {s : Nat} {W0 w : World} {x y : Nat} (h : Two s W0 w x y) : TwoC s w x y :=
  ⟨h.fst.cell 0, h.fst.cell 1, h.snd.cell 0, h.snd.cell 1, h.fst.frozen 0, h.fst.frozen 1, h.snd.frozen 0, h.snd.frozen 1, h.fst.lt, h.snd.lt⟩
theorem and_one (x : Nat) (h : x ≤ 1152921504606846976) : bits BinOp.and IntKind.u64 (x : Int) 1 = (x : Int) % 2 := and_one_u64 _ (by omega) (by omega)
theorem even_b {x : Nat} (h : x % 2 = 0) : ((x : Int) % 2 == 0) = true := by simp; omega
theorem odd_b {x : Nat} (h : x % 2 = 1) : ((x : Int) % 2 == 0) = false := by simp; omega
set_option maxRecDepth 100000 in
set_option maxHeartbeats 4000000 in
theorem gcd2_any (a b : Nat) (w : World) (ha : a ≤ 1152921504606846976) (hb : b ≤ 1152921504606846976) (hb0 : 1 ≤ b) :
    Calls Try.prog 101 #[uV a, uV b] w fun e w' => e = .returned (uV (Nat.gcd a b)) ∧ Below w.heap.size w w' := by
  have hgb := Nat.gcd_le_right a (show 0 < b by omega)
  have HG := Lib.hid (show Nat.gcd 0 b = b from Nat.gcd_zero_left b)
  have q0 := run_eq_u a 0
  unfold uV at q0 ⊢
  by_cases hz : a = 0
  · have q1 : (a == 0) = true := by simp [hz]
    rw [q1] at q0
    have HZ := Lib.hid hz
    clear hz q1
    go_enter Try.func101, Try.ntmps101
    go_wp2
    exact bodyPost_ret (v := uV b) (by simp [results, Try.results101, go_sem, *]) rfl ⟨by rw [HZ.out, HG.out], (by repeat (first | exact Below.refl _ _ | assumption | refine ba_alloc ?_ _ | refine ba_drew ?_ | refine ba_drewN ?_ _ | refine ba_via (by assumption) ?_ | (refine ba_set ?_ ?_ _; rotate_left; (first | omega | (simp; omega) | simp))))⟩
  · have q1 : (a == 0) = false := by simp [hz]
    rw [q1] at q0
    have ha1 : 1 ≤ a := by omega
    clear hz q1
    generalize hGG : Nat.gcd a b = G at *
    have HGG := Lib.hid hGG
    clear hGG
    go_enter Try.func101, Try.ntmps101
    go_wp2
    have hW : Below w.heap.size w (((w.alloc (.cells #[.int .u64 0, .int .u64 (a : Int)] 113)).alloc (.cells #[.int .u64 0, .int .u64 (b : Int)] 113)).alloc (.cells #[.int .u64 0, .int .u64 0] 113)) := (by repeat (first | exact Below.refl _ _ | assumption | refine ba_alloc ?_ _ | refine ba_drew ?_ | refine ba_drewN ?_ _ | refine ba_via (by assumption) ?_ | (refine ba_set ?_ ?_ _; rotate_left; (first | omega | (simp; omega) | simp))))
    have hT0 : Two w.heap.size (((w.alloc (.cells #[.int .u64 0, .int .u64 (a : Int)] 113)).alloc (.cells #[.int .u64 0, .int .u64 (b : Int)] 113)).alloc (.cells #[.int .u64 0, .int .u64 0] 113)) (((w.alloc (.cells #[.int .u64 0, .int .u64 (a : Int)] 113)).alloc (.cells #[.int .u64 0, .int .u64 (b : Int)] 113)).alloc (.cells #[.int .u64 0, .int .u64 0] 113)) a b :=
      ⟨((Blk.new w _ _).alloc _).alloc _, by simpa using (Blk.new (w.alloc (.cells #[.int .u64 0, .int .u64 (a : Int)] 113)) 113 #[.int .u64 0, .int .u64 (b : Int)]).alloc (.cells #[.int .u64 0, .int .u64 0] 113), Exc.refl _ _⟩
    have hR0 : Blk (((w.alloc (.cells #[.int .u64 0, .int .u64 (a : Int)] 113)).alloc (.cells #[.int .u64 0, .int .u64 (b : Int)] 113)).alloc (.cells #[.int .u64 0, .int .u64 0] 113)) (w.heap.size + 1 + 1) 113 #[.int .u64 0, .int .u64 0] := by
      simpa using Blk.new ((w.alloc (.cells #[.int .u64 0, .int .u64 (a : Int)] 113)).alloc (.cells #[.int .u64 0, .int .u64 (b : Int)] 113)) 113 #[.int .u64 0, .int .u64 0]
    have HR0 := Lib.hid hR0
    have HT0 := Lib.hid hT0
    clear hR0 hT0
    generalize (((w.alloc (.cells #[.int .u64 0, .int .u64 (a : Int)] 113)).alloc (.cells #[.int .u64 0, .int .u64 (b : Int)] 113)).alloc (.cells #[.int .u64 0, .int .u64 0] 113)) = W0 at *
    go_loopg [5] a (fun g i wr => ∃ t x y : Nat, i = .int .i64 t ∧ g + t = a ∧ t + x ≤ a ∧ 1 ≤ x ∧ 1 ≤ y ∧ y ≤ b ∧ Hid (Nat.gcd x y * 2 ^ t = G) ∧ Hid (Two w.heap.size W0 wr x y))
    case atStart => exact ⟨0, a, b, rfl, by omega, by omega, ha1, hb0, Nat.le_refl _, Lib.hid (by rw [HGG.out]; simp), HT0⟩
    case round =>
      obtain ⟨t, x, y, rfl, hg, htx, hx1, hy1, hyb, HI, HT⟩ := hrel
      obtain ⟨a0, a1, b0, b1, f0, f1, g0, g1, la, lb⟩ := HT.out.cells
      have ex := and_one x (by omega)
      have ey := and_one y (by omega)
      have hcase : (x % 2 = 0 ∧ y % 2 = 0) ∨ x % 2 = 1 ∨ (x % 2 = 0 ∧ y % 2 = 1) := by omega
      rcases hcase with ⟨hx, hy⟩ | hx | ⟨hx, hy⟩
      · have bx := even_b hx
        have by' := even_b hy
        have HX := Lib.hid (fun w => half_any x w (by omega))
        have HY := Lib.hid (fun w => half_any y w (by omega))
        unfold uV at HX HY
        have HN := Lib.hid (show Nat.gcd (x / 2) (y / 2) * 2 ^ (t + 1) = G by
          rw [← HI.out, ← g_both x y hx hy, Nat.pow_succ, Nat.mul_assoc, Nat.mul_comm 2])
        have hti : IntKind.i64.wrap ((t : Int) + 1) = (t : Int) + 1 := IntWalk.i64_in _ (by omega)
        go_wp2
        go_region_with (first | (go_at_call 108; (with_reducible refine (HX.out _).mono ?_); rintro e w1 ⟨rfl, hbw1⟩; have hT1 : Two w.heap.size W0 w1 x y := (by first | exact HT.out.via hbw1 | exact (HT.out.drew).via hbw1 | exact (HT.out.drewN _).via hbw1); obtain ⟨a0, a1, b0, b1, f0, f1, g0, g1, la, lb⟩ := hT1.cells) | (go_at_call 108; (with_reducible refine (HY.out _).mono ?_); rintro e w2 ⟨rfl, hbw2⟩; have hT2 : Two w.heap.size W0 w2 x y := (by first | exact hT1.via hbw2 | exact (hT1.drew).via hbw2 | exact (hT1.drewN _).via hbw2); obtain ⟨a0, a1, b0, b1, f0, f1, g0, g1, la, lb⟩ := hT2.cells))
        all_goals go_wp2
        all_goals (
          go_roundg (a - (t + 1))
          case measure => omega
          case rel => exact ⟨t + 1, x / 2, y / 2, by go_num, by omega, by omega, by omega, by omega, by omega, HN, Lib.hid ((hT2.setx (x / 2)).sety (y / 2))⟩)
      all_goals (
        have hodd : x % 2 = 1 ∨ y % 2 = 1 := (by omega)
        first
          | (have bx := odd_b (by assumption : x % 2 = 1))
          | (have bx := even_b (by assumption : x % 2 = 0); have by' := odd_b (by assumption : y % 2 = 1))
        have HTo := HT
        have HIo := HI
        go_wp2
        go_loopg [26] (x + y) (fun g i wr => ∃ x y : Nat, g = x + y ∧ x ≤ 1152921504606846976 ∧ 1 ≤ y ∧ y ≤ 1152921504606846976 ∧ (x % 2 = 1 ∨ y % 2 = 1) ∧ Hid (Nat.gcd x y * 2 ^ t = G) ∧ Hid (Two w.heap.size W0 wr x y))
        case atStart => exact ⟨x, y, rfl, by omega, hy1, by omega, hodd, HIo, HTo⟩
        case round =>
          obtain ⟨x2, y2, hg2, hx2, hy2, hy2b, hodd2, HI2, HT2⟩ := hrel
          obtain ⟨a0, a1, b0, b1, f0, f1, g0, g1, la, lb⟩ := HT2.out.cells
          have q2 := run_neq_u x2 0
          unfold uV at q2
          by_cases hxz : x2 = 0
          · have q3 : (x2 != 0) = false := by simp [hxz]
            rw [q3] at q2
            have HXZ := Lib.hid hxz
            have hxz' : (x2 : Int) = 0 := by omega
            clear q3
            go_wp2
            go_loopg [5] t (fun g i wr => ∃ s z : Nat, i = .int .i64 s ∧ g = s ∧ s ≤ a ∧ Hid (z * 2 ^ s = G) ∧ Hid (Two w.heap.size W0 wr x2 z))
            case atStart => exact ⟨t, y2, rfl, rfl, by omega, Lib.hid (by rw [← HI2.out, HXZ.out, Nat.gcd_zero_left]), HT2⟩
            case round =>
              obtain ⟨s, z, rfl, hgs, hsa, HI3, HT3⟩ := hrel
              obtain ⟨a0, a1, b0, b1, f0, f1, g0, g1, la, lb⟩ := HT3.out.cells
              by_cases hs0 : s = 0
              · subst hs0
                have hzG : z = G := by have := HI3.out; simpa using this
                have hRr := ((HT3.out.exc).block (w.heap.size + 1 + 1) HR0.out.lt (by simp; omega)).trans HR0.out
                have hRr : Blk wr (w.heap.size + 1 + 1) 113 #[.int .u64 0, .int .u64 0] := hRr
                have r0 := hRr.cell 0
                have r1 := hRr.cell 1
                have s0 := hRr.frozen 0
                have s1 := hRr.frozen 1
                simp only [List.getElem?_toArray, List.getElem?_cons_zero, List.getElem?_cons_succ] at r0 r1
                have hrl := hRr.lt
                have hbel : Below w.heap.size w wr := hW.trans (HT3.out.exc.below (by have := hW.size; omega) (by intro k hk; simp at hk; omega))
                subst hzG
                clear hRr
                go_wp2
                exact bodyPost_ret (v := uV z) (by simp [results, Try.results101, go_sem, *]) rfl ⟨rfl, ((hbel.setCell (by simp; omega) _).setCell (by simp; omega) _)⟩
              · have hs1 : (0 : Int) < (s : Int) := by omega
                have hzb : z + z ≤ 1152921504606846976 := by
                  have h := HI3.out
                  have : 2 ≤ 2 ^ s := by
                    have := Nat.pow_le_pow_right (show 0 < 2 by omega) (show 1 ≤ s by omega)
                    omega
                  have h2 := Nat.mul_le_mul_left z this
                  omega
                have HN := Lib.hid (show (z + z) * 2 ^ (s - 1) = G by
                  have h := HI3.out
                  rw [show s = (s - 1) + 1 by omega, Nat.pow_succ] at h
                  rw [← h, ← Nat.two_mul]
                  simp only [Nat.mul_comm, Nat.mul_left_comm, Nat.mul_assoc, Nat.add_sub_cancel])
                have hsw : (s : Int) - 1 = ((s - 1 : Nat) : Int) := by omega
                have HSW := Lib.hid hsw
                clear hsw
                have HP := Lib.hid (fun w => plus_any z z w (by omega) (by omega))
                unfold uV at HP
                go_wp2_with (go_at_call 111; (with_reducible refine (HP.out _).mono ?_); rintro e w1 ⟨rfl, hbw1⟩; obtain ⟨hcw1, hfw1⟩ := bcell hbw1)
                go_roundg (s - 1)
                case measure => omega
                case rel => exact ⟨s - 1, z + z, by rw [← HSW.out], rfl, by omega, HN, Lib.hid ((HT3.out.via hbw1).sety (z + z))⟩
          · have q3 : (x2 != 0) = true := by simp [hxz]
            rw [q3] at q2
            clear q3
            go_wp2
            go_loopg [29] x2 (fun g i wr => ∃ x3 : Nat, g = x3 ∧ 1 ≤ x3 ∧ x3 ≤ x2 ∧ (x3 % 2 = 1 ∨ y2 % 2 = 1) ∧ Hid (Nat.gcd x3 y2 * 2 ^ t = G) ∧ Hid (Two w.heap.size W0 wr x3 y2))
            case atStart => exact ⟨x2, rfl, by omega, by omega, hodd2, HI2, HT2⟩
            case round =>
              obtain ⟨x3, hg3, hx3, hx3b, hodd3, HI3, HT3⟩ := hrel
              obtain ⟨a0, a1, b0, b1, f0, f1, g0, g1, la, lb⟩ := HT3.out.cells
              have ex3 := and_one x3 (by omega)
              rcases Nat.mod_two_eq_zero_or_one x3 with hx | hx
              · have bx3 := even_b hx
                have HX := Lib.hid (fun w => half_any x3 w (by omega))
                unfold uV at HX
                have HN := Lib.hid (show Nat.gcd (x3 / 2) y2 * 2 ^ t = G by rw [g_left x3 y2 hx (by omega)]; exact HI3.out)
                go_wp2_with (go_at_call 108; (with_reducible refine (HX.out _).mono ?_); rintro e w1 ⟨rfl, hbw1⟩; obtain ⟨hcw1, hfw1⟩ := bcell hbw1)
                go_roundg (x3 / 2)
                case measure => omega
                case rel => exact ⟨x3 / 2, rfl, by omega, by omega, by omega, HN, Lib.hid ((HT3.out.via hbw1).setx (x3 / 2))⟩
              · have bx3 := odd_b hx
                go_wp2
                go_loopg [35] y2 (fun g i wr => ∃ y4 : Nat, g = y4 ∧ 1 ≤ y4 ∧ y4 ≤ y2 ∧ Hid (Nat.gcd x3 y4 * 2 ^ t = G) ∧ Hid (Two w.heap.size W0 wr x3 y4))
                case atStart => exact ⟨y2, rfl, by omega, by omega, HI3, HT3⟩
                case round =>
                  obtain ⟨y4, hg4, hy4, hy4b, HI4, HT4⟩ := hrel
                  obtain ⟨a0, a1, b0, b1, f0, f1, g0, g1, la, lb⟩ := HT4.out.cells
                  have ey4 := and_one y4 (by omega)
                  rcases Nat.mod_two_eq_zero_or_one y4 with hy | hy
                  · have by4 := even_b hy
                    have HY := Lib.hid (fun w => half_any y4 w (by omega))
                    unfold uV at HY
                    have HN := Lib.hid (show Nat.gcd x3 (y4 / 2) * 2 ^ t = G by rw [g_right x3 y4 hx hy]; exact HI4.out)
                    go_wp2_with (go_at_call 108; (with_reducible refine (HY.out _).mono ?_); rintro e w1 ⟨rfl, hbw1⟩; obtain ⟨hcw1, hfw1⟩ := bcell hbw1)
                    go_roundg (y4 / 2)
                    case measure => omega
                    case rel => exact ⟨y4 / 2, rfl, by omega, by omega, HN, Lib.hid ((HT4.out.via hbw1).sety (y4 / 2))⟩
                  · have by4 := odd_b hy
                    have HL := Lib.hid (fun w => less_any x3 y4 w)
                    unfold uV at HL
                    by_cases hlt : x3 < y4
                    · have hd : decide (x3 < y4) = true := by simpa using hlt
                      rw [hd] at HL
                      clear hd
                      have HM := Lib.hid (fun w => minus_any y4 x3 w (by omega) (by omega))
                      unfold uV at HM
                      have HN := Lib.hid (show Nat.gcd (y4 - x3) x3 * 2 ^ t = G by rw [g_sub y4 x3 (by omega), Nat.gcd_comm]; exact HI4.out)
                      go_wp2_with (first
                        | (go_at_call 109; (with_reducible refine (HL.out _).mono ?_); rintro e w1 ⟨rfl, hbw1⟩; obtain ⟨hcw1, hfw1⟩ := bcell hbw1; have hzw1_0 : w.heap.size < w1.heap.size := lt_via hbw1 (by first | omega | (simp; done) | (simp; omega)); have hzw1_1 : w.heap.size + 1 < w1.heap.size := lt_via hbw1 (by first | omega | (simp; done) | (simp; omega)))
                        | (go_at_call 110; (with_reducible refine (HM.out _).mono ?_); rintro e w2 ⟨rfl, hbw2⟩; obtain ⟨hcw2, hfw2⟩ := bcell hbw2; have hzw2_0 : w.heap.size < w2.heap.size := lt_via hbw2 (by first | omega | (simp; done) | (simp; omega)); have hzw2_1 : w.heap.size + 1 < w2.heap.size := lt_via hbw2 (by first | omega | (simp; done) | (simp; omega))))
                      go_roundg (y4 - x3 + x3)
                      case measure => omega
                      case rel => exact ⟨y4 - x3, x3, rfl, by omega, by omega, by omega, .inr hx, HN, Lib.hid ((((((HT4.out.via hbw1).setx y4).sety x3)).via hbw2).setx (y4 - x3))⟩
                    · have hd : decide (x3 < y4) = false := by simpa using hlt
                      rw [hd] at HL
                      clear hd
                      have HM := Lib.hid (fun w => minus_any x3 y4 w (by omega) (by omega))
                      unfold uV at HM
                      have HN := Lib.hid (show Nat.gcd (x3 - y4) y4 * 2 ^ t = G by rw [g_sub x3 y4 (by omega)]; exact HI4.out)
                      go_wp2_with (first
                        | (go_at_call 109; (with_reducible refine (HL.out _).mono ?_); rintro e w1 ⟨rfl, hbw1⟩; obtain ⟨hcw1, hfw1⟩ := bcell hbw1; have hzw1_0 : w.heap.size < w1.heap.size := lt_via hbw1 (by first | omega | (simp; done) | (simp; omega)); have hzw1_1 : w.heap.size + 1 < w1.heap.size := lt_via hbw1 (by first | omega | (simp; done) | (simp; omega)))
                        | (go_at_call 110; (with_reducible refine (HM.out _).mono ?_); rintro e w2 ⟨rfl, hbw2⟩; obtain ⟨hcw2, hfw2⟩ := bcell hbw2; have hzw2_0 : w.heap.size < w2.heap.size := lt_via hbw2 (by first | omega | (simp; done) | (simp; omega)); have hzw2_1 : w.heap.size + 1 < w2.heap.size := lt_via hbw2 (by first | omega | (simp; done) | (simp; omega))))
                      go_roundg (x3 - y4 + y4)
                      case measure => omega
                      case rel => exact ⟨x3 - y4, y4, rfl, by omega, by omega, by omega, .inr hy, HN, Lib.hid (((HT4.out.via hbw1).via hbw2).setx (x3 - y4))⟩)
end Go.Proofs.Ytiebbklljckbdaa
