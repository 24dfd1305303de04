/- Contracts: claim.put, the reference's number. A drawn region with any property of the worlds between. -/
import Derived.Test.YtnmolefblaahmaaGreatMAC
set_option linter.unusedVariables false
set_option linter.unusedSimpArgs false
namespace Go.Proofs.YtnmolefblaahmaaGreat
open Go.RowKit
theorem shr_run (x : Int) (i : Nat) (hi : i ≤ 7) (W : World) : (Op.shift .shr .i64 x .i64 (8 * (i : Int))).run Tryz.prog W = .ok (.int .i64 (x / 256 ^ i)) W := by
 have hm : min (8 * (i : Int)).toNat IntKind.i64.bits = 8 * i := by
  show min (8 * (i : Int)).toNat 64 = 8 * i
  omega
 have hf : Int.fdiv x (2 ^ (8 * i)) = x / 256 ^ i := by
  rw [Int.fdiv_eq_ediv_of_nonneg _ (Int.le_of_lt (Int.pow_pos (by decide))), Int.pow_mul]
  rfl
 unfold Op.shift
 rw [if_neg (by omega)]
 simp only [hm]
 rw [hf]
 rfl
set_option maxRecDepth 20000 in
set_option maxHeartbeats 1500000 in
theorem put_any (x : Int) (k base : Nat) (A : Option Addr) (n c : Nat) (l : List Nat) (w : World) (hx : -9223372036854775808 ≤ x ∧ x ≤ 9223372036854775807) (hk : k ≤ 8) (hn : n ≤ 1000000) (hb : base ≤ w.heap.size) (hown : w.ownsRow base 5 1 (.slice A n c) n (l.map bC)) :
 Calls Tryz.prog 52 #[.slice A n c, .int .i64 x, .int .i64 k] w fun e w' => ∃ (A' : Option Addr) (c' : Nat), e = .returned (.slice A' (n + k) c') ∧ w'.ownsRow base 5 1 (.slice A' (n + k) c') (n + k) ((l ++ S.be x k).map bC) ∧ Below base w w' ∧ Grows w w' (.slice A n c) (.slice A' (n + k) c') := by
 have HO := Lib.hid hown
 have e0 : IntKind.i64.wrap ((k : Int) - 1) = (k : Int) - 1 := IntWalk.i64_in _ (by omega)
 clear hown
 go_enter Tryz.func52, Tryz.ntmps52
 go_wp2
 go_loopw [0, 7] (fun v i wr => ∃ (q : Nat) (A' : Option Addr) (c' : Nat), q ≤ k ∧ i = .int .i64 ((k : Int) - 1 - q) ∧ v = .slice A' (n + q) c' ∧ Hid (wr.ownsRow base 5 1 (.slice A' (n + q) c') (n + q) ((l ++ (S.be x k).take q).map bC)) ∧ Below base w wr ∧ Hid (Grows w wr (.slice A n c) (.slice A' (n + q) c'))) (fun _ i _ => (intOf i + 1).toNat)
 case atStart => exact ⟨0, A, c, Nat.zero_le _, by simp, rfl, Lib.hid (by simpa using HO.out), Below.refl _ _, Lib.hid (Grows.refl _ _)⟩
 case round =>
  obtain ⟨q, A1, c1, hq, rfl, rfl, hO, hbr, hgr⟩ := hrel
  have hsr := hbr.size
  by_cases hlt : q < k
  ·have HT := Lib.hid (be_take x hlt)
   obtain ⟨i, hi⟩ : ∃ i : Nat, i = k - 1 - q := ⟨_, rfl⟩
   rw [← hi] at HT
   have hij : (k : Int) - 1 - q = (i : Int) := by omega
   rw [hij]
   have hi0 : (0 : Int) ≤ (i : Int) := by omega
   have e1 : IntKind.i64.wrap (8 * (i : Int)) = 8 * (i : Int) := IntWalk.i64_in _ (by omega)
   have e2 : IntKind.i64.wrap ((i : Int) - 1) = (k : Int) - 1 - ((q + 1 : Nat) : Int) := by rw [show (i : Int) - 1 = (k : Int) - 1 - ((q + 1 : Nat) : Int) by omega]; exact IntWalk.i64_in _ (by omega)
   have q18 := fun W => shr_run x i (by omega) W
   obtain ⟨y, hy⟩ : ∃ y : Nat, y = (x / 256 ^ i % 256).toNat := ⟨_, rfl⟩
   rw [← hy] at HT
   have e5 : IntKind.u8.wrap (x / 256 ^ i) = (y : Int) := by
    rw [IntKind.wrap_u8, hy, Int.toNat_of_nonneg (Int.emod_nonneg _ (by decide))]
   have HI := Lib.hid hij
   clear hi hij hy
   generalize x / 256 ^ i = X at *
   have hlen : q < k := hlt
   go_wp2_with (at_builtin; refine wpList_append_cells2 rfl (.tmp 14) (.tmp 20) _ rfl elemB base (.slice A1 (n + q) c1) (n + q) _ rfl (own_kept7 hO.out (fun g hg => (ba_alloc (Below.refl _ _) _).block g (hO.out.lt g hg).2)) wr.heap.size 1 1 [bC y] rfl rfl (fun j u hu => (Blk.new wr 5 #[bC y]).cell j |>.trans (by simpa using hu)) (by simp [Value.oneCell']) (by unfold maxLen; omega) (by omega) (by simp; omega) ?_; intro v2 wE hOE hbE hz1 hz2 hz3; obtain ⟨A2, c2, hv2, _, _, hxx⟩ := own_form hOE (by unfold maxLen; omega); clear hxx; subst hv2)
   go_roundw
   case rel => exact ⟨q + 1, A2, c2, by omega, by go_num, rfl, Lib.hid (by rw [HT.out, ← Nat.add_assoc]; simpa using hOE), hbr.trans (((ba_alloc (Below.refl _ _) _ : Below wr.heap.size wr _).mono (Nat.le_trans hb hsr)).trans hbE), Lib.hid (hgr.out.trans ⟨Nat.le_trans (Below.size (ba_alloc (Below.refl wr.heap.size wr) (.cells #[bC y] 5))) hz1, fun k hk hn => (hz2 k (Nat.lt_of_lt_of_le hk (Below.size (ba_alloc (Below.refl wr.heap.size wr) (.cells #[bC y] 5)))) hn).trans ((ba_alloc (Below.refl wr.heap.size wr) (.cells #[bC y] 5)).block k hk), fun k hk => by
    rcases hz3 with e | e
    ·exact .inl (e ▸ hk)
    ·rw [show (Value.slice A2 (n + (q + 1)) c2).ownBlock = _ from e] at hk
     injection hk with hk
     simp at hk
     exact .inr (by omega)⟩)⟩
   case measure => have := HI.out; simp [intOf]; omega
  ·have hqk : q = k := by omega
   subst hqk
   have hneg : ¬ ((0 : Int) ≤ (q : Int) - 1 - q) := by omega
   go_wp2
   go_ret
   exact ⟨A1, c1, rfl, by have := hO.out; rw [List.take_of_length_le (by rw [be_len]; exact Nat.le_refl _)] at this; simpa using this, hbr, hgr.out⟩
set_option maxRecDepth 20000 in
set_option maxHeartbeats 1500000 in
theorem number_any (x : Int) (k base : Nat) (A : Option Addr) (n c : Nat) (l : List Nat) (w : World) (hx : -9223372036854775808 ≤ x ∧ x ≤ 9223372036854775807) (hk : k ≤ 8) (hn : n ≤ 1000000) (hb : base ≤ w.heap.size) (hown : w.ownsRow base 5 1 (.slice A n c) n (l.map bC)) :
 Calls Tryz.prog 56 #[.slice A n c, .int .i64 x, .int .i64 k] w fun e w' => ∃ (A' : Option Addr) (c' : Nat), e = .returned (.slice A' (n + k) c') ∧ w'.ownsRow base 5 1 (.slice A' (n + k) c') (n + k) ((l ++ S.be x k).map bC) ∧ Below base w w' ∧ Grows w w' (.slice A n c) (.slice A' (n + k) c') := by
 have HO := Lib.hid hown
 have e0 : IntKind.i64.wrap ((k : Int) - 1) = (k : Int) - 1 := IntWalk.i64_in _ (by omega)
 clear hown
 go_enter Tryz.func56, Tryz.ntmps56
 go_wp2
 go_loopw [0, 7] (fun v i wr => ∃ (q : Nat) (A' : Option Addr) (c' : Nat), q ≤ k ∧ i = .int .i64 ((k : Int) - 1 - q) ∧ v = .slice A' (n + q) c' ∧ Hid (wr.ownsRow base 5 1 (.slice A' (n + q) c') (n + q) ((l ++ (S.be x k).take q).map bC)) ∧ Below base w wr ∧ Hid (Grows w wr (.slice A n c) (.slice A' (n + q) c'))) (fun _ i _ => (intOf i + 1).toNat)
 case atStart => exact ⟨0, A, c, Nat.zero_le _, by simp, rfl, Lib.hid (by simpa using HO.out), Below.refl _ _, Lib.hid (Grows.refl _ _)⟩
 case round =>
  obtain ⟨q, A1, c1, hq, rfl, rfl, hO, hbr, hgr⟩ := hrel
  have hsr := hbr.size
  by_cases hlt : q < k
  ·have HT := Lib.hid (be_take x hlt)
   obtain ⟨i, hi⟩ : ∃ i : Nat, i = k - 1 - q := ⟨_, rfl⟩
   rw [← hi] at HT
   have hij : (k : Int) - 1 - q = (i : Int) := by omega
   rw [hij]
   have hi0 : (0 : Int) ≤ (i : Int) := by omega
   have e1 : IntKind.i64.wrap (8 * (i : Int)) = 8 * (i : Int) := IntWalk.i64_in _ (by omega)
   have e2 : IntKind.i64.wrap ((i : Int) - 1) = (k : Int) - 1 - ((q + 1 : Nat) : Int) := by rw [show (i : Int) - 1 = (k : Int) - 1 - ((q + 1 : Nat) : Int) by omega]; exact IntWalk.i64_in _ (by omega)
   have q18 := fun W => shr_run x i (by omega) W
   obtain ⟨y, hy⟩ : ∃ y : Nat, y = (x / 256 ^ i % 256).toNat := ⟨_, rfl⟩
   rw [← hy] at HT
   have e5 : IntKind.u8.wrap (x / 256 ^ i) = (y : Int) := by
    rw [IntKind.wrap_u8, hy, Int.toNat_of_nonneg (Int.emod_nonneg _ (by decide))]
   have HI := Lib.hid hij
   clear hi hij hy
   generalize x / 256 ^ i = X at *
   have hlen : q < k := hlt
   go_wp2_with (at_builtin; refine wpList_append_cells2 rfl (.tmp 14) (.tmp 20) _ rfl elemB base (.slice A1 (n + q) c1) (n + q) _ rfl (own_kept7 hO.out (fun g hg => (ba_alloc (Below.refl _ _) _).block g (hO.out.lt g hg).2)) wr.heap.size 1 1 [bC y] rfl rfl (fun j u hu => (Blk.new wr 5 #[bC y]).cell j |>.trans (by simpa using hu)) (by simp [Value.oneCell']) (by unfold maxLen; omega) (by omega) (by simp; omega) ?_; intro v2 wE hOE hbE hz1 hz2 hz3; obtain ⟨A2, c2, hv2, _, _, hxx⟩ := own_form hOE (by unfold maxLen; omega); clear hxx; subst hv2)
   go_roundw
   case rel => exact ⟨q + 1, A2, c2, by omega, by go_num, rfl, Lib.hid (by rw [HT.out, ← Nat.add_assoc]; simpa using hOE), hbr.trans (((ba_alloc (Below.refl _ _) _ : Below wr.heap.size wr _).mono (Nat.le_trans hb hsr)).trans hbE), Lib.hid (hgr.out.trans ⟨Nat.le_trans (Below.size (ba_alloc (Below.refl wr.heap.size wr) (.cells #[bC y] 5))) hz1, fun k hk hn => (hz2 k (Nat.lt_of_lt_of_le hk (Below.size (ba_alloc (Below.refl wr.heap.size wr) (.cells #[bC y] 5)))) hn).trans ((ba_alloc (Below.refl wr.heap.size wr) (.cells #[bC y] 5)).block k hk), fun k hk => by
    rcases hz3 with e | e
    ·exact .inl (e ▸ hk)
    ·rw [show (Value.slice A2 (n + (q + 1)) c2).ownBlock = _ from e] at hk
     injection hk with hk
     simp at hk
     exact .inr (by omega)⟩)⟩
   case measure => have := HI.out; simp [intOf]; omega
  ·have hqk : q = k := by omega
   subst hqk
   have hneg : ¬ ((0 : Int) ≤ (q : Int) - 1 - q) := by omega
   go_wp2
   go_ret
   exact ⟨A1, c1, rfl, by have := hO.out; rw [List.take_of_length_le (by rw [be_len]; exact Nat.le_refl _)] at this; simpa using this, hbr, hgr.out⟩
theorem wp_region_mixC {P : Program} (C : World → Prop) {id : Nat} {Q : Exit → Act → World → Prop} {a : Act} {w : World} {l : List Oper} (r : Nat) (ms : List Nat) (hm : P.follows .mixedOrders = true) (hB : mixB .any l.toArray (endAt r 0 ms) (chainAt 0 ms) = true)
 (hend : endAt r 0 ms ≤ l.length) (hC : C w.drew) (h : wpSegs P l.toArray C Q r ms l a w.drew) : (Code.region id l.toArray true).wp P Q a w := by
 refine wp_region_any hm ?_
 have hin : ∀ i, (Array.replicate l.toArray.size false).getD i false = false := fun i => getD_replicate_false _ _
 refine mix_any (C := C) hB _ _ a w.drew (by simp [List.count_replicate]) ⟨by simp, fun j oj _ hl => (by rw [hin] at hl; cases hl), fun t _ ht => getD_in (by simpa using ht) (hin t)⟩ hC ?_
 have := segs_mix (P := P) (ops := l.toArray) (C := C) (Q := Q) (ks := fun i => (chainAt 0 ms).contains i || decide (endAt r 0 ms ≤ i)) (listed := Array.replicate l.toArray.size false) (t := endAt r 0 ms) r (by simpa using hend) hin ms 0 a w.drew rfl
  (fun i _ h2 => by simp [Nat.not_le.2 h2]) (by simpa using h)
 rwa [Nat.sub_zero, ← List.range_eq_range'] at this
theorem quietC {P : Program} {ops : Array Oper} {C : World → Prop} {Q : Act → Prop} {rest : List Oper} {op : Oper} {a : Act} (hw : Region.wanted op (yielded ops a.tmps) = true) (v : Value) (hS : ∀ w, C w → (execOp a.eval op).run P w = .ok (.value v) w)
 (h : ∀ a', a.put op.dst v = a' → wpQuiet P ops C Q rest a') : wpQuiet P ops C Q (op :: rest) a := by
 unfold wpQuiet
 rw [if_pos hw]
 refine ⟨v, fun w hw' => ?_, h _ rfl⟩
 unfold Oper.quietAt
 rw [hS w hw']
 exact ⟨rfl, rfl⟩
end Go.Proofs.YtnmolefblaahmaaGreat
