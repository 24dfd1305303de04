/- Contracts: bend.Check; Check of the reference for layer 13 (printed by tools/gen_check.py). -/
import Derived.Test.YtpjdepnbeendcaaBendR
set_option linter.unusedVariables false
set_option linter.unusedSimpArgs false
namespace Go.Proofs.Ytpjdepnbeendcaa
open Go.RowKit
theorem elemF : Elem Try.prog 73 79 (.agg #[.int .i64 0, .string ⟨#[]⟩]) 2 24 := ⟨Try.underlying73, by kernel_rfl, rfl, by decide⟩
namespace S
/-- The kind of the finding of leg i (0: none). -/
def kind (r d : Int) (L i : Nat) (n : Int) : Int := if i = 0 ∨ i + 1 = L then (if n < r + 5 * d then 1 else 0) else if n < 2 * r then 2 else 0
def kindL (r d : Int) (L i : Nat) (n : Int) : List Int := if kind r d L i n = 0 then [] else [kind r d L i n]
def kindsTo (r d : Int) (l : List Int) : Nat → List Int
  | 0 => []
  | m + 1 => kindsTo r d l m ++ (match l[m]? with | some n => kindL r d l.length m n | none => [])
/-- The kinds of the findings of a bar, in order. -/
def finds (b : Bar) : List Int := if (legsOf b.code).length = 1 then [] else kindsTo (radius b.size) b.size (legLens b) (legsOf b.code).length
end S
abbrev fC (mk : ByteArray) (k : Int) : List Value := [.int .i64 k, .string mk]
theorem fC_len (mk : ByteArray) (k : Int) : (fC mk k).length = 2 := rfl
theorem kindsTo_succ {r d : Int} {l : List Int} {m : Nat} {n : Int} (h : l[m]? = some n) : S.kindsTo r d l (m + 1) = S.kindsTo r d l m ++ S.kindL r d l.length m n := by simp [S.kindsTo, h]
theorem kindL_le (r d : Int) (L i : Nat) (n : Int) : (S.kindL r d L i n).length ≤ 1 := by unfold S.kindL; split <;> simp
theorem kindsTo_le (r d : Int) (l : List Int) (m : Nat) : (S.kindsTo r d l m).length ≤ m := by
  induction m with
  | zero => simp [S.kindsTo]
  | succ m ih =>
    simp only [S.kindsTo, List.length_append]
    split
    · have := kindL_le r d l.length m (by assumption)
      omega
    · simp; omega
theorem Row.drewN {W w : World} {g0 : Option Nat} {base E size : Nat} {v : Value} {n : Nat} {xs : List Value} (h : Row W w g0 base E size v n xs) (k : Nat) : Row W (w.drewN k) g0 base E size v n xs := h.kept (fun _ _ => rfl)
theorem check_no (b : Bar) (A : Option Addr) (n c : Nat) (B : Nat) (w : World) (hB : B ≤ w.heap.size) (hA : BarAt w B A n b) (h : S.bar b = false) :
    Calls Try.prog 57 #[barV b A n c] w (GivesRow 79 2 0 [] 1 w) := by
  have HA := Lib.hid hA
  clear hA
  unfold barV
  go_enter Try.func57, Try.ntmps57
  go_wp2_with (go_at_call 19; (with_reducible refine (legs_no b A n c B _ (le_via hB (by repeat (first | exact Below.refl _ _ | assumption | refine ba_alloc ?_ _ | refine ba_drew ?_ | refine ba_drewN ?_ _ | refine ba_via (by assumption) ?_ | (refine ba_set ?_ ?_ _; rotate_left; (first | omega | (simp; omega) | simp))))) (BarAt.at_ HA.out hB (by repeat (first | exact Below.refl _ _ | assumption | refine ba_alloc ?_ _ | refine ba_drew ?_ | refine ba_drewN ?_ _ | refine ba_via (by assumption) ?_ | (refine ba_set ?_ ?_ _; rotate_left; (first | omega | (simp; omega) | simp))))) h).mono ?_); rintro e w1 ⟨Aw1, cw1, rfl, how1, hbw1⟩; obtain ⟨hcw1, hfw1⟩ := bcell hbw1; have hzw1_0 : w.heap.size < w1.heap.size := lt_via hbw1 (by first | omega | (simp; done) | (simp; omega)))
  go_ret2
  exact ⟨none, 0, rfl, World.ownsRow_nil _ _ _ _, (by repeat (first | exact Below.refl _ _ | assumption | refine ba_alloc ?_ _ | refine ba_drew ?_ | refine ba_drewN ?_ _ | refine ba_via (by assumption) ?_ | (refine ba_set ?_ ?_ _; rotate_left; (first | omega | (simp; omega) | simp))))⟩
set_option maxRecDepth 100000 in
set_option maxHeartbeats 4000000 in
theorem check_one (b : Bar) (A : Option Addr) (n c : Nat) (B : Nat) (w : World) (hB : B ≤ w.heap.size) (hA : BarAt w B A n b) (h : S.bar b = true) (h1 : (S.legsOf b.code).length = 1) :
    Calls Try.prog 57 #[barV b A n c] w (GivesRow 79 2 (S.finds b).length ((S.finds b).flatMap (fC b.mark)) 0 w) := by
  have HA := Lib.hid hA
  have hl := legs_bd b.code (legs_sum h).2
  have hl6 := legs_len b.code
  have hac := arc_bd (bar_size h)
  have hsz := size_bd (bar_size h)
  have HLS := Lib.hid (show (S.legLens b).length = (S.legsOf b.code).length by simp [S.legLens])
  have HR := Lib.hid (fun w => sbend_yes b.size w (bar_size h))
  have HG := Lib.hid (show ∀ k, k < (S.legsOf b.code).length → ∃ n, (i64s (S.legLens b))[k]? = some (.int .i64 n) ∧ (S.legLens b)[k]? = some n ∧ 1 ≤ n ∧ n ≤ 262144 from fun k hk => by obtain ⟨n, a1, a2, a3, a4, _⟩ := lens_get b h hk; exact ⟨n, a1, a2, a3, a4⟩)
  have HFI := Lib.hid (show S.finds b = [] by simp [S.finds, h1])
  clear hA
  generalize S.radius b.size = R at *
  generalize hL : (S.legsOf b.code).length = L at *
  have HL := Lib.hid hL
  clear hL
  have e0 : IntKind.i64.wrap ((L : Int) - 1) = (L : Int) - 1 := IntWalk.i64_in _ (by omega)
  unfold barV
  subst h1
  go_enter Try.func57, Try.ntmps57
  go_wp2_with (first
    | (go_at_call 19; (with_reducible refine (legs_yesL b A n c B _ 1 HL.out (le_via hB (by repeat (first | exact Below.refl _ _ | assumption | refine ba_alloc ?_ _ | refine ba_drew ?_ | refine ba_drewN ?_ _ | refine ba_via (by assumption) ?_ | (refine ba_set ?_ ?_ _; rotate_left; (first | omega | (simp; omega) | simp))))) (BarAt.at_ HA.out hB (by repeat (first | exact Below.refl _ _ | assumption | refine ba_alloc ?_ _ | refine ba_drew ?_ | refine ba_drewN ?_ _ | refine ba_via (by assumption) ?_ | (refine ba_set ?_ ?_ _; rotate_left; (first | omega | (simp; omega) | simp))))) h).mono ?_); rintro e w1 ⟨Aw1, cw1, rfl, how1, hbw1⟩; obtain ⟨hcw1, hfw1⟩ := bcell hbw1; have hzw1_0 : w.heap.size < w1.heap.size := lt_via hbw1 (by first | omega | (simp; done) | (simp; omega)))
    | (go_at_call 40; (with_reducible refine (HR.out _).mono ?_); rintro e w2 ⟨rfl, hbw2⟩; obtain ⟨hcw2, hfw2⟩ := bcell hbw2; have hzw2_0 : w.heap.size < w2.heap.size := lt_via hbw2 (by first | omega | (simp; done) | (simp; omega))))
  go_ret2
  rw [HFI.out]
  exact ⟨none, 0, rfl, World.ownsRow_nil _ _ _ _, (by repeat (first | exact Below.refl _ _ | assumption | refine ba_alloc ?_ _ | refine ba_drew ?_ | refine ba_drewN ?_ _ | refine ba_via (by assumption) ?_ | (refine ba_set ?_ ?_ _; rotate_left; (first | omega | (simp; omega) | simp))))⟩
set_option maxRecDepth 100000 in
set_option maxHeartbeats 4000000 in
theorem check_many (b : Bar) (A : Option Addr) (n c : Nat) (B : Nat) (w : World) (hB : B ≤ w.heap.size) (hA : BarAt w B A n b) (h : S.bar b = true) (h1 : ¬(S.legsOf b.code).length = 1) :
    Calls Try.prog 57 #[barV b A n c] w (GivesRow 79 2 (S.finds b).length ((S.finds b).flatMap (fC b.mark)) 0 w) := by
  have HA := Lib.hid hA
  have hl := legs_bd b.code (legs_sum h).2
  have hl6 := legs_len b.code
  have hac := arc_bd (bar_size h)
  have hsz := size_bd (bar_size h)
  have HLS := Lib.hid (show (S.legLens b).length = (S.legsOf b.code).length by simp [S.legLens])
  have HR := Lib.hid (fun w => sbend_yes b.size w (bar_size h))
  have HG := Lib.hid (show ∀ k, k < (S.legsOf b.code).length → ∃ n, (i64s (S.legLens b))[k]? = some (.int .i64 n) ∧ (S.legLens b)[k]? = some n ∧ 1 ≤ n ∧ n ≤ 262144 from fun k hk => by obtain ⟨n, a1, a2, a3, a4, _⟩ := lens_get b h hk; exact ⟨n, a1, a2, a3, a4⟩)
  have HFI := Lib.hid (show S.finds b = S.kindsTo (S.radius b.size) b.size (S.legLens b) (S.legsOf b.code).length by simp [S.finds, h1])
  clear hA
  generalize S.radius b.size = R at *
  generalize hL : (S.legsOf b.code).length = L at *
  have HL := Lib.hid hL
  clear hL
  have e0 : IntKind.i64.wrap ((L : Int) - 1) = (L : Int) - 1 := IntWalk.i64_in _ (by omega)
  unfold barV
  have g0 : ((L : Int) - 1 == 0) = false := by simp; omega
  have g1 : decide ((L : Int) < 2) = false := by simp; omega
  go_enter Try.func57, Try.ntmps57
  go_wp2_with (first
    | ((go_at_call 19; (with_reducible refine (legs_yesL b A n c B _ L HL.out (le_via hB (by repeat (first | exact Below.refl _ _ | assumption | refine ba_alloc ?_ _ | refine ba_drew ?_ | refine ba_drewN ?_ _ | refine ba_via (by assumption) ?_ | (refine ba_set ?_ ?_ _; rotate_left; (first | omega | (simp; omega) | simp))))) (BarAt.at_ HA.out hB (by repeat (first | exact Below.refl _ _ | assumption | refine ba_alloc ?_ _ | refine ba_drew ?_ | refine ba_drewN ?_ _ | refine ba_via (by assumption) ?_ | (refine ba_set ?_ ?_ _; rotate_left; (first | omega | (simp; omega) | simp))))) h).mono ?_); rintro e w1 ⟨Aw1, cw1, rfl, how1, hbw1⟩; obtain ⟨hcw1, hfw1⟩ := bcell hbw1; have hzw1_0 : w.heap.size < w1.heap.size := lt_via hbw1 (by first | omega | (simp; done) | (simp; omega)))
       obtain ⟨hs1, _, _⟩ := own_cells how1
       obtain ⟨b1, o1, rfl, hb1, _⟩ := hs1.at_ (by simp; have := HLS.out; omega))
    | (go_at_call 40; (with_reducible refine (HR.out _).mono ?_); rintro e w2 ⟨rfl, hbw2⟩; obtain ⟨hcw2, hfw2⟩ := bcell hbw2; have hzw2_0 : w.heap.size < w2.heap.size := lt_via hbw2 (by first | omega | (simp; done) | (simp; omega))))
  have hbw : Below w.heap.size w w2 := (by repeat (first | exact Below.refl _ _ | assumption | refine ba_alloc ?_ _ | refine ba_drew ?_ | refine ba_drewN ?_ _ | refine ba_via (by assumption) ?_ | (refine ba_set ?_ ?_ _; rotate_left; (first | omega | (simp; omega) | simp))))
  have hBR : Blk w2 w.heap.size 24 #[.string b.mark, .int .i64 b.size, .int .i64 b.count, .int .i64 b.code, .slice A n c] := ((Blk.new w _ _).via hbw1).via hbw2
  have hC1 := hs1.below hbw2
  have hbz : b1 < w2.heap.size := by have := hbw2.size; omega
  have e5 : IntKind.i64.wrap (5 * b.size) = 5 * b.size := IntWalk.i64_in _ (by omega)
  have e6 : IntKind.i64.wrap (R + 5 * b.size) = R + 5 * b.size := IntWalk.i64_in _ (by omega)
  have e7 : IntKind.i64.wrap (2 * R) = 2 * R := IntWalk.i64_in _ (by omega)
  have HSZ := Lib.hid (show w1.heap.size ≤ w2.heap.size from hbw2.size)
  clear how1 hcw1 hfw1 hcw2 hfw2
  go_loopw [8, 36] (fun v i wr => ∃ (k : Nat) (A3 : Option Addr) (c3 : Nat), k ≤ L ∧ i = .int .i64 k ∧ v = .slice A3 (S.kindsTo R b.size (S.legLens b) k).length c3 ∧ Row w2 wr none w.heap.size 79 2 (.slice A3 (S.kindsTo R b.size (S.legLens b) k).length c3) (S.kindsTo R b.size (S.legLens b) k).length ((S.kindsTo R b.size (S.legLens b) k).flatMap (fC b.mark)) ∧ Exc [] w2 wr) (fun _ i _ => L - (intOf i).toNat)
  case atStart => exact ⟨0, none, 0, Nat.zero_le _, rfl, rfl, Row.none_ _ _ _ _, Exc.refl _ _⟩
  case round =>
    obtain ⟨k, A3, c3, hk, rfl, rfl, hR, hX⟩ := hrel
    have hbx : Below w2.heap.size w2 wr := hX.below (Nat.le_refl _) (by simp)
    have hsx := hbx.size
    by_cases hlt : k < L
    · have hBr := hBR.via hbx
      have d0 := hBr.cell 0
      have d1 := hBr.cell 1
      simp only [List.getElem?_toArray, List.getElem?_cons_zero, List.getElem?_cons_succ] at d0 d1
      have hbl := hBr.lt
      have hbr : b1 < wr.heap.size := by omega
      obtain ⟨q, a1, a2, a3, a4⟩ := HG.out k (by have := HL.out; omega)
      have hck := (hC1.below (hbx.mono HSZ.out)).get a1
      have HK := Lib.hid (kindsTo_succ (r := R) (d := b.size) a2)
      have hkn := kindsTo_le R b.size (S.legLens b) k
      have hki : (k : Int) < (L : Int) := by omega
      have HLS' := Lib.hid (show (S.legLens b).length = L from HLS.out)
      generalize hKK : S.kindsTo R b.size (S.legLens b) k = Ks at *
      have HKK := Lib.hid hKK
      clear hKK a1 a2
      by_cases he : k = 0 ∨ k + 1 = L
      · have hd : ∀ (P : Prop), (((k : Int) == 0) = true → P) → (((k : Int) == 0) = false → ((k : Int) == (L : Int) - 1) = true → P) → P := fun P f1 f2 => by
          rcases he with he | he
          · exact f1 (by simp; omega)
          · by_cases h0 : k = 0
            · exact f1 (by simp; omega)
            · exact f2 (by simp; omega) (by simp; omega)
        by_cases hq : q < R + 5 * b.size
        · have hq' : decide (q < R + 5 * b.size) = true := by simpa using hq
          have HKL := Lib.hid (show S.kindL R b.size (S.legLens b).length k q = [1] by rw [HLS'.out]; simp [S.kindL, S.kind, he, hq])
          refine hd _ (fun f1 => ?_) (fun f1 f2 => ?_)
          all_goals (
            go_wp2_with (at_builtin; refine wpList_push rfl (.tmp 59) (.tmp 63) _ rfl elemF (hR.alloc _) (hX.alloc _) (by simp) hbw.size rfl wr.heap.size 1 1 [.int .i64 1, .string b.mark] rfl rfl ?_ (by simp [Value.oneCell']) (by unfold maxLen; omega) (by omega) ?_; (· intro j u hu; have := (Cells.newRow wr #[.int .i64 1, .string b.mark] 79 (0, 0)).get (k := j) (v := u) hu; simpa using this); intro v' w' hR' hX' hO')
            obtain ⟨A5, c5, rfl, _, _, _⟩ := own_form hR'.own
            go_roundw
            case rel =>
              refine ⟨k + 1, A5, c5, by omega, by go_num, ?_, ?_, hX'⟩
              · rw [HK.out, HKL.out]; simp
              · rw [HK.out, HKL.out]; simpa using hR'
            case measure => simp [intOf]; omega)
        · have hq' : decide (q < R + 5 * b.size) = false := by simpa using hq
          have HKL := Lib.hid (show S.kindL R b.size (S.legLens b).length k q = [] by rw [HLS'.out]; simp [S.kindL, S.kind, he, hq])
          refine hd _ (fun f1 => ?_) (fun f1 f2 => ?_)
          all_goals (
            go_wp2
            go_roundw
            case rel =>
              refine ⟨k + 1, A3, c3, by omega, by go_num, ?_, ?_, hX⟩
              · rw [HK.out, HKL.out]; simp
              · rw [HK.out, HKL.out]; simpa using hR
            case measure => simp [intOf]; omega)
      · have f1 : ((k : Int) == 0) = false := by simp; omega
        have f2 : ((k : Int) == (L : Int) - 1) = false := by simp; omega
        by_cases hq : q < 2 * R
        · have hq' : decide (q < 2 * R) = true := by simpa using hq
          have HKL := Lib.hid (show S.kindL R b.size (S.legLens b).length k q = [2] by rw [HLS'.out]; simp [S.kindL, S.kind, he, hq])
          all_goals (
            go_wp2_with (at_builtin; refine wpList_push rfl (.tmp 74) (.tmp 78) _ rfl elemF (hR.alloc _) (hX.alloc _) (by simp) hbw.size rfl wr.heap.size 1 1 [.int .i64 2, .string b.mark] rfl rfl ?_ (by simp [Value.oneCell']) (by unfold maxLen; omega) (by omega) ?_; (· intro j u hu; have := (Cells.newRow wr #[.int .i64 2, .string b.mark] 79 (0, 0)).get (k := j) (v := u) hu; simpa using this); intro v' w' hR' hX' hO')
            obtain ⟨A5, c5, rfl, _, _, _⟩ := own_form hR'.own
            go_roundw
            case rel =>
              refine ⟨k + 1, A5, c5, by omega, by go_num, ?_, ?_, hX'⟩
              · rw [HK.out, HKL.out]; simp
              · rw [HK.out, HKL.out]; simpa using hR'
            case measure => simp [intOf]; omega)
        · have hq' : decide (q < 2 * R) = false := by simpa using hq
          have HKL := Lib.hid (show S.kindL R b.size (S.legLens b).length k q = [] by rw [HLS'.out]; simp [S.kindL, S.kind, he, hq])
          all_goals (
            go_wp2
            go_roundw
            case rel =>
              refine ⟨k + 1, A3, c3, by omega, by go_num, ?_, ?_, hX⟩
              · rw [HK.out, HKL.out]; simp
              · rw [HK.out, HKL.out]; simpa using hR
            case measure => simp [intOf]; omega)
    · have hek : k = L := by omega
      subst hek
      go_wp2
      go_ret2
      rw [HFI.out]
      exact ⟨A3, c3, rfl, hR.own, ba_via hbx hbw⟩
theorem check_yes (b : Bar) (A : Option Addr) (n c : Nat) (B : Nat) (w : World) (hB : B ≤ w.heap.size) (hA : BarAt w B A n b) (h : S.bar b = true) :
    Calls Try.prog 57 #[barV b A n c] w (GivesRow 79 2 (S.finds b).length ((S.finds b).flatMap (fC b.mark)) 0 w) := by
  by_cases h1 : (S.legsOf b.code).length = 1
  · exact check_one b A n c B w hB hA h h1
  · exact check_many b A n c B w hB hA h h1
end Go.Proofs.Ytpjdepnbeendcaa
