/- The walk of AnchorMirrored (printed by tools/gen_mirr.py out of tools/mirr.txt). -/
import Derived.Test.YtiebbklljckbdaaMirror
import Derived.Test.YtiebbklljckbdaaLawEndsA
import Derived.Deep.RegionHeld3
set_option linter.unusedVariables false
set_option linter.unusedSimpArgs false
namespace Go.Proofs.Ytiebbklljckbdaa
open Go.RowKit
theorem own_kept {w w' : World} {base E size : Nat} {v : Value} {n : Nat} {xs : List Value} (h : w.ownsRow base E size v n xs) (hb : ∀ k, v.ownBlock = some k → w'.heap[k]? = w.heap[k]?) : w'.ownsRow base E size v n xs := by
  refine ⟨h.1, ?_⟩
  rcases h.2 with hn | ⟨g, cap, cur, rfl, hg, hh, rest⟩
  · exact .inl hn
  · exact .inr ⟨g, cap, cur, rfl, hg, by rw [hb g rfl]; exact hh, rest⟩
theorem own_via {w w' : World} {base E size : Nat} {v : Value} {n : Nat} {xs : List Value} (h : w.ownsRow base E size v n xs) (hb : Below w.heap.size w w') : w'.ownsRow base E size v n xs := own_kept h fun k hk => hb.block k (h.lt k hk).2
theorem own_set {w : World} {base E size : Nat} {v : Value} {n : Nat} {xs : List Value} (h : w.ownsRow base E size v n xs) {p : Addr} (hp : p.block < base) (u : Value) : (w.setCell p u).ownsRow base E size v n xs :=
  own_kept h fun k hk => Below.heap_setCell w p u k (by have := (h.lt k hk).1; omega)
def S.lens (r : Rule) (d : Int) : List Int := [S.length r d false false, S.length r d true false, S.length r d false true, S.length r d true true]
theorem lens_has (r : Rule) (d : Int) (p q : Bool) : S.has (S.lens r d) (S.length r d p q) = true := by
  cases p <;> cases q <;> simp [S.lens, S.has]
theorem given_sized {r : Rule} {m : Mem} {b : Bar} {xs : List Bx} (h : S.given r m b xs = 0) : S.sized r b.size = 0 := by
  have h1 := (given_zero h).1
  simp only [S.heads, Bool.and_eq_true] at h1
  exact sized_yes h1.1.1 (bar_size h1.2)
theorem Length_ok (r : Rule) (d : Int) (poor bent : Bool) (w : World) (h : S.sized r d = 0) : Calls Try.prog 12 #[ruleV r, .int .i64 d, .bool poor, .bool bent] w fun e w' => e = .returned (.tuple #[.int .i64 (S.length r d poor bent), .int .i64 0]) ∧ Below w.heap.size w w' := by
  have := Length_any r d poor bent w
  rw [h, show aLength r d poor bent = S.length r d poor bent by simp [aLength, h]] at this
  exact this
theorem mirrored_no (r : Rule) (m : Mem) (A : Option Addr) (n c : Nat) (A' : Option Addr) (n' c' : Nat) (b : Bar) (D : Option Addr) (dn dc : Nat) (L : Option Addr) (k kc : Nat) (xs : List Bx) (B : Nat) (w : World) (hB : B ≤ w.heap.size)
    (hA : EndsAt w B A n A' n' m D dn b L k xs) (hg : S.large m b k = true ∨ S.given r m b xs ≠ 0) :
    Calls Try.prog 9 #[ruleV r, memV m A n c A' n' c', barV b D dn dc, .slice L k kc] w fun e w' => e = .returned (.bool true) ∧ Below w.heap.size w w' := by
  have HA := Lib.hid hA
  have HLG := Lib.hid (fun (W : World) (hh : EndsAt W B A n A' n' m D dn b L k xs) => large_any m A n c A' n' c' b D dn dc L k kc W hh.sol.len hh.sol.len' hh.sol.max hh.sol.max' hh.name hh.bar.len hh.bar.max hh.bar.mark hh.max)
  clear hA
  cases ht : S.large m b k
  · have hg' : S.given r m b xs ≠ 0 := by
      rcases hg with h | h
      · rw [ht] at h; cases h
      · exact h
    have HE := Lib.hid (fun (W : World) (hw : B ≤ W.heap.size) (hh : EndsAt W B A n A' n' m D dn b L k xs) => aends_no r m A n c A' n' c' b D dn dc L k kc xs B W hw hh hg')
    rw [ht] at HLG
    generalize S.given r m b xs = G at *
    have hb : (G == 0) = false := by simpa using hg'
    have hb' : (G != 0) = true := by simp [bne, hb]
    clear hg hg' ht
    unfold ruleV memV barV at *
    go_enter Try.func9, Try.ntmps9
    go_wp2_with (first
      | (go_at_call 10; (with_reducible refine (awake_any _).mono ?_); rintro e w1 ⟨rfl, hbw1⟩; obtain ⟨hcw1, hfw1⟩ := bcell hbw1; have hzw1_0 : w.heap.size < w1.heap.size := lt_via hbw1 (by first | omega | (simp; done) | (simp; omega)); have hzw1_1 : w.heap.size + 1 < w1.heap.size := lt_via hbw1 (by first | omega | (simp; done) | (simp; omega)); have hzw1_2 : w.heap.size + 2 < w1.heap.size := lt_via hbw1 (by first | omega | (simp; done) | (simp; omega)))
      | (go_at_call 20; (with_reducible refine (HLG.out _ (EndsAt.at_ HA.out hB (by repeat (first | exact Below.refl _ _ | assumption | refine ba_alloc ?_ _ | refine ba_drew ?_ | refine ba_drewN ?_ _ | refine ba_via (by assumption) ?_ | (refine ba_set ?_ ?_ _; rotate_left; (first | omega | (simp; omega) | simp)))))).mono ?_); rintro e w2 ⟨rfl, hbw2⟩; obtain ⟨hcw2, hfw2⟩ := bcell hbw2; have hzw2_0 : w.heap.size < w2.heap.size := lt_via hbw2 (by first | omega | (simp; done) | (simp; omega)); have hzw2_1 : w.heap.size + 1 < w2.heap.size := lt_via hbw2 (by first | omega | (simp; done) | (simp; omega)); have hzw2_2 : w.heap.size + 2 < w2.heap.size := lt_via hbw2 (by first | omega | (simp; done) | (simp; omega)))
      | (go_at_call 26; (with_reducible refine (HE.out _ (size_via hB (by repeat (first | exact Below.refl _ _ | assumption | refine ba_alloc ?_ _ | refine ba_drew ?_ | refine ba_drewN ?_ _ | refine ba_via (by assumption) ?_ | (refine ba_set ?_ ?_ _; rotate_left; (first | omega | (simp; omega) | simp))))) (EndsAt.at_ HA.out hB (by repeat (first | exact Below.refl _ _ | assumption | refine ba_alloc ?_ _ | refine ba_drew ?_ | refine ba_drewN ?_ _ | refine ba_via (by assumption) ?_ | (refine ba_set ?_ ?_ _; rotate_left; (first | omega | (simp; omega) | simp)))))).mono ?_); rintro e w3 ⟨rfl, hbw3⟩; obtain ⟨hcw3, hfw3⟩ := bcell hbw3; have hzw3_0 : w.heap.size < w3.heap.size := lt_via hbw3 (by first | omega | (simp; done) | (simp; omega)); have hzw3_1 : w.heap.size + 1 < w3.heap.size := lt_via hbw3 (by first | omega | (simp; done) | (simp; omega)); have hzw3_2 : w.heap.size + 2 < w3.heap.size := lt_via hbw3 (by first | omega | (simp; done) | (simp; omega))))
    go_ret
    exact ⟨rfl, (by repeat (first | exact Below.refl _ _ | assumption | refine ba_alloc ?_ _ | refine ba_drew ?_ | refine ba_drewN ?_ _ | refine ba_via (by assumption) ?_ | (refine ba_set ?_ ?_ _; rotate_left; (first | omega | (simp; omega) | simp))))⟩
  · rw [ht] at HLG
    clear hg ht
    unfold ruleV memV barV at *
    go_enter Try.func9, Try.ntmps9
    go_wp2_with (first
      | (go_at_call 10; (with_reducible refine (awake_any _).mono ?_); rintro e w1 ⟨rfl, hbw1⟩; obtain ⟨hcw1, hfw1⟩ := bcell hbw1; have hzw1_0 : w.heap.size < w1.heap.size := lt_via hbw1 (by first | omega | (simp; done) | (simp; omega)); have hzw1_1 : w.heap.size + 1 < w1.heap.size := lt_via hbw1 (by first | omega | (simp; done) | (simp; omega)); have hzw1_2 : w.heap.size + 2 < w1.heap.size := lt_via hbw1 (by first | omega | (simp; done) | (simp; omega)))
      | (go_at_call 20; (with_reducible refine (HLG.out _ (EndsAt.at_ HA.out hB (by repeat (first | exact Below.refl _ _ | assumption | refine ba_alloc ?_ _ | refine ba_drew ?_ | refine ba_drewN ?_ _ | refine ba_via (by assumption) ?_ | (refine ba_set ?_ ?_ _; rotate_left; (first | omega | (simp; omega) | simp)))))).mono ?_); rintro e w2 ⟨rfl, hbw2⟩; obtain ⟨hcw2, hfw2⟩ := bcell hbw2; have hzw2_0 : w.heap.size < w2.heap.size := lt_via hbw2 (by first | omega | (simp; done) | (simp; omega)); have hzw2_1 : w.heap.size + 1 < w2.heap.size := lt_via hbw2 (by first | omega | (simp; done) | (simp; omega)); have hzw2_2 : w.heap.size + 2 < w2.heap.size := lt_via hbw2 (by first | omega | (simp; done) | (simp; omega))))
    go_ret
    exact ⟨rfl, (by repeat (first | exact Below.refl _ _ | assumption | refine ba_alloc ?_ _ | refine ba_drew ?_ | refine ba_drewN ?_ _ | refine ba_via (by assumption) ?_ | (refine ba_set ?_ ?_ _; rotate_left; (first | omega | (simp; omega) | simp))))⟩
set_option maxRecDepth 100000 in
set_option maxHeartbeats 8000000 in
theorem mirrored_yes (r : Rule) (m : Mem) (A : Option Addr) (n c : Nat) (A' : Option Addr) (n' c' : Nat) (b : Bar) (D : Option Addr) (dn dc : Nat) (L : Option Addr) (k kc : Nat) (xs : List Bx) (B : Nat) (w : World) (hB : B ≤ w.heap.size)
    (hA : EndsAt w B A n A' n' m D dn b L k xs) (hs : S.large m b k = false) (hg : S.given r m b xs = 0) :
    Calls Try.prog 9 #[ruleV r, memV m A n c A' n' c', barV b D dn dc, .slice L k kc] w fun e w' => e = .returned (.bool true) ∧ Below w.heap.size w w' := by
  have HA := Lib.hid hA
  have HLG := Lib.hid (fun (W : World) (hh : EndsAt W B A n A' n' m D dn b L k xs) => hs ▸ large_any m A n c A' n' c' b D dn dc L k kc W hh.sol.len hh.sol.len' hh.sol.max hh.sol.max' hh.name hh.bar.len hh.bar.max hh.bar.mark hh.max)
  obtain ⟨j, hj, hij⟩ := given_leg hg
  have HE := Lib.hid (fun (W : World) (hw : B ≤ W.heap.size) (hh : EndsAt W B A n A' n' m D dn b L k xs) => aends_yes r m A n c A' n' c' b D dn dc L k kc xs B W hw hh hg j hj hij)
  have hsz := given_sized hg
  have HLN := Lib.hid (fun (poor bent : Bool) (W : World) => Length_ok r b.size poor bent W hsz)
  obtain ⟨hm1, hm2, hm3, hm4⟩ := mirrored hg hj hij
  have HE2 := Lib.hid (fun (W : World) (A : Option Addr) (n c : Nat) (A' : Option Addr) (n' c' : Nat) (L : Option Addr) (k kc : Nat) (hh : EndsAt W W.heap.size A n A' n' (S.mapMem S.mirX m) D dn b L k (xs.map S.mirX)) =>
    (show Calls Try.prog 26 #[ruleV r, .agg #[.string m.name, .slice A n c, .slice A' n' c', .int .i64 m.cover, .int .i64 m.aggr, .int .i64 m.poker], barV b D dn dc, .slice L k kc] W fun e w' => e = .returned (.tuple #[.int .i64 (S.endLen r m b xs j (xs.getD j S.zbox).hi), .int .i64 (S.endLen r m b xs j (xs.getD j S.zbox).lo), .int .i64 0]) ∧ Below W.heap.size W w' from
      hm3 ▸ hm4 ▸ aends_yes r (S.mapMem S.mirX m) A n c A' n' c' b D dn dc L k kc (xs.map S.mirX) W.heap.size W (Nat.le_refl _) hh hm1 j (by simpa using hj) hm2))
  obtain ⟨g1, g2, g3, _⟩ := given_zero hg
  obtain ⟨hso, _⟩ := boxes_one g1
  have HOKX := Lib.hid (boxes_ok g2)
  have HOKB := Lib.hid (boxes_ok (solid_ok hso).1)
  have hcnt : m.boxes.length ≤ 20 ∧ m.holes.length ≤ 20 := by
    have := hso
    simp only [S.solid, Bool.and_eq_true, decide_eq_true_eq] at this
    omega
  have HOKH := Lib.hid (show ∀ x, x ∈ m.holes → S.boxOk x = true by
    have := hso
    simp only [S.solid, Bool.and_eq_true, Bool.not_eq_true'] at this
    intro x hx
    have h1 := this.2
    unfold anyb at h1
    rw [List.any_eq_false] at h1
    have h2 := h1 x hx
    simp only [S.thin, S.thick, Bool.not_eq_true', Bool.not_eq_false, Bool.and_eq_true] at h2
    exact h2.1.1.1)
  have hl6 := legs_len b.code
  have hlen := hA.len
  have hn := hA.sol.len
  have hn' := hA.sol.len'
  have hk6 : k ≤ 6 := by omega
  have hx1 : S.has (S.lens r b.size) (S.endLen r m b xs j (xs.getD j S.zbox).lo) = true := lens_has _ _ _ _
  have hx2 : S.has (S.lens r b.size) (S.endLen r m b xs j (xs.getD j S.zbox).hi) = true := lens_has _ _ _ _
  have HMB := Lib.hid (fun (W : World) (hw : B ≤ W.heap.size) (hh : EndsAt W B A n A' n' m D dn b L k xs) => mirror_any A n c m.boxes B W hw hh.sol.cells hn (by omega) HOKB.out)
  have HMH := Lib.hid (fun (W : World) (hw : B ≤ W.heap.size) (hh : EndsAt W B A n A' n' m D dn b L k xs) => mirror_any A' n' c' m.holes B W hw hh.sol.cells' hn' (by omega) HOKH.out)
  have HML := Lib.hid (fun (W : World) (hw : B ≤ W.heap.size) (hh : EndsAt W B A n A' n' m D dn b L k xs) => mirror_any L k kc xs B W hw hh.legs hlen (by omega) HOKX.out)
  have HX1 := Lib.hid (fun (A : Option Addr) (n c : Nat) (B : Nat) (w : World) (hn : (S.lens r b.size).length = n) (hm : n ≤ 9223372036854775807) (hs : Cells w B A (i64s (S.lens r b.size))) => hx1 ▸ contains_any A n c _ _ B w hn hm hs)
  have HX2 := Lib.hid (fun (A : Option Addr) (n c : Nat) (B : Nat) (w : World) (hn : (S.lens r b.size).length = n) (hm : n ≤ 9223372036854775807) (hs : Cells w B A (i64s (S.lens r b.size))) => hx2 ▸ contains_any A n c _ _ B w hn hm hs)
  have HLL := Lib.hid (show (S.lens r b.size).length = 4 from rfl)
  have HFN := Try.call34
  clear hA hg hs hij hsz hm1 hm2 hm3 hm4 hx1 hx2 g1 g2 hso
  generalize S.endLen r m b xs j (xs.getD j S.zbox).lo = p at *
  generalize S.endLen r m b xs j (xs.getD j S.zbox).hi = q at *
  unfold memV barV ruleV at *
  go_enter Try.func9, Try.ntmps9
  go_wp2_with (first
    | (go_at_call 10; (with_reducible refine (awake_any _).mono ?_); rintro e w1 ⟨rfl, hbw1⟩; obtain ⟨hcw1, hfw1⟩ := bcell hbw1; have hzw1_0 : w.heap.size < w1.heap.size := lt_via hbw1 (by first | omega | (simp; done) | (simp; omega)); have hzw1_1 : w.heap.size + 1 < w1.heap.size := lt_via hbw1 (by first | omega | (simp; done) | (simp; omega)); have hzw1_2 : w.heap.size + 2 < w1.heap.size := lt_via hbw1 (by first | omega | (simp; done) | (simp; omega)))
    | (go_at_call 20; (with_reducible refine (HLG.out _ (EndsAt.at_ HA.out hB (by repeat (first | exact Below.refl _ _ | assumption | refine ba_alloc ?_ _ | refine ba_drew ?_ | refine ba_drewN ?_ _ | refine ba_via (by assumption) ?_ | (refine ba_set ?_ ?_ _; rotate_left; (first | omega | (simp; omega) | simp)))))).mono ?_); rintro e w2 ⟨rfl, hbw2⟩; obtain ⟨hcw2, hfw2⟩ := bcell hbw2; have hzw2_0 : w.heap.size < w2.heap.size := lt_via hbw2 (by first | omega | (simp; done) | (simp; omega)); have hzw2_1 : w.heap.size + 1 < w2.heap.size := lt_via hbw2 (by first | omega | (simp; done) | (simp; omega)); have hzw2_2 : w.heap.size + 2 < w2.heap.size := lt_via hbw2 (by first | omega | (simp; done) | (simp; omega)))
    | (go_at_call 26; (with_reducible refine (HE.out _ (size_via hB (by repeat (first | exact Below.refl _ _ | assumption | refine ba_alloc ?_ _ | refine ba_drew ?_ | refine ba_drewN ?_ _ | refine ba_via (by assumption) ?_ | (refine ba_set ?_ ?_ _; rotate_left; (first | omega | (simp; omega) | simp))))) (EndsAt.at_ HA.out hB (by repeat (first | exact Below.refl _ _ | assumption | refine ba_alloc ?_ _ | refine ba_drew ?_ | refine ba_drewN ?_ _ | refine ba_via (by assumption) ?_ | (refine ba_set ?_ ?_ _; rotate_left; (first | omega | (simp; omega) | simp)))))).mono ?_); rintro e w3 ⟨rfl, hbw3⟩; obtain ⟨hcw3, hfw3⟩ := bcell hbw3; have hzw3_0 : w.heap.size < w3.heap.size := lt_via hbw3 (by first | omega | (simp; done) | (simp; omega)); have hzw3_1 : w.heap.size + 1 < w3.heap.size := lt_via hbw3 (by first | omega | (simp; done) | (simp; omega)); have hzw3_2 : w.heap.size + 2 < w3.heap.size := lt_via hbw3 (by first | omega | (simp; done) | (simp; omega))))
  have hW3 : Below w.heap.size w w3 := (by repeat (first | exact Below.refl _ _ | assumption | refine ba_alloc ?_ _ | refine ba_drew ?_ | refine ba_drewN ?_ _ | refine ba_via (by assumption) ?_ | (refine ba_set ?_ ?_ _; rotate_left; (first | omega | (simp; omega) | simp))))
  have hb0r : Blk (((w.alloc (.cells #[.int .i64 r.num, .int .i64 r.den, .int .i64 r.pnum, .int .i64 r.pden, .int .i64 r.bnum, .int .i64 r.bden, .int .i64 r.lnum, .int .i64 r.lden, .int .i64 r.least] 23)).alloc (.cells #[.string m.name, .slice A n c, .slice A' n' c', .int .i64 m.cover, .int .i64 m.aggr, .int .i64 m.poker] 48)).alloc (.cells #[.string b.mark, .int .i64 b.size, .int .i64 b.count, .int .i64 b.code, .slice D dn dc] 55)) w.heap.size 23 #[.int .i64 r.num, .int .i64 r.den, .int .i64 r.pnum, .int .i64 r.pden, .int .i64 r.bnum, .int .i64 r.bden, .int .i64 r.lnum, .int .i64 r.lden, .int .i64 r.least] := ((Blk.new w _ _).alloc _).alloc _
  have hb0m : Blk (((w.alloc (.cells #[.int .i64 r.num, .int .i64 r.den, .int .i64 r.pnum, .int .i64 r.pden, .int .i64 r.bnum, .int .i64 r.bden, .int .i64 r.lnum, .int .i64 r.lden, .int .i64 r.least] 23)).alloc (.cells #[.string m.name, .slice A n c, .slice A' n' c', .int .i64 m.cover, .int .i64 m.aggr, .int .i64 m.poker] 48)).alloc (.cells #[.string b.mark, .int .i64 b.size, .int .i64 b.count, .int .i64 b.code, .slice D dn dc] 55)) (w.heap.size + 1) 48 #[.string m.name, .slice A n c, .slice A' n' c', .int .i64 m.cover, .int .i64 m.aggr, .int .i64 m.poker] := by simpa using (Blk.new (w.alloc (.cells #[.int .i64 r.num, .int .i64 r.den, .int .i64 r.pnum, .int .i64 r.pden, .int .i64 r.bnum, .int .i64 r.bden, .int .i64 r.lnum, .int .i64 r.lden, .int .i64 r.least] 23)) 48 #[.string m.name, .slice A n c, .slice A' n' c', .int .i64 m.cover, .int .i64 m.aggr, .int .i64 m.poker]).alloc (.cells #[.string b.mark, .int .i64 b.size, .int .i64 b.count, .int .i64 b.code, .slice D dn dc] 55)
  have hb0b : Blk (((w.alloc (.cells #[.int .i64 r.num, .int .i64 r.den, .int .i64 r.pnum, .int .i64 r.pden, .int .i64 r.bnum, .int .i64 r.bden, .int .i64 r.lnum, .int .i64 r.lden, .int .i64 r.least] 23)).alloc (.cells #[.string m.name, .slice A n c, .slice A' n' c', .int .i64 m.cover, .int .i64 m.aggr, .int .i64 m.poker] 48)).alloc (.cells #[.string b.mark, .int .i64 b.size, .int .i64 b.count, .int .i64 b.code, .slice D dn dc] 55)) (w.heap.size + 1 + 1) 55 #[.string b.mark, .int .i64 b.size, .int .i64 b.count, .int .i64 b.code, .slice D dn dc] := by simpa using Blk.new ((w.alloc (.cells #[.int .i64 r.num, .int .i64 r.den, .int .i64 r.pnum, .int .i64 r.pden, .int .i64 r.bnum, .int .i64 r.bden, .int .i64 r.lnum, .int .i64 r.lden, .int .i64 r.least] 23)).alloc (.cells #[.string m.name, .slice A n c, .slice A' n' c', .int .i64 m.cover, .int .i64 m.aggr, .int .i64 m.poker] 48)) 55 #[.string b.mark, .int .i64 b.size, .int .i64 b.count, .int .i64 b.code, .slice D dn dc]
  have HBR := Lib.hid (((hb0r.via hbw1).via hbw2).via hbw3)
  have HBM := Lib.hid (((hb0m.via hbw1).via hbw2).via hbw3)
  have HBB := Lib.hid (((hb0b.via hbw1).via hbw2).via hbw3)
  clear hb0r hb0m hb0b hcw1 hfw1 hcw2 hfw2 hcw3 hfw3 hbw1 hbw2 hbw3
  have ix0 : ∀ W, (Instr.index 36 (.agg #[.bool false, .bool false, .bool true, .bool false, .bool false, .bool true, .bool true, .bool true]) (.int .i64 0)).run Try.prog W = .ok (.agg #[.bool false, .bool false]) W := fun _ => by kernel_rfl
  have ix1 : ∀ W, (Instr.index 36 (.agg #[.bool false, .bool false, .bool true, .bool false, .bool false, .bool true, .bool true, .bool true]) (.int .i64 1)).run Try.prog W = .ok (.agg #[.bool true, .bool false]) W := fun _ => by kernel_rfl
  have ix2 : ∀ W, (Instr.index 36 (.agg #[.bool false, .bool false, .bool true, .bool false, .bool false, .bool true, .bool true, .bool true]) (.int .i64 2)).run Try.prog W = .ok (.agg #[.bool false, .bool true]) W := fun _ => by kernel_rfl
  have ix3 : ∀ W, (Instr.index 36 (.agg #[.bool false, .bool false, .bool true, .bool false, .bool false, .bool true, .bool true, .bool true]) (.int .i64 3)).run Try.prog W = .ok (.agg #[.bool true, .bool true]) W := fun _ => by kernel_rfl
  go_loopw [12, 50] (fun v i wr => ∃ (q : Nat) (A3 : Option Addr) (c3 : Nat), q ≤ 4 ∧ i = .int .i64 q ∧ v = .slice A3 q c3 ∧ Row w3 wr none w3.heap.size 3 1 (.slice A3 q c3) q (i64s ((S.lens r b.size).take q)) ∧ Exc [] w3 wr) (fun _ i _ => 4 - (intOf i).toNat)
  case atStart => exact ⟨0, none, 0, Nat.zero_le _, rfl, rfl, Row.none_ _ _ _ _, Exc.refl _ _⟩
  case round =>
    obtain ⟨q, A3, c3, hq, rfl, rfl, hR, hX⟩ := hrel
    have hbx : Below w3.heap.size w3 wr := hX.below (Nat.le_refl _) (by simp)
    have hbr := HBR.out.via hbx
    have hbm := HBM.out.via hbx
    have hbb := HBB.out.via hbx
    have x0 := hbr.cell 0
    have x1 := hbr.cell 1
    have x2 := hbr.cell 2
    have x3 := hbr.cell 3
    have x4 := hbr.cell 4
    have x5 := hbr.cell 5
    have x6 := hbr.cell 6
    have x7 := hbr.cell 7
    have x8 := hbr.cell 8
    simp only [List.getElem?_toArray, List.getElem?_cons_zero, List.getElem?_cons_succ] at x0 x1 x2 x3 x4 x5 x6 x7 x8
    have y0 := hbm.cell 0
    have y1 := hbm.cell 1
    have y2 := hbm.cell 2
    have y3 := hbm.cell 3
    have y4 := hbm.cell 4
    have y5 := hbm.cell 5
    simp only [List.getElem?_toArray, List.getElem?_cons_zero, List.getElem?_cons_succ] at y0 y1 y2 y3 y4 y5
    have z0 := hbb.cell 0
    have z1 := hbb.cell 1
    have z2 := hbb.cell 2
    have z3 := hbb.cell 3
    have z4 := hbb.cell 4
    simp only [List.getElem?_toArray, List.getElem?_cons_zero, List.getElem?_cons_succ] at z0 z1 z2 z3 z4
    have lr := hbr.lt
    have lm := hbm.lt
    have lb := hbb.lt
    by_cases hlt : q < 4
    · clear hbr hbm hbb
      have hcase : q = 0 ∨ q = 1 ∨ q = 2 ∨ q = 3 := by omega
      rcases hcase with rfl | rfl | rfl | rfl
      · have hR0 : Row w3 wr none w3.heap.size 3 1 (.slice A3 0 c3) 0 (i64s ((S.lens r b.size).take 0)) := hR
        go_wp2_with (first
          | (go_at_call 12; (with_reducible refine (HLN.out _ _ _).mono ?_); rintro e w4 ⟨rfl, hbw4⟩; obtain ⟨hcw4, hfw4⟩ := bcell hbw4; have hzw4_0 : w.heap.size < w4.heap.size := lt_via hbw4 (by first | omega | (simp; done) | (simp; omega)); have hzw4_1 : w.heap.size + 1 < w4.heap.size := lt_via hbw4 (by first | omega | (simp; done) | (simp; omega)); have hzw4_2 : w.heap.size + 2 < w4.heap.size := lt_via hbw4 (by first | omega | (simp; done) | (simp; omega)))
          | (at_builtin; refine wpList_push rfl (.tmp 66) (.tmp 68) _ rfl elemInt (((hR0.alloc _).via hbw4).alloc (.cells #[.int .i64 (S.length r b.size false false)] 3)) ((Exc.via hbw4 (hX.alloc _)).alloc (.cells #[.int .i64 (S.length r b.size false false)] 3)) (by simp) (Nat.le_refl _) rfl (w4.heap.size) 1 1 [.int .i64 (S.length r b.size false false)] rfl rfl ?_ (by simp [Value.oneCell']) (by unfold maxLen; omega) (by omega) ?_; (· intro j u hu; exact blk_get (Blk.new w4 3 #[.int .i64 (S.length r b.size false false)]) hu); intro v' w' hR' hX' hO'; clear hcw4 hfw4))
        obtain ⟨A5, c5, rfl, _, _, _⟩ := own_form hR'.own
        go_roundw
        case rel => exact ⟨1, A5, c5, by omega, by go_num, rfl, hR', hX'⟩
        case measure => simp [intOf]
      · have hR0 : Row w3 wr none w3.heap.size 3 1 (.slice A3 1 c3) 1 (i64s ((S.lens r b.size).take 1)) := hR
        go_wp2_with (first
          | (go_at_call 12; (with_reducible refine (HLN.out _ _ _).mono ?_); rintro e w4 ⟨rfl, hbw4⟩; obtain ⟨hcw4, hfw4⟩ := bcell hbw4; have hzw4_0 : w.heap.size < w4.heap.size := lt_via hbw4 (by first | omega | (simp; done) | (simp; omega)); have hzw4_1 : w.heap.size + 1 < w4.heap.size := lt_via hbw4 (by first | omega | (simp; done) | (simp; omega)); have hzw4_2 : w.heap.size + 2 < w4.heap.size := lt_via hbw4 (by first | omega | (simp; done) | (simp; omega)))
          | (at_builtin; refine wpList_push rfl (.tmp 66) (.tmp 68) _ rfl elemInt (((hR0.alloc _).via hbw4).alloc (.cells #[.int .i64 (S.length r b.size true false)] 3)) ((Exc.via hbw4 (hX.alloc _)).alloc (.cells #[.int .i64 (S.length r b.size true false)] 3)) (by simp) (Nat.le_refl _) rfl (w4.heap.size) 1 1 [.int .i64 (S.length r b.size true false)] rfl rfl ?_ (by simp [Value.oneCell']) (by unfold maxLen; omega) (by omega) ?_; (· intro j u hu; exact blk_get (Blk.new w4 3 #[.int .i64 (S.length r b.size true false)]) hu); intro v' w' hR' hX' hO'; clear hcw4 hfw4))
        obtain ⟨A5, c5, rfl, _, _, _⟩ := own_form hR'.own
        go_roundw
        case rel => exact ⟨2, A5, c5, by omega, by go_num, rfl, hR', hX'⟩
        case measure => simp [intOf]
      · have hR0 : Row w3 wr none w3.heap.size 3 1 (.slice A3 2 c3) 2 (i64s ((S.lens r b.size).take 2)) := hR
        go_wp2_with (first
          | (go_at_call 12; (with_reducible refine (HLN.out _ _ _).mono ?_); rintro e w4 ⟨rfl, hbw4⟩; obtain ⟨hcw4, hfw4⟩ := bcell hbw4; have hzw4_0 : w.heap.size < w4.heap.size := lt_via hbw4 (by first | omega | (simp; done) | (simp; omega)); have hzw4_1 : w.heap.size + 1 < w4.heap.size := lt_via hbw4 (by first | omega | (simp; done) | (simp; omega)); have hzw4_2 : w.heap.size + 2 < w4.heap.size := lt_via hbw4 (by first | omega | (simp; done) | (simp; omega)))
          | (at_builtin; refine wpList_push rfl (.tmp 66) (.tmp 68) _ rfl elemInt (((hR0.alloc _).via hbw4).alloc (.cells #[.int .i64 (S.length r b.size false true)] 3)) ((Exc.via hbw4 (hX.alloc _)).alloc (.cells #[.int .i64 (S.length r b.size false true)] 3)) (by simp) (Nat.le_refl _) rfl (w4.heap.size) 1 1 [.int .i64 (S.length r b.size false true)] rfl rfl ?_ (by simp [Value.oneCell']) (by unfold maxLen; omega) (by omega) ?_; (· intro j u hu; exact blk_get (Blk.new w4 3 #[.int .i64 (S.length r b.size false true)]) hu); intro v' w' hR' hX' hO'; clear hcw4 hfw4))
        obtain ⟨A5, c5, rfl, _, _, _⟩ := own_form hR'.own
        go_roundw
        case rel => exact ⟨3, A5, c5, by omega, by go_num, rfl, hR', hX'⟩
        case measure => simp [intOf]
      · have hR0 : Row w3 wr none w3.heap.size 3 1 (.slice A3 3 c3) 3 (i64s ((S.lens r b.size).take 3)) := hR
        go_wp2_with (first
          | (go_at_call 12; (with_reducible refine (HLN.out _ _ _).mono ?_); rintro e w4 ⟨rfl, hbw4⟩; obtain ⟨hcw4, hfw4⟩ := bcell hbw4; have hzw4_0 : w.heap.size < w4.heap.size := lt_via hbw4 (by first | omega | (simp; done) | (simp; omega)); have hzw4_1 : w.heap.size + 1 < w4.heap.size := lt_via hbw4 (by first | omega | (simp; done) | (simp; omega)); have hzw4_2 : w.heap.size + 2 < w4.heap.size := lt_via hbw4 (by first | omega | (simp; done) | (simp; omega)))
          | (at_builtin; refine wpList_push rfl (.tmp 66) (.tmp 68) _ rfl elemInt (((hR0.alloc _).via hbw4).alloc (.cells #[.int .i64 (S.length r b.size true true)] 3)) ((Exc.via hbw4 (hX.alloc _)).alloc (.cells #[.int .i64 (S.length r b.size true true)] 3)) (by simp) (Nat.le_refl _) rfl (w4.heap.size) 1 1 [.int .i64 (S.length r b.size true true)] rfl rfl ?_ (by simp [Value.oneCell']) (by unfold maxLen; omega) (by omega) ?_; (· intro j u hu; exact blk_get (Blk.new w4 3 #[.int .i64 (S.length r b.size true true)]) hu); intro v' w' hR' hX' hO'; clear hcw4 hfw4))
        obtain ⟨A5, c5, rfl, _, _, _⟩ := own_form hR'.own
        go_roundw
        case rel => exact ⟨4, A5, c5, by omega, by go_num, rfl, hR', hX'⟩
        case measure => simp [intOf]
    · have hq4 : q = 4 := by omega
      subst hq4
      clear ix0 ix1 ix2 ix3
      obtain ⟨hcl0, _, _⟩ := own_cells hR.own
      have hcl : Cells wr wr.heap.size A3 (i64s (S.lens r b.size)) := hcl0
      have HBR2 := Lib.hid hbr
      have HBM2 := Lib.hid hbm
      have HBB2 := Lib.hid hbb
      clear hbr hbm hbb
      have hbelr : Below w.heap.size w wr := ba_via hbx hW3
      go_wp2_with (first
        | (go_at_call 33; (with_reducible refine (HX1.out A3 4 c3 wr.heap.size wr HLL.out (by omega) hcl).mono ?_); rintro e w' ⟨rfl, rfl⟩)
        | (go_at_call 33; (with_reducible refine (HX2.out A3 4 c3 wr.heap.size wr HLL.out (by omega) hcl).mono ?_); rintro e w' ⟨rfl, rfl⟩))
      have hn0 : Blk (wr.alloc (.cells #[.string m.name, .slice A n c, .slice A' n' c', .int .i64 m.cover, .int .i64 m.aggr, .int .i64 m.poker] 48)) wr.heap.size 48 #[.string m.name, .slice A n c, .slice A' n' c', .int .i64 m.cover, .int .i64 m.aggr, .int .i64 m.poker] := Blk.new _ _ _
      have hW21 : Below w.heap.size w (wr.alloc (.cells #[.string m.name, .slice A n c, .slice A' n' c', .int .i64 m.cover, .int .i64 m.aggr, .int .i64 m.poker] 48)) := ba_alloc hbelr _
      have HR1 := Lib.hid (HBR2.out.alloc (.cells #[.string m.name, .slice A n c, .slice A' n' c', .int .i64 m.cover, .int .i64 m.aggr, .int .i64 m.poker] 48))
      have HM1 := Lib.hid (HBM2.out.alloc (.cells #[.string m.name, .slice A n c, .slice A' n' c', .int .i64 m.cover, .int .i64 m.aggr, .int .i64 m.poker] 48))
      have HB1 := Lib.hid (HBB2.out.alloc (.cells #[.string m.name, .slice A n c, .slice A' n' c', .int .i64 m.cover, .int .i64 m.aggr, .int .i64 m.poker] 48))
      have HN1 := Lib.hid hn0
      clear hn0 x0 x1 x2 x3 x4 x5 x6 x7 x8 y0 y1 y2 y3 y4 y5 z0 z1 z2 z3 z4 hcl hcl0
      generalize wr.alloc (.cells #[.string m.name, .slice A n c, .slice A' n' c', .int .i64 m.cover, .int .i64 m.aggr, .int .i64 m.poker] 48) = W21 at *
      have hma : Blk W21 (w.heap.size + 1) 48 #[.string m.name, .slice A n c, .slice A' n' c', .int .i64 m.cover, .int .i64 m.aggr, .int .i64 m.poker] := HM1.out
      have ma0 := hma.cell 0
      have ma1 := hma.cell 1
      have ma2 := hma.cell 2
      have ma3 := hma.cell 3
      have ma4 := hma.cell 4
      have ma5 := hma.cell 5
      simp only [List.getElem?_toArray, List.getElem?_cons_zero, List.getElem?_cons_succ] at ma0 ma1 ma2 ma3 ma4 ma5
      have hna : Blk W21 wr.heap.size 48 #[.string m.name, .slice A n c, .slice A' n' c', .int .i64 m.cover, .int .i64 m.aggr, .int .i64 m.poker] := HN1.out
      have na0 := hna.cell 0
      have na1 := hna.cell 1
      have na2 := hna.cell 2
      have na3 := hna.cell 3
      have na4 := hna.cell 4
      have na5 := hna.cell 5
      have fan0 := hna.frozen 0
      have fan1 := hna.frozen 1
      have fan2 := hna.frozen 2
      have fan3 := hna.frozen 3
      have fan4 := hna.frozen 4
      have fan5 := hna.frozen 5
      simp only [List.getElem?_toArray, List.getElem?_cons_zero, List.getElem?_cons_succ] at na0 na1 na2 na3 na4 na5
      go_region_held3 (fun W' => W'.cell? ⟨w.heap.size + 1, 1, none⟩ = some (.slice A n c) ∧ W'.cell? ⟨w.heap.size + 1, 2, none⟩ = some (.slice A' n' c')) (first | exact ⟨ma1, ma2⟩ | exact ⟨mc1, mc2⟩ | exact ⟨md1, md2⟩ | exact ⟨((hmd.far (by simp; omega) _).far (by simp; omega) _).cell 1, ((hmd.far (by simp; omega) _).far (by simp; omega) _).cell 2⟩) (first
        | (go_at_call 34; (with_reducible refine (HMB.out _ (size_via hB (by repeat (first | exact Below.refl _ _ | assumption | refine ba_alloc ?_ _ | refine ba_drew ?_ | refine ba_drewN ?_ _ | refine ba_via (by assumption) ?_ | (refine ba_set ?_ ?_ _; rotate_left; (first | omega | (simp; omega) | simp))))) (HA.out.at_ hB (by repeat (first | exact Below.refl _ _ | assumption | refine ba_alloc ?_ _ | refine ba_drew ?_ | refine ba_drewN ?_ _ | refine ba_via (by assumption) ?_ | (refine ba_set ?_ ?_ _; rotate_left; (first | omega | (simp; omega) | simp)))))).mono ?_); rintro e wA ⟨AA, cA, rfl, hoA, hbA⟩
           have hmc : Blk wA (w.heap.size + 1) 48 #[.string m.name, .slice A n c, .slice A' n' c', .int .i64 m.cover, .int .i64 m.aggr, .int .i64 m.poker] := Blk.via (by exact hma) hbA
           have mc0 := hmc.cell 0
           have mc1 := hmc.cell 1
           have mc2 := hmc.cell 2
           have mc3 := hmc.cell 3
           have mc4 := hmc.cell 4
           have mc5 := hmc.cell 5
           simp only [List.getElem?_toArray, List.getElem?_cons_zero, List.getElem?_cons_succ] at mc0 mc1 mc2 mc3 mc4 mc5
           have hnc : Blk wA wr.heap.size 48 #[.string m.name, .slice A n c, .slice A' n' c', .int .i64 m.cover, .int .i64 m.aggr, .int .i64 m.poker] := Blk.via (by exact hna) hbA
           have nc0 := hnc.cell 0
           have nc1 := hnc.cell 1
           have nc2 := hnc.cell 2
           have nc3 := hnc.cell 3
           have nc4 := hnc.cell 4
           have nc5 := hnc.cell 5
           have fcn0 := hnc.frozen 0
           have fcn1 := hnc.frozen 1
           have fcn2 := hnc.frozen 2
           have fcn3 := hnc.frozen 3
           have fcn4 := hnc.frozen 4
           have fcn5 := hnc.frozen 5
           simp only [List.getElem?_toArray, List.getElem?_cons_zero, List.getElem?_cons_succ] at nc0 nc1 nc2 nc3 nc4 nc5)
        | (go_at_call 34; (with_reducible refine (HMH.out _ (size_via hB (by repeat (first | exact Below.refl _ _ | assumption | refine ba_alloc ?_ _ | refine ba_drew ?_ | refine ba_drewN ?_ _ | refine ba_via (by assumption) ?_ | (refine ba_set ?_ ?_ _; rotate_left; (first | omega | (simp; omega) | simp))))) (HA.out.at_ hB (by repeat (first | exact Below.refl _ _ | assumption | refine ba_alloc ?_ _ | refine ba_drew ?_ | refine ba_drewN ?_ _ | refine ba_via (by assumption) ?_ | (refine ba_set ?_ ?_ _; rotate_left; (first | omega | (simp; omega) | simp)))))).mono ?_); rintro e wB ⟨AB, cB, rfl, hoB, hbB⟩
           have hmd : Blk wB (w.heap.size + 1) 48 #[.string m.name, .slice A n c, .slice A' n' c', .int .i64 m.cover, .int .i64 m.aggr, .int .i64 m.poker] := Blk.via (by exact hmc) hbB
           have md0 := hmd.cell 0
           have md1 := hmd.cell 1
           have md2 := hmd.cell 2
           have md3 := hmd.cell 3
           have md4 := hmd.cell 4
           have md5 := hmd.cell 5
           simp only [List.getElem?_toArray, List.getElem?_cons_zero, List.getElem?_cons_succ] at md0 md1 md2 md3 md4 md5
           have hnd : Blk wB wr.heap.size 48 #[.string m.name, .slice A n c, .slice A' n' c', .int .i64 m.cover, .int .i64 m.aggr, .int .i64 m.poker] := Blk.via (by exact hnc) hbB
           have nd0 := hnd.cell 0
           have nd1 := hnd.cell 1
           have nd2 := hnd.cell 2
           have nd3 := hnd.cell 3
           have nd4 := hnd.cell 4
           have nd5 := hnd.cell 5
           have fdn0 := hnd.frozen 0
           have fdn1 := hnd.frozen 1
           have fdn2 := hnd.frozen 2
           have fdn3 := hnd.frozen 3
           have fdn4 := hnd.frozen 4
           have fdn5 := hnd.frozen 5
           simp only [List.getElem?_toArray, List.getElem?_cons_zero, List.getElem?_cons_succ] at nd0 nd1 nd2 nd3 nd4 nd5))
      all_goals go_wp2
      all_goals (
        have hn22 : Blk ((wB.setCell ⟨wr.heap.size, 1, none⟩ (.slice AA n cA)).setCell ⟨wr.heap.size, 2, none⟩ (.slice AB n' cB)) wr.heap.size 48 #[.string m.name, .slice AA n cA, .slice AB n' cB, .int .i64 m.cover, .int .i64 m.aggr, .int .i64 m.poker] := by
          have h := (hnd.set 1 (.slice AA n cA)).set 2 (.slice AB n' cB)
          simp only [List.setIfInBounds_toArray, List.set_cons_zero, List.set_cons_succ] at h
          exact h
        have hr22 : Blk ((wB.setCell ⟨wr.heap.size, 1, none⟩ (.slice AA n cA)).setCell ⟨wr.heap.size, 2, none⟩ (.slice AB n' cB)) w.heap.size 23 #[.int .i64 r.num, .int .i64 r.den, .int .i64 r.pnum, .int .i64 r.pden, .int .i64 r.bnum, .int .i64 r.bden, .int .i64 r.lnum, .int .i64 r.lden, .int .i64 r.least] := ((Blk.via (Blk.via (by exact HR1.out) hbA) hbB).far (by simp; omega) _).far (by simp; omega) _
        have hb22 : Blk ((wB.setCell ⟨wr.heap.size, 1, none⟩ (.slice AA n cA)).setCell ⟨wr.heap.size, 2, none⟩ (.slice AB n' cB)) (w.heap.size + 1 + 1) 55 #[.string b.mark, .int .i64 b.size, .int .i64 b.count, .int .i64 b.code, .slice D dn dc] := ((Blk.via (Blk.via (by exact HB1.out) hbA) hbB).far (by simp; omega) _).far (by simp; omega) _
        have hl21 : wr.heap.size < W21.heap.size := HN1.out.lt
        have hwr : w.heap.size ≤ wr.heap.size := hbelr.size
        have hbelB : Below w.heap.size w wB := (by repeat (first | exact Below.refl _ _ | assumption | refine ba_alloc ?_ _ | refine ba_drew ?_ | refine ba_drewN ?_ _ | refine ba_via (by assumption) ?_ | (refine ba_set ?_ ?_ _; rotate_left; (first | omega | (simp; omega) | simp))))
        have hbel22 : Below w.heap.size w ((wB.setCell ⟨wr.heap.size, 1, none⟩ (.slice AA n cA)).setCell ⟨wr.heap.size, 2, none⟩ (.slice AB n' cB)) := (hbelB.setCell hwr _).setCell hwr _
        have hoA2 : World.ownsRow ((wB.setCell ⟨wr.heap.size, 1, none⟩ (.slice AA n cA)).setCell ⟨wr.heap.size, 2, none⟩ (.slice AB n' cB)) W21.heap.size 52 6 (.slice AA n cA) n ((m.boxes.map S.mirX).flatMap boxC) := own_set (own_set (own_via hoA hbB) (by exact hl21) _) (by exact hl21) _
        have hsA : W21.heap.size ≤ wA.heap.size := hbA.size
        have hoB2 : World.ownsRow ((wB.setCell ⟨wr.heap.size, 1, none⟩ (.slice AA n cA)).setCell ⟨wr.heap.size, 2, none⟩ (.slice AB n' cB)) wA.heap.size 52 6 (.slice AB n' cB) n' ((m.holes.map S.mirX).flatMap boxC) := own_set (own_set hoB (by show wr.heap.size < wA.heap.size; omega) _) (by show wr.heap.size < wA.heap.size; omega) _
        have HN22 := Lib.hid hn22
        have HR22 := Lib.hid hr22
        have HB22 := Lib.hid hb22
        have HOA := Lib.hid hoA2
        have HOB := Lib.hid hoB2
        clear hn22 hr22 hb22 hoA2 hoB2 hoA hoB hbA hbB hbelB hnd hmd hnc hmc hna hma ma0 mc0 md0 na0 nc0 nd0 fan0 fcn0 fdn0 ma1 mc1 md1 na1 nc1 nd1 fan1 fcn1 fdn1 ma2 mc2 md2 na2 nc2 nd2 fan2 fcn2 fdn2 ma3 mc3 md3 na3 nc3 nd3 fan3 fcn3 fdn3 ma4 mc4 md4 na4 nc4 nd4 fan4 fcn4 fdn4 ma5 mc5 md5 na5 nc5 nd5 fan5 fcn5 fdn5
        generalize ((wB.setCell ⟨wr.heap.size, 1, none⟩ (.slice AA n cA)).setCell ⟨wr.heap.size, 2, none⟩ (.slice AB n' cB)) = W22 at *
        have hnp : Blk W22 wr.heap.size 48 #[.string m.name, .slice AA n cA, .slice AB n' cB, .int .i64 m.cover, .int .i64 m.aggr, .int .i64 m.poker] := HN22.out
        have np0 := hnp.cell 0
        have np1 := hnp.cell 1
        have np2 := hnp.cell 2
        have np3 := hnp.cell 3
        have np4 := hnp.cell 4
        have np5 := hnp.cell 5
        simp only [List.getElem?_toArray, List.getElem?_cons_zero, List.getElem?_cons_succ] at np0 np1 np2 np3 np4 np5
        have hrp : Blk W22 w.heap.size 23 #[.int .i64 r.num, .int .i64 r.den, .int .i64 r.pnum, .int .i64 r.pden, .int .i64 r.bnum, .int .i64 r.bden, .int .i64 r.lnum, .int .i64 r.lden, .int .i64 r.least] := HR22.out
        have rp0 := hrp.cell 0
        have rp1 := hrp.cell 1
        have rp2 := hrp.cell 2
        have rp3 := hrp.cell 3
        have rp4 := hrp.cell 4
        have rp5 := hrp.cell 5
        have rp6 := hrp.cell 6
        have rp7 := hrp.cell 7
        have rp8 := hrp.cell 8
        simp only [List.getElem?_toArray, List.getElem?_cons_zero, List.getElem?_cons_succ] at rp0 rp1 rp2 rp3 rp4 rp5 rp6 rp7 rp8
        have hbp : Blk W22 (w.heap.size + 1 + 1) 55 #[.string b.mark, .int .i64 b.size, .int .i64 b.count, .int .i64 b.code, .slice D dn dc] := HB22.out
        have bp0 := hbp.cell 0
        have bp1 := hbp.cell 1
        have bp2 := hbp.cell 2
        have bp3 := hbp.cell 3
        have bp4 := hbp.cell 4
        simp only [List.getElem?_toArray, List.getElem?_cons_zero, List.getElem?_cons_succ] at bp0 bp1 bp2 bp3 bp4
        go_region_held3 (fun W' => W'.cell? ⟨w.heap.size, 0, none⟩ = some (.int .i64 r.num) ∧ W'.cell? ⟨w.heap.size, 1, none⟩ = some (.int .i64 r.den) ∧ W'.cell? ⟨w.heap.size, 2, none⟩ = some (.int .i64 r.pnum) ∧ W'.cell? ⟨w.heap.size, 3, none⟩ = some (.int .i64 r.pden) ∧ W'.cell? ⟨w.heap.size, 4, none⟩ = some (.int .i64 r.bnum) ∧ W'.cell? ⟨w.heap.size, 5, none⟩ = some (.int .i64 r.bden) ∧ W'.cell? ⟨w.heap.size, 6, none⟩ = some (.int .i64 r.lnum) ∧ W'.cell? ⟨w.heap.size, 7, none⟩ = some (.int .i64 r.lden) ∧ W'.cell? ⟨w.heap.size, 8, none⟩ = some (.int .i64 r.least) ∧ W'.cell? ⟨wr.heap.size, 0, none⟩ = some (.string m.name) ∧ W'.cell? ⟨wr.heap.size, 1, none⟩ = some (.slice AA n cA) ∧ W'.cell? ⟨wr.heap.size, 2, none⟩ = some (.slice AB n' cB) ∧ W'.cell? ⟨wr.heap.size, 3, none⟩ = some (.int .i64 m.cover) ∧ W'.cell? ⟨wr.heap.size, 4, none⟩ = some (.int .i64 m.aggr) ∧ W'.cell? ⟨wr.heap.size, 5, none⟩ = some (.int .i64 m.poker) ∧ W'.cell? ⟨w.heap.size + 1 + 1, 0, none⟩ = some (.string b.mark) ∧ W'.cell? ⟨w.heap.size + 1 + 1, 1, none⟩ = some (.int .i64 b.size) ∧ W'.cell? ⟨w.heap.size + 1 + 1, 2, none⟩ = some (.int .i64 b.count) ∧ W'.cell? ⟨w.heap.size + 1 + 1, 3, none⟩ = some (.int .i64 b.code) ∧ W'.cell? ⟨w.heap.size + 1 + 1, 4, none⟩ = some (.slice D dn dc)) (first | exact ⟨rp0, rp1, rp2, rp3, rp4, rp5, rp6, rp7, rp8, np0, np1, np2, np3, np4, np5, bp0, bp1, bp2, bp3, bp4⟩ | exact ⟨rq0, rq1, rq2, rq3, rq4, rq5, rq6, rq7, rq8, nq0, nq1, nq2, nq3, nq4, nq5, bq0, bq1, bq2, bq3, bq4⟩ | exact ⟨rs0, rs1, rs2, rs3, rs4, rs5, rs6, rs7, rs8, ns0, ns1, ns2, ns3, ns4, ns5, bs0, bs1, bs2, bs3, bs4⟩ | go_keep) (first
          | (go_at_call 34; (with_reducible refine (HML.out _ (size_via hB (by repeat (first | exact Below.refl _ _ | assumption | refine ba_alloc ?_ _ | refine ba_drew ?_ | refine ba_drewN ?_ _ | refine ba_via (by assumption) ?_ | (refine ba_set ?_ ?_ _; rotate_left; (first | omega | (simp; omega) | simp))))) (HA.out.at_ hB (by repeat (first | exact Below.refl _ _ | assumption | refine ba_alloc ?_ _ | refine ba_drew ?_ | refine ba_drewN ?_ _ | refine ba_via (by assumption) ?_ | (refine ba_set ?_ ?_ _; rotate_left; (first | omega | (simp; omega) | simp)))))).mono ?_); rintro e wC ⟨AC, cC, rfl, hoC, hbC⟩
             have hnq : Blk wC wr.heap.size 48 #[.string m.name, .slice AA n cA, .slice AB n' cB, .int .i64 m.cover, .int .i64 m.aggr, .int .i64 m.poker] := Blk.via (by exact hnp) hbC
             have nq0 := hnq.cell 0
             have nq1 := hnq.cell 1
             have nq2 := hnq.cell 2
             have nq3 := hnq.cell 3
             have nq4 := hnq.cell 4
             have nq5 := hnq.cell 5
             simp only [List.getElem?_toArray, List.getElem?_cons_zero, List.getElem?_cons_succ] at nq0 nq1 nq2 nq3 nq4 nq5
             have hrq : Blk wC w.heap.size 23 #[.int .i64 r.num, .int .i64 r.den, .int .i64 r.pnum, .int .i64 r.pden, .int .i64 r.bnum, .int .i64 r.bden, .int .i64 r.lnum, .int .i64 r.lden, .int .i64 r.least] := Blk.via (by exact hrp) hbC
             have rq0 := hrq.cell 0
             have rq1 := hrq.cell 1
             have rq2 := hrq.cell 2
             have rq3 := hrq.cell 3
             have rq4 := hrq.cell 4
             have rq5 := hrq.cell 5
             have rq6 := hrq.cell 6
             have rq7 := hrq.cell 7
             have rq8 := hrq.cell 8
             simp only [List.getElem?_toArray, List.getElem?_cons_zero, List.getElem?_cons_succ] at rq0 rq1 rq2 rq3 rq4 rq5 rq6 rq7 rq8
             have hbq : Blk wC (w.heap.size + 1 + 1) 55 #[.string b.mark, .int .i64 b.size, .int .i64 b.count, .int .i64 b.code, .slice D dn dc] := Blk.via (by exact hbp) hbC
             have bq0 := hbq.cell 0
             have bq1 := hbq.cell 1
             have bq2 := hbq.cell 2
             have bq3 := hbq.cell 3
             have bq4 := hbq.cell 4
             simp only [List.getElem?_toArray, List.getElem?_cons_zero, List.getElem?_cons_succ] at bq0 bq1 bq2 bq3 bq4
             have hbelC : Below w.heap.size w wC := (by first | exact ba_via hbC hbel22 | exact ba_via hbC (ba_drew hbel22) | exact ba_via hbC (ba_drewN hbel22 _))
             have hoA3 : wC.ownsRow W21.heap.size 52 6 (.slice AA n cA) n ((m.boxes.map S.mirX).flatMap boxC) := own_via (by exact HOA.out) hbC
             have hoB3 : wC.ownsRow wA.heap.size 52 6 (.slice AB n' cB) n' ((m.holes.map S.mirX).flatMap boxC) := own_via (by exact HOB.out) hbC
             have hsC := hbelC.size
             have HEC := Lib.hid (show EndsAt wC wC.heap.size AA n AB n' (S.mapMem S.mirX m) D dn b AC k (xs.map S.mirX) from ⟨⟨by simp [S.mapMem, hn], by omega, by simp [S.mapMem, hn'], by omega, (own_cells hoA3).1, (own_cells hoB3).1⟩, ((HA.out.at_ hB hbelC).bar.mono (by omega)), (own_cells hoC).1, by simp [hlen], by omega, HA.out.name⟩)
             clear hoA3 hoB3 hoC)
          | (go_at_call 26; (with_reducible refine (HE2.out _ AA n cA AB n' cB AC k cC HEC.out).mono ?_); rintro e wD ⟨rfl, hbD⟩
             have hns : Blk wD wr.heap.size 48 #[.string m.name, .slice AA n cA, .slice AB n' cB, .int .i64 m.cover, .int .i64 m.aggr, .int .i64 m.poker] := Blk.via (by exact hnq) hbD
             have ns0 := hns.cell 0
             have ns1 := hns.cell 1
             have ns2 := hns.cell 2
             have ns3 := hns.cell 3
             have ns4 := hns.cell 4
             have ns5 := hns.cell 5
             simp only [List.getElem?_toArray, List.getElem?_cons_zero, List.getElem?_cons_succ] at ns0 ns1 ns2 ns3 ns4 ns5
             have hrs : Blk wD w.heap.size 23 #[.int .i64 r.num, .int .i64 r.den, .int .i64 r.pnum, .int .i64 r.pden, .int .i64 r.bnum, .int .i64 r.bden, .int .i64 r.lnum, .int .i64 r.lden, .int .i64 r.least] := Blk.via (by exact hrq) hbD
             have rs0 := hrs.cell 0
             have rs1 := hrs.cell 1
             have rs2 := hrs.cell 2
             have rs3 := hrs.cell 3
             have rs4 := hrs.cell 4
             have rs5 := hrs.cell 5
             have rs6 := hrs.cell 6
             have rs7 := hrs.cell 7
             have rs8 := hrs.cell 8
             simp only [List.getElem?_toArray, List.getElem?_cons_zero, List.getElem?_cons_succ] at rs0 rs1 rs2 rs3 rs4 rs5 rs6 rs7 rs8
             have hbs : Blk wD (w.heap.size + 1 + 1) 55 #[.string b.mark, .int .i64 b.size, .int .i64 b.count, .int .i64 b.code, .slice D dn dc] := Blk.via (by exact hbq) hbD
             have bs0 := hbs.cell 0
             have bs1 := hbs.cell 1
             have bs2 := hbs.cell 2
             have bs3 := hbs.cell 3
             have bs4 := hbs.cell 4
             simp only [List.getElem?_toArray, List.getElem?_cons_zero, List.getElem?_cons_succ] at bs0 bs1 bs2 bs3 bs4))
        all_goals go_wp2
        all_goals (go_ret; exact ⟨rfl, ba_via hbD hbelC⟩))
end Go.Proofs.Ytiebbklljckbdaa
