/- Lemmas. -/
import Derived.Test.YtnmolefblaahmaaGreatMAK
import Derived.Test.YtnmolefblaahmaaGreatMAM
import Derived.Test.YtnmolefblaahmaaGreatMAE
set_option linter.unusedVariables false
set_option linter.unusedSimpArgs false
namespace Go.Proofs.YtnmolefblaahmaaGreat
open Go.RowKit
set_option maxRecDepth 20000 in
set_option maxHeartbeats 1000000 in
theorem rdecode_full (l : List Nat) (A : Option Addr) (n c : Nat) (w : World) (hn : l.length = n) (hm : n ≤ 9223372036854775807) (hbig : 1048576 < n) :
    Calls Tryz.prog 24 #[.slice A n c] w (GivesDec (S.dec l) w) := by
  have HD := Lib.hid (show S.dec l = (S.noCl, 4) by unfold S.dec; rw [if_pos (by omega)])
  have hbi : (1048576 : Int) < n := by omega
  clear hn
  have hRB := Blk.new w 39 #[.slice none 0 0, .int .i64 0, .int .i64 0, .int .i64 0]
  have hW1 : Below w.heap.size w (w.alloc (.cells #[.slice none 0 0, .int .i64 0, .int .i64 0, .int .i64 0] 39)) := ba_alloc (Below.refl _ _) _
  go_enter Tryz.func24, Tryz.ntmps24
  go_upto_region 1 with fail
  generalize (w.alloc (.cells #[.slice none 0 0, .int .i64 0, .int .i64 0, .int .i64 0] 39)) = W1 at *
  have r0 := hRB.cell 0
  have z0 := hRB.frozen 0
  have r1 := hRB.cell 1
  have z1 := hRB.frozen 1
  have r2 := hRB.cell 2
  have z2 := hRB.frozen 2
  have r3 := hRB.cell 3
  have z3 := hRB.frozen 3
  have rl := hRB.lt
  simp only [List.getElem?_toArray, List.getElem?_cons_zero, List.getElem?_cons_succ] at r0 r1 r2 r3
  clear hRB
  go_wp2
  exact bodyPost_ret (v := .tuple #[.agg #[.slice none 0 0, .int .i64 0, .int .i64 0, .int .i64 0], .int .i64 4]) (by simp [results, Tryz.results24, go_sem, *]) rfl (give_zero rfl HD.out (by (repeat (refine Below.setCell ?_ (by simp) _)); exact hW1))
set_option maxRecDepth 20000 in
set_option maxHeartbeats 1500000 in
theorem rdecode_short (l : List Nat) (A : Option Addr) (n c : Nat) (w : World) (hn : l.length = n) (h3 : n < 3) :
    Calls Tryz.prog 24 #[.slice A n c] w (GivesDec (S.dec l) w) := by
  have HD := Lib.hid (show S.dec l = (S.noCl, 7) by
    unfold S.dec
    rw [if_neg (by omega)]
    cases l with
    | nil => rfl
    | cons a t =>
      cases t with
      | nil => rfl
      | cons b t =>
        cases t with
        | nil =>
          dsimp only
          split
          · rfl
          · rfl
        | cons d t => simp only [List.length_cons] at hn; omega)
  have hbi : ¬ ((1048576 : Int) < n) := by omega
  have h3i : (n : Int) < 3 := by omega
  clear hn
  have hRB := Blk.new w 39 #[.slice none 0 0, .int .i64 0, .int .i64 0, .int .i64 0]
  have hW1 : Below w.heap.size w (w.alloc (.cells #[.slice none 0 0, .int .i64 0, .int .i64 0, .int .i64 0] 39)) := ba_alloc (Below.refl _ _) _
  go_enter Tryz.func24, Tryz.ntmps24
  go_upto_region 1 with fail
  generalize (w.alloc (.cells #[.slice none 0 0, .int .i64 0, .int .i64 0, .int .i64 0] 39)) = W1 at *
  have r0 := hRB.cell 0
  have z0 := hRB.frozen 0
  have r1 := hRB.cell 1
  have z1 := hRB.frozen 1
  have r2 := hRB.cell 2
  have z2 := hRB.frozen 2
  have r3 := hRB.cell 3
  have z3 := hRB.frozen 3
  have rl := hRB.lt
  simp only [List.getElem?_toArray, List.getElem?_cons_zero, List.getElem?_cons_succ] at r0 r1 r2 r3
  clear hRB
  go_wp2
  exact bodyPost_ret (v := .tuple #[.agg #[.slice none 0 0, .int .i64 0, .int .i64 0, .int .i64 0], .int .i64 7]) (by simp [results, Tryz.results24, go_sem, *]) rfl (give_zero rfl HD.out (by (repeat (refine Below.setCell ?_ (by simp) _)); exact hW1))

set_option maxRecDepth 20000 in
set_option maxHeartbeats 1500000 in
theorem rdecode_form (l : List Nat) (A : Option Addr) (n c B : Nat) (w : World) (hn : l.length = n) (hbig : n ≤ 1048576) (h3 : 3 ≤ n) (hl : ∀ x, x ∈ l → x < 256) (hx : Cells w B A (l.map bC)) (hB : B ≤ w.heap.size) (hh : ¬ (l[0]? = some 67 ∧ l[1]? = some 83) ∨ S.sizeR l ≠ n) :
    Calls Tryz.prog 24 #[.slice A n c] w (GivesDec (S.dec l) w) := by
  have l0 : 0 < l.length := by omega
  have l1 : 1 < l.length := by omega
  have HD := Lib.hid (show S.dec l = (S.noCl, 7) by
    match l, hn, hh with
    | x :: y :: z :: t, hn, hh =>
      unfold S.dec
      rw [if_neg (by omega)]
      dsimp only
      split
      · rename_i he
        obtain ⟨rfl, rfl⟩ := he
        rcases hh with hh | hh
        · exact absurd ⟨rfl, rfl⟩ hh
        · cases hq : S.pClaim (z :: t) with
          | none => rfl
          | some q => exact absurd ((sizeR_iff 67 83 z t hn).2 ⟨q.1, q.2, hq⟩) hh
      · rfl
    | [], hn, hh => simp only [List.length_nil] at hn; omega
    | [x], hn, hh => simp only [List.length_cons, List.length_nil] at hn; omega
    | [x, y], hn, hh => simp only [List.length_cons, List.length_nil] at hn; omega)
  have hbi : ¬ ((1048576 : Int) < n) := by omega
  have h3i : ¬ ((n : Int) < 3) := by omega
  have h0i : (0 : Int) < n := by omega
  have h1i : (1 : Int) < n := by omega
  have hRB := Blk.new w 39 #[.slice none 0 0, .int .i64 0, .int .i64 0, .int .i64 0]
  have hW1 : Below w.heap.size w (w.alloc (.cells #[.slice none 0 0, .int .i64 0, .int .i64 0, .int .i64 0] 39)) := ba_alloc (Below.refl _ _) _
  have hx1 := hx.below (hW1.mono hB)
  have HSZ := Lib.hid (r51size_any l A n c B (w.alloc (.cells #[.slice none 0 0, .int .i64 0, .int .i64 0, .int .i64 0] 39)) hn (by omega) hl hx1)
  obtain ⟨b, o, rfl, hb, hxx⟩ := hx1.at_ (by simp; omega)
  have b0 := hxx 0 _ (bC_get l0)
  have b1 := hxx 1 _ (bC_get l1)
  simp only [Nat.add_zero] at b0
  have hg : (l[0] = 67 ∧ l[1] = 83) → S.sizeR l ≠ n := fun h => by
    rcases hh with hh | hh
    · exact absurd ⟨by rw [List.getElem?_eq_getElem l0, h.1], by rw [List.getElem?_eq_getElem l1, h.2]⟩ hh
    · exact hh
  clear hxx hx1 hx hh hn hl
  generalize l[0] = x0 at *
  generalize l[1] = x1 at *
  generalize S.sizeR l = sz at *
  by_cases h67 : x0 = 67
  · have q0 : ((x0 : Int) == 67) = true := by simp; omega
    have q0' : ((x0 : Int) != 67) = false := by simp; omega
    by_cases h83 : x1 = 83
    · have q1 : ((x1 : Int) == 83) = true := by simp; omega
      have q1' : ((x1 : Int) != 83) = false := by simp; omega
      have hne := hg ⟨h67, h83⟩
      have q2 : (sz == (n : Int)) = false := by simp [hne]
      have HG := Lib.hid hg
      have H67 := Lib.hid h67
      have H83 := Lib.hid h83
      clear hg h67 h83 hne
      go_enter Tryz.func24, Tryz.ntmps24
      go_upto_region 1 with fail
      generalize (w.alloc (.cells #[.slice none 0 0, .int .i64 0, .int .i64 0, .int .i64 0] 39)) = W1 at *
      have r0 := hRB.cell 0
      have z0 := hRB.frozen 0
      have r1 := hRB.cell 1
      have z1 := hRB.frozen 1
      have r2 := hRB.cell 2
      have z2 := hRB.frozen 2
      have r3 := hRB.cell 3
      have z3 := hRB.frozen 3
      have rl := hRB.lt
      simp only [List.getElem?_toArray, List.getElem?_cons_zero, List.getElem?_cons_succ] at r0 r1 r2 r3
      clear hRB
      go_wp2_with (go_at_call 58; (with_reducible refine (HSZ.out).mono ?_); rintro e w' ⟨rfl, rfl⟩)
      exact bodyPost_ret (v := .tuple #[.agg #[.slice none 0 0, .int .i64 0, .int .i64 0, .int .i64 0], .int .i64 7]) (by simp [results, Tryz.results24, go_sem, *]) rfl (give_zero rfl HD.out (by (repeat (refine Below.setCell ?_ (by simp) _)); exact hW1))
    · have q1 : ((x1 : Int) == 83) = false := by simp; omega
      have q1' : ((x1 : Int) != 83) = true := by simp; omega
      have HG := Lib.hid hg
      have H67 := Lib.hid h67
      clear hg h67 HSZ
      go_enter Tryz.func24, Tryz.ntmps24
      go_upto_region 1 with fail
      generalize (w.alloc (.cells #[.slice none 0 0, .int .i64 0, .int .i64 0, .int .i64 0] 39)) = W1 at *
      have r0 := hRB.cell 0
      have z0 := hRB.frozen 0
      have r1 := hRB.cell 1
      have z1 := hRB.frozen 1
      have r2 := hRB.cell 2
      have z2 := hRB.frozen 2
      have r3 := hRB.cell 3
      have z3 := hRB.frozen 3
      have rl := hRB.lt
      simp only [List.getElem?_toArray, List.getElem?_cons_zero, List.getElem?_cons_succ] at r0 r1 r2 r3
      clear hRB
      go_wp2
      exact bodyPost_ret (v := .tuple #[.agg #[.slice none 0 0, .int .i64 0, .int .i64 0, .int .i64 0], .int .i64 7]) (by simp [results, Tryz.results24, go_sem, *]) rfl (give_zero rfl HD.out (by (repeat (refine Below.setCell ?_ (by simp) _)); exact hW1))
  · have q0 : ((x0 : Int) == 67) = false := by simp; omega
    have q0' : ((x0 : Int) != 67) = true := by simp; omega
    clear hg HSZ
    go_enter Tryz.func24, Tryz.ntmps24
    go_upto_region 1 with fail
    generalize (w.alloc (.cells #[.slice none 0 0, .int .i64 0, .int .i64 0, .int .i64 0] 39)) = W1 at *
    have r0 := hRB.cell 0
    have z0 := hRB.frozen 0
    have r1 := hRB.cell 1
    have z1 := hRB.frozen 1
    have r2 := hRB.cell 2
    have z2 := hRB.frozen 2
    have r3 := hRB.cell 3
    have z3 := hRB.frozen 3
    have rl := hRB.lt
    simp only [List.getElem?_toArray, List.getElem?_cons_zero, List.getElem?_cons_succ] at r0 r1 r2 r3
    clear hRB
    go_wp2
    exact bodyPost_ret (v := .tuple #[.agg #[.slice none 0 0, .int .i64 0, .int .i64 0, .int .i64 0], .int .i64 7]) (by simp [results, Tryz.results24, go_sem, *]) rfl (give_zero rfl HD.out (by (repeat (refine Below.setCell ?_ (by simp) _)); exact hW1))
structure OutR (W wr : World) (g bs : Nat) (cl : List (List Stp)) (l r : List Nat) (m p : Nat) (rs : List Sk) (A : Option Addr) (n c : Nat) : Prop where
  le : p ≤ l.length
  len : rs.length = n
  fit : ∀ r, r ∈ rs → r.l.length ≤ 255
  blk : Blk wr g 39 #[.slice A n c, .int .i64 0, .int .i64 0, .int .i64 0]
  sks : SksAt wr bs (.slice A n c) rs
  par : ∃ T', S.pLists m (l.drop p) = some (T', r) ∧ cl = rs.map (·.l) ++ T'
  exc : Exc [g] W wr
structure InR (W wi : World) (b2 : Nat) (s : List Stp) (l r : List Nat) (k p : Nat) (T : List Stp) (A : Option Addr) (n c : Nat) : Prop where
  len : T.length = n
  own : wi.ownsRow b2 69 2 (.slice A n c) n (T.flatMap stC)
  par : ∃ T', S.pSteps k (l.drop p) = some (T', r) ∧ s = T ++ T'
  bel : Below b2 W wi
theorem take_cells {w : World} {B b o : Nat} {l : List Nat} (h : Cells w B (some ⟨b, o, none⟩) (l.map bC)) (p k : Nat) : Cells w B (some ⟨b, o + p, none⟩) (((l.drop p).take k).map bC) := by
  by_cases h0 : ((l.drop p).take k).map bC = []
  · exact .inl h0
  · obtain ⟨b', o', hA, hb, hxx⟩ := h.at_ (by
      rw [List.length_map]
      have h1 : ((l.drop p).take k).length ≠ 0 := fun e => h0 (by rw [List.length_eq_zero_iff.1 e]; rfl)
      rw [List.length_take, List.length_drop] at h1
      omega)
    injection hA with hA
    injection hA with h1 h2
    subst h1 h2
    refine .inr ⟨b, o + p, rfl, hb, fun j v hv => ?_⟩
    rw [Nat.add_assoc]
    refine hxx (p + j) v ?_
    rw [List.map_take, List.map_drop, List.getElem?_take] at hv
    split at hv
    · rwa [List.getElem?_drop] at hv
    · cases hv
set_option maxRecDepth 20000 in
set_option maxHeartbeats 3000000 in
theorem rdecode_yes (l : List Nat) (b o n c B z : Nat) (cc : Cl) (s : Int) (w : World) (hn : l.length = n) (hbig : n ≤ 1048576) (hnc : n ≤ c) (hc : c ≤ 9223372036854775807) (hl : ∀ x, x ∈ l → x < 256) (hx : Cells w B (some ⟨b, o, none⟩) (l.map bC)) (hB : B ≤ w.heap.size) (hh : l[0]? = some 67 ∧ l[1]? = some 83) (hz : l[2]? = some z) (hp : S.pClaim (l.drop 2) = some (cc, s)) (hsz : S.sizeR l = n) :
    Calls Tryz.prog 24 #[.slice (some ⟨b, o, none⟩) n c] w (GivesDec (S.dec l) w) := by
  obtain ⟨h19, hPL, e1, e2, e3, hdec⟩ := rdec_parts hn hbig hh hz hp
  have HPL := Lib.hid hPL
  have HDV := Lib.hid hdec
  have HE1 := Lib.hid e1
  have HE2 := Lib.hid e2
  have HE3 := Lib.hid e3
  have hbi : ¬ ((1048576 : Int) < n) := by omega
  have h3i : ¬ ((n : Int) < 3) := by omega
  have h0i : (0 : Int) < n := by omega
  have h1i : (1 : Int) < n := by omega
  have h2i : (2 : Int) < n := by omega
  have hbB : b < B := by
    obtain ⟨b', o', hA, hb', hxx⟩ := hx.at_ (by simp; omega)
    injection hA with hA
    injection hA with h1 h2
    omega
  have hz256 : z < 256 := by
    obtain ⟨h2, rfl⟩ := List.getElem?_eq_some_iff.1 hz
    exact hl _ (List.getElem_mem h2)
  have HX := Lib.hid hx
  have HL := Lib.hid hl
  have HN := Lib.hid hn
  have b0 : w.cell? ⟨b, o, none⟩ = some (.int .u8 67) := hx.get (k := 0) (by rw [List.getElem?_map, hh.1]; rfl)
  have b1 : w.cell? ⟨b, o + 1, none⟩ = some (.int .u8 83) := hx.get (k := 1) (by rw [List.getElem?_map, hh.2]; rfl)
  have b2 : w.cell? ⟨b, o + 2, none⟩ = some (.int .u8 (z : Int)) := hx.get (k := 2) (by rw [List.getElem?_map, hz]; rfl)
  have hRB := Blk.new w 39 #[.slice none 0 0, .int .i64 0, .int .i64 0, .int .i64 0]
  have hW1 : Below w.heap.size w (w.alloc (.cells #[.slice none 0 0, .int .i64 0, .int .i64 0, .int .i64 0] 39)) := ba_alloc (Below.refl _ _) _
  replace b0 := (hW1.cell (p := ⟨b, o, none⟩) (show b < w.heap.size by omega)).trans b0
  replace b1 := (hW1.cell (p := ⟨b, o + 1, none⟩) (show b < w.heap.size by omega)).trans b1
  have HZ2 := Lib.hid (show (l.map bC)[2]? = some (.int .u8 (z : Int)) from by rw [List.getElem?_map, hz]; rfl)
  have hx1 := hx.below (hW1.mono hB)
  have HSZ := Lib.hid (hsz ▸ r51size_any l (some ⟨b, o, none⟩) n c B (w.alloc (.cells #[.slice none 0 0, .int .i64 0, .int .i64 0, .int .i64 0] 39)) hn (by omega) hl hx1)
  have HSM := Lib.hid (fun (W : World) (hW : Cells W B (some ⟨b, o, none⟩) (l.map bC)) => rsum_any (l.take (n - 4)) (some ⟨b, o, none⟩) (n - 4) c B W (by rw [List.length_take, hn]; omega) (by omega) (fun x hx => hl x (List.mem_of_mem_take hx)) (by have := take_cells hW 0 (n - 4); simpa using this))
  have nn : ((n : Int) != (n : Int)) = false := by simp
  have e4 : IntKind.i64.wrap ((n : Int) - 4) = ((n - 4 : Nat) : Int) := by rw [show (n : Int) - 4 = ((n - 4 : Nat) : Int) by omega]; exact IntWalk.i64_in _ (by omega)
  clear hx hl hn hh hz hp hsz e1 e2 e3 hPL hdec b2
  go_enter Tryz.func24, Tryz.ntmps24
  go_upto_region 1 with fail
  generalize (w.alloc (.cells #[.slice none 0 0, .int .i64 0, .int .i64 0, .int .i64 0] 39)) = W1 at *
  have hbw : b < w.heap.size := by omega
  have HRB := Lib.hid hRB
  have HW1 := Lib.hid hW1
  have HX1 := Lib.hid hx1
  have hs1 := hRB.lt
  clear hRB hx1
  go_upto_region 6 with (go_at_call 58; (with_reducible refine (HSZ.out).mono ?_); rintro e w' ⟨rfl, rfl⟩)
  have HC := Lib.hid (show ∀ (q : Nat) (hq : q < l.length), W1.cell? ⟨b, o + q, none⟩ = some (.int .u8 (l[q] : Int)) from fun q hq => HX1.out.get (bC_get hq))
  clear b0 b1
  go_wp2
  go_loop [4, 5] (fun v i => ∃ q : Nat, q ≤ 4 ∧ i = .int .i64 ((n - 4 + q : Nat) : Int) ∧ v = .int .i64 (S.valB ((l.drop (n - 4)).take q))) (fun _ i => n - (intOf i).toNat)
  case atStart => exact ⟨0, by omega, rfl, rfl⟩
  case round =>
    obtain ⟨q, hq, rfl, rfl⟩ := hrel
    obtain ⟨j, hj⟩ : ∃ j, j = n - 4 + q := ⟨_, rfl⟩
    rw [← hj]
    by_cases hlt : q < 4
    · have hjx : j < l.length := by have := HN.out; omega
      have hji : (j : Int) < n := by omega
      have hcq := HC.out j hjx
      have h1 := HL.out _ (List.getElem_mem hjx)
      have hqd : q < (l.drop (n - 4)).length := by rw [List.length_drop]; have := HN.out; omega
      have hgd : (l.drop (n - 4))[q] = l[j] := by
        rw [List.getElem_drop]
        congr 1
        omega
      have HS := Lib.hid (show S.valB ((l.drop (n - 4)).take (q + 1)) = S.valB ((l.drop (n - 4)).take q) * 256 + l[j] from by rw [List.take_add_one, List.getElem?_eq_getElem hqd, hgd]; exact val_snoc _ _)
      have hvl := val_lt ((l.drop (n - 4)).take q) (fun x hx => HL.out x (List.mem_of_mem_drop (List.mem_of_mem_take hx)))
      have hv4 : S.valB ((l.drop (n - 4)).take q) < 4294967296 := by
        have h2 : (256 : Nat) ^ ((l.drop (n - 4)).take q).length ≤ 256 ^ 4 := Nat.pow_le_pow_right (by decide) (by rw [List.length_take]; omega)
        omega
      clear hvl hgd hqd
      generalize S.valB ((l.drop (n - 4)).take q) = V at *
      generalize l[j] = x at *
      have e5 : IntKind.i64.wrap (x : Int) = (x : Int) := IntWalk.i64_in _ (by omega)
      have e6 : IntKind.i64.wrap (256 * (V : Int)) = 256 * (V : Int) := IntWalk.i64_in _ (by omega)
      have e7 : IntKind.i64.wrap (256 * (V : Int) + (x : Int)) = 256 * (V : Int) + (x : Int) := IntWalk.i64_in _ (by omega)
      have e8 : IntKind.i64.wrap ((j : Int) + 1) = (j : Int) + 1 := IntWalk.i64_in _ (by omega)
      have HJ := Lib.hid hj
      clear hj
      go_wp2
      go_round
      case rel => exact ⟨q + 1, by omega, by have := HJ.out; simp; omega, by rw [HS.out]; simp; omega⟩
      case measure => have := HJ.out; simp [intOf]; omega
    · have hq4 : q = 4 := by omega
      subst hq4
      have hji : ¬ ((j : Int) < n) := by omega
      have htk : (l.drop (n - 4)).take 4 = l.drop (n - 4) := List.take_of_length_le (by rw [List.length_drop]; have := HN.out; omega)
      rw [htk]
      have HSUM := Lib.hid (HSM.out W1 HX1.out)
      have hn4c : ((n - 4 : Nat) : Int) ≤ c := by omega
      clear htk hj hlt
      generalize S.valB (l.drop (n - 4)) = V4 at *
      generalize S.sumB 7 (l.take (n - 4)) = sm at *
      by_cases hq : (V4 : Int) = (sm : Int)
      · have bq : ((V4 : Int) == (sm : Int)) = true := by simp [hq]
        have bq' : ((V4 : Int) != (sm : Int)) = false := by simp [hq]
        have HDF := Lib.hid (HDV.out.trans (if_pos hq))
        have HQ := Lib.hid hq
        clear hq HDV
        go_upto_region 12 with (go_at_call 57; (with_reducible refine HSUM.out.mono ?_); rintro e w' ⟨rfl, rfl⟩)
        clear bq bq'
        go_upto_region 13 with fail
        have hG := Blk.new W1 39 #[.slice none 0 0, .int .i64 0, .int .i64 0, .int .i64 0]
        have hbG : Below W1.heap.size W1 (W1.alloc (.cells #[.slice none 0 0, .int .i64 0, .int .i64 0, .int .i64 0] 39)) := ba_alloc (Below.refl _ _) _
        have hszG : (W1.alloc (.cells #[.slice none 0 0, .int .i64 0, .int .i64 0, .int .i64 0] 39)).heap.size = W1.heap.size + 1 := by simp
        generalize (W1.alloc (.cells #[.slice none 0 0, .int .i64 0, .int .i64 0, .int .i64 0] 39)) = W6 at *
        have HR6 := Lib.hid (HRB.out.via hbG)
        have HB6 := Lib.hid (HW1.out.trans (hbG.mono HW1.out.size))
        have hBW1 : B ≤ W1.heap.size := Nat.le_trans hB HW1.out.size
        have HX6 := Lib.hid (HX1.out.below (hbG.mono hBW1))
        obtain ⟨g, hg⟩ : ∃ g, g = W1.heap.size := ⟨_, rfl⟩
        rw [← hg] at hG hszG hs1 hBW1
        rw [← hg]
        obtain ⟨bs, hbs⟩ : ∃ bs, bs = g + 1 := ⟨_, rfl⟩
        have hsz6 : W6.heap.size = bs := by omega
        have HI0 := Lib.hid (show OutR W6 W6 g bs cc.areas l (l.drop (n - 16)) z 3 [] none 0 0 from ⟨by have := HN.out; omega, rfl, fun r hr => (by cases hr), hG, SksAt.nil _ _, ⟨_, HPL.out, by simp⟩, Exc.refl _ _⟩)
        have HGS := Lib.hid (show bs = g + 1 from hbs)
        have hgbs : g < bs := by omega
        have hbg : b < g := by omega
        have HS6 := Lib.hid hsz6
        clear hg hG hbG hszG hbs hsz6 HC HSUM HX1 HRB
        go_wp2
        go_loopw [7, 8] (fun a i wr => ∃ (k m p : Nat) (rs : List Sk) (A1 : Option Addr) (c1 : Nat), Hid (k + m = z) ∧ i = .int .i64 k ∧ a = .int .i64 p ∧ p ≤ n ∧ Hid (OutR W6 wr g bs cc.areas l (l.drop (n - 16)) m p rs A1 k c1)) (fun _ i _ => z - (intOf i).toNat)
        case atStart => exact ⟨0, z, 3, [], none, 0, Lib.hid (by omega), rfl, rfl, by omega, HI0⟩
        case round =>
          obtain ⟨k, m, p, rs, A1, c1, HKM, rfl, rfl, hpn, HI⟩ := hrel
          obtain ⟨wo, hwo⟩ : ∃ wo : World, wo = wr := ⟨_, rfl⟩
          subst hwo
          have hszr := HI.out.exc.size
          have hbsr : bs ≤ wo.heap.size := by have := HS6.out; omega
          have hbr : b < wo.heap.size := by omega
          have HXr := Lib.hid (HX6.out.below (HI.out.exc.below (by have := HS6.out; omega) (by simp; omega)))
          have c2 := HXr.out.get HZ2.out
          have ez : IntKind.i64.wrap (z : Int) = (z : Int) := IntWalk.i64_in _ (by omega)
          by_cases hlt : k < z
          · obtain ⟨m1, rfl⟩ : ∃ m1, m = m1 + 1 := ⟨m - 1, by have := HKM.out; omega⟩
            have hki : (k : Int) < z := by omega
            obtain ⟨T', hT', hcl⟩ := HI.out.par
            obtain ⟨hpx, s1, T2, hst, hls, hTe, hsl, hfit⟩ := pLists_step hT'
            have hpni : (p : Int) < n := by have := HN.out; omega
            have cp := HXr.out.get (bC_get hpx)
            have hx256 := HL.out _ (List.getElem_mem hpx)
            subst hTe
            have HN2 := Lib.hid HN.out
            rw [HN.out] at hfit
            generalize l[p] = x at *
            obtain ⟨p1, hp1⟩ : ∃ p1, p1 = p + 1 + 10 * x := ⟨_, rfl⟩
            rw [← hp1] at hst hls hfit
            have HFT := Lib.hid hfit
            clear hfit
            have HLS := Lib.hid hls
            have HCL := Lib.hid hcl
            have HT2 := Lib.hid hT'
            have ex : IntKind.i64.wrap (x : Int) = (x : Int) := IntWalk.i64_in _ (by omega)
            have e5 : IntKind.i64.wrap ((p : Int) + 1) = ((p + 1 : Nat) : Int) := by rw [show (p : Int) + 1 = ((p + 1 : Nat) : Int) by omega]; exact IntWalk.i64_in _ (by omega)
            obtain ⟨b2, hb2⟩ : ∃ b2, b2 = wo.heap.size := ⟨_, rfl⟩
            have hJ0 : InR wo wo b2 s1 l (l.drop p1) x (p + 1) [] none 0 0 := ⟨rfl, World.ownsRow_nil _ _ _ _, ⟨s1, hst, rfl⟩, Below.refl _ _⟩
            have HJ0 := Lib.hid hJ0
            have hb2s : bs ≤ b2 := by omega
            have HB2 := Lib.hid hb2
            have HP1 := Lib.hid hp1
            obtain ⟨p3, hp3⟩ : ∃ p3, p3 = p + 1 := ⟨_, rfl⟩
            have HP31 := Lib.hid (show p3 + 10 * x = p1 by omega)
            rw [← hp3] at HJ0 e5
            clear hls hcl hT' hst hJ0 hb2 hp1 hp3
            go_wp2
            clear cp c2
            go_loopw [7, 10, 11] (fun a lv i wi => ∃ (q k2 p2 : Nat) (T : List Stp) (A2 : Option Addr) (c3 : Nat), q + k2 = x ∧ i = .int .i64 q ∧ lv = .slice A2 q c3 ∧ a = .int .i64 p2 ∧ Hid (p2 + 10 * k2 = p1) ∧ Hid (InR wo wi b2 s1 l (l.drop p1) k2 p2 T A2 q c3)) (fun _ _ i _ => x - (intOf i).toNat)
            case atStart => exact ⟨0, x, p3, [], none, 0, by omega, rfl, rfl, rfl, HP31, HJ0⟩
            case round =>
              obtain ⟨q, k2, p2, T, A2, c3, hqk, rfl, rfl, rfl, HP2, HJ⟩ := hrel
              have hqx : q ≤ x := by omega
              have HQK := Lib.hid hqk
              clear hqk
              have hszi := HJ.out.bel.size
              have hb2r : b2 ≤ wr.heap.size := by have := HB2.out; omega
              by_cases hlk : q < x
              · obtain ⟨k3, rfl⟩ : ∃ k3, k2 = k3 + 1 := ⟨k2 - 1, by have := HQK.out; omega⟩
                have hqi : (q : Int) < x := by omega
                obtain ⟨T3, hT3, hse⟩ := HJ.out.par
                obtain ⟨hp10, T4, hst2, hTe2⟩ := pSteps_step hT3
                subst hTe2
                have hp10n : p2 + 10 ≤ n := by have := HN.out; omega
                have HXi := Lib.hid (HXr.out.below (HJ.out.bel.mono (by omega)))
                have HR4 := Lib.hid (fun (W : World) (hW : Below wr.heap.size wr W) (c' : Nat) => rread_any ((l.drop p2).take 4) (some ⟨b, o + p2, none⟩) 4 c' B W (by rw [List.length_take, List.length_drop, HN.out]; omega) (by omega) (fun x hx => HL.out x (List.mem_of_mem_drop (List.mem_of_mem_take hx))) (take_cells (HXi.out.below (hW.mono (by omega))) p2 4))
                have HR6 := Lib.hid (fun (W : World) (hW : Below wr.heap.size wr W) (c' : Nat) => rread_any ((l.drop (p2 + 4)).take 6) (some ⟨b, o + (p2 + 4), none⟩) 6 c' B W (by rw [List.length_take, List.length_drop, HN.out]; omega) (by omega) (fun x hx => HL.out x (List.mem_of_mem_drop (List.mem_of_mem_take hx))) (take_cells (HXi.out.below (hW.mono (by omega))) (p2 + 4) 6))
                have HST2 := Lib.hid hst2
                have HSE := Lib.hid hse
                clear hst2 hse hT3 hp10
                generalize S.rdB true ((l.drop p2).take 4) = v4 at *
                generalize S.rdB true ((l.drop (p2 + 4)).take 6) = v6 at *
                have f4 : IntKind.i64.wrap ((p2 : Int) + 4) = ((p2 + 4 : Nat) : Int) := by rw [show (p2 : Int) + 4 = ((p2 + 4 : Nat) : Int) by omega]; exact IntWalk.i64_in _ (by omega)
                have f10 : IntKind.i64.wrap ((p2 : Int) + 10) = ((p2 + 10 : Nat) : Int) := by rw [show (p2 : Int) + 10 = ((p2 + 10 : Nat) : Int) by omega]; exact IntWalk.i64_in _ (by omega)
                have g4 : ¬ (c = p2) := by omega
                have g4' : ¬ (c - p2 = 0) := by omega
                have g6 : ¬ (c = p2 + 4) := by omega
                have g6' : ¬ (c - (p2 + 4) = 0) := by omega
                have s4 : p2 + 4 - p2 = 4 := by omega
                have s6 : p2 + 10 - (p2 + 4) = 6 := by omega
                go_upto_region 23 with fail
                refine wp_region_mix 0 [6, 6, 1] (by kernel_rfl) (by kernel_rfl) (of_decide_eq_true (by kernel_rfl)) ?_
                try simp only [wpSegs, List.take_succ_cons, List.take_zero, List.drop_succ_cons, List.drop_zero, List.take_nil, List.drop_nil]
                repeat (go_big_quiet_step (fail))
                refine wpQuiet_nil ?_
                show wpList _ _ _ _ _ _
                go_wp2_with ((go_at_call 59; (with_reducible refine (HR4.out _ (by repeat (with_reducible first | exact Below.refl _ _ | assumption | refine ba_alloc ?_ _ | refine ba_drew ?_ | refine ba_drewN ?_ _ | refine ba_via (by assumption) ?_ | (refine ba_set ?_ ?_ _; rotate_left; (first | omega | (simp; omega) | simp)))) _).mono ?_); rintro e w4 ⟨rfl, rfl⟩))
                refine seg_next (grow_to (by repeat (with_reducible first | exact Below.refl _ _ | assumption | refine ba_alloc ?_ _ | refine ba_drew ?_ | refine ba_drewN ?_ _ | refine ba_via (by assumption) ?_ | (refine ba_set ?_ ?_ _; rotate_left; (first | omega | (simp; omega) | simp))))) ?_
                try simp only [wpSegs, List.take_succ_cons, List.take_zero, List.drop_succ_cons, List.drop_zero, List.take_nil, List.drop_nil]
                repeat (go_big_quiet_step (fail))
                refine wpQuiet_nil ?_
                show wpList _ _ _ _ _ _
                go_wp2_with ((go_at_call 59; (with_reducible refine (HR6.out _ (by repeat (with_reducible first | exact Below.refl _ _ | assumption | refine ba_alloc ?_ _ | refine ba_drew ?_ | refine ba_drewN ?_ _ | refine ba_via (by assumption) ?_ | (refine ba_set ?_ ?_ _; rotate_left; (first | omega | (simp; omega) | simp)))) _).mono ?_); rintro e w4 ⟨rfl, rfl⟩))
                refine seg_next (grow_to (by repeat (with_reducible first | exact Below.refl _ _ | assumption | refine ba_alloc ?_ _ | refine ba_drew ?_ | refine ba_drewN ?_ _ | refine ba_via (by assumption) ?_ | (refine ba_set ?_ ?_ _; rotate_left; (first | omega | (simp; omega) | simp))))) ?_
                try simp only [wpSegs, List.take_succ_cons, List.take_zero, List.drop_succ_cons, List.drop_zero, List.take_nil, List.drop_nil]
                repeat (go_big_quiet_step (fail))
                refine wpQuiet_nil ?_
                show wpList _ _ _ _ _ _
                go_wp2_with (fail)
                refine seg_next (grow_to (by repeat (with_reducible first | exact Below.refl _ _ | assumption | refine ba_alloc ?_ _ | refine ba_drew ?_ | refine ba_drewN ?_ _ | refine ba_via (by assumption) ?_ | (refine ba_set ?_ ?_ _; rotate_left; (first | omega | (simp; omega) | simp))))) ?_
                try simp only [wpSegs, List.take_succ_cons, List.take_zero, List.drop_succ_cons, List.drop_zero, List.take_nil, List.drop_nil]
                repeat (go_big_quiet_step (fail))
                refine wpQuiet_nil ?_
                show wpList _ _ _ _ _ _
                have hBA := (Blk.new wr 69 #[.int .i64 v4, .int .i64 v6]).via (Below.drew (Below.refl _ _))
                have hbA : Below wr.heap.size wr (wr.alloc (.cells #[.int .i64 v4, .int .i64 v6] 69)).drew := Below.drew (ba_alloc (Below.refl _ _) _)
                generalize (wr.alloc (.cells #[.int .i64 v4, .int .i64 v6] 69)).drew = w6 at *
                have hO6 := own_kept HJ.out.own (fun y hy => hbA.block y (HJ.out.own.lt y hy).2)
                have hb26 : b2 ≤ w6.heap.size := Nat.le_trans hb2r hbA.size
                go_wp2_with (at_builtin; refine wpList_append_cells2 rfl (.tmp 85) (.tmp 100) _ rfl elemS7 b2 (.slice A2 q c3) q _ rfl hO6 wr.heap.size 1 1 [.int .i64 v4, .int .i64 v6] rfl rfl (fun j u hu => (hBA.cell j).trans (by simpa using hu)) (by simp [Value.oneCell']) (by unfold maxLen; omega) (by omega) hb26 ?_; intro v3 wE hOE hbE hz1 hz2 hz3; obtain ⟨A3, c4, hv3, _, _, hxx⟩ := own_form hOE (by unfold maxLen; omega); clear hxx; subst hv3)
                have hbE6 : Below b2 wo wE := HJ.out.bel.trans ((hbA.mono hb2r).trans hbE)
                go_roundw
                case rel =>
                  refine ⟨q + 1, k3, p2 + 10, T ++ [⟨v4, v6⟩], A3, c4, by have := HQK.out; omega, by go_num, rfl, rfl, Lib.hid (by have := HP2.out; omega), Lib.hid ⟨by rw [List.length_append, HJ.out.len]; rfl, by simpa using hOE, ⟨T4, HST2.out, by rw [HSE.out, List.append_assoc]; rfl⟩, hbE6⟩⟩
                case measure => simp [intOf]; omega
              · have hqi : ¬ ((q : Int) < x) := by omega
                have hk20 : k2 = 0 := by have := HQK.out; omega
                have hqe : q = x := by omega
                subst hk20
                obtain ⟨T3, hT3, hse⟩ := HJ.out.par
                obtain ⟨rfl, hdr⟩ := pSteps_nil hT3
                have hsT : s1 = T := by rw [hse, List.append_nil]
                have hp21 : p2 = p1 := by have := HP2.out; omega
                subst hqe
                have HST := Lib.hid hsT
                have hnT255 : q ≤ 255 := by omega
                have hnA255 : k ≤ 255 := by omega
                have hbel := HJ.out.bel
                have hblk : Blk wr g 39 #[.slice A1 k c1, .int .i64 0, .int .i64 0, .int .i64 0] := (hbel.block g (by omega)).trans HI.out.blk
                have hsk := HI.out.sks.kept (fun y hy hy2 => hbel.block y (by have := HB2.out; omega))
                have hap : ∀ y, (Value.slice A2 q c3).ownBlock = some y → (Value.slice A1 k c1).ownBlock ≠ some y := fun y hy he => by
                  have h1 := (HJ.out.own.lt y hy).1
                  have h2 := (HI.out.sks.own.lt y he).2
                  have := HB2.out
                  omega
                have hxw : Exc [g] W6 wr := exc_low HI.out.exc hbel (by have := HS6.out; omega)
                have hbsw : bs ≤ wr.heap.size := by omega
                have HSK := Lib.hid hsk
                have HBK := Lib.hid hblk
                have HAP := Lib.hid hap
                have HXW := Lib.hid hxw
                have hoA := hsk.own
                rw [HI.out.len] at hoA
                have HOA := Lib.hid hoA
                have d0 := hblk.cell 0
                have dl := hblk.lt
                simp only [List.getElem?_toArray, List.getElem?_cons_zero, List.getElem?_cons_succ] at d0
                have HP21 := Lib.hid hp21
                clear hsk hblk hap hxw hoA hbel hse hsT hT3 hdr hp21
                go_wp2_with (at_builtin; refine wpList_append_cells2 rfl (.tmp 105) (.tmp 107) _ rfl elemSk bs (.slice A1 k c1) k _ rfl (own_kept HOA.out (fun g hg => (ba_alloc (Below.refl _ _) _).block g (HOA.out.lt g hg).2)) wr.heap.size 1 1 [.slice A2 q c3] rfl rfl (fun j u hu => ((Blk.new wr 66 #[.slice A2 q c3]).cell j).trans (by simpa using hu)) (by simp [Value.oneCell']) (by unfold maxLen; omega) (by omega) (by simp; omega) ?_; intro v3 wE hOE hbE hz1 hz2 hz3; obtain ⟨A3, c4, hv3, _, _, hxx⟩ := own_form hOE (by unfold maxLen; omega); clear hxx; subst hv3; have hbW := ((ba_alloc (Below.refl _ _) _ : Below wr.heap.size wr (wr.alloc (.cells #[.slice A2 q c3] 66))).mono hbsw).trans hbE; have hbkE : Blk wE g 39 _ := (hbW.block _ hgbs).trans HBK.out; have f0 := hbkE.frozen 0; have f0l := hbkE.lt; have d0E := hbkE.cell 0; simp only [List.getElem?_toArray, List.getElem?_cons_zero, List.getElem?_cons_succ] at d0E)
                have hbl : ∀ y, y < wr.heap.size → (wr.alloc (.cells #[.slice A2 q c3] 66)).heap[y]? = wr.heap[y]? := fun y hy => (ba_alloc (Below.refl wr.heap.size wr) (.cells #[.slice A2 q c3] 66)).block y hy
                have hbs7 : wr.heap.size ≤ (wr.alloc (.cells #[.slice A2 q c3] 66)).heap.size := by simp
                have hGr : Grows wr wE (.slice A1 k c1) (.slice A3 (k + 1) c4) := ⟨Nat.le_trans hbs7 hz1, fun y hq hn => (hz2 y (Nat.lt_of_lt_of_le hq hbs7) hn).trans (hbl y hq), fun y hq => by
                  rcases hz3 with h | h
                  · exact .inl (h ▸ hq)
                  · rw [show (Value.slice A3 (k + 1) c4).ownBlock = _ from h] at hq
                    injection hq with hq
                    simp at hq
                    exact .inr (by omega)⟩
                go_roundw
                case rel =>
                  refine ⟨k + 1, m1, p1, rs ++ [⟨A2, q, c3, T⟩], A3, c4, Lib.hid (by have := HKM.out; omega), by go_num, by rw [HP21.out], by have := HFT.out; omega, Lib.hid ⟨?_, ?_, ?_, ?_, ?_, ?_, ?_⟩⟩
                  · have := HN.out; have := HFT.out; omega
                  · rw [List.length_append, HI.out.len]; rfl
                  · intro r hr
                    rcases List.mem_append.1 hr with hr | hr
                    · exact HI.out.fit r hr
                    · rw [List.mem_singleton] at hr
                      subst hr
                      show T.length ≤ 255
                      rw [HJ.out.len]; omega
                  · have := hbkE.set 0 (.slice A3 (k + 1) c4)
                    simpa only [List.setIfInBounds_toArray, List.set_cons_zero, List.set_cons_succ] using this
                  · refine (SksAt.push HSK.out (r := ⟨A2, q, c3, T⟩) ⟨HJ.out.len.symm, HAP.out, ?_⟩ ?_ hGr).kept (fun q hq hq2 => (exc_set1 wE g 0 _).block q hq2 (by simp; omega))
                    · have := own_mono HJ.out.own hb2s
                      show wr.ownsRow bs _ 2 (.slice A2 q c3) T.length _
                      rw [HJ.out.len]
                      exact this
                    · rw [HI.out.len]
                      simpa using hOE
                  · exact ⟨T2, HLS.out, by rw [HCL.out, HST.out, List.map_append, List.append_assoc]; rfl⟩
                  · exact (exc_low HXW.out hbW (Nat.le_of_eq HS6.out)).join (exc_set1 _ _ _ _) (by simp)
                case measure => simp [intOf]; omega
          · have hki : ¬ ((k : Int) < z) := by omega
            have hm0 : m = 0 := by have := HKM.out; omega
            have hkz : k ≤ 255 := by have := HKM.out; omega
            subst hm0
            obtain ⟨T', hT', hcl⟩ := HI.out.par
            obtain ⟨rfl, hdp⟩ := pLists_nil hT'
            have hp16 : p + 16 = n := by
              have h1 := congrArg List.length hdp
              rw [List.length_drop, List.length_drop, HN.out] at h1
              omega
            have hcl2 : cc.areas = rs.map (·.l) := by rw [hcl, List.append_nil]
            have q1 := HE1.out
            have q2 := HE2.out
            have q3 := HE3.out
            rw [show n - 16 = p by omega] at q1
            rw [show n - 14 = p + 2 by omega] at q2
            rw [show n - 12 = p + 4 by omega] at q3
            have HRA := Lib.hid (fun (W : World) (hW : Exc [g] wo W) (c' : Nat) => rread_any ((l.drop p).take 2) (some ⟨b, o + p, none⟩) 2 c' B W (by rw [List.length_take, List.length_drop, HN.out]; omega) (by omega) (fun x hx => HL.out x (List.mem_of_mem_drop (List.mem_of_mem_take hx))) (take_cells (HXr.out.below (hW.below (by omega) (by simp; omega))) p 2))
            have HRC := Lib.hid (fun (W : World) (hW : Exc [g] wo W) (c' : Nat) => rread_any ((l.drop (p + 2)).take 2) (some ⟨b, o + (p + 2), none⟩) 2 c' B W (by rw [List.length_take, List.length_drop, HN.out]; omega) (by omega) (fun x hx => HL.out x (List.mem_of_mem_drop (List.mem_of_mem_take hx))) (take_cells (HXr.out.below (hW.below (by omega) (by simp; omega))) (p + 2) 2))
            have HRD := Lib.hid (fun (W : World) (hW : Exc [g] wo W) (c' : Nat) => rread_any ((l.drop (p + 4)).take 8) (some ⟨b, o + (p + 4), none⟩) 8 c' B W (by rw [List.length_take, List.length_drop, HN.out]; omega) (by omega) (fun x hx => HL.out x (List.mem_of_mem_drop (List.mem_of_mem_take hx))) (take_cells (HXr.out.below (hW.below (by omega) (by simp; omega))) (p + 4) 8))
            rw [← q1] at HRA
            rw [← q2] at HRC
            rw [← q3] at HRD
            obtain ⟨ca, cf, cs2, cq⟩ := cc
            replace HRA : Hid (∀ (W : World) (hW : Exc [g] wo W) (c' : Nat), Calls Tryz.prog 59 #[.slice (some ⟨b, o + p, none⟩) 2 c'] W (fun e w' => e = .returned (.int .i64 cf) ∧ W = w')) := HRA
            replace HRC : Hid (∀ (W : World) (hW : Exc [g] wo W) (c' : Nat), Calls Tryz.prog 59 #[.slice (some ⟨b, o + (p + 2), none⟩) 2 c'] W (fun e w' => e = .returned (.int .i64 cs2) ∧ W = w')) := HRC
            replace HRD : Hid (∀ (W : World) (hW : Exc [g] wo W) (c' : Nat), Calls Tryz.prog 59 #[.slice (some ⟨b, o + (p + 4), none⟩) 8 c'] W (fun e w' => e = .returned (.int .i64 cq) ∧ W = w')) := HRD
            replace hcl2 : ca = rs.map (·.l) := hcl2
            subst hcl2
            clear q1 q2 q3 hcl hdp hT'
            have f2 : IntKind.i64.wrap ((p : Int) + 2) = ((p + 2 : Nat) : Int) := by rw [show (p : Int) + 2 = ((p + 2 : Nat) : Int) by omega]; exact IntWalk.i64_in _ (by omega)
            have f4 : IntKind.i64.wrap ((p : Int) + 4) = ((p + 4 : Nat) : Int) := by rw [show (p : Int) + 4 = ((p + 4 : Nat) : Int) by omega]; exact IntWalk.i64_in _ (by omega)
            have f12 : IntKind.i64.wrap ((p : Int) + 12) = ((p + 12 : Nat) : Int) := by rw [show (p : Int) + 12 = ((p + 12 : Nat) : Int) by omega]; exact IntWalk.i64_in _ (by omega)
            have g0 : ¬ (c = p) := by omega
            have g0' : ¬ (c - p = 0) := by omega
            have g2 : ¬ (c = p + 2) := by omega
            have g2' : ¬ (c - (p + 2) = 0) := by omega
            have g4 : ¬ (c = p + 4) := by omega
            have g4' : ¬ (c - (p + 4) = 0) := by omega
            have s0 : p + 2 - p = 2 := by omega
            have s2 : p + 4 - (p + 2) = 2 := by omega
            have s4 : p + 12 - (p + 4) = 8 := by omega
            have d1 := HI.out.blk.cell 1
            have d2 := HI.out.blk.cell 2
            have d3 := HI.out.blk.cell 3
            have y1 := HI.out.blk.frozen 1
            have y2 := HI.out.blk.frozen 2
            have y3 := HI.out.blk.frozen 3
            have dl := HI.out.blk.lt
            simp only [List.getElem?_toArray, List.getElem?_cons_zero, List.getElem?_cons_succ] at d1 d2 d3
            go_upto_region 29 with (first | (go_at_call 59; (with_reducible refine (HRA.out _ (Exc.refl _ _) _).mono ?_); rintro e w' ⟨rfl, rfl⟩) | (go_at_call 59; (with_reducible refine (HRC.out _ (exc_set1 _ _ _ _) _).mono ?_); rintro e w' ⟨rfl, rfl⟩) | (go_at_call 59; (with_reducible refine (HRD.out _ ((exc_set1 _ _ _ _).join (exc_set1 _ _ _ _) (by simp)) _).mono ?_); rintro e w' ⟨rfl, rfl⟩))
            have hW17 : Exc [g] wo (((wo.setCell ⟨g, 1, none⟩ (.int .i64 cf)).setCell ⟨g, 2, none⟩ (.int .i64 cs2)).setCell ⟨g, 3, none⟩ (.int .i64 cq)) := ((exc_set1 _ _ _ _).join (exc_set1 _ _ _ _) (by simp)).join (exc_set1 _ _ _ _) (by simp)
            have hB17 := ((HI.out.blk.set 1 (.int .i64 cf)).set 2 (.int .i64 cs2)).set 3 (.int .i64 cq)
            simp only [List.setIfInBounds_toArray, List.set_cons_zero, List.set_cons_succ] at hB17
            generalize (((wo.setCell ⟨g, 1, none⟩ (.int .i64 cf)).setCell ⟨g, 2, none⟩ (.int .i64 cs2)).setCell ⟨g, 3, none⟩ (.int .i64 cq)) = wd at *
            have HXRd := Lib.hid hW17
            have HXd := Lib.hid (HI.out.exc.join hW17 (by simp))
            have HBC := Lib.hid hB17
            have HRW := Lib.hid (show Blk wd w.heap.size 39 #[.slice none 0 0, .int .i64 0, .int .i64 0, .int .i64 0] from HR6.out.exc HXd.out (by simp; omega))
            have HBd := Lib.hid (HB6.out.trans (HXd.out.below (by have := HB6.out.size; omega) (by simp; omega)))
            clear hW17 hB17 d1 d2 d3 y1 y2 y3 dl HRA HRC HRD
            have hsk := (HI.out.sks.kept (fun q h1 h2 => HXRd.out.block q h2 (by have := HGS.out; simp; omega))).areas HI.out.len (by omega) (fun r hr => by have := HI.out.fit r hr; omega)
            have hfo := rformed_any ⟨rs, A1, k, c1, cf, cs2, cq⟩ wd.heap.size wd (Nat.le_refl _) hsk
            unfold ckV at hfo
            dsimp only at hfo
            change Calls _ _ _ _ (fun e w' => e = .returned (.bool (S.formed (Cl.mk (rs.map (·.l)) cf cs2 cq))) ∧ Below wd.heap.size wd w') at hfo
            clear hsk
            cases hF : S.formed (Cl.mk (rs.map (·.l)) cf cs2 cq)
            · rw [hF] at hfo
              have HFO := Lib.hid hfo
              have HD1 := Lib.hid (show S.dec l = (S.noCl, 1) from by rw [HDF.out, hF]; rfl)
              clear hfo hF HDF
              go_wp2_with (first | ((with_reducible refine at_load 39 6 ?_); refine wpList_load_mid rfl 39 (.tmp 6) rfl _ _ rfl _ _ (HBC.out.via (by repeat (with_reducible first | exact Below.refl _ _ | assumption | refine ba_alloc ?_ _ | refine ba_drew ?_ | refine ba_drewN ?_ _ | refine ba_via (by assumption) ?_ | (refine ba_set ?_ ?_ _; rotate_left; (first | omega | (simp; omega) | simp))))).range Tryz.underlying39 rfl (by kernel_rfl) ?_) | (go_at_call 20; (with_reducible refine HFO.out.mono ?_); rintro e we ⟨rfl, hbe⟩; have hRW2 := HRW.out.via hbe; have HBE := Lib.hid (ba_via hbe HBd.out); have r0 := hRW2.cell 0; have z0 := hRW2.frozen 0; have r1 := hRW2.cell 1; have z1 := hRW2.frozen 1; have r2 := hRW2.cell 2; have z2 := hRW2.frozen 2; have r3 := hRW2.cell 3; have z3 := hRW2.frozen 3; have rlw := hRW2.lt; simp only [List.getElem?_toArray, List.getElem?_cons_zero, List.getElem?_cons_succ] at r0 r1 r2 r3))
              exact bodyPost_ret (v := .tuple #[.agg #[.slice none 0 0, .int .i64 0, .int .i64 0, .int .i64 0], .int .i64 1]) (by simp [results, Tryz.results24, go_sem, *]) rfl (give_zero rfl HD1.out (by (repeat (refine Below.setCell ?_ (by simp) _)); exact HBE.out))
            · rw [hF] at hfo
              have HFO := Lib.hid hfo
              have HD1 := Lib.hid (show S.dec l = (Cl.mk (rs.map (·.l)) cf cs2 cq, 0) from by rw [HDF.out, hF]; rfl)
              have HSKW := Lib.hid (HI.out.sks.kept (fun q h1 h2 => HXRd.out.block q h2 (by have := HGS.out; simp; omega)))
              clear hfo hF HDF
              go_wp2_with (first | ((with_reducible refine at_load 39 6 ?_); refine wpList_load_mid rfl 39 (.tmp 6) rfl _ _ rfl _ _ (HBC.out.via (by repeat (with_reducible first | exact Below.refl _ _ | assumption | refine ba_alloc ?_ _ | refine ba_drew ?_ | refine ba_drewN ?_ _ | refine ba_via (by assumption) ?_ | (refine ba_set ?_ ?_ _; rotate_left; (first | omega | (simp; omega) | simp))))).range Tryz.underlying39 rfl (by kernel_rfl) ?_) | (go_at_call 20; (with_reducible refine HFO.out.mono ?_); rintro e we ⟨rfl, hbe⟩; have hRW2 := HRW.out.via hbe; have HBE := Lib.hid (ba_via hbe HBd.out); have r0 := hRW2.cell 0; have z0 := hRW2.frozen 0; have r1 := hRW2.cell 1; have z1 := hRW2.frozen 1; have r2 := hRW2.cell 2; have z2 := hRW2.frozen 2; have r3 := hRW2.cell 3; have z3 := hRW2.frozen 3; have rlw := hRW2.lt; simp only [List.getElem?_toArray, List.getElem?_cons_zero, List.getElem?_cons_succ] at r0 r1 r2 r3))
              refine bodyPost_ret (v := .tuple #[.agg #[.slice A1 k c1, .int .i64 cf, .int .i64 cs2, .int .i64 cq], .int .i64 0]) (by simp [results, Tryz.results24, go_sem, *]) rfl ⟨⟨rs, A1, k, c1, cf, cs2, cq⟩, by rw [HD1.out], by rw [HD1.out]; rfl, ?_, by (repeat (refine Below.setCell ?_ (by simp) _)); exact HBE.out⟩
              refine (((HSKW.out.kept (fun q h1 h2 => hbe.block q h2)).kept (fun q h1 h2 => ?_)).areas HI.out.len (by omega) (fun r hr => by have := HI.out.fit r hr; omega))
              refine Exc.block (M := [w.heap.size]) ?_ q h2 (by have := HGS.out; simp; omega)
              repeat (first | exact exc_set1 _ _ _ _ | refine Exc.join ?_ (exc_set1 _ _ _ _) (by simp))
      · have bq : ((V4 : Int) == (sm : Int)) = false := by simp [hq]
        have bq' : ((V4 : Int) != (sm : Int)) = true := by simp [hq]
        have HD18 := Lib.hid (show S.dec l = (S.noCl, 18) from by rw [HDV.out, if_neg hq])
        clear hq HDV
        have r0 := HRB.out.cell 0
        have z0 := HRB.out.frozen 0
        have r1 := HRB.out.cell 1
        have z1 := HRB.out.frozen 1
        have r2 := HRB.out.cell 2
        have z2 := HRB.out.frozen 2
        have r3 := HRB.out.cell 3
        have z3 := HRB.out.frozen 3
        have rl := HRB.out.lt
        simp only [List.getElem?_toArray, List.getElem?_cons_zero, List.getElem?_cons_succ] at r0 r1 r2 r3
        go_wp2_with (go_at_call 57; (with_reducible refine HSUM.out.mono ?_); rintro e w' ⟨rfl, rfl⟩)
        exact bodyPost_ret (v := .tuple #[.agg #[.slice none 0 0, .int .i64 0, .int .i64 0, .int .i64 0], .int .i64 18]) (by simp [results, Tryz.results24, go_sem, *]) rfl (give_zero rfl HD18.out (by (repeat (refine Below.setCell ?_ (by simp) _)); exact HW1.out))

theorem rdecode_any (l : List Nat) (A : Option Addr) (n c B : Nat) (w : World) (hn : l.length = n) (hnc : n ≤ c) (hc : c ≤ 9223372036854775807) (hl : ∀ x, x ∈ l → x < 256) (hx : Cells w B A (l.map bC)) (hB : B ≤ w.heap.size) :
    Calls Tryz.prog 24 #[.slice A n c] w (GivesDec (S.dec l) w) := by
  by_cases hbig : 1048576 < n
  · exact rdecode_full l A n c w hn (by omega) hbig
  · by_cases h3 : n < 3
    · exact rdecode_short l A n c w hn h3
    · by_cases hh : (l[0]? = some 67 ∧ l[1]? = some 83) ∧ S.sizeR l = n
      · obtain ⟨b, o, rfl, _, _⟩ := hx.at_ (by simp; omega)
        match l, hn, hh with
        | x :: y :: z :: t, hn, hh =>
          obtain ⟨cc, s, hp⟩ := (sizeR_iff x y z t hn).1 hh.2
          exact rdecode_yes (x :: y :: z :: t) b o n c B z cc s w hn (by omega) hnc hc hl hx hB hh.1 rfl hp hh.2
        | [], hn, hh => simp only [List.length_nil] at hn; omega
        | [x], hn, hh => simp only [List.length_cons, List.length_nil] at hn; omega
        | [x, y], hn, hh => simp only [List.length_cons, List.length_nil] at hn; omega
      · refine rdecode_form l A n c B w hn (by omega) (by omega) hl hx hB ?_
        by_cases h1 : l[0]? = some 67 ∧ l[1]? = some 83
        · exact .inr (fun e => hh ⟨h1, e⟩)
        · exact .inl h1
end Go.Proofs.YtnmolefblaahmaaGreat
