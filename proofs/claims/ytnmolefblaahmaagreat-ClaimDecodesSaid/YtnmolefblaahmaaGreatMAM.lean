/- Plain facts: what the reference's Decode finds; what Small says. Contracts: the reference's Formed, Small of any claim. (printed by tools/gen_rsame.py) Opening arguments: bytes, claims. Contracts: the -/
import Derived.Test.YtnmolefblaahmaaGreatMAJ
import Derived.Test.YtnmolefblaahmaaGreatMAG
import Derived.Test.YtnmolefblaahmaaGreatMAD
set_option linter.unusedVariables false
set_option linter.unusedSimpArgs false
namespace Go.Proofs.YtnmolefblaahmaaGreat
open Go.RowKit
def S.sizeR (l : List Nat) : Int := match l[2]? with
 | none => (-1 : Int)
 | some z => match S.sizeAt l z 3 with
  | none => (-1 : Int)
  | some m => (m : Int) + 16
theorem sizeR_iff {n : Nat} (x y z : Nat) (l : List Nat) (hb : (x :: y :: z :: l).length = n) : S.sizeR (x :: y :: z :: l) = (n : Int) ↔ ∃ c s, S.pClaim (z :: l) = some (c, s) := by
 rw [← size_claim (x :: y :: z :: l) x y z l rfl]
 unfold S.sizeR
 show (match S.sizeAt (x :: y :: z :: l) z 3 with | none => (-1 : Int) | some m => (m : Int) + 16) = (n : Int) ↔ _
 cases h : S.sizeAt (x :: y :: z :: l) z 3 with
 | none =>
  constructor
  ·intro h1
   have h2 : (-1 : Int) = n := h1
   omega
  ·rintro ⟨m, h1, _⟩
   cases h1
 | some m =>
  constructor
  ·intro h1
   have h2 : (m : Int) + 16 = n := h1
   exact ⟨m, rfl, by omega⟩
  ·rintro ⟨m', h1, h2⟩
   injection h1 with h1
   subst h1
   show (m : Int) + 16 = n
   omega
theorem claim_parts {z : Nat} {t : List Nat} {c : Cl} {s : Int} (h : S.pClaim (z :: t) = some (c, s)) :
 ∃ r, S.pLists z t = some (c.areas, r) ∧ r.length = 16 ∧ c.first = S.rdB true (r.take 2) ∧ c.second = S.rdB true ((r.drop 2).take 2) ∧ c.square = S.rdB true ((r.drop 4).take 8) ∧ s = S.rdB false (r.drop 12) := by
 dsimp only [S.pClaim] at h
 split at h
 ·cases h
 ·rename_i L r hq
  split at h
  ·rename_i h16
   injection h with h
   injection h with h1 h2
   subst h1
   exact ⟨r, hq, h16, rfl, rfl, rfl, h2.symm⟩
  ·cases h
theorem suf_eq {r l : List Nat} (h : r <:+ l) : r = l.drop (l.length - r.length) := by
 obtain ⟨q, rfl⟩ := h
 rw [List.length_append, Nat.add_sub_cancel, List.drop_left]
theorem rdec_parts {l : List Nat} {n z : Nat} {cc : Cl} {s : Int} (hn : l.length = n) (hbig : n ≤ 1048576) (hh : l[0]? = some 67 ∧ l[1]? = some 83) (hz : l[2]? = some z) (hp : S.pClaim (l.drop 2) = some (cc, s)) :
 19 ≤ n ∧ S.pLists z (l.drop 3) = some (cc.areas, l.drop (n - 16)) ∧ cc.first = S.rdB true ((l.drop (n - 16)).take 2) ∧ cc.second = S.rdB true ((l.drop (n - 14)).take 2) ∧ cc.square = S.rdB true ((l.drop (n - 12)).take 8) ∧
  S.dec l = if ((S.valB (l.drop (n - 4)) : Nat) : Int) = ((S.sumB 7 (l.take (n - 4)) : Nat) : Int) then (if S.formed cc then (cc, 0) else (S.noCl, 1)) else (S.noCl, 18) := by
 obtain ⟨h2, hz2⟩ := List.getElem?_eq_some_iff.1 hz
 have hd : l.drop 2 = z :: l.drop 3 := by rw [List.drop_eq_getElem_cons h2, hz2]
 have hdec := dec_head (l := l) (by omega) hh
 rw [hp] at hdec
 rw [hd] at hp
 obtain ⟨r, hPL, h16, e1, e2, e3, e4⟩ := claim_parts hp
 have hs := (pLists_suf _ _ _ _ hPL).trans (List.drop_suffix 3 l)
 have hle := (pLists_suf _ _ _ _ hPL).length_le
 rw [List.length_drop, hn] at hle
 have hr := suf_eq hs
 rw [h16, hn] at hr
 subst hr
 rw [List.drop_drop, show n - 16 + 2 = n - 14 by omega] at e2
 rw [List.drop_drop, show n - 16 + 4 = n - 12 by omega] at e3
 rw [List.drop_drop, show n - 16 + 12 = n - 4 by omega] at e4
 have e5 : S.rdB false (l.drop (n - 4)) = ((S.valB (l.drop (n - 4)) : Nat) : Int) := by
  unfold S.rdB
  rw [if_neg (by rw [List.length_drop]; omega)]
  simp
 refine ⟨by omega, hPL, e1, e2, e3, ?_⟩
 rw [hdec, e4, e5, hn]
theorem pLists_step {l : List Nat} {m p : Nat} {T : List (List Stp)} {r : List Nat} (h : S.pLists (m + 1) (l.drop p) = some (T, r)) :
 ∃ (hp : p < l.length) (s : List Stp) (T' : List (List Stp)), S.pSteps l[p] (l.drop (p + 1)) = some (s, l.drop (p + 1 + 10 * l[p])) ∧ S.pLists m (l.drop (p + 1 + 10 * l[p])) = some (T', r) ∧ T = s :: T' ∧ s.length = l[p] ∧ p + 1 + 10 * l[p] ≤ l.length := by
 by_cases hp : p < l.length
 ·have e : l.drop p = l[p] :: l.drop (p + 1) := List.drop_eq_getElem_cons hp
  rw [e, pLists_succ] at h
  obtain ⟨s1, s2⟩ := pSteps_len l[p] (l.drop (p + 1))
  rw [List.length_drop] at s1 s2
  by_cases hf : 10 * l[p] ≤ l.length - (p + 1)
  ·obtain ⟨s, h3, h4⟩ := s1 hf
   rw [h3, List.drop_drop] at h
   dsimp only at h
   cases hq : S.pLists m (l.drop (p + 1 + 10 * l[p])) with
   | none => rw [hq] at h; cases h
   | some q =>
    obtain ⟨T', r'⟩ := q
    rw [hq] at h
    injection h with h
    injection h with h5 h6
    subst h6
    exact ⟨hp, s, T', by rw [h3, List.drop_drop], hq, h5.symm, h4, by omega⟩
  ·rw [s2 (by omega)] at h
   cases h
 ·rw [List.drop_eq_nil_of_le (by omega)] at h
  unfold S.pLists at h
  cases h
theorem pSteps_step {l : List Nat} {m p : Nat} {T : List Stp} {r : List Nat} (h : S.pSteps (m + 1) (l.drop p) = some (T, r)) :
 p + 10 ≤ l.length ∧ ∃ T' : List Stp, S.pSteps m (l.drop (p + 10)) = some (T', r) ∧ T = ⟨S.rdB true ((l.drop p).take 4), S.rdB true ((l.drop (p + 4)).take 6)⟩ :: T' := by
 rw [pSteps_succ] at h
 by_cases h10 : (l.drop p).length < 10
 ·rw [if_pos h10] at h
  cases h
 ·rw [if_neg h10, List.drop_drop] at h
  rw [List.length_drop] at h10
  cases hq : S.pSteps m (l.drop (p + 10)) with
  | none => rw [hq] at h; cases h
  | some q =>
   obtain ⟨T', r'⟩ := q
   rw [hq] at h
   injection h with h
   injection h with h5 h6
   subst h6
   refine ⟨by omega, T', rfl, ?_⟩
   rw [← h5, List.drop_drop]
theorem pSteps_nil {l r : List Nat} {T : List Stp} (h : S.pSteps 0 l = some (T, r)) : T = [] ∧ r = l := by
 unfold S.pSteps at h
 injection h with h
 injection h with h1 h2
 exact ⟨h1.symm, h2.symm⟩
theorem pLists_nil {l r : List Nat} {T : List (List Stp)} (h : S.pLists 0 l = some (T, r)) : T = [] ∧ r = l := by
 unfold S.pLists at h
 injection h with h
 injection h with h1 h2
 exact ⟨h1.symm, h2.symm⟩
def S.fewSt (n : Nat) : Bool := decide (n ≤ 20) || (decide (200 < n) && decide (n ≤ 205))
def S.smallC (c : Cl) : Bool := (decide (c.areas.length ≤ 8) || (decide (20 < c.areas.length) && decide (c.areas.length ≤ 25))) && c.areas.all (fun l => S.fewSt l.length)
theorem enc_small {c : Cl} (h : S.formed c = true) (hs : S.smallC c = true) : 19 ≤ (S.enc c).length ∧ (S.enc c).length ≤ 2000 := by
 obtain ⟨hl, ha, _⟩ := formed_in h
 have h1 := encB_len h
 have h2 := enc_len c
 unfold S.smallC at hs
 simp only [Bool.and_eq_true, Bool.or_eq_true, decide_eq_true_eq] at hs
 have h8 : c.areas.length ≤ 8 := by omega
 have hb : (S.encL c.areas).length ≤ 201 * c.areas.length := by
  have hs2 := hs.2
  generalize c.areas = L at ha hs2
  clear hs h1 h2 h8 hl
  induction L with
  | nil => exact Nat.le_refl _
  | cons l t ih =>
   rw [List.all_cons, Bool.and_eq_true] at ha hs2
   have i1 := ih ha.2 hs2.2
   have i2 := (steps_in ha.1).1
   have i3 := encS_len l
   have i4 := hs2.1
   unfold S.fewSt at i4
   simp only [Bool.and_eq_true, Bool.or_eq_true, decide_eq_true_eq] at i4
   unfold S.encL at i1 ⊢
   rw [List.flatMap_cons, List.length_append, List.length_cons, List.length_cons]
   omega
 have h3 : (S.encB c).length = 3 + ((S.encL c.areas).length + 12) := by
  unfold S.encB
  simp only [List.length_append, List.length_cons, List.length_nil, be_len]
 omega
theorem enc_lt {c : Cl} (hB : ∀ x, x ∈ S.encB c → x < 256) : ∀ x, x ∈ S.enc c → x < 256 := by
 intro x hx
 unfold S.enc at hx
 rcases List.mem_append.1 hx with hx | hx
 ·exact hB x hx
 ·exact be_lt _ _ _ hx
theorem all_steps {L : List Sk} (h : ∀ (j : Nat) (hj : j < L.length), S.steps L[j].l = true) : (L.map (·.l)).all S.steps = true := by
 rw [List.all_eq_true]
 intro l hl
 obtain ⟨r, hr, rfl⟩ := List.mem_map.1 hl
 obtain ⟨j, hj, rfl⟩ := List.getElem_of_mem hr
 exact h j hj
theorem not_all_steps {L : List Sk} {k : Nat} (hk : k < L.length) (h : S.steps L[k].l = false) : (L.map (·.l)).all S.steps = false := by
 rw [List.all_eq_false]
 exact ⟨L[k].l, List.mem_map_of_mem (List.getElem_mem hk), by rw [h]; decide⟩
set_option maxRecDepth 20000 in
set_option maxHeartbeats 2500000 in
theorem rformed_any (x : Ck) (B : Nat) (w : World) (hB : B ≤ w.heap.size) (hx : CkAt w B x) : Calls Tryz.prog 20 #[ckV x] w fun e w' => e = .returned (.bool (S.formed x.cl)) ∧ Below w.heap.size w w' := by
 have H := Lib.hid (show S.formed x.cl = (decide ((x.L.map (·.l)).length ≤ 20) && (x.L.map (·.l)).all S.steps && (S.noneCl x.cl || (decide (0 ≤ x.first) && decide (x.first < x.second) && decide (x.second < 2000) && decide (0 ≤ x.square) && decide (x.square ≤ 1125899906842624)))) from rfl)
 have hlen := hx.len
 have hmap : (x.L.map (·.l)).length = x.n := by simp [hlen]
 rw [hmap] at H
 have HX := Lib.hid hx
 have hm1 := hx.max
 have HLN := Lib.hid hlen
 clear hmap hlen hx
 unfold ckV
 have hDB := Blk.new w 39 #[.slice x.A x.n x.c, .int .i64 x.first, .int .i64 x.second, .int .i64 x.square]
 have hW1 : Below w.heap.size w (w.alloc (.cells #[.slice x.A x.n x.c, .int .i64 x.first, .int .i64 x.second, .int .i64 x.square] 39)) := ba_alloc (Below.refl _ _) _
 go_enter Tryz.func20, Tryz.ntmps20
 go_upto_region 1 with fail
 generalize (w.alloc (.cells #[.slice x.A x.n x.c, .int .i64 x.first, .int .i64 x.second, .int .i64 x.square] 39)) = W1 at *
 have HDB := Lib.hid hDB
 have d0 := hDB.cell 0
 have dl := hDB.lt
 simp only [List.getElem?_toArray, List.getElem?_cons_zero, List.getElem?_cons_succ] at d0
 clear hDB
 by_cases hn : 20 < x.n
 ·have hni : (20 : Int) < x.n := by omega
  have H2 := Lib.hid (show false = S.formed x.cl by rw [H.out, decide_eq_false (by omega)]; rfl)
  go_wp2
  go_ret
  exact ⟨ret_b H2.out, hW1⟩
 ·have hni : ¬ ((20 : Int) < x.n) := by omega
  have H2 := Lib.hid (show S.formed x.cl = ((x.L.map (·.l)).all S.steps && (S.noneCl x.cl || (decide (0 ≤ x.first) && decide (x.first < x.second) && decide (x.second < 2000) && decide (0 ≤ x.square) && decide (x.square ≤ 1125899906842624)))) by rw [H.out, decide_eq_true (show x.n ≤ 20 by omega)]; rfl)
  clear H
  go_wp2
  go_loopw [3] (fun i wr => ∃ k : Nat, k ≤ x.n ∧ i = .int .i64 k ∧ Hid (∀ (j : Nat) (hj : j < x.L.length), j < k → S.steps x.L[j].l = true) ∧ Hid (Below W1.heap.size W1 wr)) (fun i _ => x.n - (intOf i).toNat)
  case atStart => exact ⟨0, Nat.zero_le _, rfl, Lib.hid (fun j _ hj => absurd hj (by omega)), Lib.hid (Below.refl _ _)⟩
  case round =>
   obtain ⟨k, hk, rfl, hT, HBR⟩ := hrel
   have hbr : Below w.heap.size w wr := ba_via HBR.out hW1
   have hDr := HDB.out.via HBR.out
   clear d0 dl
   have d0 := hDr.cell 0
   have d1 := hDr.cell 1
   have d2 := hDr.cell 2
   have d3 := hDr.cell 3
   have dl := hDr.lt
   simp only [List.getElem?_toArray, List.getElem?_cons_zero, List.getElem?_cons_succ] at d0 d1 d2 d3
   by_cases hlt : k < x.n
   ·have hkx : k < x.L.length := by have := HLN.out; omega
    have hkn : (k : Int) < (x.n : Int) := by omega
    have hx' := HX.out.cells.below (hbr.mono hB)
    obtain ⟨b1, o1, hA1, hb1, hxx⟩ := hx'.at_ (by simp; omega)
    have c0 := hxx k _ (skV_get hkx)
    clear hxx hx' d1 d2 d3
    have HST := Lib.hid (rsteps_any x.L[k].l x.L[k].A x.L[k].n x.L[k].c B wr (Nat.le_trans hB hbr.size) ((HX.out.each _ (List.getElem_mem hkx)).below (hbr.mono hB)))
    have HNO := Lib.hid (fun (h : S.steps x.L[k].l = false) => show false = S.formed x.cl by rw [H2.out, not_all_steps hkx h]; rfl)
    have HYE := Lib.hid (fun (h : S.steps x.L[k].l = true) => show ∀ (j : Nat) (hj : j < x.L.length), j < k + 1 → S.steps x.L[j].l = true from fun j hj hjk => by
     by_cases hjk' : j = k
     ·subst hjk'; exact h
     ·exact hT.out j hj (by omega))
    generalize x.L[k] = r at *
    obtain ⟨rA, rn, rc, rl⟩ := r
    replace c0 : wr.cell? ⟨b1, o1 + k, none⟩ = some (.slice rA rn rc) := c0
    replace HST : Hid (Calls Tryz.prog 54 #[.slice rA rn rc] wr fun e w' => e = .returned (.bool (S.steps rl)) ∧ Below wr.heap.size wr w') := HST
    replace HNO : Hid (S.steps rl = false → false = S.formed x.cl) := HNO
    replace HYE : Hid (S.steps rl = true → ∀ (j : Nat) (hj : j < x.L.length), j < k + 1 → S.steps x.L[j].l = true) := HYE
    generalize hal : S.steps rl = al at *
    generalize x.A = xA at *
    subst hA1
    clear hal
    cases al
    ·have H4 := Lib.hid (HNO.out rfl)
     go_wp2_with (go_at_call 54; (with_reducible refine HST.out.mono ?_); rintro e w2 ⟨rfl, hbw2⟩)
     go_ret
     exact ⟨ret_b H4.out, ba_via hbw2 hbr⟩
    ·have H4 := Lib.hid (HYE.out rfl)
     go_wp2_with (go_at_call 54; (with_reducible refine HST.out.mono ?_); rintro e w2 ⟨rfl, hbw2⟩)
     go_roundw
     case rel => exact ⟨k + 1, by omega, by go_num, H4, Lib.hid (ba_via hbw2 HBR.out)⟩
     case measure => simp [intOf]; omega
   ·have hkn : ¬ ((k : Int) < (x.n : Int)) := by omega
    have HALL := Lib.hid (all_steps (fun j hj => hT.out j hj (by have := HLN.out; omega)))
    have H3 := Lib.hid (show S.formed x.cl = (S.noneCl x.cl || (decide (0 ≤ x.first) && decide (x.first < x.second) && decide (x.second < 2000) && decide (0 ≤ x.square) && decide (x.square ≤ 1125899906842624))) by rw [H2.out, HALL.out]; rfl)
    have HN := Lib.hid (show S.noneCl x.cl = (decide (x.first = -1) && decide (x.second = -1) && decide (x.square = -1)) from rfl)
    clear H2
    by_cases hf : x.first = -1
    ·have b1 : (x.first == -1) = true := by simp [hf]
     have n0 : ¬ (0 ≤ x.first) := by omega
     by_cases hs : x.second = -1
     ·have b2 : (x.second == -1) = true := by simp [hs]
      by_cases hq : x.square = -1
      ·have b3 : (x.square == -1) = true := by simp [hq]
       have H4 := Lib.hid (show true = S.formed x.cl by rw [H3.out, HN.out]; simp [hf, hs, hq])
       go_wp2
       go_ret
       exact ⟨ret_b H4.out, hbr⟩
      ·have b3 : (x.square == -1) = false := by simp [hq]
       have H4 := Lib.hid (show false = S.formed x.cl by rw [H3.out, HN.out]; simp [hq, n0])
       go_wp2
       go_ret
       exact ⟨ret_b H4.out, hbr⟩
     ·have b2 : (x.second == -1) = false := by simp [hs]
      have H4 := Lib.hid (show false = S.formed x.cl by rw [H3.out, HN.out]; simp [hs, n0])
      go_wp2
      go_ret
      exact ⟨ret_b H4.out, hbr⟩
    ·have b1 : (x.first == -1) = false := by simp [hf]
     have H3 := Lib.hid (show S.formed x.cl = (decide (0 ≤ x.first) && decide (x.first < x.second) && decide (x.second < 2000) && decide (0 ≤ x.square) && decide (x.square ≤ 1125899906842624)) by rw [H3.out, HN.out, decide_eq_false hf]; rfl)
     by_cases k1 : 0 ≤ x.first
     ·by_cases k2 : x.first < x.second
      ·by_cases k3 : x.second < 2000
       ·by_cases k4 : 0 ≤ x.square
        ·by_cases k5 : x.square ≤ 1125899906842624
         ·have H4 := Lib.hid (show true = S.formed x.cl by rw [H3.out, decide_eq_true k1, decide_eq_true k2, decide_eq_true k3, decide_eq_true k4, decide_eq_true k5]; simp)
          go_wp2
          go_ret
          exact ⟨ret_b H4.out, hbr⟩
         ·have H4 := Lib.hid (show false = S.formed x.cl by rw [H3.out, decide_eq_true k1, decide_eq_true k2, decide_eq_true k3, decide_eq_true k4, decide_eq_false k5]; simp)
          go_wp2
          go_ret
          exact ⟨ret_b H4.out, hbr⟩
        ·have H4 := Lib.hid (show false = S.formed x.cl by rw [H3.out, decide_eq_true k1, decide_eq_true k2, decide_eq_true k3, decide_eq_false k4]; simp)
         go_wp2
         go_ret
         exact ⟨ret_b H4.out, hbr⟩
       ·have H4 := Lib.hid (show false = S.formed x.cl by rw [H3.out, decide_eq_true k1, decide_eq_true k2, decide_eq_false k3]; simp)
        go_wp2
        go_ret
        exact ⟨ret_b H4.out, hbr⟩
      ·have H4 := Lib.hid (show false = S.formed x.cl by rw [H3.out, decide_eq_true k1, decide_eq_false k2]; simp)
       go_wp2
       go_ret
       exact ⟨ret_b H4.out, hbr⟩
     ·have H4 := Lib.hid (show false = S.formed x.cl by rw [H3.out, decide_eq_false k1]; simp)
      go_wp2
      go_ret
      exact ⟨ret_b H4.out, hbr⟩
theorem all_few {L : List Sk} (h : ∀ (j : Nat) (hj : j < L.length), S.fewSt L[j].l.length = true) : (L.map (·.l)).all (fun l => S.fewSt l.length) = true := by
 rw [List.all_eq_true]
 intro l hl
 obtain ⟨r, hr, rfl⟩ := List.mem_map.1 hl
 obtain ⟨j, hj, rfl⟩ := List.getElem_of_mem hr
 exact h j hj
theorem not_all_few {L : List Sk} {k : Nat} (hk : k < L.length) (h : S.fewSt L[k].l.length = false) : (L.map (·.l)).all (fun l => S.fewSt l.length) = false := by
 rw [List.all_eq_false]
 exact ⟨L[k].l, List.mem_map_of_mem (List.getElem_mem hk), by rw [h]; decide⟩
set_option maxRecDepth 20000 in
set_option maxHeartbeats 2500000 in
theorem rsmall_any (x : Ck) (B : Nat) (w : World) (hB : B ≤ w.heap.size) (hx : CkAt w B x) : Calls Tryz.prog 15 #[ckV x] w fun e w' => e = .returned (.bool (S.smallC x.cl)) ∧ Below w.heap.size w w' := by
 have H := Lib.hid (show S.smallC x.cl = ((decide ((x.L.map (·.l)).length ≤ 8) || (decide (20 < (x.L.map (·.l)).length) && decide ((x.L.map (·.l)).length ≤ 25))) && (x.L.map (·.l)).all (fun l => S.fewSt l.length)) from rfl)
 have hlen := hx.len
 have hmap : (x.L.map (·.l)).length = x.n := by simp [hlen]
 rw [hmap] at H
 have HX := Lib.hid hx
 have hm1 := hx.max
 have HLN := Lib.hid hlen
 clear hmap hlen hx
 unfold ckV
 have hDB := Blk.new w 39 #[.slice x.A x.n x.c, .int .i64 x.first, .int .i64 x.second, .int .i64 x.square]
 have hW1 : Below w.heap.size w (w.alloc (.cells #[.slice x.A x.n x.c, .int .i64 x.first, .int .i64 x.second, .int .i64 x.square] 39)) := ba_alloc (Below.refl _ _) _
 go_enter Tryz.func15, Tryz.ntmps15
 go_upto_region 1 with fail
 generalize (w.alloc (.cells #[.slice x.A x.n x.c, .int .i64 x.first, .int .i64 x.second, .int .i64 x.square] 39)) = W1 at *
 have HDB := Lib.hid hDB
 have d0 := hDB.cell 0
 have dl := hDB.lt
 simp only [List.getElem?_toArray, List.getElem?_cons_zero, List.getElem?_cons_succ] at d0
 clear hDB
 by_cases hn : x.n ≤ 8 ∨ (20 < x.n ∧ x.n ≤ 25)
 ·have H2 := Lib.hid (show S.smallC x.cl = (x.L.map (·.l)).all (fun l => S.fewSt l.length) by
   rw [H.out]
   rcases hn with h | ⟨h, h'⟩
   ·rw [decide_eq_true h]; rfl
   ·rw [decide_eq_true h, decide_eq_true h']; simp)
  have hc3 : (¬ ((8 : Int) < x.n) ∧ ¬ ((25 : Int) < x.n)) ∨ ((8 : Int) < x.n ∧ ¬ ((x.n : Int) ≤ 20) ∧ ¬ ((25 : Int) < x.n)) := by omega
  clear H hn
  rcases hc3 with ⟨i1, i2⟩ | ⟨i1, i2, i3⟩
  ·go_wp2
   go_loopw [3] (fun i wr => ∃ k : Nat, k ≤ x.n ∧ i = .int .i64 k ∧ Hid (∀ (j : Nat) (hj : j < x.L.length), j < k → S.fewSt x.L[j].l.length = true) ∧ Hid (Below W1.heap.size W1 wr)) (fun i _ => x.n - (intOf i).toNat)
   case atStart => exact ⟨0, Nat.zero_le _, rfl, Lib.hid (fun j _ hj => absurd hj (by omega)), Lib.hid (Below.refl _ _)⟩
   case round =>
    obtain ⟨k, hk, rfl, hT, HBR⟩ := hrel
    have hbr : Below w.heap.size w wr := ba_via HBR.out hW1
    have hDr := HDB.out.via HBR.out
    clear d0 dl
    have d0 := hDr.cell 0
    have dl := hDr.lt
    simp only [List.getElem?_toArray, List.getElem?_cons_zero, List.getElem?_cons_succ] at d0
    by_cases hlt : k < x.n
    ·have hkx : k < x.L.length := by have := HLN.out; omega
     have hkn : (k : Int) < (x.n : Int) := by omega
     have hx' := HX.out.cells.below (hbr.mono hB)
     obtain ⟨b1, o1, hA1, hb1, hxx⟩ := hx'.at_ (by simp; omega)
     have c0 := hxx k _ (skV_get hkx)
     clear hxx hx'
     have hrn := (HX.out.each _ (List.getElem_mem hkx)).len
     have hrm := (HX.out.each _ (List.getElem_mem hkx)).max
     have HNO := Lib.hid (fun (h : S.fewSt x.L[k].l.length = false) => show false = S.smallC x.cl by rw [H2.out, not_all_few hkx h])
     have HYE := Lib.hid (fun (h : S.fewSt x.L[k].l.length = true) => show ∀ (j : Nat) (hj : j < x.L.length), j < k + 1 → S.fewSt x.L[j].l.length = true from fun j hj hjk => by
      by_cases hjk' : j = k
      ·subst hjk'; exact h
      ·exact hT.out j hj (by omega))
     rw [hrn] at HNO HYE
     have HF := Lib.hid (show S.fewSt x.L[k].n = (decide (x.L[k].n ≤ 20) || (decide (200 < x.L[k].n) && decide (x.L[k].n ≤ 205))) from rfl)
     clear hrn
     generalize x.L[k] = r at *
     obtain ⟨rA, rn, rc, rl⟩ := r
     replace c0 : wr.cell? ⟨b1, o1 + k, none⟩ = some (.slice rA rn rc) := c0
     replace HNO : Hid (S.fewSt rn = false → false = S.smallC x.cl) := HNO
     replace HYE : Hid (S.fewSt rn = true → ∀ (j : Nat) (hj : j < x.L.length), j < k + 1 → S.fewSt x.L[j].l.length = true) := HYE
     replace HF : Hid (S.fewSt rn = (decide (rn ≤ 20) || (decide (200 < rn) && decide (rn ≤ 205)))) := HF
     replace hrm : rn ≤ 9223372036854775807 := hrm
     generalize x.A = xA at *
     subst hA1
     have hc5 : (¬ ((20 : Int) < rn) ∧ ¬ ((205 : Int) < rn)) ∨ ((20 : Int) < rn ∧ ((rn : Int) ≤ 200)) ∨ ((20 : Int) < rn ∧ ¬ ((rn : Int) ≤ 200) ∧ ¬ ((205 : Int) < rn)) ∨ ((20 : Int) < rn ∧ ¬ ((rn : Int) ≤ 200) ∧ ((205 : Int) < rn)) := by omega
     rcases hc5 with ⟨j1, j2⟩ | ⟨j1, j2⟩ | ⟨j1, j2, j3⟩ | ⟨j1, j2, j3⟩
     ·have H4 := Lib.hid (HYE.out (by rw [HF.out, decide_eq_true (show rn ≤ 20 by omega)]; rfl))
      go_wp2
      go_roundw
      case rel => exact ⟨k + 1, by omega, by go_num, H4, HBR⟩
      case measure => simp [intOf]; omega
     ·have H4 := Lib.hid (HNO.out (by rw [HF.out, decide_eq_false (show ¬ rn ≤ 20 by omega), decide_eq_false (show ¬ 200 < rn by omega)]; rfl))
      go_wp2
      go_ret
      exact ⟨ret_b H4.out, hbr⟩
     ·have H4 := Lib.hid (HYE.out (by rw [HF.out, decide_eq_true (show 200 < rn by omega), decide_eq_true (show rn ≤ 205 by omega)]; simp))
      go_wp2
      go_roundw
      case rel => exact ⟨k + 1, by omega, by go_num, H4, HBR⟩
      case measure => simp [intOf]; omega
     ·have H4 := Lib.hid (HNO.out (by rw [HF.out, decide_eq_false (show ¬ rn ≤ 20 by omega), decide_eq_false (show ¬ rn ≤ 205 by omega)]; simp))
      go_wp2
      go_ret
      exact ⟨ret_b H4.out, hbr⟩
    ·have hkn : ¬ ((k : Int) < (x.n : Int)) := by omega
     have H4 := Lib.hid (show true = S.smallC x.cl by rw [H2.out, all_few (fun j hj => hT.out j hj (by have := HLN.out; omega))])
     go_wp2
     go_ret
     exact ⟨ret_b H4.out, hbr⟩
  ·go_wp2
   go_loopw [3] (fun i wr => ∃ k : Nat, k ≤ x.n ∧ i = .int .i64 k ∧ Hid (∀ (j : Nat) (hj : j < x.L.length), j < k → S.fewSt x.L[j].l.length = true) ∧ Hid (Below W1.heap.size W1 wr)) (fun i _ => x.n - (intOf i).toNat)
   case atStart => exact ⟨0, Nat.zero_le _, rfl, Lib.hid (fun j _ hj => absurd hj (by omega)), Lib.hid (Below.refl _ _)⟩
   case round =>
    obtain ⟨k, hk, rfl, hT, HBR⟩ := hrel
    have hbr : Below w.heap.size w wr := ba_via HBR.out hW1
    have hDr := HDB.out.via HBR.out
    clear d0 dl
    have d0 := hDr.cell 0
    have dl := hDr.lt
    simp only [List.getElem?_toArray, List.getElem?_cons_zero, List.getElem?_cons_succ] at d0
    by_cases hlt : k < x.n
    ·have hkx : k < x.L.length := by have := HLN.out; omega
     have hkn : (k : Int) < (x.n : Int) := by omega
     have hx' := HX.out.cells.below (hbr.mono hB)
     obtain ⟨b1, o1, hA1, hb1, hxx⟩ := hx'.at_ (by simp; omega)
     have c0 := hxx k _ (skV_get hkx)
     clear hxx hx'
     have hrn := (HX.out.each _ (List.getElem_mem hkx)).len
     have hrm := (HX.out.each _ (List.getElem_mem hkx)).max
     have HNO := Lib.hid (fun (h : S.fewSt x.L[k].l.length = false) => show false = S.smallC x.cl by rw [H2.out, not_all_few hkx h])
     have HYE := Lib.hid (fun (h : S.fewSt x.L[k].l.length = true) => show ∀ (j : Nat) (hj : j < x.L.length), j < k + 1 → S.fewSt x.L[j].l.length = true from fun j hj hjk => by
      by_cases hjk' : j = k
      ·subst hjk'; exact h
      ·exact hT.out j hj (by omega))
     rw [hrn] at HNO HYE
     have HF := Lib.hid (show S.fewSt x.L[k].n = (decide (x.L[k].n ≤ 20) || (decide (200 < x.L[k].n) && decide (x.L[k].n ≤ 205))) from rfl)
     clear hrn
     generalize x.L[k] = r at *
     obtain ⟨rA, rn, rc, rl⟩ := r
     replace c0 : wr.cell? ⟨b1, o1 + k, none⟩ = some (.slice rA rn rc) := c0
     replace HNO : Hid (S.fewSt rn = false → false = S.smallC x.cl) := HNO
     replace HYE : Hid (S.fewSt rn = true → ∀ (j : Nat) (hj : j < x.L.length), j < k + 1 → S.fewSt x.L[j].l.length = true) := HYE
     replace HF : Hid (S.fewSt rn = (decide (rn ≤ 20) || (decide (200 < rn) && decide (rn ≤ 205)))) := HF
     replace hrm : rn ≤ 9223372036854775807 := hrm
     generalize x.A = xA at *
     subst hA1
     have hc5 : (¬ ((20 : Int) < rn) ∧ ¬ ((205 : Int) < rn)) ∨ ((20 : Int) < rn ∧ ((rn : Int) ≤ 200)) ∨ ((20 : Int) < rn ∧ ¬ ((rn : Int) ≤ 200) ∧ ¬ ((205 : Int) < rn)) ∨ ((20 : Int) < rn ∧ ¬ ((rn : Int) ≤ 200) ∧ ((205 : Int) < rn)) := by omega
     rcases hc5 with ⟨j1, j2⟩ | ⟨j1, j2⟩ | ⟨j1, j2, j3⟩ | ⟨j1, j2, j3⟩
     ·have H4 := Lib.hid (HYE.out (by rw [HF.out, decide_eq_true (show rn ≤ 20 by omega)]; rfl))
      go_wp2
      go_roundw
      case rel => exact ⟨k + 1, by omega, by go_num, H4, HBR⟩
      case measure => simp [intOf]; omega
     ·have H4 := Lib.hid (HNO.out (by rw [HF.out, decide_eq_false (show ¬ rn ≤ 20 by omega), decide_eq_false (show ¬ 200 < rn by omega)]; rfl))
      go_wp2
      go_ret
      exact ⟨ret_b H4.out, hbr⟩
     ·have H4 := Lib.hid (HYE.out (by rw [HF.out, decide_eq_true (show 200 < rn by omega), decide_eq_true (show rn ≤ 205 by omega)]; simp))
      go_wp2
      go_roundw
      case rel => exact ⟨k + 1, by omega, by go_num, H4, HBR⟩
      case measure => simp [intOf]; omega
     ·have H4 := Lib.hid (HNO.out (by rw [HF.out, decide_eq_false (show ¬ rn ≤ 20 by omega), decide_eq_false (show ¬ rn ≤ 205 by omega)]; simp))
      go_wp2
      go_ret
      exact ⟨ret_b H4.out, hbr⟩
    ·have hkn : ¬ ((k : Int) < (x.n : Int)) := by omega
     have H4 := Lib.hid (show true = S.smallC x.cl by rw [H2.out, all_few (fun j hj => hT.out j hj (by have := HLN.out; omega))])
     go_wp2
     go_ret
     exact ⟨ret_b H4.out, hbr⟩
 ·have H2 := Lib.hid (show false = S.smallC x.cl by
   rw [H.out, decide_eq_false (show ¬ x.n ≤ 8 by omega)]
   by_cases h20 : 20 < x.n
   ·rw [decide_eq_true h20, decide_eq_false (show ¬ x.n ≤ 25 by omega)]; rfl
   ·rw [decide_eq_false h20]; rfl)
  have i1 : (8 : Int) < x.n := by omega
  have hc4 : ((x.n : Int) ≤ 20) ∨ (¬ ((x.n : Int) ≤ 20) ∧ (25 : Int) < x.n) := by omega
  clear H hn
  rcases hc4 with i2 | ⟨i2, i3⟩
  ·go_wp2
   go_ret
   exact ⟨ret_b H2.out, hW1⟩
  ·go_wp2
   go_ret
   exact ⟨ret_b H2.out, hW1⟩
end Go.Proofs.YtnmolefblaahmaaGreat
namespace Go.Proofs.YtnmolefblaahmaaGreat
open Go.ChangeShapes Go.WideShapes Go.ChangeAt Go.RowKit
section
variable {H : Type} {enc : TypeId × Value → H} {w : World} {base : Nat} {sp : Nat → Bool} {hd : Bool}
theorem cellsU8 : Tryz.prog.cellsOf 5 = 1 := by kernel_rfl
theorem cellsLists : Tryz.prog.cellsOf 37 = 1 := by kernel_rfl
theorem cellsClaim : Tryz.prog.cellsOf 39 = 4 := by kernel_rfl
instance : Inhabited Sk := ⟨⟨none, 0, 0, []⟩⟩
theorem opn_u8 {fuel : Nat} {cs : List Value} {y : Option (DataW H × List MemPlace)} (h : DataW.trod enc Tryz.prog w base sp hd fuel 5 cs = y) (hy : y.isSome = true) : ∃ x : Nat, cs = [bC x] ∧ x < 256 := by
 obtain ⟨z, rfl⟩ := Option.isSome_iff_exists.1 hy
 obtain ⟨n, rfl, _, hw⟩ := DataW.trod_int Tryz.underlying5 h
 have hb := bounds_u8 hw
 obtain ⟨x, rfl⟩ := Int.eq_ofNat_of_zero_le hb.1
 exact ⟨x, rfl, by omega⟩
theorem flat_one {α : Type} (f : α → Value) (l : List α) : l.flatMap (fun x => [f x]) = l.map f := by
 induction l with
 | nil => rfl
 | cons a t ih => rw [List.flatMap_cons, ih]; rfl
theorem arg_bytes {A : Option Addr} {n c : Nat} {d : DataW H} {p : List MemPlace} (h : DataW.Trod enc Tryz.prog w base sp hd 52 (.slice A n c) d p) :
 ∃ l : List Nat, l.length = n ∧ n ≤ c ∧ c ≤ maxLen ∧ Cells w w.heap.size A (l.map bC) ∧ ∀ x, x ∈ l → x < 256 := by
 obtain ⟨fuel, hf⟩ := h
 obtain ⟨A', n', c', xs, he, h1, h2, h3, h4, h5⟩ := opn_rows Tryz.underlying52 (fun x : Nat => [bC x]) 1 (by decide) (fun _ => rfl) cellsU8 (fun x => x < 256) (fun h hy => opn_u8 h hy) hf rfl
 have he' : [Value.slice A n c] = [Value.slice A' n' c'] := he
 injection he' with he' _
 injection he' with e1 e2 e3
 subst e1 e2 e3
 rw [flat_one bC] at h4
 exact ⟨xs, h1, h2, h3, h4, h5⟩
theorem opn_sk {fuel : Nat} {cs : List Value} {y : Option (DataW H × List MemPlace)} (h : DataW.trod enc Tryz.prog w base sp hd fuel 66 cs = y) (hy : y.isSome = true) :
 ∃ r : Sk, cs = [skV r] ∧ (StepsAt w w.heap.size r.A r.n r.l ∧ r.n ≤ r.c ∧ r.c ≤ maxLen ∧ ∀ s, s ∈ r.l → StpI s) := by
 obtain ⟨A, n, c, xs, rfl, h1, h2, h3, h4, h5⟩ := opn_steps h hy
 have hmx : maxLen ≤ 9223372036854775807 := by unfold maxLen; decide
 exact ⟨⟨A, n, c, xs⟩, rfl, ⟨h1, by show n ≤ _; omega, h4⟩, h2, h3, h5⟩
theorem opn_lists {fuel : Nat} {cs : List Value} {y : Option (DataW H × List MemPlace)} (h : DataW.trod enc Tryz.prog w base sp hd fuel 37 cs = y) (hy : y.isSome = true) :
 ∃ (A : Option Addr) (n c : Nat) (L : List Sk), cs = [.slice A n c] ∧ AreasAt w w.heap.size A n L ∧ n ≤ c ∧ c ≤ maxLen ∧ ∀ r, r ∈ L → r.n ≤ r.c ∧ r.c ≤ maxLen ∧ ∀ s, s ∈ r.l → StpI s := by
 obtain ⟨A, n, c, L, rfl, h1, h2, h3, h4, h5⟩ := opn_rows Tryz.underlying37 (fun r : Sk => [skV r]) 1 (by decide) (fun _ => rfl) cellsSteps _ (fun h hy => opn_sk h hy) h hy
 rw [flat_one skV] at h4
 have hmx : maxLen ≤ 9223372036854775807 := by unfold maxLen; decide
 exact ⟨A, n, c, L, rfl, ⟨h1, by omega, h4, fun r hr => (h5 r hr).1⟩, h2, h3, fun r hr => (h5 r hr).2⟩
theorem len4 {α : Type} {l : List α} (h : l.length = 4) : ∃ a b c d, l = [a, b, c, d] := by
 match l, h with
 | [a, b, c, d], _ => exact ⟨a, b, c, d, rfl⟩
theorem arg_claim {cs : Array Value} {d : DataW H} {p : List MemPlace} (h : DataW.Trod enc Tryz.prog w base sp hd 39 (.agg cs) d p) :
 ∃ x : Ck, cs = (ckV x).cells ∧ CkAt w w.heap.size x ∧ I64 x.first ∧ I64 x.second ∧ I64 x.square := by
 obtain ⟨fuel, hf⟩ := h
 obtain ⟨xs, n, _, _, hl, hxl, hg⟩ := DataW.trod_struct Tryz.underlying39 hf
 rw [cellsClaim] at hl
 generalize hcl : cs.toList = cl at *
 have hcl2 : (Value.agg cs).cells.toList = cl := hcl
 rw [hcl2] at hl hg
 obtain ⟨a0, a1, a2, a3, rfl⟩ := len4 hl
 have hs : ∀ i, i < 4 → xs[i]?.isSome = true := fun i hi => by
  have : xs.length = 4 := hxl
  simp [this, hi]
 obtain ⟨A, m, c, L, e0, h0, _, _, _⟩ := opn_lists (hg 0 _ rfl) (hs 0 (by decide))
 obtain ⟨n1, e1, b1⟩ := opn_int (hg 1 _ rfl) (hs 1 (by decide))
 obtain ⟨n2, e2, b2⟩ := opn_int (hg 2 _ rfl) (hs 2 (by decide))
 obtain ⟨n3, e3, b3⟩ := opn_int (hg 3 _ rfl) (hs 3 (by decide))
 simp [cellsLists, cellsInt] at e0 e1 e2 e3
 subst e0 e1 e2 e3
 refine ⟨⟨L, A, m, c, n1, n2, n3⟩, ?_, h0, b1, b2, b3⟩
 exact Array.toList_inj.1 hcl
end
end Go.Proofs.YtnmolefblaahmaaGreat
namespace Go.Proofs.YtnmolefblaahmaaGreat
open Go.RowKit
set_option maxRecDepth 20000 in
set_option maxHeartbeats 1500000 in
theorem rread_any (l : List Nat) (A : Option Addr) (k c : Nat) (B : Nat) (w : World) (hn : l.length = k) (hk : 1 ≤ k ∧ k ≤ 8) (hl : ∀ x, x ∈ l → x < 256) (hx : Cells w B A (l.map bC)) :
 Calls Tryz.prog 59 #[.slice A k c] w fun e w' => e = .returned (.int .i64 (S.rdB true l)) ∧ w = w' := by
 obtain ⟨b, p, rfl, _, hxx⟩ := hx.at_ (by simp; omega)
 have HC := Lib.hid (show ∀ (q : Nat) (hq : q < l.length), w.cell? ⟨b, p + q, none⟩ = some (.int .u8 (l[q] : Int)) from fun q hq => hxx q _ (bC_get hq))
 have HL := Lib.hid hl
 have HN := Lib.hid hn
 have HV := Lib.hid (rd_case hl (by omega) true)
 have h0 : 0 < l.length := by omega
 have HH := Lib.hid (show l.headD 0 = l[0] from by have := head_take l (k := l.length) h0 h0; rwa [List.take_length] at this)
 clear hxx hx hl hn
 go_enter Tryz.func59, Tryz.ntmps59
 go_wp2
 go_loop [3, 4] (fun v i => ∃ q : Nat, q ≤ k ∧ i = .int .i64 q ∧ v = .int .i64 (S.wrB (l.take q))) (fun _ i => k - (intOf i).toNat)
 case atStart => exact ⟨0, Nat.zero_le _, rfl, rfl⟩
 case round =>
  obtain ⟨q, hq, rfl, rfl⟩ := hrel
  by_cases hlt : q < k
  ·have hqx : q < l.length := by have := HN.out; omega
   have hqi : (q : Int) < k := by omega
   have hcq := HC.out q hqx
   have HS := Lib.hid (wr_add hqx (HL.out _ (List.getElem_mem hqx)))
   have h1 := HL.out _ (List.getElem_mem hqx)
   generalize S.wrB (l.take q) = V at *
   generalize l[q] = x at *
   have e2 : IntKind.i64.wrap (x : Int) = (x : Int) := IntWalk.i64_in _ (by omega)
   have q12 := fun W => shl_run V W
   go_wp2
   go_round
   case rel => exact ⟨q + 1, by omega, by go_num, by rw [← HS.out]; simp only [wrap64_eq]⟩
   case measure => simp [intOf]; omega
  ·have hqk : q = k := by omega
   have hqi : ¬ ((q : Int) < k) := by omega
   subst hqk
   clear hqi hlt
   have ht : l.take q = l := List.take_of_length_le (Nat.le_of_eq HN.out)
   rw [ht]
   have hv0 := HL.out _ (List.getElem_mem h0)
   have HV2 := HV.out
   rw [HN.out, HH.out] at HV2
   have HVS := Lib.hid (fun (h : q ≤ 7) => show 0 ≤ S.wrB l from by rw [(wr_small HL.out (by rw [HN.out]; exact h)).1]; omega)
   have hwb : -9223372036854775808 ≤ S.wrB l ∧ S.wrB l ≤ 9223372036854775807 := by unfold S.wrB; rw [IntKind.wrap_i64]; omega
   generalize S.wrB l = V at *
   have b0 := HC.out 0 h0
   simp only [Nat.add_zero] at b0
   generalize l[0] = y at *
   clear ht
   have HP := Lib.hid hwb
   have HE := Lib.hid (fun (_ : (128 : Int) ≤ y) (h7 : q ≤ 7) => show IntKind.i64.wrap (V - 256 ^ q) = V - 256 ^ q from by
    have h2 : (256 : Nat) ^ q ≤ 256 ^ 7 := Nat.pow_le_pow_right (by decide) h7
    have h3 : ((256 ^ q : Nat) : Int) = (256 : Int) ^ q := by rw [Int.natCast_pow]; rfl
    have h4 := HVS.out h7
    rw [← h3]
    generalize (256 : Nat) ^ q = z at *
    exact IntWalk.i64_in _ (by omega))
   have HP2 := Lib.hid (fun (h7 : q ≤ 7) => show IntKind.i64.wrap ((2 ^ 8 : Int) ^ q) = 256 ^ q from by
    have h2 : (256 : Nat) ^ q ≤ 256 ^ 7 := Nat.pow_le_pow_right (by decide) h7
    have h3 : ((256 ^ q : Nat) : Int) = (256 : Int) ^ q := by rw [Int.natCast_pow]; rfl
    show IntKind.i64.wrap ((256 : Int) ^ q) = 256 ^ q
    rw [← h3]
    generalize (256 : Nat) ^ q = z at *
    exact IntWalk.i64_in _ (by omega))
   by_cases h8 : q < 8
   ·have h8i : (q : Int) < 8 := by omega
    by_cases hy : 128 ≤ y
    ·have hyi : (128 : Int) ≤ y := by omega
     have HR := Lib.hid (show S.rdB true l = V - 256 ^ q from by rw [HV2, decide_eq_true h8, decide_eq_true hy]; rfl)
     clear HV2 HV
     have q32 := fun W => shl1_run q (by omega) W
     have e1 : IntKind.i64.wrap (8 * (q : Int)) = 8 * (q : Int) := IntWalk.i64_in _ (by omega)
     have e2 : IntKind.i64.wrap (V - 256 ^ q) = V - 256 ^ q := HE.out hyi (by omega)
     have e3 : wrap64 (V - wrap64 (2 ^ (8 * q))) = V - 256 ^ q := by
      have h5 : wrap64 (2 ^ (8 * q)) = 256 ^ q := by
       rw [wrap64_eq, Int.pow_mul]
       exact HP2.out (by omega)
      rw [h5, wrap64_eq]
      exact e2
     have HR2 := Lib.hid (HR.out.trans e3.symm)
     clear e3
     go_wp2
     go_ret
     first | exact ⟨ret_i HR2.out.symm, rfl⟩ | exact ⟨ret_i HR.out.symm, rfl⟩
    ·have hyi : ¬ ((128 : Int) ≤ y) := by omega
     have HR := Lib.hid (show S.rdB true l = V from by rw [HV2, decide_eq_true h8, decide_eq_false hy]; rfl)
     clear HV2 HV
     go_wp2
     go_ret
     exact ⟨ret_i HR.out.symm, rfl⟩
   ·have h8i : ¬ ((q : Int) < 8) := by omega
    have HR := Lib.hid (show S.rdB true l = V from by rw [HV2, decide_eq_false h8]; rfl)
    clear HV2 HV
    go_wp2
    go_ret
    exact ⟨ret_i HR.out.symm, rfl⟩
theorem sizeAt_none {l : List Nat} {n k : Nat} (h : l.length ≤ k) : S.sizeAt l (n + 1) k = none := by
 unfold S.sizeAt
 rw [List.getElem?_eq_none h]
theorem sizeAt_next {l : List Nat} {n k : Nat} (h : k < l.length) : S.sizeAt l (n + 1) k = S.sizeAt l n (k + 1 + 10 * l[k]) := by
 rw [S.sizeAt, List.getElem?_eq_getElem h]
set_option maxRecDepth 20000 in
set_option maxHeartbeats 1500000 in
theorem r51size_any (l : List Nat) (A : Option Addr) (n c : Nat) (B : Nat) (w : World) (hn : l.length = n) (hm : n ≤ 9223372036854775807) (hl : ∀ x, x ∈ l → x < 256) (hx : Cells w B A (l.map bC)) :
 Calls Tryz.prog 58 #[.slice A n c] w fun e w' => e = .returned (.int .i64 (S.sizeR l)) ∧ w = w' := by
 by_cases h3 : n < 3
 ·have HS := Lib.hid (show S.sizeR l = -1 from by unfold S.sizeR; rw [List.getElem?_eq_none (by omega)])
  have h3i : (n : Int) < 3 := by omega
  clear hx hl hn
  go_enter Tryz.func58, Tryz.ntmps58
  go_wp2
  go_ret
  exact ⟨ret_i HS.out.symm, rfl⟩
 ·have h3i : ¬ ((n : Int) < 3) := by omega
  have h2n : (2 : Int) < n := by omega
  have h2x : 2 < l.length := by omega
  obtain ⟨b, o, rfl, _, hxx⟩ := hx.at_ (by simp; omega)
  have HC := Lib.hid (show ∀ (q : Nat) (hq : q < l.length), w.cell? ⟨b, o + q, none⟩ = some (.int .u8 (l[q] : Int)) from fun q hq => hxx q _ (bC_get hq))
  have HS := Lib.hid (show S.sizeR l = match S.sizeAt l l[2] 3 with | none => (-1 : Int) | some m => (m : Int) + 16 from by
   unfold S.sizeR
   (rw [List.getElem?_eq_getElem h2x]) <;> rfl)
  have HL := Lib.hid hl
  have HN := Lib.hid hn
  have b2 := HC.out 2 h2x
  have hz256 := HL.out _ (List.getElem_mem h2x)
  clear hxx hx hl hn
  generalize l[2] = z at *
  have ez : IntKind.i64.wrap (z : Int) = (z : Int) := IntWalk.i64_in _ (by omega)
  go_enter Tryz.func58, Tryz.ntmps58
  go_wp2
  go_loop [3, 4] (fun a i => ∃ k p : Nat, k ≤ z ∧ i = .int .i64 k ∧ a = .int .i64 p ∧ p ≤ 3 + 2551 * k ∧ Hid (S.sizeAt l z 3 = S.sizeAt l (z - k) p)) (fun _ i => z - (intOf i).toNat)
  case atStart => exact ⟨0, 3, Nat.zero_le _, rfl, rfl, by omega, Lib.hid rfl⟩
  case round =>
   obtain ⟨k, p, hk, rfl, rfl, hp, hT⟩ := hrel
   by_cases hlt : k < z
   ·have hki : (k : Int) < z := by omega
    obtain ⟨m, hm1⟩ : ∃ m, z - k = m + 1 := ⟨z - k - 1, by omega⟩
    rw [hm1] at hT
    by_cases hpn : p < n
    ·have hpx : p < l.length := by have := HN.out; omega
     have hpi : ¬ ((n : Int) ≤ p) := by omega
     have hpj : (p : Int) < n := by omega
     have hcp := HC.out p hpx
     have h1 := HL.out _ (List.getElem_mem hpx)
     have HT2 := Lib.hid (hT.out.trans (sizeAt_next hpx))
     have HM := Lib.hid (show m = z - (k + 1) by omega)
     clear hm1 hT
     generalize l[p] = x at *
     have e2 : IntKind.i64.wrap (x : Int) = (x : Int) := IntWalk.i64_in _ (by omega)
     have e3 : IntKind.i64.wrap (10 * (x : Int)) = 10 * (x : Int) := IntWalk.i64_in _ (by omega)
     have e4 : IntKind.i64.wrap ((p : Int) + 1) = (p : Int) + 1 := IntWalk.i64_in _ (by omega)
     have e5 : IntKind.i64.wrap ((p : Int) + 1 + 10 * (x : Int)) = ((p + 1 + 10 * x : Nat) : Int) := by rw [show (p : Int) + 1 + 10 * (x : Int) = ((p + 1 + 10 * x : Nat) : Int) by omega]; exact IntWalk.i64_in _ (by omega)
     obtain ⟨p', hp'⟩ : ∃ p', p' = p + 1 + 10 * x := ⟨_, rfl⟩
     rw [← hp'] at HT2 e5
     have HP' := Lib.hid hp'
     clear hp'
     go_wp2
     go_round
     case rel => exact ⟨k + 1, p', by omega, by go_num, rfl, by have := HP'.out; omega, Lib.hid (by rw [← HM.out]; exact HT2.out)⟩
     case measure => simp [intOf]; omega
    ·have hpi : (n : Int) ≤ p := by omega
     have HR := Lib.hid (show (-1 : Int) = S.sizeR l from by rw [HS.out, hT.out, sizeAt_none (by have := HN.out; omega)])
     clear hm1
     go_wp2
     go_ret
     exact ⟨ret_i HR.out, rfl⟩
   ·have hki : ¬ ((k : Int) < z) := by omega
    have hk0 : z - k = 0 := by omega
    rw [hk0] at hT
    have HR := Lib.hid (show (p : Int) + 16 = S.sizeR l from by rw [HS.out, hT.out]; rfl)
    have e6 : IntKind.i64.wrap ((p : Int) + 16) = (p : Int) + 16 := IntWalk.i64_in _ (by omega)
    clear hk0
    go_wp2
    go_ret
    exact ⟨ret_i HR.out, rfl⟩
end Go.Proofs.YtnmolefblaahmaaGreat
