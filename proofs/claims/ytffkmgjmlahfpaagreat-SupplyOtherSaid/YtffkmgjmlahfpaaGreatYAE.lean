/- Contracts: demand.In of a right demand and a main leg; supply.value. Contracts: the closures of supply.suppliers and supply.at. -/
import Derived.Test.YtffkmgjmlahfpaaGreatYAA
import Derived.Test.YtffkmgjmlahfpaaGreatYAC
import Derived.Test.YtffkmgjmlahfpaaGreatYY
set_option linter.unusedVariables false
set_option linter.unusedSimpArgs false
namespace Go.Proofs.YtffkmgjmlahfpaaGreat
open Go.RowKit
def S.inside (a b : Bx) : Bool := (decide (b.lo.y ≤ a.lo.y) && decide (a.hi.y ≤ b.hi.y)) && (decide (b.lo.z ≤ a.lo.z) && decide (a.hi.z ≤ b.hi.z))
theorem dwithin_any (lo hi f t : Int) (w : World) :
    Calls Tryz.prog 168 #[.int .i64 lo, .int .i64 hi, .int .i64 f, .int .i64 t] w fun e w' => e = .returned (.bool (decide (f ≤ lo) && decide (hi ≤ t))) ∧ w = w' := by
  by_cases h : f ≤ lo
  · go_enter Tryz.func168, Tryz.ntmps168
    go_wp2
    go_ret
    exact ⟨ret_b (by simp [h]), rfl⟩
  · go_enter Tryz.func168, Tryz.ntmps168
    go_wp2
    go_ret
    exact ⟨ret_b (by rw [decide_eq_false (by omega)]; rfl), rfl⟩
theorem dinside_any (a b : Bx) (w : World) :
    Calls Tryz.prog 108 #[boxV a, boxV b] w fun e w' => e = .returned (.bool (S.inside a b)) ∧ Below w.heap.size w w' := by
  have H := Lib.hid (show S.inside a b = ((decide (b.lo.y ≤ a.lo.y) && decide (a.hi.y ≤ b.hi.y)) && (decide (b.lo.z ≤ a.lo.z) && decide (a.hi.z ≤ b.hi.z))) from rfl)
  have H1 := Lib.hid (fun w => dwithin_any a.lo.y a.hi.y b.lo.y b.hi.y w)
  have H2 := Lib.hid (fun w => dwithin_any a.lo.z a.hi.z b.lo.z b.hi.z w)
  unfold boxV
  generalize (decide (b.lo.y ≤ a.lo.y) && decide (a.hi.y ≤ b.hi.y)) = t1 at *
  generalize (decide (b.lo.z ≤ a.lo.z) && decide (a.hi.z ≤ b.hi.z)) = t2 at *
  cases t1
  all_goals (
    go_enter Tryz.func108, Tryz.ntmps108
    go_wp2_with (first
      | (go_at_call 168; (with_reducible refine (H1.out _).mono ?_); rintro e w' ⟨rfl, rfl⟩)
      | (go_at_call 168; (with_reducible refine (H2.out _).mono ?_); rintro e w' ⟨rfl, rfl⟩))
    go_ret
    exact ⟨ret_b (by rw [H.out]; simp), bel⟩)
theorem demIn_any (d : Dm) (x1 x2 y z : Int) (B : Nat) (w : World) (hB : B ≤ w.heap.size) (hA : StepsAt w B d.A d.n d.st) (hm : d.name.size ≤ 9223372036854775807) (hd : S.demRight d = true) (hl : S.boxOk ⟨⟨x1, y, z⟩, ⟨x2, y, z⟩⟩ = true) :
    Calls Tryz.prog 52 #[dmV d, .agg #[.int .i64 x1, .int .i64 y, .int .i64 z, .int .i64 x2, .int .i64 y, .int .i64 z]] w fun e w' => e = .returned (.tuple #[.bool (S.inside ⟨⟨x1, y, z⟩, ⟨x2, y, z⟩⟩ d.zone), .int .i64 0]) ∧ Below w.heap.size w w' := by
  have HR := Lib.hid (fun (W : World) (hw : B ≤ W.heap.size) (hh : StepsAt W B d.A d.n d.st) => hd ▸ dright_any d B W hw hh hm)
  have HV := Lib.hid (fun w => hl ▸ bvalid_any ⟨⟨x1, y, z⟩, ⟨x2, y, z⟩⟩ w)
  have HI := Lib.hid (fun w => dinside_any ⟨⟨x1, y, z⟩, ⟨x2, y, z⟩⟩ d.zone w)
  have HA := Lib.hid hA
  clear hA hm hd hl
  generalize S.inside ⟨⟨x1, y, z⟩, ⟨x2, y, z⟩⟩ d.zone = t at *
  unfold dmV at HR ⊢
  unfold boxV at HV HI
  simp only [] at HV HI
  go_enter Tryz.func52, Tryz.ntmps52
  go_wp2_with (first
    | (go_at_call 106; (with_reducible refine (HR.out _ (dsize hB bel) (HA.out.below (Below.mono bel hB))).mono ?_); rintro e w1 ⟨rfl, hbw1⟩; obtain ⟨hcw1, hfw1⟩ := bcell hbw1; have hzw1_0 : w.heap.size < w1.heap.size := lt_via hbw1 (by first | omega | (simp; done) | (simp; omega)); have hzw1_1 : w.heap.size + 1 < w1.heap.size := lt_via hbw1 (by first | omega | (simp; done) | (simp; omega)))
    | (go_at_call 107; (with_reducible refine (HV.out _).mono ?_); rintro e w2 ⟨rfl, hbw2⟩; obtain ⟨hcw2, hfw2⟩ := bcell hbw2; have hzw2_0 : w.heap.size < w2.heap.size := lt_via hbw2 (by first | omega | (simp; done) | (simp; omega)); have hzw2_1 : w.heap.size + 1 < w2.heap.size := lt_via hbw2 (by first | omega | (simp; done) | (simp; omega)))
    | (go_at_call 108; (with_reducible refine (HI.out _).mono ?_); rintro e w3 ⟨rfl, hbw3⟩; obtain ⟨hcw3, hfw3⟩ := bcell hbw3; have hzw3_0 : w.heap.size < w3.heap.size := lt_via hbw3 (by first | omega | (simp; done) | (simp; omega)); have hzw3_1 : w.heap.size + 1 < w3.heap.size := lt_via hbw3 (by first | omega | (simp; done) | (simp; omega))))
  go_ret2
  exact ⟨rfl, bel⟩
structure SCh where
  A : Option Addr
  c : Nat
  l : List Int
  lo : Int
  hi : Int
  is : Bool
  area : Int
abbrev schC (r : SCh) : List Value := [.slice r.A r.l.length r.c, .int .i64 r.lo, .int .i64 r.hi, .bool r.is, .int .i64 r.area]
theorem schC_len (r : SCh) : (schC r).length = 5 := rfl
def S.atPl (p : Int) (r : SCh) : Bool := decide (r.lo ≤ p) && decide (p < r.hi)
def S.valueAt (p : Int) (l : List SCh) : Int := l.foldl (fun n r => if S.atPl p r then n + r.area else n) 0
theorem value_next (p : Int) {l : List SCh} {k : Nat} (h : k < l.length) : S.valueAt p (l.take (k + 1)) = if S.atPl p l[k] then S.valueAt p (l.take k) + l[k].area else S.valueAt p (l.take k) := by
  have e : l.take (k + 1) = l.take k ++ [l[k]] := by rw [List.take_add_one, List.getElem?_eq_getElem h]; rfl
  unfold S.valueAt
  rw [e, List.foldl_append]
  rfl
theorem value_bd (p : Int) {l : List SCh} (h : ∀ r, r ∈ l → 0 ≤ r.area ∧ r.area ≤ 1000000) : 0 ≤ S.valueAt p l ∧ S.valueAt p l ≤ 1000000 * (l.length : Int) := by
  suffices hs : ∀ (l : List SCh) (n : Int), (∀ r, r ∈ l → 0 ≤ r.area ∧ r.area ≤ 1000000) → 0 ≤ n → n ≤ l.foldl (fun n r => if S.atPl p r then n + r.area else n) n ∧ l.foldl (fun n r => if S.atPl p r then n + r.area else n) n ≤ n + 1000000 * (l.length : Int) by
    have := hs l 0 h (Int.le_refl _)
    unfold S.valueAt
    omega
  intro l
  induction l with
  | nil => intro n _ _; simp
  | cons r t ih =>
    intro n h hn
    have h1 := h r (by simp)
    simp only [List.foldl_cons, List.length_cons]
    split
    · have := ih (n + r.area) (fun q hq => h q (by simp [hq])) (by omega)
      omega
    · have := ih n (fun q hq => h q (by simp [hq])) hn
      omega
set_option maxHeartbeats 1000000 in
theorem value_any (l : List SCh) (A : Option Addr) (n c : Nat) (p : Int) (B : Nat) (w : World) (hB : B ≤ w.heap.size) (hn : l.length = n) (hm : n ≤ 2000) (hs : Cells w B A (l.flatMap schC)) (ha : ∀ r, r ∈ l → 0 ≤ r.area ∧ r.area ≤ 1000000) :
    Calls Tryz.prog 82 #[.slice A n c, .int .i64 p] w fun e w' => e = .returned (.int .i64 (S.valueAt p l)) ∧ Below w.heap.size w w' := by
  have HN := Lib.hid hn
  have HA := Lib.hid ha
  clear hn ha
  go_enter Tryz.func82, Tryz.ntmps82
  go_wp2
  go_loopw [5, 10] (fun v i wr => ∃ k : Nat, k ≤ n ∧ i = .int .i64 k ∧ ∃ u : Int, v = .int .i64 u ∧ Hid (u = S.valueAt p (l.take k)) ∧ Below w.heap.size w wr) (fun _ i _ => n - (intOf i).toNat)
  case atStart => exact ⟨0, Nat.zero_le _, rfl, 0, rfl, Lib.hid rfl, Below.refl _ _⟩
  case round =>
    obtain ⟨k, hk, rfl, u, rfl, hu, hbr⟩ := hrel
    by_cases hlt : k < n
    · have hkx : k < l.length := by have := HN.out; omega
      have hs' := hs.below (hbr.mono hB)
      obtain ⟨b, o, rfl, hbB, hx⟩ := hs'.at_ (by rw [flat_len schC 5 schC_len]; omega)
      clear hx
      have c0 := hs'.row0 schC_len hkx rfl
      have c1 := hs'.rowj schC_len hkx 1 rfl
      have c2 := hs'.rowj schC_len hkx 2 rfl
      have c3 := hs'.rowj schC_len hkx 3 rfl
      have c4 := hs'.rowj schC_len hkx 4 rfl
      clear hs'
      have hbl : b < wr.heap.size := by have := hbr.size; omega
      have hki : (k : Int) < n := by omega
      have hub := value_bd p (l := l.take k) (fun r hr => HA.out r (List.mem_of_mem_take hr))
      rw [← hu.out, List.length_take] at hub
      have hab := HA.out l[k] (List.getElem_mem hkx)
      have HV := Lib.hid (value_next p hkx)
      rw [← hu.out] at HV
      generalize l[k] = r at *
      have hu1 : 0 ≤ u := hub.1
      have hu2 : u ≤ 2000000000 := by omega
      have ha1 := hab.1
      have ha2 := hab.2
      clear hub hab
      have HP := Lib.hid (show S.atPl p r = (decide (r.lo ≤ p) && decide (p < r.hi)) from rfl)
      by_cases h1 : r.lo ≤ p
      · by_cases h2 : p < r.hi
        · have HV2 := Lib.hid (HV.out.trans (if_pos (by rw [HP.out]; simp [h1, h2])))
          go_wp2
          go_roundw
          case rel => exact ⟨k + 1, by omega, by go_num, u + r.area, rfl, Lib.hid HV2.out.symm, bel⟩
          case measure => simp [intOf]; omega
        · have HV2 := Lib.hid (HV.out.trans (if_neg (by rw [HP.out]; simp; omega)))
          go_wp2
          go_roundw
          case rel => exact ⟨k + 1, by omega, by go_num, u, rfl, Lib.hid HV2.out.symm, bel⟩
          case measure => simp [intOf]; omega
      · have HV2 := Lib.hid (HV.out.trans (if_neg (by rw [HP.out]; simp; omega)))
        go_wp2
        go_roundw
        case rel => exact ⟨k + 1, by omega, by go_num, u, rfl, Lib.hid HV2.out.symm, bel⟩
        case measure => simp [intOf]; omega
    · have HE := Lib.hid (show u = S.valueAt p l by rw [hu.out, List.take_of_length_le (by have := HN.out; omega)])
      clear hu
      go_wp2
      go_ret
      exact ⟨ret_i HE.out, hbr⟩
def S.outside (r : Rod) (z : Bx) : Bool := if r.main < 0 then true else !S.inside (r.legs.getD r.main.toNat S.zbox) z
set_option maxHeartbeats 2000000 in
theorem outside_any (rs : List Rod) (ds : List Dm) (i k : Nat) (r : Rod) (d : Dm) (g1 g2 g3 : Nat) (A : Option Addr) (n c : Nat) (dA : Option Addr) (dn dc : Nat) (B : Nat) (w : World) (hB : B ≤ w.heap.size) (hn : rs.length = n) (hi : rs[i]? = some r) (hk : ds[k]? = some d)
    (h1 : w.cell? ⟨g1, 0, none⟩ = some (.slice A n c)) (h2 : w.cell? ⟨g2, 9, none⟩ = some (.slice dA dn dc)) (h3 : w.cell? ⟨g3, 0, none⟩ = some (.int .i64 k)) (hl1 : g1 < w.heap.size) (hl2 : g2 < w.heap.size) (hl3 : g3 < w.heap.size)
    (hs : Cells w B A (rs.flatMap rodC)) (hd : DemsAt w B dA dn ds) (hleg : Cells w B r.A (r.legs.flatMap boxC)) (hr : S.demRight d = true) (hrod : r.main = idxf r.legs S.isMainB) (hok : ∀ b, b ∈ r.legs → S.boxOk b = true) :
    Calls Tryz.prog 140 #[.int .i64 i, .pointer (some ⟨g1, 0, none⟩), .pointer (some ⟨g2, 0, none⟩), .pointer (some ⟨g3, 0, none⟩)] w fun e w' => e = .returned (.bool (S.outside r d.zone)) ∧ Below w.heap.size w w' := by
  have HE := Lib.hid (show S.outside r d.zone = if r.main < 0 then true else !S.inside (r.legs.getD r.main.toNat S.zbox) d.zone from rfl)
  obtain ⟨hix, hir⟩ := List.getElem?_eq_some_iff.1 hi
  obtain ⟨hkx, hkd⟩ := List.getElem?_eq_some_iff.1 hk
  have hsd := hd.each d (by rw [← hkd]; exact List.getElem_mem hkx)
  have hnd := hd.name d (by rw [← hkd]; exact List.getElem_mem hkx)
  have hdl := hd.len
  have hdc := hd.cells
  obtain ⟨b1, o1, hA, hb1, hx⟩ := hs.at_ (by rw [flat_len rodC 7 rodC_len]; omega)
  clear hx
  obtain ⟨b2, o2, hA2, hb2, hx⟩ := hdc.at_ (by rw [flat_len dmC 8 dmC_len]; omega)
  clear hx
  rw [hA] at hs h1
  rw [hA2] at hdc h2
  have r0 := hs.row0 rodC_len hix rfl
  have r1 := hs.rowj rodC_len hix 1 rfl
  have r2 := hs.rowj rodC_len hix 2 rfl
  have r3 := hs.rowj rodC_len hix 3 rfl
  have r4 := hs.rowj rodC_len hix 4 rfl
  have r5 := hs.rowj rodC_len hix 5 rfl
  have r6 := hs.rowj rodC_len hix 6 rfl
  rw [hir] at r0 r1 r2 r3 r4 r5 r6
  have d0 := hdc.row0 dmC_len hkx rfl
  have d1 := hdc.rowj dmC_len hkx 1 rfl
  have d2 := hdc.rowj dmC_len hkx 2 rfl
  have d3 := hdc.rowj dmC_len hkx 3 rfl
  have d4 := hdc.rowj dmC_len hkx 4 rfl
  have d5 := hdc.rowj dmC_len hkx 5 rfl
  have d6 := hdc.rowj dmC_len hkx 6 rfl
  have d7 := hdc.rowj dmC_len hkx 7 rfl
  rw [hkd] at d0 d1 d2 d3 d4 d5 d6 d7
  have hin : (i : Int) < n := by omega
  have hkn : (k : Int) < dn := by omega
  have hb1l : b1 < w.heap.size := by omega
  have hb2l : b2 < w.heap.size := by omega
  clear hs hdc hd hi hk hir hkd hix hkx hA hA2 hn hdl
  by_cases hm : r.main < 0
  · have HE2 := Lib.hid (HE.out.trans (if_pos hm))
    clear hrod
    generalize r.main = mm at *
    go_enter Tryz.func140, Tryz.ntmps140
    go_wp2
    go_ret
    exact ⟨ret_b HE2.out.symm, bel⟩
  · obtain ⟨q, hq, hqe, hqm⟩ := idxf_some (xs := r.legs) (p := S.isMainB) (by rw [← hrod]; omega)
    have hbk := hok _ (List.getElem_mem hq)
    have HE2 := Lib.hid (show S.outside r d.zone = !S.inside r.legs[q] d.zone by rw [HE.out, if_neg hm, hrod, hqe]; simp [List.getD_eq_getElem?_getD, hq])
    have hm2 : r.main = (q : Int) := by rw [hrod, hqe]
    have HLG := Lib.hid (fun (W : World) (hw : Below w.heap.size w W) => rleg_any r q r.legs[q] B W (dsize hB hw) (List.getElem?_eq_getElem hq) hm2 (hleg.below (hw.mono hB)))
    obtain ⟨e1, e2, e3⟩ := isMainB_iff.1 hqm
    clear hrod hm hqe hqm hok hleg HE
    generalize hlq : r.legs[q] = L at *
    obtain ⟨⟨x1, y, z⟩, ⟨x2, y2, z2⟩⟩ := L
    simp only [] at e1 e2 e3
    subst e2 e3
    have HDI := Lib.hid (fun (W : World) (hw : Below w.heap.size w W) => demIn_any d x1 x2 y z B W (dsize hB hw) (hsd.below (hw.mono hB)) hnd hr hbk)
    generalize S.inside ⟨⟨x1, y, z⟩, ⟨x2, y, z⟩⟩ d.zone = t at *
    have hq0 : ¬ ((q : Int) < 0) := by omega
    unfold rodV boxV at HLG
    unfold dmV at HDI
    simp only [hm2] at HLG r6
    clear hlq hm2 hsd hnd hr hbk hq e1
    generalize r.legs.length = ln at *
    go_enter Tryz.func140, Tryz.ntmps140
    go_upto_region 3 with fail
    refine wp_region_mix 4 [9, 0] (by kernel_rfl) (by kernel_rfl) (of_decide_eq_true (by kernel_rfl)) ?_
    try simp only [wpSegs, List.take_succ_cons, List.take_zero, List.drop_succ_cons, List.drop_zero, List.take_nil, List.drop_nil]
    repeat (go_big_quiet_step (fail))
    refine wpQuiet_nil ?_
    show wpList _ _ _ _ _ _
    go_wp2_with ((go_at_call 90; (with_reducible refine (HLG.out _ belr).mono ?_); rintro e w1 ⟨rfl, hbw1⟩))
    refine seg_next (grow_to belr) ?_
    try simp only [wpSegs, List.take_succ_cons, List.take_zero, List.drop_succ_cons, List.drop_zero, List.take_nil, List.drop_nil]
    repeat (go_big_quiet_step (fail))
    refine wpQuiet_nil ?_
    show wpList _ _ _ _ _ _
    go_wp2_with ((go_at_call 52; (with_reducible refine (HDI.out _ belr).mono ?_); rintro e w2 ⟨rfl, hbw2⟩))
    refine seg_next (grow_to belr) ?_
    try simp only [wpSegs, List.take_succ_cons, List.take_zero, List.drop_succ_cons, List.drop_zero, List.take_nil, List.drop_nil]
    repeat (go_big_quiet_step (fail))
    refine wpQuiet_nil ?_
    show wpList _ _ _ _ _ _
    go_wp2
    go_ret
    exact ⟨ret_b (by rw [HE2.out]), bel⟩
theorem notat_any (r : SCh) (p : Int) (g : Nat) (w : World) (hc : w.cell? ⟨g, 0, none⟩ = some (.int .i64 p)) (hg : g < w.heap.size) :
    Calls Tryz.prog 138 #[.agg #[.slice r.A r.l.length r.c, .int .i64 r.lo, .int .i64 r.hi, .bool r.is, .int .i64 r.area], .pointer (some ⟨g, 0, none⟩)] w fun e w' => e = .returned (.bool (!S.atPl p r)) ∧ Below w.heap.size w w' := by
  have HE := Lib.hid (show S.atPl p r = (decide (r.lo ≤ p) && decide (p < r.hi)) from rfl)
  by_cases h1 : p < r.lo
  · go_enter Tryz.func138, Tryz.ntmps138
    go_wp2
    go_ret
    exact ⟨ret_b (by rw [HE.out, decide_eq_false (by omega)]; rfl), bel⟩
  · by_cases h2 : r.hi ≤ p
    · go_enter Tryz.func138, Tryz.ntmps138
      go_wp2
      go_ret
      exact ⟨ret_b (by rw [HE.out, decide_eq_true (by omega), decide_eq_false (by omega)]; rfl), bel⟩
    · go_enter Tryz.func138, Tryz.ntmps138
      go_wp2
      go_ret
      exact ⟨ret_b (by rw [HE.out, decide_eq_true (by omega), decide_eq_true (by omega)]; rfl), bel⟩
end Go.Proofs.YtffkmgjmlahfpaaGreat
