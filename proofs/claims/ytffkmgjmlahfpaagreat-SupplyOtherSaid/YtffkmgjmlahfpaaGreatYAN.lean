/- Contract: slices.DeleteFunc over chains. -/
import Derived.Test.YtffkmgjmlahfpaaGreatYAI
set_option linter.unusedVariables false
set_option linter.unusedSimpArgs false
namespace Go.Proofs.YtffkmgjmlahfpaaGreat
open Go.RowKit
set_option maxHeartbeats 8000000 in
theorem delf_own (cs : List SCh) (p : Int) (gp : Nat) (A : Option Addr) (n c base : Nat) (w : World) (ho : w.ownsRow base 152 5 (.slice A n c) n (cs.flatMap schC)) (hm : n ≤ 2000)
    (hc : w.cell? ⟨gp, 0, none⟩ = some (.int .i64 p)) (hg : gp < w.heap.size) (hne : (Value.slice A n c).ownBlock ≠ some gp) :
    Calls Tryz.prog 137 #[.slice A n c, .func (.func 138) #[] #[.pointer (some ⟨gp, 0, none⟩)]] w fun e w' => e = .returned (.slice A (cs.filter (S.atPl p)).length c) ∧
      w'.ownsRow base 152 5 (.slice A (cs.filter (S.atPl p)).length c) (cs.filter (S.atPl p)).length ((cs.filter (S.atPl p)).flatMap schC) ∧ Exc (Value.slice A n c).ownBlock.toList w w' := by
  have hl : cs.length = n := by have h := ho.1; rw [flat5_len] at h; omega
  have HIX := Lib.hid (fun (W : World) (hw : Below w.heap.size w W) => indexSch_any p gp A n c cs w.heap.size W hl hm hw.size ((own_cells ho (by unfold maxLen; omega)).1.below hw) ((hw.cell (p := ⟨gp, 0, none⟩) hg).trans hc) (Nat.lt_of_lt_of_le hg hw.size))
  have HO := Lib.hid ho
  rcases idxf_cases cs (fun r => !S.atPl p r) with ⟨hi, hno⟩ | ⟨i, hix, hi, hpi, hno⟩
  · have HF := Lib.hid (show cs.filter (S.atPl p) = cs from List.filter_eq_self.2 fun r hr => by
      obtain ⟨j, hj, rfl⟩ := List.getElem_of_mem hr
      have := hno j hj
      simpa using this)
    rw [HF.out, hl]
    rw [hi] at HIX
    clear hi hno ho hc hne hl
    go_enter Tryz.func137, Tryz.ntmps137
    go_wp2_with (go_at_call 198; (with_reducible refine (HIX.out _ belr).mono ?_); rintro e w1 ⟨rfl, hbw1⟩)
    go_ret
    exact ⟨rfl, own_kept HO.out (fun k hk => hbw1.block k (HO.out.lt k hk).2), (Exc.of_below hbw1).into (by simp)⟩
  · have hpi' : S.atPl p cs[i] = false := by simpa using hpi
    have hno' : ∀ j (h : j < cs.length), j < i → S.atPl p cs[j] = true := fun j h hj => by simpa using hno j h hj
    rcases ho.2 with ⟨_, h0⟩ | ⟨g, cap, cur, hv, hbg, hh, hnc, hcm, hcs, htk⟩
    · omega
    injection hv with hA _ hcap
    subst hcap
    have hcur : ∀ q, q < cs.length * 5 → cur[q]? = (cs.flatMap schC)[q]? := fun q hq => by
      rw [← htk, List.getElem?_take, if_pos (by omega), Array.getElem?_toList]
    have HK0 := Lib.hid (Kept.first hix hcur hpi' hno')
    have HB0 := Lib.hid (show Blk w g 152 cur from hh)
    have HCUR := Lib.hid hcur
    have hgne : gp ≠ g := fun h => hne (by rw [hA, h]; rfl)
    obtain ⟨o, ho0⟩ : ∃ o : Nat, o = 0 := ⟨0, rfl⟩
    have HO0 := Lib.hid ho0
    rw [hA, show (⟨g, 0, none⟩ : Addr) = ⟨g, o, none⟩ by rw [ho0]] at HIX ⊢
    rw [hi] at HIX
    have HL := Lib.hid hl
    have hin : i < n := by omega
    have hib : ((i : Int) == -1) = false := by first | (simp; done) | (simp; omega)
    have hib2 : ¬ ((i : Int) = -1) := by omega
    have hgl : g < w.heap.size := HB0.out.lt
    have HHC := Lib.hid hc
    have HCS := Lib.hid hcs
    have HIX0 := Lib.hid hix
    clear hno hno' hpi hpi' hcur hh htk hi ho hc ho0 hl hcs hne hix hA
    go_enter Tryz.func137, Tryz.ntmps137
    go_wp2_with (go_at_call 198; (with_reducible refine (HIX.out _ belr).mono ?_); rintro e w1 ⟨rfl, hbw1⟩)
    go_loopw [5, 6] (fun s5 s6 wr => ∃ (a b : Nat) (cur' : Array Value), s5 = .int .i64 a ∧ s6 = .int .i64 b ∧ Kept cs p cur cur' a b ∧ Blk wr g 152 cur' ∧ Exc [g] w wr) (fun _ s6 _ => n - (intOf s6).toNat)
    case atStart => exact ⟨i, i + 1, cur, rfl, by go_num, HK0.out, HB0.out.via hbw1, (Exc.of_below hbw1).into (by simp)⟩
    case round =>
      obtain ⟨a, b, cur', rfl, rfl, hkp, hblk, hex⟩ := hrel
      have hab := hkp.lt
      have hbl := hkp.le
      rw [HL.out] at hbl
      have HKP := Lib.hid hkp
      have HBK := Lib.hid hblk
      have HEX := Lib.hid hex
      have hgw : g < wr.heap.size := hblk.lt
      have hcp : wr.cell? ⟨gp, 0, none⟩ = some (.int .i64 p) := (hex.cell (p := ⟨gp, 0, none⟩) hg (by simpa using hgne)).trans HHC.out
      have hgpw : gp < wr.heap.size := Nat.lt_of_lt_of_le hg hex.size
      clear hkp hblk hex
      by_cases hlt : b < n
      · have hbx : b < cs.length := by have := HL.out; omega
        have hbi : (b : Int) < n := by omega
        have hg5 : ∀ k v, k < 5 → (schC cs[b])[k]? = some v → wr.cell? ⟨g, o + b * 5 + k, none⟩ = some v := fun k v hk hv => by
          rw [HBK.out.cell, HO0.out, Nat.zero_add, HKP.out.rest _ (by omega), HCUR.out _ (by omega), flat5_get hbx hk]
          exact hv
        have e0 := hg5 0 _ (by omega) rfl
        have e1 := hg5 1 _ (by omega) rfl
        have e2 := hg5 2 _ (by omega) rfl
        have e3 := hg5 3 _ (by omega) rfl
        have e4 := hg5 4 _ (by omega) rfl
        rw [Nat.add_zero] at e0
        have HSK := Lib.hid (fun h => HKP.out.skip hbx h)
        have HKE := Lib.hid (fun cur2 h => HKP.out.keep (cur2 := cur2) hbx h)
        clear hg5
        generalize cs[b] = r at *
        have hT := Blk.new wr 152 #[.slice r.A r.l.length r.c, .int .i64 r.lo, .int .i64 r.hi, .bool r.is, .int .i64 r.area]
        have hbT : Below wr.heap.size wr (wr.alloc (.cells #[.slice r.A r.l.length r.c, .int .i64 r.lo, .int .i64 r.hi, .bool r.is, .int .i64 r.area] 152)) := ba_alloc (Below.refl _ _) _
        go_upto_region 8 with fail
        generalize (wr.alloc (.cells #[.slice r.A r.l.length r.c, .int .i64 r.lo, .int .i64 r.hi, .bool r.is, .int .i64 r.area] 152)) = W8 at *
        have hgp8 : W8.cell? ⟨gp, 0, none⟩ = some (.int .i64 p) := (hbT.cell (p := ⟨gp, 0, none⟩) hgpw).trans hcp
        have h8s := hbT.size
        have HN := Lib.hid (fun (W : World) (hw : Below W8.heap.size W8 W) => notat_any r p gp W ((hw.cell (p := ⟨gp, 0, none⟩) (show gp < W8.heap.size by omega)).trans hgp8) (by have := hw.size; omega))
        have t0 := hT.cell 0
        have t1 := hT.cell 1
        have t2 := hT.cell 2
        have t3 := hT.cell 3
        have t4 := hT.cell 4
        have tl := hT.lt
        simp only [List.getElem?_toArray, List.getElem?_cons_zero, List.getElem?_cons_succ] at t0 t1 t2 t3 t4
        clear e0 e1 e2 e3 e4 hcp hgp8
        generalize ht : S.atPl p r = t at *
        clear ht
        cases t
        · go_wp2_with (go_at_call 138; (with_reducible refine (HN.out _ belr).mono ?_); rintro e w5 ⟨rfl, hbw5⟩)
          go_roundw
          case rel =>
            have hb5 : Below wr.heap.size wr w5 := ba_via hbw5 hbT
            exact ⟨a, b + 1, cur', rfl, by go_num, HSK.out trivial, HBK.out.via hb5, HEX.out.trans5 ((Exc.of_below hb5).into (by simp))⟩
          case measure => simp [intOf]; omega
        · have HT := Lib.hid hT
          clear hT
          go_upto_region 9 with (go_at_call 138; (with_reducible refine (HN.out _ belr).mono ?_); rintro e w5 ⟨rfl, hbw5⟩)
          have hT5 := HT.out.via hbw5
          have hb5 : Below wr.heap.size wr w5 := ba_via hbw5 hbT
          have hB5 := HBK.out.via hb5
          have s0 := hT5.cell 0
          have s1 := hT5.cell 1
          have s2 := hT5.cell 2
          have s3 := hT5.cell 3
          have s4 := hT5.cell 4
          have sl := hT5.lt
          simp only [List.getElem?_toArray, List.getElem?_cons_zero, List.getElem?_cons_succ] at s0 s1 s2 s3 s4
          have hsz : a * 5 + 5 ≤ cur'.size := by have h1 := HKP.out.size; have h2 := HCS.out; omega
          have HTH := Lib.hid (show w5.there g (o + a * 5) (#[.slice r.A r.l.length r.c, .int .i64 r.lo, .int .i64 r.hi, .bool r.is, .int .i64 r.area] : Array Value).size from by rw [HO0.out, Nat.zero_add]; exact hB5.thereAt5 (a * 5) hsz)
          have hgl5 : g < w5.heap.size := hB5.lt
          obtain ⟨cur2, hp1, hp2, hp3⟩ := Blk.put [.slice r.A r.l.length r.c, .int .i64 r.lo, .int .i64 r.hi, .bool r.is, .int .i64 r.area] (a * 5) w5 cur' hB5 hsz
          have HP1 := Lib.hid (show Blk (w5.setCells g (o + a * 5) (#[.slice r.A r.l.length r.c, .int .i64 r.lo, .int .i64 r.hi, .bool r.is, .int .i64 r.area] : Array Value).toList) g 152 cur2 from by rw [HO0.out, Nat.zero_add]; exact hp1)
          have HX6 := Lib.hid (show Exc [g] w5 (w5.setCells g (o + a * 5) (#[.slice r.A r.l.length r.c, .int .i64 r.lo, .int .i64 r.hi, .bool r.is, .int .i64 r.area] : Array Value).toList) from exc_put g _ _ w5)
          have HKE2 := Lib.hid (HKE.out cur2 trivial hp2 hp3)
          have hai : (a : Int) < n := by omega
          have HB5 := Lib.hid hb5
          clear hp1 hp2 hp3 hB5 hT5 hb5 t0 t1 t2 t3 t4 tl hbw5 hbT
          have HX5 := Lib.hid (HEX.out.trans5 ((Exc.of_below HB5.out).into (M' := [g]) (by simp)))
          clear HEX HB5 HBK HKP HSK HKE HN HT
          go_wp2_with (with_reducible refine at_store 152 33 32 ?_; refine wpList_store_mid rfl 152 (.tmp 33) (.tmp 32) rfl g (o + a * 5) #[.slice r.A r.l.length r.c, .int .i64 r.lo, .int .i64 r.hi, .bool r.is, .int .i64 r.area] rfl rfl HTH.out (by kernel_rfl) (all_oneCell_toArray (by simp [Value.oneCell'])) ?_; generalize (w5.setCells g (o + a * 5) (#[.slice r.A r.l.length r.c, .int .i64 r.lo, .int .i64 r.hi, .bool r.is, .int .i64 r.area] : Array Value).toList) = W6 at *)
          go_roundw
          case rel => exact ⟨a + 1, b + 1, cur2, by go_num, by go_num, HKE2.out, HP1.out, HX5.out.trans5 HX6.out⟩
          case measure => simp [intOf]; omega
      · have hbn : b = n := by omega
        have hna : 0 < n - a := by omega
        have hcz : (a * 5) + (n - a) * 5 ≤ cur'.size := by
          have h1 := HKP.out.size
          have h2 := HCS.out
          have h3 : n * 5 ≤ c * 5 := Nat.mul_le_mul_right 5 hnc
          omega
        have hcl : ∀ ty, (Builtin.clear_ #[146] ty #[.slice (some ⟨g, o + a * 5, none⟩) (n - a) (c - a)]).run Tryz.prog wr = .ok (.tuple #[]) (wr.setCells g (o + a * 5) (Builtin.zeroCells zeroSch (n - a)).toList) := fun ty => clear5_run g (o + a * 5) (n - a) (c - a) hna wr (by rw [HO0.out, Nat.zero_add]; exact HBK.out.thereAt5 (a * 5) hcz) ty
        obtain ⟨cur2, hp1, hp2, hp3⟩ := Blk.put (Builtin.zeroCells zeroSch (n - a)).toList (a * 5) wr cur' HBK.out (by rw [zeroSch_len]; exact hcz)
        have HP1 := Lib.hid hp1
        have HP3 := Lib.hid hp3
        have HFN := Lib.hid (show (cs.take b).filter (S.atPl p) = cs.filter (S.atPl p) by rw [List.take_of_length_le (by have := HL.out; omega)])
        have HFL := Lib.hid (show (cs.filter (S.atPl p)).length = a by rw [← HFN.out]; exact HKP.out.len)
        have HSZ := Lib.hid (show cur2.size = c * 5 by rw [hp2, HKP.out.size]; exact HCS.out)
        have hai : (a : Int) ≤ n := by omega
        have hai2 : (a : Int) ≤ c := by omega
        have hnci : (n : Int) ≤ c := by omega
        have hac : a ≤ n := by omega
        have hac2 : a ≤ c := by omega
        have hca : ¬ (c = a) := by omega
        have hbi : ¬ ((b : Int) < n) := by omega
        have hcx : c ≤ 9223372036854775807 := by have : c ≤ maxLen := hcm; unfold maxLen at this; omega
        clear hp1 hp2 hp3 hcz
        generalize (Builtin.zeroCells zeroSch (n - a)).toList = Z at *
        go_wp2
        go_ret
        rw [HFL.out]
        refine ⟨rfl, ⟨by rw [flat5_len, HFL.out], .inr ⟨g, c, cur2, by rw [HO0.out], hbg, ?_, hac2, hcm, HSZ.out, ?_⟩⟩, HEX.out.trans5 (exc_put g _ _ wr)⟩
        · have h := HP1.out
          rw [HO0.out, Nat.zero_add]
          exact h
        · apply List.ext_getElem?
          intro q
          rw [List.getElem?_take]
          split
          · rename_i hq
            rw [Array.getElem?_toList, HP3.out q, if_neg (by omega), HKP.out.done q hq, HFN.out]
          · rename_i hq
            rw [List.getElem?_eq_none (by rw [flat5_len, HFL.out]; omega)]
end Go.Proofs.YtffkmgjmlahfpaaGreat
