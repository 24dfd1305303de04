/- Lemmas. -/
import Derived.Test.YtmfpbafpnoomeaaGreatMP
import Derived.Test.YtmfpbafpnoomeaaGreatMN
set_option linter.unusedVariables false
set_option linter.unusedSimpArgs false
namespace Go.Proofs.YtmfpbafpnoomeaaGreat
open Go.RowKit
theorem rdims_any (code : Int) (w : World) :
 Calls Tryz.prog 217 #[.int .i64 code] w fun e w' => e = .returned (.int .i64 (S.dimsOf code)) /\ Below w.heap.size w w' := by
 have H := lh (show ∀ n : Int, (n = if code = 0 then 1 else if code = 11 then 2 else if code = 21 then 3 else if code = 26 then 3 else if code = 31 then 3 else if code = 41 then 5 else if code = 51 then 3 else if code = 98 then 3 else 0) -> n = S.dimsOf code from fun n h => h)
 go_enter Tryz.func217, Tryz.ntmps217
 go_wp2
 all_goals (go_ret; exact ⟨ret_i (H.out _ (by simp only [beq_iff_eq, beq_eq_false_iff_ne, ne_eq] at *; repeat' (split <;> try omega))), bel⟩)
set_option maxHeartbeats 1000000 in
theorem rvalid_no0 (b : Bar) (A : Option Addr) (n c : Nat) (w : World) (hn : b.dims.length = n) (hm : n <= 9223372036854775807) (hmk : b.mark.size <= 9223372036854775807)  (f : S.isName b.mark = false) :
 Calls Tryz.prog 167 #[barV b A n c] w fun e w' => e = .returned (.bool (S.bar b)) /\ Below w.heap.size w w' := by
 have H := lh (show S.bar b = false by simp [S.bar, S.barHead, f])
 clear hn
 unfold barV
 go_enter Tryz.func167, Tryz.ntmps167
 go_wp2
 refine wp_region_grow (by kernel_rfl) (by kernel_rfl) ?_
 repeat (go_big_quiet_step ((first | (go_at_call 117; exact grow_of_eq (risname_any b.mark _ hmk)) | (go_at_call 216; exact grow_of (rsize_any b.size _)) | (go_at_call 217; exact grow_of (rdims_any b.code _)))))
 all_goals (refine wpQuiet_nil ?_; intro w1 hbw1; obtain ⟨hcw1, hfw1⟩ := bcell hbw1; have hzw1_0 : w.heap.size < w1.heap.size := lt_via hbw1 sz)
 go_wp2
 go_ret
 exact ⟨ret_b H.out.symm, bel⟩
set_option maxHeartbeats 1000000 in
theorem rvalid_no1 (b : Bar) (A : Option Addr) (n c : Nat) (w : World) (hn : b.dims.length = n) (hm : n <= 9223372036854775807) (hmk : b.mark.size <= 9223372036854775807) (g0 : S.isName b.mark = true) (f : S.size b.size = false) :
 Calls Tryz.prog 167 #[barV b A n c] w fun e w' => e = .returned (.bool (S.bar b)) /\ Below w.heap.size w w' := by
 have H := lh (show S.bar b = false by simp [S.bar, S.barHead, f])
 clear hn
 unfold barV
 go_enter Tryz.func167, Tryz.ntmps167
 go_wp2
 refine wp_region_grow (by kernel_rfl) (by kernel_rfl) ?_
 repeat (go_big_quiet_step ((first | (go_at_call 117; exact grow_of_eq (risname_any b.mark _ hmk)) | (go_at_call 216; exact grow_of (rsize_any b.size _)) | (go_at_call 217; exact grow_of (rdims_any b.code _)))))
 all_goals (refine wpQuiet_nil ?_; intro w1 hbw1; obtain ⟨hcw1, hfw1⟩ := bcell hbw1; have hzw1_0 : w.heap.size < w1.heap.size := lt_via hbw1 sz)
 go_wp2
 go_ret
 exact ⟨ret_b H.out.symm, bel⟩
set_option maxHeartbeats 1000000 in
theorem rvalid_no2 (b : Bar) (A : Option Addr) (n c : Nat) (w : World) (hn : b.dims.length = n) (hm : n <= 9223372036854775807) (hmk : b.mark.size <= 9223372036854775807) (g0 : S.isName b.mark = true) (g1 : S.size b.size = true) (f : b.count < 1) :
 Calls Tryz.prog 167 #[barV b A n c] w fun e w' => e = .returned (.bool (S.bar b)) /\ Below w.heap.size w w' := by
 have H := lh (show S.bar b = false by (have hd : decide (1 <= b.count) = false := by simp; omega); simp [S.bar, S.barHead, hd])
 have q2 : decide (b.count < 1) = true := by simp; omega
 clear hn
 unfold barV
 go_enter Tryz.func167, Tryz.ntmps167
 go_wp2
 refine wp_region_grow (by kernel_rfl) (by kernel_rfl) ?_
 repeat (go_big_quiet_step ((first | (go_at_call 117; exact grow_of_eq (risname_any b.mark _ hmk)) | (go_at_call 216; exact grow_of (rsize_any b.size _)) | (go_at_call 217; exact grow_of (rdims_any b.code _)))))
 all_goals (refine wpQuiet_nil ?_; intro w1 hbw1; obtain ⟨hcw1, hfw1⟩ := bcell hbw1; have hzw1_0 : w.heap.size < w1.heap.size := lt_via hbw1 sz)
 go_wp2
 go_ret
 exact ⟨ret_b H.out.symm, bel⟩
set_option maxHeartbeats 1000000 in
theorem rvalid_no3 (b : Bar) (A : Option Addr) (n c : Nat) (w : World) (hn : b.dims.length = n) (hm : n <= 9223372036854775807) (hmk : b.mark.size <= 9223372036854775807) (g0 : S.isName b.mark = true) (g1 : S.size b.size = true) (g2 : 1 <= b.count) (f : 1000 < b.count) :
 Calls Tryz.prog 167 #[barV b A n c] w fun e w' => e = .returned (.bool (S.bar b)) /\ Below w.heap.size w w' := by
 have H := lh (show S.bar b = false by (have hd : decide (b.count <= 1000) = false := by simp; omega); simp [S.bar, S.barHead, hd])
 have q2 : decide (b.count < 1) = false := by simp; omega
 have q3 : decide (1000 < b.count) = true := by simp; omega
 clear hn
 unfold barV
 go_enter Tryz.func167, Tryz.ntmps167
 go_wp2
 refine wp_region_grow (by kernel_rfl) (by kernel_rfl) ?_
 repeat (go_big_quiet_step ((first | (go_at_call 117; exact grow_of_eq (risname_any b.mark _ hmk)) | (go_at_call 216; exact grow_of (rsize_any b.size _)) | (go_at_call 217; exact grow_of (rdims_any b.code _)))))
 all_goals (refine wpQuiet_nil ?_; intro w1 hbw1; obtain ⟨hcw1, hfw1⟩ := bcell hbw1; have hzw1_0 : w.heap.size < w1.heap.size := lt_via hbw1 sz)
 go_wp2
 go_ret
 exact ⟨ret_b H.out.symm, bel⟩
set_option maxHeartbeats 1000000 in
theorem rvalid_no4 (b : Bar) (A : Option Addr) (n c : Nat) (w : World) (hn : b.dims.length = n) (hm : n <= 9223372036854775807) (hmk : b.mark.size <= 9223372036854775807) (g0 : S.isName b.mark = true) (g1 : S.size b.size = true) (g2 : 1 <= b.count) (g3 : b.count <= 1000) (f : (S.dimsOf b.code == 0) = true) :
 Calls Tryz.prog 167 #[barV b A n c] w fun e w' => e = .returned (.bool (S.bar b)) /\ Below w.heap.size w w' := by
 have H := lh (show S.bar b = false by simp [S.bar, S.barHead, f])
 have q2 : decide (b.count < 1) = false := by simp; omega
 have q3 : decide (1000 < b.count) = false := by simp; omega
 clear hn
 unfold barV
 go_enter Tryz.func167, Tryz.ntmps167
 go_wp2
 refine wp_region_grow (by kernel_rfl) (by kernel_rfl) ?_
 repeat (go_big_quiet_step ((first | (go_at_call 117; exact grow_of_eq (risname_any b.mark _ hmk)) | (go_at_call 216; exact grow_of (rsize_any b.size _)) | (go_at_call 217; exact grow_of (rdims_any b.code _)))))
 all_goals (refine wpQuiet_nil ?_; intro w1 hbw1; obtain ⟨hcw1, hfw1⟩ := bcell hbw1; have hzw1_0 : w.heap.size < w1.heap.size := lt_via hbw1 sz)
 go_wp2
 go_ret
 exact ⟨ret_b H.out.symm, bel⟩
set_option maxHeartbeats 1000000 in
theorem rvalid_no5 (b : Bar) (A : Option Addr) (n c : Nat) (w : World) (hn : b.dims.length = n) (hm : n <= 9223372036854775807) (hmk : b.mark.size <= 9223372036854775807) (g0 : S.isName b.mark = true) (g1 : S.size b.size = true) (g2 : 1 <= b.count) (g3 : b.count <= 1000) (g4 : (S.dimsOf b.code == 0) = false) (f : ((n : Int) == S.dimsOf b.code) = false) :
 Calls Tryz.prog 167 #[barV b A n c] w fun e w' => e = .returned (.bool (S.bar b)) /\ Below w.heap.size w w' := by
 have f' : ((n : Int) != S.dimsOf b.code) = true := by simp [bne, f]
 have H := lh (show S.bar b = false by unfold S.bar S.barHead; rw [hn, f]; simp)
 have q2 : decide (b.count < 1) = false := by simp; omega
 have q3 : decide (1000 < b.count) = false := by simp; omega
 clear hn
 unfold barV
 go_enter Tryz.func167, Tryz.ntmps167
 go_wp2
 refine wp_region_grow (by kernel_rfl) (by kernel_rfl) ?_
 repeat (go_big_quiet_step ((first | (go_at_call 117; exact grow_of_eq (risname_any b.mark _ hmk)) | (go_at_call 216; exact grow_of (rsize_any b.size _)) | (go_at_call 217; exact grow_of (rdims_any b.code _)))))
 all_goals (refine wpQuiet_nil ?_; intro w1 hbw1; obtain ⟨hcw1, hfw1⟩ := bcell hbw1; have hzw1_0 : w.heap.size < w1.heap.size := lt_via hbw1 sz)
 go_wp2
 go_ret
 exact ⟨ret_b H.out.symm, bel⟩
set_option maxHeartbeats 2000000 in
theorem rvalid_in (b : Bar) (A : Option Addr) (n c : Nat) (B : Nat) (w : World) (hB : B <= w.heap.size) (hA : BarAt w B A n b) (hh : S.barHead b = true) :
 Calls Tryz.prog 167 #[barV b A n c] w fun e w' => e = .returned (.bool (S.bar b)) /\ Below w.heap.size w w' := by
 have hmk := hA.mark
 have hm := hA.max
 have hs := hA.cells
 have HN := lh hA.len
 have HK := lh (show S.bar b = S.dimsOk b.dims by simp [S.bar, hh])
 have hh' := hh
 unfold S.barHead at hh'
 rw [hA.len] at hh'
 simp only [Bool.and_eq_true, decide_eq_true_eq, Bool.not_eq_true'] at hh'
 obtain ⟨⟨⟨⟨⟨h0, h1⟩, h2⟩, h3⟩, h4⟩, h5⟩ := hh'
 have h5' : ((n : Int) != S.dimsOf b.code) = false := by simp [bne, h5]
 have q2 : decide (b.count < 1) = false := by simp; omega
 have q3 : decide (1000 < b.count) = false := by simp; omega
 have hn5 : n <= 5 := by have := (dimsOf_bd b.code).2; simp at h5; omega
 clear hh hA
 unfold barV
 go_enter Tryz.func167, Tryz.ntmps167
 go_wp2
 refine wp_region_grow (by kernel_rfl) (by kernel_rfl) ?_
 repeat (go_big_quiet_step ((first | (go_at_call 117; exact grow_of_eq (risname_any b.mark _ hmk)) | (go_at_call 216; exact grow_of (rsize_any b.size _)) | (go_at_call 217; exact grow_of (rdims_any b.code _)))))
 all_goals (refine wpQuiet_nil ?_; intro w1 hbw1; obtain ⟨hcw1, hfw1⟩ := bcell hbw1; have hzw1_0 : w.heap.size < w1.heap.size := lt_via hbw1 sz)
 go_wp2
 have hbw : Below w.heap.size w w1 := bel
 have hs2 := hs.below (hbw.mono hB)
 go_loop [3, 4] (fun r i => ∃ k : Nat, k <= n /\ i = .int .i64 k /\ r = .int .i64 (S.sum (b.dims.take k)) /\ 0 <= S.sum (b.dims.take k) /\ S.sum (b.dims.take k) <= 1048576 * (k : Int) /\ Hid (∀ j (hj : j < b.dims.length), j < k -> 1 <= b.dims[j])) (fun _ i => n - (intOf i).toNat)
 case atStart => exact ⟨0, Nat.zero_le _, rfl, rfl, by simp [S.sum], by simp [S.sum], lh fun j hj hk => absurd hk (by omega)⟩
 case round =>
  obtain ⟨k, hk, rfl, rfl, hs0, hs1, HNO⟩ := hrel
  by_cases hlt : k < n
  ·have hkx : k < b.dims.length := by have := HN.out; omega
   obtain ⟨bb, o, rfl, _, hc⟩ := hs2.at_ (by simp; omega)
   have hck := hc k _ (i64s_get hkx)
   clear hc
   by_cases hbad : b.dims[k] < 1 ∨ 1048576 < b.dims[k]
   ·have HB := lh (dims_no hkx (by omega))
    rcases hbad with h1 | h1
    all_goals
     go_wp2
     go_ret
     exact ⟨ret_b (by rw [HK.out, HB.out]), hbw⟩
   ·obtain ⟨hb1', hb2'⟩ : 1 <= b.dims[k] /\ b.dims[k] <= 1048576 := by omega
    have ht := sum_snoc (b.dims.take k) b.dims[k]
    rw [<- List.take_succ_eq_append_getElem hkx] at ht
    have HT := lh ht
    clear ht hbad
    go_wp2
    go_round
    case rel =>
     refine ⟨_, _, _, ?_, rfl, rfl, rfl⟩
     refine ⟨k + 1, by omega, by go_num, vint (by rw [HT.out]), by rw [HT.out]; omega, by rw [HT.out]; omega, lh fun j hj hjk => ?_⟩
     by_cases hjk' : j = k
     ·subst hjk'; omega
     ·exact HNO.out j hj (by omega)
    case measure => simp [intOf]; omega
  ·have he : b.dims.take k = b.dims := List.take_of_length_le (by have := HN.out; omega)
   have hall : ∀ x, x ∈ b.dims -> 1 <= x := fun x hx => by
    obtain ⟨j, hj, rfl⟩ := List.mem_iff_getElem.1 hx
    exact HNO.out j hj (by have := HN.out; omega)
   have HE := lh (show S.dimsOk b.dims = decide (S.sum b.dims <= 262144) by rw [Bool.eq_iff_iff, dimsOk_iff]; simp; exact fun _ => hall)
   rw [he] at hs1
   go_wp2
   go_ret
   exact ⟨ret_b (by rw [HK.out, HE.out]), hbw⟩
theorem rvalid12_any (b : Bar) (A : Option Addr) (n c : Nat) (B : Nat) (w : World) (hB : B <= w.heap.size) (hA : BarAt w B A n b) :
 Calls Tryz.prog 167 #[barV b A n c] w fun e w' => e = .returned (.bool (S.bar b)) /\ Below w.heap.size w w' := by
 cases g0 : S.isName b.mark
 ·exact rvalid_no0 b A n c w hA.len hA.max hA.mark g0
 ·cases g1 : S.size b.size
  ·exact rvalid_no1 b A n c w hA.len hA.max hA.mark g0 g1
  ·by_cases g2 : 1 <= b.count
   ·by_cases g3 : b.count <= 1000
    ·cases g4 : (S.dimsOf b.code == 0)
     ·cases g5 : ((n : Int) == S.dimsOf b.code)
      ·exact rvalid_no5 b A n c w hA.len hA.max hA.mark g0 g1 g2 g3 g4 g5
      ·refine rvalid_in b A n c B w hB hA ?_
       unfold S.barHead
       rw [hA.len, g4, g0, g1, g5]
       simp [g2, g3]
     ·exact rvalid_no4 b A n c w hA.len hA.max hA.mark g0 g1 g2 g3 g4
    ·exact rvalid_no3 b A n c w hA.len hA.max hA.mark g0 g1 g2 (by omega)
   ·exact rvalid_no2 b A n c w hA.len hA.max hA.mark g0 g1 (by omega)
def S.rrun (l : List Bar) (r : Rn) : Bool := S.rightHead l r && S.rightStep r && (match S.barAt l r.mark with | some b => S.near (S.laidPath b r 0) 1048576 && S.near (S.laidPath b r (r.count - 1).toNat) 1048576 | none => false)
theorem placed_zero (x y : Int) (q a s : Pt) (k : Int) : S.plus (S.plus (S.placed x y ⟨0, 0, 0⟩ q) a 1) s k = S.placed x y (S.plus a s k) q := by
 rw [show S.placed x y ⟨0, 0, 0⟩ q = ⟨0 + (S.image x y q).x, 0 + (S.image x y q).y, 0 + (S.image x y q).z⟩ from rfl,
  show S.placed x y (S.plus a s k) q = ⟨a.x + k * s.x + (S.image x y q).x, a.y + k * s.y + (S.image x y q).y, a.z + k * s.z + (S.image x y q).z⟩ from rfl]
 simp only [S.plus, Pt.mk.injEq]
 omega
theorem plus_zero (p s : Pt) : S.plus p s 0 = p := by
 simp [S.plus]
theorem laid_pts {b : Bar} {r : Rn} (ht : S.turn r.tx r.ty = true) (h : S.bar b = true) (k : Nat) : (S.turned b r).all (S.ptOk r k) = S.near (S.laidPath b r k) 1048576 := by
 rw [turned_eq ht h]
 unfold S.near S.laidPath
 rw [List.all_map, List.all_map]
 congr 1
 funext q
 show S.near1 (S.laidPt r k (S.placed r.tx r.ty ⟨0, 0, 0⟩ q)) 1048576 = S.near1 (S.placed r.tx r.ty (S.plus r.at_ r.step k) q) 1048576
 congr 1
 unfold S.laidPt
 split
 ·exact placed_zero _ _ _ _ _ _
 ·have e : ((k : Nat) : Int) = 0 := by omega
  rw [e, <- placed_zero, plus_zero]
theorem rrun_eq {l : List Bar} {r : Rn} (hs : S.sched l = true) : S.rrun l r = S.right l r := by
 unfold S.rrun S.right
 cases hh : S.rightHead l r
 ·rfl
 ·obtain ⟨⟨h0, h1, h2⟩, h3, h4⟩ := rightHead_out hh
  cases hb : S.barAt l r.mark with
  | none => rfl
  | some b =>
   obtain ⟨k, hk⟩ : ∃ k : Nat, S.index l r.mark = (k : Int) := ⟨(S.index l r.mark).toNat, by omega⟩
   have hg : l[k]? = some b := by
    unfold S.barAt at hb
    rw [hk] at hb
    simpa using hb
   have hv := (sched_bar hs hg).1
   have e1 : (r.count - 1) = (((r.count - 1).toNat : Nat) : Int) := by omega
   have e2 := laid_pts h1 hv (r.count - 1).toNat
   rw [<- e1] at e2
   have e3 := laid_pts h1 hv 0
   simp only [S.rightPts]
   rw [e2]
   rw [show (0 : Int) = ((0 : Nat) : Int) from rfl, e3]
def S.sumTo (rs : List Rn) (k : Nat) : Int := (rs.take k).foldl (fun s r => s + r.count) 0
theorem sumTo_succ (rs : List Rn) {k : Nat} (hk : k < rs.length) : S.sumTo rs (k + 1) = S.sumTo rs k + rs[k].count := by
 unfold S.sumTo
 rw [List.take_succ_eq_append_getElem hk, List.foldl_append]
 rfl
theorem sumTo_zero (rs : List Rn) : S.sumTo rs 0 = 0 := rfl
theorem sumTo_mono {rs : List Rn} (h : ∀ k (hk : k < rs.length), 0 <= rs[k].count) : ∀ {k m : Nat}, k <= m -> m <= rs.length -> S.sumTo rs k <= S.sumTo rs m := by
 intro k m hkm
 induction m with
 | zero => intro _; obtain rfl : k = 0 := by omega
           exact Int.le_refl _
 | succ m ih =>
  intro hm
  by_cases e : k = m + 1
  ·subst e; exact Int.le_refl _
  ·have := ih (by omega) (by omega)
   have h1 := h m (by omega)
   rw [sumTo_succ rs (by omega)]
   omega
def S.sumAll (rs : List Rn) : Int := S.sumTo rs rs.length
theorem foldl_count (rs : List Rn) : ∀ a : Int, rs.foldl (fun s r => s + r.count) a = a + rs.foldl (fun s r => s + r.count) 0 := by
 induction rs with
 | nil => intro a; simp
 | cons r rs ih => intro a; simp only [List.foldl_cons]; rw [ih (a + r.count), ih (0 + r.count)]; omega
theorem sumAll_cons (r : Rn) (rs : List Rn) : S.sumAll (r :: rs) = r.count + S.sumAll rs := by
 unfold S.sumAll S.sumTo
 rw [List.take_length, List.take_length, List.foldl_cons, foldl_count]
 omega
theorem runsOk_iff {bs : List Bar} : ∀ {rs : List Rn} {rest : Int}, 0 <= rest -> S.runsOk bs rest rs = (rs.all (S.right bs) && decide (S.sumAll rs <= rest)) := by
 intro rs
 induction rs with
 | nil => intro rest h; simp [S.runsOk, S.sumAll, S.sumTo, h]
 | cons r rs ih =>
  intro rest h
  rw [show S.runsOk bs rest (r :: rs) = (S.right bs r && decide (r.count <= rest) && S.runsOk bs (rest - r.count) rs) from rfl, List.all_cons, sumAll_cons]
  cases hr : S.right bs r
  ·rfl
  ·have hc := right_count hr
   by_cases h1 : r.count <= rest
   ·rw [ih (by omega), decide_eq_true h1]
    cases ha : rs.all (S.right bs)
    ·rfl
    ·simp only [Bool.true_and]
     rw [Bool.eq_iff_iff]
     simp only [decide_eq_true_eq]
     omega
   ·rw [decide_eq_false h1]
    cases ha : rs.all (S.right bs)
    ·rfl
    ·have hpos : 0 <= S.sumAll rs := by
      have := sumTo_mono (rs := rs) (fun k hk => by
       rw [List.all_eq_true] at ha
       have := right_count (ha _ (List.getElem_mem hk))
       omega) (Nat.zero_le rs.length) (Nat.le_refl _)
      rwa [sumTo_zero] at this
     simp only [Bool.true_and, Bool.and_true, Bool.false_and]
     symm
     exact decide_eq_false (by omega)
structure Stands (bs : List Bar) (rs : List Rn) (i : Nat) (k j : Nat) (k0 : Nat) (b : Bar) : Prop where
 lt : k < rs.length
 ok : RunOk bs rs[k] k0 b
 sum : (i : Int) = S.sumTo rs k + j
 inr : (j : Int) < rs[k].count
 get : (S.mains bs rs)[i]? = some (S.mnOf b.size b.mark (S.mainLeg (S.laidPath b rs[k] j)))
theorem mains_sum {bs : List Bar} {rs : List Rn} (hs : S.sched bs = true) (h : ∀ r, r ∈ rs -> S.right bs r = true) : ∀ {k : Nat}, k <= rs.length -> ((S.mains bs (rs.take k)).length : Int) = S.sumTo rs k := by
 intro k
 induction k with
 | zero => intro _; simp [S.mains, sumTo_zero]
 | succ k ih =>
  intro hk
  have hk' : k < rs.length := by omega
  obtain ⟨k0, b, ho⟩ := right_ok hs (h _ (List.getElem_mem hk'))
  have := ih (by omega)
  have hc := ho.count
  rw [mains_snoc bs rs hk' ho.at_, List.length_append, mainsOf_len, sumTo_succ rs hk']
  omega
theorem stands_of {bs : List Bar} {rs : List Rn} (h : S.laid bs rs = true) {i : Nat} (hi : i < (S.mains bs rs).length) : ∃ k j k0 b, Stands bs rs i k j k0 b := by
 simp only [S.laid, Bool.and_eq_true, decide_eq_true_eq] at h
 obtain ⟨⟨hs, hl⟩, hr⟩ := h
 have hin : ∀ r, r ∈ rs -> S.right bs r = true := fun r hr' => runs_in hr hr'
 have key : ∀ m, m <= rs.length -> i < (S.mains bs (rs.take m)).length -> ∃ k j k0 b, ∃ hk : k < rs.length, k < m /\ RunOk bs rs[k] k0 b /\ (i : Int) = S.sumTo rs k + (j : Nat) /\ ((j : Nat) : Int) < rs[k].count /\ (S.mains bs (rs.take m))[i]? = some (S.mnOf b.size b.mark (S.mainLeg (S.laidPath b rs[k] j))) := by
  intro m
  induction m with
  | zero => intro _ h0; simp [S.mains] at h0
  | succ m ih =>
   intro hm h0
   have hm' : m < rs.length := by omega
   obtain ⟨k0, b, ho⟩ := right_ok hs (hin _ (List.getElem_mem hm'))
   have e := mains_snoc bs rs hm' ho.at_
   have hsum := mains_sum hs hin (k := m) (by omega)
   by_cases hlt : i < (S.mains bs (rs.take m)).length
   ·obtain ⟨k, j, k1, b1, hk, hkm, h1, h2, h3, h4⟩ := ih (by omega) hlt
    refine ⟨k, j, k1, b1, hk, by omega, h1, h2, h3, ?_⟩
    rw [e, List.getElem?_append_left hlt, h4]
   ·rw [e, List.length_append, mainsOf_len] at h0
    have hc := ho.count
    refine ⟨m, i - (S.mains bs (rs.take m)).length, k0, b, hm', by omega, ho, by omega, by omega, ?_⟩
    rw [e, List.getElem?_append_right (by omega)]
    unfold S.mainsOf
    rw [List.getElem?_map, List.getElem?_range (by omega)]
    rfl
 obtain ⟨k, j, k0, b, hk, _, h1, h2, h3, h4⟩ := key rs.length (Nat.le_refl _) (by rwa [List.take_length])
 rw [List.take_length] at h4
 exact ⟨k, j, k0, b, hk, h1, h2, h3, h4⟩
theorem rtimes16_any (p : Pt) (n : Int) (h : S.near1 (S.times n p) 1000000000000 = true) (w : World) : Calls Tryz.prog 222 #[ptV p, .int .i64 n] w fun e w' => e = .returned (ptV (S.times n p)) /\ Below w.heap.size w w' := by
 obtain ⟨hx, hy, hz⟩ := near1_out h
 clear h
 have x0 : (S.times n p).x = p.x * n := Int.mul_comm _ _
 have x1 : (S.times n p).y = p.y * n := Int.mul_comm _ _
 have x2 : (S.times n p).z = p.z * n := Int.mul_comm _ _
 rw [x0] at hx
 rw [x1] at hy
 rw [x2] at hz
 unfold ptV
 go_enter Tryz.func222, Tryz.ntmps222
 go_wp2
 exact bodyPost_ret (v := .agg #[.int .i64 (S.times n p).x, .int .i64 (S.times n p).y, .int .i64 (S.times n p).z]) (by simp [results, Tryz.results222, go_sem, *]) rfl ⟨rfl, bel⟩
set_option maxHeartbeats 1000000 in
theorem rtwice_any (p : Pt) (w : World) : Calls Tryz.prog 171 #[ptV p] w fun e w' => e = .returned (.bool (S.near1 p 2097152)) /\ Below w.heap.size w w' := by
 have H := lh (show ∀ t : Bool, (t = true ↔ (-2097152 <= p.x /\ p.x <= 2097152) /\ (-2097152 <= p.y /\ p.y <= 2097152) /\ (-2097152 <= p.z /\ p.z <= 2097152)) -> t = S.near1 p 2097152 from fun t ht => by
  rw [Bool.eq_iff_iff, ht]
  simp only [S.near1, Bool.and_eq_true, decide_eq_true_eq]
  constructor <;> (intro h; omega))
 unfold ptV
 go_enter Tryz.func171, Tryz.ntmps171
 go_wp2
 all_goals (go_ret; exact ⟨ret_b (H.out _ (by simp only [decide_eq_true_eq, decide_eq_false_iff_not, Bool.false_eq_true, true_iff, false_iff] at *; omega)), bel⟩)
theorem rnearL_any (l : List Pt) (A : Option Addr) (n c : Nat) (B : Nat) (w : World) (hn : l.length = n) (hm : n <= 9223372036854775807) (hB : B <= w.heap.size) (hs : Cells w B A (l.flatMap ptC)) :
 Calls Tryz.prog 172 #[.slice A n c] w fun e w' => e = .returned (.bool (S.near l 1048576)) /\ Below w.heap.size w w' := by
 have HN := lh hn
 clear hn
 go_enter Tryz.func172, Tryz.ntmps172
 go_wp2
 go_loopw [3] (fun i wr => ∃ k : Nat, k <= n /\ i = .int .i64 k /\ Hid (∀ j (h : j < l.length), j < k -> S.near1 l[j] 1048576 = true) /\ Below w.heap.size w wr) (fun i _ => n - (intOf i).toNat)
 case atStart => exact ⟨0, Nat.zero_le _, rfl, lh fun j _ hj => absurd hj (by omega), Below.refl _ _⟩
 case round =>
  obtain ⟨k, hk, rfl, HNO, hbr⟩ := hrel
  by_cases hlt : k < n
  ·have hki : (k : Int) < (n : Int) := by omega
   have hkx : k < l.length := by have := HN.out; omega
   have hs' := hs.below (hbr.mono hB)
   obtain ⟨b, o, rfl, _, _⟩ := hs'.at_ (by rw [flat_len ptC 3 ptC_len]; omega)
   obtain ⟨c0, c1, c2⟩ := hs'.pts (List.getElem?_eq_getElem hkx)
   have HT := lh (rnear1_any l[k])
   have HX := lh (fun h => near_bad (m := 1048576) hkx h)
   unfold ptV at HT
   generalize hq : S.near1 l[k] 1048576 = q at *
   have HQ := lh hq
   clear hq hs'
   cases q
   ·go_wp2_with (go_at_call 170; (with_reducible refine (HT.out _).mono ?_); rintro e w1 ⟨rfl, hbw1⟩; obtain ⟨hcw1, hfw1⟩ := bcell hbw1)
    go_ret
    exact ⟨ret_b (HX.out trivial).symm, ba_via hbw1 hbr⟩
   ·go_wp2_with (go_at_call 170; (with_reducible refine (HT.out _).mono ?_); rintro e w1 ⟨rfl, hbw1⟩; obtain ⟨hcw1, hfw1⟩ := bcell hbw1)
    go_roundw
    case rel =>
     refine ⟨k + 1, by omega, by go_num, lh fun j hj hjk => ?_, ba_via hbw1 hbr⟩
     by_cases hjk' : j = k
     ·subst hjk'; exact HQ.out
     ·exact HNO.out j hj (by omega)
    case measure => simp [intOf]; omega
  ·have HX := lh (near_all (m := 1048576) (l := l) fun j hj => HNO.out j hj (by have := HN.out; omega))
   go_wp2
   go_ret
   exact ⟨ret_b HX.out.symm, hbr⟩
theorem rfind14_any (l : List BarR) (m : ByteArray) (A : Option Addr) (n c : Nat) (B : Nat) (w : World) (hB : B <= w.heap.size) (hA : BarsAt w B A n l) :
 Calls Tryz.prog 168 #[.slice A n c, .string m] w fun e w' => e = .returned (.int .i64 (S.index (bars l) m)) /\ Below w.heap.size w w' := by
 have HN := lh (show (bars l).length = n by simpa using hA.len)
 have hm := hA.max
 have hs := hA.cells
 clear hA
 go_enter Tryz.func168, Tryz.ntmps168
 go_wp2
 go_loopw [5] (fun i wr => ∃ k : Nat, k <= n /\ i = .int .i64 k /\ Hid (∀ j (h : j < (bars l).length), j < k -> S.isMark m (bars l)[j] = false) /\ Below w.heap.size w wr) (fun i _ => n - (intOf i).toNat)
 case atStart => exact ⟨0, Nat.zero_le _, rfl, lh fun j _ hj => absurd hj (by omega), Below.refl _ _⟩
 case round =>
  obtain ⟨k, hk, rfl, HNO, hbr⟩ := hrel
  by_cases hlt : k < n
  ·have hki : (k : Int) < (n : Int) := by omega
   have hkx : k < (bars l).length := by have := HN.out; omega
   have hkl : k < l.length := by simpa using hkx
   have hs' := hs.below (hbr.mono hB)
   obtain ⟨b, o, rfl, _, _⟩ := hs'.at_ (by rw [flat_len barC 5 barC_len]; omega)
   have c0 := hs'.row0 barC_len hkl rfl
   have HE := lh (show S.isMark m (bars l)[k] = (l[k].b.mark.toList == m.toList) by simp [S.isMark])
   have HX := lh (fun hx => idxf_hit (p := S.isMark m) hkx hx HNO.out)
   generalize hq : S.isMark m (bars l)[k] = q at *
   have HQ := lh hq
   clear hq hs'
   generalize hmk : l[k].b.mark = mk at *
   have HMK := lh hmk
   clear hmk
   by_cases hx : (mk.toList == m.toList) = true
   ·have hq : q = true := HE.out.trans hx
    subst hq
    go_wp2
    go_ret
    exact ⟨ret_i (HX.out trivial).symm, hbr⟩
   ·have hx' : (mk.toList == m.toList) = false := by simpa using hx
    have hq : q = false := HE.out.trans hx'
    subst hq
    clear hx
    go_wp2
    go_roundw
    case rel =>
     refine ⟨k + 1, by omega, by go_num, lh fun j hj hjk => ?_, hbr⟩
     by_cases hjk' : j = k
     ·subst hjk'; exact HQ.out
     ·exact HNO.out j hj (by omega)
    case measure => simp [intOf]; omega
  ·have HX := lh (idxf_miss (p := S.isMark m) (xs := bars l) fun j hj => HNO.out j hj (by have := HN.out; omega))
   go_wp2
   go_ret
   exact ⟨ret_i HX.out.symm, hbr⟩
theorem rcount16_any (rs : List Rn) (A : Option Addr) (n c : Nat) (B : Nat) (w : World) (hB : B <= w.heap.size) (hR : RunsAt w B A n rs) (h60 : n <= 60) (hc : ∀ k (hk : k < rs.length), 0 <= rs[k].count /\ rs[k].count <= 1000) :
 Calls Tryz.prog 121 #[.slice A n c] w fun e w' => e = .returned (.int .i64 (S.sumAll rs)) /\ w = w' := by
 have HN := lh hR.len
 have HS := lh hR.cells
 have HB : ∀ k, k <= rs.length -> 0 <= S.sumTo rs k /\ S.sumTo rs k <= 1000 * (k : Int) := by
  intro k
  induction k with
  | zero => intro _; rw [sumTo_zero]; omega
  | succ k ih =>
   intro hk
   have h1 := ih (by omega)
   have h2 := hc k (by omega)
   rw [sumTo_succ rs (by omega)]
   omega
 have HBD := lh HB
 clear HB hR
 have HC := lh hc
 clear hc
 go_enter Tryz.func121, Tryz.ntmps121
 go_wp2
 go_loop [3, 4] (fun s i => ∃ k : Nat, k <= n /\ i = .int .i64 k /\ s = .int .i64 (S.sumTo rs k)) (fun _ i => n - (intOf i).toNat)
 case atStart => exact ⟨0, Nat.zero_le _, rfl, rfl⟩
 case round =>
  obtain ⟨k, hk, rfl, rfl⟩ := hrel
  have hl := HN.out
  by_cases hlt : k < n
  ·have hki : (k : Int) < (n : Int) := by omega
   have hkx : k < rs.length := by omega
   have hs' := HS.out
   obtain ⟨b, o, rfl, _, _⟩ := hs'.at_ (by rw [flat_len rnC 10 rnC_len]; omega)
   have c9 := hs'.rowj rnC_len hkx 9 rfl
   have h1 := HBD.out k (by omega)
   have h2 := HC.out k hkx
   have HT := lh (sumTo_succ rs hkx)
   clear hs' hl
   generalize S.sumTo rs k = s at *
   generalize rs[k].count = q at *
   have e1 : IntKind.i64.wrap (s + q) = s + q := IntWalk.i64_in _ (by omega)
   go_wp2
   go_round
   case rel => exact ⟨k + 1, by omega, by go_num, by rw [HT.out]⟩
   case measure => simp [intOf]; omega
  ·have he : k = rs.length := by omega
   have HE := lh (show S.sumTo rs k = S.sumAll rs by rw [he]; rfl)
   clear hl he
   go_wp2
   go_ret
   exact ⟨ret_i HE.out, rfl⟩
end Go.Proofs.YtmfpbafpnoomeaaGreat
