/- What stays true in Decode's loops. Contract: claim.Decode of any bytes. (printed by tools/gen_dec.py) Contract: claim.Decode of any bytes, joined. (printed by tools/gen_dectwo.py) -/
import Derived.Test.YtnmolefblaahmaaGreatMAJ
import Derived.Test.YtnmolefblaahmaaGreatMAI
import Derived.Test.YtnmolefblaahmaaGreatMAG
set_option linter.unusedVariables false
set_option linter.unusedSimpArgs false
namespace Go.Proofs.YtnmolefblaahmaaGreat
open Go.RowKit
structure OutI (W wr : World) (g b bs : Nat) (t l : List Nat) (m : Nat) (sh : Bool) (rs : List Sk) (A : Option Addr) (n c : Nat) : Prop where
 rd : Rd wr g b l sh
 lt : ∀ x, x ∈ l → x < 256
 len : rs.length = n
 few : n + m ≤ 255
 fit : ∀ r, r ∈ rs → r.l.length ≤ 255
 blk : Blk wr (g + 1) 39 #[.slice A n c, .int .i64 0, .int .i64 0, .int .i64 0]
 sks : SksAt wr bs (.slice A n c) rs
 par : S.headL t = S.restL sh m l (rs.map (·.l))
 exc : Exc [g, g + 1] W wr
structure InI (W wi : World) (g b bs : Nat) (l0 l : List Nat) (k : Nat) (sh : Bool) (T : List Stp) (A : Option Addr) (n c : Nat) : Prop where
 rd : Rd wi g b l sh
 lt : ∀ x, x ∈ l → x < 256
 len : T.length = n
 few : n + k ≤ 255
 own : wi.ownsRow bs 69 2 (.slice A n c) n (T.flatMap stC)
 par : S.headS l0 = S.restS sh k l T
 exc : Exc [g] W wi
theorem Rd.cell1 {w : World} {g b : Nat} {l : List Nat} {sh : Bool} (h : Rd w g b l sh) : w.cell? ⟨g, 1, none⟩ = some (.bool sh) ∧ g < w.heap.size := by
 obtain ⟨p, D, _, _, h3, _⟩ := h
 exact ⟨h3.cell 1, h3.lt⟩
theorem Rd.below {w w' : World} {g b B : Nat} {l : List Nat} {sh : Bool} (h : Rd w g b l sh) (hb : Below B w w') (hg : g < B) (hbb : b < B) : Rd w' g b l sh := by
 obtain ⟨p, D, h1, h2, h3, h4⟩ := h
 exact ⟨p, D, h1, h2, (hb.block g hg).trans h3, fun j v hv => (hb.cell (p := ⟨b, p + j, none⟩) hbb).trans (h4 j v hv)⟩
theorem exc_low {M : List Nat} {B : Nat} {W w w' : World} (hX : Exc M W w) (hb : Below B w w') (hB : W.heap.size ≤ B) : Exc M W w' :=
 ⟨hb.os.trans hX.os, hb.tape.trans hX.tape, hb.output.trans hX.output, Nat.le_trans hX.size hb.size, fun k hk hm => (hb.block k (Nat.lt_of_lt_of_le hk hB)).trans (hX.block k hk hm)⟩
theorem Exc.join' {M M' : List Nat} {W w w' : World} (h : Exc M W w) (h' : Exc M' w w') : Exc (M ++ M') W w' := by
 refine ⟨h'.os.trans h.os, h'.tape.trans h.tape, h'.output.trans h.output, Nat.le_trans h.size h'.size, fun k hk hm => ?_⟩
 rw [List.mem_append, not_or] at hm
 exact (h'.block k (Nat.lt_of_lt_of_le hk h.size) hm.2).trans (h.block k hk hm.1)
def GivesDec (r : Cl × Int) (w : World) (e : Ending) (w' : World) : Prop :=
 ∃ x : Ck, e = .returned (.tuple #[ckV x, .int .i64 r.2]) ∧ x.cl = r.1 ∧ CkAt w' w'.heap.size x ∧ Below w.heap.size w w'
theorem give_zero {er : Int} {r : Cl × Int} {w w' : World} {e : Ending} (he : e = .returned (.tuple #[.agg #[.slice none 0 0, .int .i64 0, .int .i64 0, .int .i64 0], .int .i64 er])) (hr : r = (S.noCl, er)) (hb : Below w.heap.size w w') : GivesDec r w e w' := by
 subst hr
 exact ⟨⟨[], none, 0, 0, 0, 0, 0⟩, he, rfl, ⟨rfl, Nat.zero_le _, Cells.nil, fun r hr => by cases hr⟩, hb⟩
set_option maxRecDepth 20000 in
set_option maxHeartbeats 1000000 in
theorem decode_full (l : List Nat) (A : Option Addr) (n c : Nat) (w : World) (hn : l.length = n) (hm : n ≤ 9223372036854775807) (hbig : 1048576 < n) :
 Calls Tryz.prog 21 #[.slice A n c] w (GivesDec (S.dec l) w) := by
 have HD := Lib.hid (show S.dec l = (S.noCl, 4) by unfold S.dec; rw [if_pos (by omega)])
 have hbi : (1048576 : Int) < n := by omega
 clear hn
 have hRB := Blk.new w 39 #[.slice none 0 0, .int .i64 0, .int .i64 0, .int .i64 0]
 have hW1 : Below w.heap.size w (w.alloc (.cells #[.slice none 0 0, .int .i64 0, .int .i64 0, .int .i64 0] 39)) := ba_alloc (Below.refl _ _) _
 go_enter Tryz.func21, Tryz.ntmps21
 go_upto_region 1 with fail
 generalize (w.alloc (.cells #[.slice none 0 0, .int .i64 0, .int .i64 0, .int .i64 0] 39)) = W1 at *
 have r0 := hRB.cell 0
 have z0 := hRB.frozen 0
 have r1 := hRB.cell 1
 have z1 := hRB.frozen 1
 have r2 := hRB.cell 2
 have z2 := hRB.frozen 2
 have r3 := hRB.cell 3
 have z3 := hRB.frozen 3
 have rl := hRB.lt
 simp only [List.getElem?_toArray, List.getElem?_cons_zero, List.getElem?_cons_succ] at r0 r1 r2 r3
 clear hRB
 go_wp2
 exact bodyPost_ret (v := .tuple #[.agg #[.slice none 0 0, .int .i64 0, .int .i64 0, .int .i64 0], .int .i64 4]) (by simp [results, Tryz.results21, go_sem, *]) rfl (give_zero rfl HD.out (by (repeat (refine Below.setCell ?_ (by simp) _)); exact hW1))
set_option maxRecDepth 20000 in
set_option maxHeartbeats 1500000 in
theorem decode_form (l : List Nat) (A : Option Addr) (n c B : Nat) (w : World) (hn : l.length = n) (hbig : ¬ 1048576 < n) (hx : Cells w B A (l.map bC)) (hB : B ≤ w.heap.size) (hh : ¬ (2 ≤ n ∧ l[0]? = some 67 ∧ l[1]? = some 83)) :
 Calls Tryz.prog 21 #[.slice A n c] w (GivesDec (S.dec l) w) := by
 have HD := Lib.hid (show S.dec l = (S.noCl, 7) by
  unfold S.dec
  rw [if_neg (by omega)]
  cases l with
  | nil => rfl
  | cons a t =>
   cases t with
   | nil => rfl
   | cons b t =>
    dsimp only
    rw [if_neg (fun h => hh ⟨by rw [← hn]; simp, by rw [h.1]; rfl, by rw [h.2]; rfl⟩)])
 have hbi : ¬ ((1048576 : Int) < n) := by omega
 have hRB := Blk.new w 39 #[.slice none 0 0, .int .i64 0, .int .i64 0, .int .i64 0]
 have hW1 : Below w.heap.size w (w.alloc (.cells #[.slice none 0 0, .int .i64 0, .int .i64 0, .int .i64 0] 39)) := ba_alloc (Below.refl _ _) _
 have hx1 := hx.below (hW1.mono hB)
 have HH := Lib.hid hh
 have HN := Lib.hid hn
 clear hx hh hn
 by_cases h2 : n < 2
 ·have h2i : (n : Int) < 2 := by omega
  clear hx1
  go_enter Tryz.func21, Tryz.ntmps21
  go_upto_region 1 with fail
  generalize (w.alloc (.cells #[.slice none 0 0, .int .i64 0, .int .i64 0, .int .i64 0] 39)) = W1 at *
  have r0 := hRB.cell 0
  have z0 := hRB.frozen 0
  have r1 := hRB.cell 1
  have z1 := hRB.frozen 1
  have r2 := hRB.cell 2
  have z2 := hRB.frozen 2
  have r3 := hRB.cell 3
  have z3 := hRB.frozen 3
  have rl := hRB.lt
  simp only [List.getElem?_toArray, List.getElem?_cons_zero, List.getElem?_cons_succ] at r0 r1 r2 r3
  clear hRB
  go_wp2
  exact bodyPost_ret (v := .tuple #[.agg #[.slice none 0 0, .int .i64 0, .int .i64 0, .int .i64 0], .int .i64 7]) (by simp [results, Tryz.results21, go_sem, *]) rfl (give_zero rfl HD.out (by (repeat (refine Below.setCell ?_ (by simp) _)); exact hW1))
 ·have h2i : ¬ ((n : Int) < 2) := by omega
  have h0i : (0 : Int) < n := by omega
  have h1i : (1 : Int) < n := by omega
  have l0 : 0 < l.length := by have := HN.out; omega
  have l1 : 1 < l.length := by have := HN.out; omega
  obtain ⟨b, o, rfl, hb, hxx⟩ := hx1.at_ (by simp; omega)
  have b0 := hxx 0 _ (bC_get l0)
  have b1 := hxx 1 _ (bC_get l1)
  simp only [Nat.add_zero] at b0
  clear hxx hx1
  have hg : ¬ (l[0] = 67 ∧ l[1] = 83) := fun h => HH.out ⟨by omega, by rw [List.getElem?_eq_getElem l0, h.1], by rw [List.getElem?_eq_getElem l1, h.2]⟩
  generalize l[0] = x0 at *
  generalize l[1] = x1 at *
  by_cases h67 : x0 = 67
  ·have q0 : ((x0 : Int) == 67) = true := by simp; omega
   have q0' : ((x0 : Int) != 67) = false := by simp; omega
   have q1 : ((x1 : Int) == 83) = false := by simp; omega
   have q1' : ((x1 : Int) != 83) = true := by simp; omega
   have HG := Lib.hid hg
   have H67 := Lib.hid h67
   clear hg h67
   go_enter Tryz.func21, Tryz.ntmps21
   go_upto_region 1 with fail
   generalize (w.alloc (.cells #[.slice none 0 0, .int .i64 0, .int .i64 0, .int .i64 0] 39)) = W1 at *
   have r0 := hRB.cell 0
   have z0 := hRB.frozen 0
   have r1 := hRB.cell 1
   have z1 := hRB.frozen 1
   have r2 := hRB.cell 2
   have z2 := hRB.frozen 2
   have r3 := hRB.cell 3
   have z3 := hRB.frozen 3
   have rl := hRB.lt
   simp only [List.getElem?_toArray, List.getElem?_cons_zero, List.getElem?_cons_succ] at r0 r1 r2 r3
   clear hRB
   go_wp2
   exact bodyPost_ret (v := .tuple #[.agg #[.slice none 0 0, .int .i64 0, .int .i64 0, .int .i64 0], .int .i64 7]) (by simp [results, Tryz.results21, go_sem, *]) rfl (give_zero rfl HD.out (by (repeat (refine Below.setCell ?_ (by simp) _)); exact hW1))
  ·have q0 : ((x0 : Int) == 67) = false := by simp; omega
   have q0' : ((x0 : Int) != 67) = true := by simp; omega
   clear hg
   go_enter Tryz.func21, Tryz.ntmps21
   go_upto_region 1 with fail
   generalize (w.alloc (.cells #[.slice none 0 0, .int .i64 0, .int .i64 0, .int .i64 0] 39)) = W1 at *
   have r0 := hRB.cell 0
   have z0 := hRB.frozen 0
   have r1 := hRB.cell 1
   have z1 := hRB.frozen 1
   have r2 := hRB.cell 2
   have z2 := hRB.frozen 2
   have r3 := hRB.cell 3
   have z3 := hRB.frozen 3
   have rl := hRB.lt
   simp only [List.getElem?_toArray, List.getElem?_cons_zero, List.getElem?_cons_succ] at r0 r1 r2 r3
   clear hRB
   go_wp2
   exact bodyPost_ret (v := .tuple #[.agg #[.slice none 0 0, .int .i64 0, .int .i64 0, .int .i64 0], .int .i64 7]) (by simp [results, Tryz.results21, go_sem, *]) rfl (give_zero rfl HD.out (by (repeat (refine Below.setCell ?_ (by simp) _)); exact hW1))
set_option maxRecDepth 20000 in
set_option maxHeartbeats 3000000 in
theorem decode_yes (l : List Nat) (b o n c B : Nat) (w : World) (hn : l.length = n) (hbig : n ≤ 1048576) (h2n : 2 ≤ n) (hnc : n ≤ c) (hc2 : 2 < c) (hc : c ≤ 9223372036854775807) (hl : ∀ x, x ∈ l → x < 256) (hx : Cells w B (some ⟨b, o, none⟩) (l.map bC)) (hB : B ≤ w.heap.size) (hh : l[0]? = some 67 ∧ l[1]? = some 83) :
 Calls Tryz.prog 21 #[.slice (some ⟨b, o, none⟩) n c] w (GivesDec (S.dec l) w) := by
 have hbi : ¬ ((1048576 : Int) < n) := by omega
 have h2i : ¬ ((n : Int) < 2) := by omega
 have h0i : (0 : Int) < n := by omega
 have h1i : (1 : Int) < n := by omega
 have hbB : b < B := by
  obtain ⟨b', o', hA, hb', hxx⟩ := hx.at_ (by simp; omega)
  injection hA with hA
  injection hA with h1 h2
  omega
 have HX := Lib.hid hx
 have HL := Lib.hid hl
 have HN := Lib.hid hn
 have HH := Lib.hid hh
 have b0 : w.cell? ⟨b, o, none⟩ = some (.int .u8 67) := hx.get (k := 0) (by rw [List.getElem?_map, hh.1]; rfl)
 have b1 : w.cell? ⟨b, o + 1, none⟩ = some (.int .u8 83) := hx.get (k := 1) (by rw [List.getElem?_map, hh.2]; rfl)
 have hRB := Blk.new w 39 #[.slice none 0 0, .int .i64 0, .int .i64 0, .int .i64 0]
 have hW1 : Below w.heap.size w (w.alloc (.cells #[.slice none 0 0, .int .i64 0, .int .i64 0, .int .i64 0] 39)) := ba_alloc (Below.refl _ _) _
 replace b0 := (hW1.cell (p := ⟨b, o, none⟩) (show b < w.heap.size by omega)).trans b0
 replace b1 := (hW1.cell (p := ⟨b, o + 1, none⟩) (show b < w.heap.size by omega)).trans b1
 clear hx hl hn hh
 go_enter Tryz.func21, Tryz.ntmps21
 go_upto_region 1 with fail
 generalize (w.alloc (.cells #[.slice none 0 0, .int .i64 0, .int .i64 0, .int .i64 0] 39)) = W1 at *
 have hbw : b < w.heap.size := by omega
 have hs1 := hRB.lt
 have HRB := Lib.hid hRB
 clear hRB
 have c2 : ¬ (c = 2) := by omega
 have c2' : ¬ (c - 2 = 0) := by omega
 go_upto_region 7 with fail
 have hG := Blk.new W1 102 #[.slice (some ⟨b, o + 2, none⟩) (n - 2) (c - 2), .bool false]
 have hC5 := Blk.newN (W := W1.alloc (.cells #[.slice (some ⟨b, o + 2, none⟩) (n - 2) (c - 2), .bool false] 102)) (n := W1.heap.size + 1) (by simp) 39 #[.slice none 0 0, .int .i64 0, .int .i64 0, .int .i64 0]
 have hG6 := hG.alloc (.cells #[.slice none 0 0, .int .i64 0, .int .i64 0, .int .i64 0] 39)
 have hb16 : Below W1.heap.size W1 ((W1.alloc (.cells #[.slice (some ⟨b, o + 2, none⟩) (n - 2) (c - 2), .bool false] 102)).alloc (.cells #[.slice none 0 0, .int .i64 0, .int .i64 0, .int .i64 0] 39)) := ba_alloc (ba_alloc (Below.refl _ _) _) _
 have hsz6 : ((W1.alloc (.cells #[.slice (some ⟨b, o + 2, none⟩) (n - 2) (c - 2), .bool false] 102)).alloc (.cells #[.slice none 0 0, .int .i64 0, .int .i64 0, .int .i64 0] 39)).heap.size = W1.heap.size + 2 := by simp
 generalize ((W1.alloc (.cells #[.slice (some ⟨b, o + 2, none⟩) (n - 2) (c - 2), .bool false] 102)).alloc (.cells #[.slice none 0 0, .int .i64 0, .int .i64 0, .int .i64 0] 39)) = W6 at *
 obtain ⟨g, hg⟩ : ∃ g, g = W1.heap.size := ⟨_, rfl⟩
 rw [← hg] at hG6 hC5 hsz6 hs1
 rw [← hg]
 have HG0 := Lib.hid hg
 clear hg hG
 obtain ⟨t, ht⟩ : ∃ t, t = l.drop 2 := ⟨_, rfl⟩
 have hlt : t.length = n - 2 := by rw [ht, List.length_drop]; have := HN.out; omega
 have htl : ∀ x, x ∈ t → x < 256 := fun x hx => HL.out x (by rw [ht] at hx; exact List.mem_of_mem_drop hx)
 have hgb : g ≠ b := by omega
 have hb6 : b < W6.heap.size := by omega
 have hbw6 : Below w.heap.size w W6 := hW1.trans (hb16.mono hW1.size)
 have hR6 : Rd W6 g b t false := ⟨o + 2, c - 2, by omega, by omega, by rw [hlt]; exact hG6, fun j v hv => by
  rw [hbw6.cell (p := ⟨b, o + 2 + j, none⟩) hbw, Nat.add_assoc]
  refine HX.out.get ?_
  rw [ht, List.map_drop, List.getElem?_drop] at hv
  exact hv⟩
 obtain ⟨bs, hbs⟩ : ∃ bs, bs = g + 2 := ⟨_, rfl⟩
 have HT := Lib.hid ht
 have HTL := Lib.hid htl
 have HLT := Lib.hid hlt
 have HC5 := Lib.hid hC5
 have HB6 := Lib.hid hbw6
 have HBS := Lib.hid hbs
 have HSZ := Lib.hid hsz6
 have hon := rd_one g b t false W6 htl hgb hb6 hR6
 obtain ⟨m0, hm0⟩ : ∃ m0, m0 = t.headD 0 := ⟨_, rfl⟩
 rw [← hm0] at hon
 have HON := Lib.hid hon
 have hm255 : m0 ≤ 255 := by rw [hm0]; have := head_lt htl; omega
 have HM0 := Lib.hid hm0
 clear hon hm0
 have HR6 := Lib.hid (HRB.out.via hb16)
 clear ht hlt htl hG6 hC5 hb16 hW1 hbw6 hR6 hbs hsz6 b0 b1 c2 c2' HRB
 go_upto_region 8 with (go_at_call 55; (with_reducible refine HON.out.mono ?_); rintro e w7 ⟨rfl, hR7, hX7, hz7⟩)
 have HI7 := Lib.hid (show OutI W6 w7 g b bs t (S.nxL 1 t) m0 (S.nxS 1 t false) [] none 0 0 from ⟨hR7, nxL_lt HTL.out, rfl, by omega, fun r hr => (by cases hr), HC5.out.exc hX7 (by simp), SksAt.nil _ _, by rw [HM0.out]; exact restL_start t, (Exc.refl _ _).join hX7 (by simp)⟩)
 have HZ7 := Lib.hid hz7
 clear hR7 hX7 hz7 HON HC5
 go_wp2
 go_loopw [6] (fun i wr => ∃ (m : Nat) (l1 : List Nat) (sh : Bool) (rs : List Sk) (A1 : Option Addr) (nA c1 : Nat), i = .int .i64 m ∧ m ≤ 255 ∧ Hid (OutI W6 wr g b bs t l1 m sh rs A1 nA c1)) (fun i _ => (intOf i).toNat)
 case atStart => exact ⟨m0, _, _, [], none, 0, 0, rfl, hm255, HI7⟩
 case round =>
  obtain ⟨m, l1, sh, rs, A1, nA, c1, rfl, hm, HI⟩ := hrel
  have k1 := HI.out.rd.cell1.1
  have kl := HI.out.rd.cell1.2
  have hszr := HI.out.exc.size
  have hbr : b < wr.heap.size := by have := HSZ.out; omega
  by_cases hgo : 0 < m ∧ sh = false
  ·obtain ⟨hm0, rfl⟩ := hgo
   obtain ⟨m1, rfl⟩ : ∃ m1, m = m1 + 1 := ⟨m - 1, by omega⟩
   have hmi : (0 : Int) < ((m1 + 1 : Nat) : Int) := by omega
   have hon := rd_one g b l1 false wr HI.out.lt hgb hbr HI.out.rd
   obtain ⟨k0, hk0⟩ : ∃ k0, k0 = l1.headD 0 := ⟨_, rfl⟩
   rw [← hk0] at hon
   have HON := Lib.hid hon
   have hk255 : k0 ≤ 255 := by rw [hk0]; have := head_lt HI.out.lt; omega
   have HK0 := Lib.hid hk0
   clear hon hk0
   go_upto_region 12 with (go_at_call 55; (with_reducible refine HON.out.mono ?_); rintro e wB ⟨rfl, hRB, hXB, hzB⟩)
   have HJ0 := Lib.hid (show InI wB wB g b wB.heap.size l1 (S.nxL 1 l1) k0 (S.nxS 1 l1 false) [] none 0 0 from ⟨hRB, nxL_lt HI.out.lt, rfl, by omega, World.ownsRow_nil _ _ _ _, by rw [HK0.out]; exact restS_start l1, Exc.refl _ _⟩)
   have HXB := Lib.hid hXB
   have HZB := Lib.hid (show wB.heap.size = wr.heap.size from hzB)
   clear hRB hXB hzB HON k1 kl
   obtain ⟨b2, hb2⟩ : ∃ b2, b2 = wB.heap.size := ⟨_, rfl⟩
   rw [← hb2] at HJ0
   have hgb2 : g + 2 ≤ b2 := by rw [hb2, HZB.out]; have := HSZ.out; omega
   have HB2 := Lib.hid hb2
   clear hb2
   go_wp2
   go_loopw [7, 8] (fun lv i wi => ∃ (k : Nat) (l2 : List Nat) (sh2 : Bool) (T : List Stp) (A2 : Option Addr) (nT c2 : Nat), lv = .slice A2 nT c2 ∧ i = .int .i64 k ∧ k ≤ 255 ∧ Hid (InI wB wi g b b2 l1 l2 k sh2 T A2 nT c2)) (fun _ i _ => (intOf i).toNat)
   case atStart => exact ⟨k0, _, _, [], none, 0, 0, rfl, rfl, hk255, HJ0⟩
   case round =>
    obtain ⟨k, l2, sh2, T, A2, nT, c2, rfl, rfl, hk, HJ⟩ := hrel
    have k1 := HJ.out.rd.cell1.1
    have kl := HJ.out.rd.cell1.2
    have hszi := HJ.out.exc.size
    have hbi2 : b < wr.heap.size := by have := HZB.out; omega
    have hb2r : b2 ≤ wr.heap.size := by have := HB2.out; omega
    have hnT : nT ≤ 255 := by have := HJ.out.few; omega
    by_cases hgo2 : 0 < k ∧ sh2 = false
    ·obtain ⟨hk0, rfl⟩ := hgo2
     obtain ⟨k', rfl⟩ : ∃ k', k = k' + 1 := ⟨k - 1, by omega⟩
     have hki : (0 : Int) < ((k' + 1 : Nat) : Int) := by omega
     have e1 : IntKind.i64.wrap (((k' + 1 : Nat) : Int) - 1) = (k' : Int) := by rw [show ((k' + 1 : Nat) : Int) - 1 = (k' : Int) by omega]; exact IntWalk.i64_in _ (by omega)
     have HN4 := Lib.hid (rd_nx g b 4 4 rfl true l2 false wr (by omega) HJ.out.lt hgb hbi2 HJ.out.rd)
     go_upto_region 15 with (go_at_call 55; (with_reducible refine HN4.out.mono ?_); rintro e w4 ⟨rfl, hR4, hX4, hz4⟩)
     have HZ4 := Lib.hid hz4
     have hb4 : b < w4.heap.size := by omega
     have hb24 : b2 ≤ w4.heap.size := by omega
     clear hz4
     have HN6 := Lib.hid (rd_nx g b 6 6 rfl true (S.nxL 4 l2) (S.nxS 4 l2 false) w4 (by omega) (nxL_lt HJ.out.lt) hgb hb4 hR4)
     have HPAR := Lib.hid (restS_next k' l2 T)
     have HO4 := Lib.hid (own_kept HJ.out.own (fun q hq => hX4.block q (HJ.out.own.lt q hq).2 (by have := (HJ.out.own.lt q hq).1; have := HB2.out; simp; omega)))
     have HX4 := Lib.hid (HJ.out.exc.join hX4 (by simp))
     clear hR4 hX4 HN4 k1 kl
     generalize S.nxV 4 true l2 = v1 at *
     go_wp2_with (first | (go_at_call 55; (with_reducible refine HN6.out.mono ?_); rintro e w6 ⟨rfl, hR6, hX6, hz6⟩; have hb26 : b2 ≤ w6.heap.size := (by omega); have HZ6 := Lib.hid hz6; clear hz6; have hO6 := own_kept HO4.out (fun q hq => hX6.block q (HO4.out.lt q hq).2 (by have := (HO4.out.lt q hq).1; have := HB2.out; simp; omega))) | (at_builtin; refine wpList_append_cells2 rfl (.tmp 65) (.tmp 70) _ rfl elemS7 b2 (.slice A2 nT c2) nT _ rfl (own_kept hO6 (fun g hg => (ba_alloc (Below.refl _ _) _).block g (hO6.lt g hg).2)) w6.heap.size 1 1 [.int .i64 v1, .int .i64 (S.nxV 6 true (S.nxL 4 l2))] rfl rfl (fun j u hu => ((Blk.new w6 69 #[.int .i64 v1, .int .i64 (S.nxV 6 true (S.nxL 4 l2))]).cell j).trans (by simpa using hu)) (by simp [Value.oneCell']) (by unfold maxLen; omega) (by omega) (by simp; omega) ?_; intro v3 wE hOE hbE hz1 hz2 hz3; obtain ⟨A3, c3, hv3, _, _, hxx⟩ := own_form hOE (by unfold maxLen; omega); clear hxx; subst hv3))
     have hB2E : b2 ≤ w6.heap.size := hb26
     have hbE6 : Below b2 w6 wE := ((ba_alloc (Below.refl _ _) _ : Below w6.heap.size w6 _).mono hB2E).trans hbE
     go_roundw
     case rel =>
      refine ⟨k', _, _, T ++ [⟨v1, S.nxV 6 true (S.nxL 4 l2)⟩], A3, nT + 1, c3, rfl, by go_num, by omega, Lib.hid ⟨hR6.below hbE6 (by omega) (by omega), nxL_lt (nxL_lt HJ.out.lt), by rw [List.length_append, HJ.out.len]; rfl, by have := HJ.out.few; omega, by simpa using hOE, HJ.out.par.trans HPAR.out, exc_low (HX4.out.join hX6 (by simp)) hbE6 (Nat.le_of_eq HB2.out.symm)⟩⟩
     case measure => first | (simp [intOf]; done) | (simp [intOf]; omega)
    ·have hex : k = 0 ∨ (0 < k ∧ sh2 = true) := by
      rcases Nat.eq_zero_or_pos k with h | h
      ·exact .inl h
      ·cases sh2
       ·exact absurd ⟨h, rfl⟩ hgo2
       ·exact .inr ⟨h, rfl⟩
     have HPL := Lib.hid (restL_next (m := m1) (L := rs.map (·.l)) HJ.out.par (hex.imp id (fun h => h.2)))
     have hbsE : bs = g + 2 := HBS.out
     have hblk := (HI.out.blk.exc HXB.out (by simp)).exc HJ.out.exc (by simp)
     have hsk := (HI.out.sks.kept (fun q hq hq2 => HXB.out.block q hq2 (by simp; omega))).kept (fun q hq hq2 => HJ.out.exc.block q hq2 (by simp; omega))
     have hap : ∀ q, (Value.slice A2 nT c2).ownBlock = some q → (Value.slice A1 nA c1).ownBlock ≠ some q := fun q hq he => by
      have h1 := (HJ.out.own.lt q hq).1
      have h2 := ((HI.out.sks.kept (fun q hq hq2 => HXB.out.block q hq2 (by simp; omega))).own.lt q he).2
      have := HB2.out
      omega
     have hxw : Exc [g, g + 1] W6 wr := (HI.out.exc.join HXB.out (by simp)).join HJ.out.exc (by simp)
     have hbsw : bs ≤ wr.heap.size := by omega
     have hW6s : W6.heap.size = bs := by rw [HSZ.out]; exact hbsE.symm
     have HW6S := Lib.hid hW6s
     have HSK := Lib.hid hsk
     have HBK := Lib.hid hblk
     have HAP := Lib.hid hap
     have HXW := Lib.hid hxw
     have hgbs : g + 1 < bs := by omega
     have hbbs : b < bs := by omega
     have hnA : nA ≤ 255 := by have := HI.out.few; omega
     have hoA := hsk.own
     rw [HI.out.len] at hoA
     have HOA := Lib.hid hoA
     have d0 := hblk.cell 0
     have dl := hblk.lt
     simp only [List.getElem?_toArray, List.getElem?_cons_zero, List.getElem?_cons_succ] at d0
     have e1 : IntKind.i64.wrap (((m1 + 1 : Nat) : Int) - 1) = (m1 : Int) := by rw [show ((m1 + 1 : Nat) : Int) - 1 = (m1 : Int) by omega]; exact IntWalk.i64_in _ (by omega)
     clear hsk hblk hap hxw hW6s hoA hbsE hgo2
     rcases hex with rfl | ⟨hk0, rfl⟩
     all_goals (
      try have hki : (0 : Int) < (k : Int) := by omega
      go_wp2_with (at_builtin; refine wpList_append_cells2 rfl (.tmp 73) (.tmp 75) _ rfl elemSk bs (.slice A1 nA c1) nA _ rfl (own_kept HOA.out (fun g hg => (ba_alloc (Below.refl _ _) _).block g (HOA.out.lt g hg).2)) wr.heap.size 1 1 [.slice A2 nT c2] rfl rfl (fun j u hu => ((Blk.new wr 66 #[.slice A2 nT c2]).cell j).trans (by simpa using hu)) (by simp [Value.oneCell']) (by unfold maxLen; omega) (by omega) (by simp; omega) ?_; intro v3 wE hOE hbE hz1 hz2 hz3; obtain ⟨A3, c3, hv3, _, _, hxx⟩ := own_form hOE (by unfold maxLen; omega); clear hxx; subst hv3; have hbW := ((ba_alloc (Below.refl _ _) _ : Below wr.heap.size wr (wr.alloc (.cells #[.slice A2 nT c2] 66))).mono hbsw).trans hbE; have hbkE : Blk wE (g + 1) 39 _ := (hbW.block _ hgbs).trans HBK.out; have f0 := hbkE.frozen 0; have f0l := hbkE.lt; have d0E := hbkE.cell 0; simp only [List.getElem?_toArray, List.getElem?_cons_zero, List.getElem?_cons_succ] at d0E)
      have hbl : ∀ q, q < wr.heap.size → (wr.alloc (.cells #[.slice A2 nT c2] 66)).heap[q]? = wr.heap[q]? := fun q hq => (ba_alloc (Below.refl wr.heap.size wr) (.cells #[.slice A2 nT c2] 66)).block q hq
      have hbs7 : wr.heap.size ≤ (wr.alloc (.cells #[.slice A2 nT c2] 66)).heap.size := by simp
      have hGr : Grows wr wE (.slice A1 nA c1) (.slice A3 (nA + 1) c3) := ⟨Nat.le_trans hbs7 hz1, fun q hq hn => (hz2 q (Nat.lt_of_lt_of_le hq hbs7) hn).trans (hbl q hq), fun q hq => by
       rcases hz3 with h | h
       ·exact .inl (h ▸ hq)
       ·rw [show (Value.slice A3 (nA + 1) c3).ownBlock = _ from h] at hq
        injection hq with hq
        simp at hq
        exact .inr (by omega)⟩
      go_roundw
      case rel =>
       refine ⟨m1, _, _, rs ++ [⟨A2, nT, c2, T⟩], A3, nA + 1, c3, by go_num, by omega, Lib.hid ⟨(HJ.out.rd.below hbW (by omega) hbbs).exc (exc_set1 _ _ _ _) (by simp) (by simp; omega) (by have := hbW.size; omega), HJ.out.lt, ?_, ?_, ?_, ?_, ?_, ?_, ?_⟩⟩
       ·rw [List.length_append, HI.out.len]; rfl
       ·have := HI.out.few; omega
       ·intro r hr
        rcases List.mem_append.1 hr with hr | hr
        ·exact HI.out.fit r hr
        ·rw [List.mem_singleton] at hr
         subst hr
         show T.length ≤ 255
         rw [HJ.out.len]; omega
       ·have := hbkE.set 0 (.slice A3 (nA + 1) c3)
        simpa only [List.setIfInBounds_toArray, List.set_cons_zero, List.set_cons_succ] using this
       ·refine (SksAt.push HSK.out (r := ⟨A2, nT, c2, T⟩) ⟨HJ.out.len.symm, HAP.out, ?_⟩ ?_ hGr).kept (fun q hq hq2 => (exc_set1 wE (g + 1) 0 _).block q hq2 (by simp; omega))
        ·have := own_mono HJ.out.own (show bs ≤ b2 from by have := HBS.out; omega)
         show wr.ownsRow bs _ 2 (.slice A2 nT c2) T.length _
         rw [HJ.out.len]
         exact this
        ·rw [HI.out.len]
         simpa using hOE
       ·rw [HI.out.par, HPL.out, List.map_append]
        rfl
       ·exact (exc_low HXW.out hbW (Nat.le_of_eq HW6S.out)).join (exc_set1 _ _ _ _) (by simp)
      case measure => first | (simp [intOf]; done) | (simp [intOf]; omega))
  ·have hex : m = 0 ∨ (0 < m ∧ sh = true) := by
    rcases Nat.eq_zero_or_pos m with h | h
    ·exact .inl h
    ·cases sh
     ·exact absurd ⟨h, rfl⟩ hgo
     ·exact .inr ⟨h, rfl⟩
   have HEX := Lib.hid (show m = 0 ∨ sh = true from hex.imp id (fun h => h.2))
   have HE1 := Lib.hid (rd_nx g b 2 2 rfl true l1 sh wr (by omega) HI.out.lt hgb hbr HI.out.rd)
   clear hgo
   have hgd : (¬ ((0 : Int) < (m : Int))) ∨ ((0 : Int) < (m : Int) ∧ wr.cell? ⟨g, 1, none⟩ = some (.bool true)) := by
    rcases hex with h | ⟨h, hs⟩
    ·exact .inl (by omega)
    ·exact .inr ⟨by omega, by rw [k1, hs]⟩
   clear k1 hex
   rcases hgd with hki | ⟨hki, k1⟩
   all_goals (
    go_upto_region 18 with (first | (go_at_call 55; (with_reducible refine HE1.out.mono ?_); rintro e wa ⟨rfl, hRa, hXa, hza⟩; have HZa := Lib.hid hza; have hbba : b < wa.heap.size := (by omega); clear hza; have hEa := rd_nx g b 2 2 rfl true (S.nxL 2 l1) (S.nxS 2 l1 sh) wa (by omega) (nxL_lt HI.out.lt) hgb hbba hRa; have HE2 := Lib.hid hEa; clear hEa) | (go_at_call 55; (with_reducible refine HE2.out.mono ?_); rintro e wb ⟨rfl, hRb, hXb, hzb⟩; have HZb := Lib.hid hzb; have hbbb : b < wb.heap.size := (by omega); clear hzb; have hEb := rd_nx g b 8 8 rfl true (S.nxL 2 (S.nxL 2 l1)) (S.nxS 2 (S.nxL 2 l1) (S.nxS 2 l1 sh)) wb (by omega) (nxL_lt (nxL_lt HI.out.lt)) hgb hbbb hRb; have HE3 := Lib.hid hEb; clear hEb) | (go_at_call 55; (with_reducible refine HE3.out.mono ?_); rintro e wc ⟨rfl, hRc, hXc, hzc⟩; have HZc := Lib.hid hzc; have hbbc : b < wc.heap.size := (by omega); clear hzc; have hXX := (hXa.join hXb (by simp)).join hXc (by simp); have hbkc := HI.out.blk.exc hXX (by simp); have d1 := hbkc.cell 1; have d2 := hbkc.cell 2; have d3 := hbkc.cell 3; have f1 := hbkc.frozen 1; have f2 := hbkc.frozen 2; have f3 := hbkc.frozen 3; have dlc := hbkc.lt; simp only [List.getElem?_toArray, List.getElem?_cons_zero, List.getElem?_cons_succ] at d1 d2 d3))
    have hbkc' := Lib.hid hbkc
    have HXX := Lib.hid hXX
    have HRC := Lib.hid hRc
    have hW17 : Exc [g + 1] wc (((wc.setCell ⟨g + 1, 1, none⟩ (.int .i64 (S.nxV 2 true l1))).setCell ⟨g + 1, 2, none⟩ (.int .i64 (S.nxV 2 true (S.nxL 2 l1)))).setCell ⟨g + 1, 3, none⟩ (.int .i64 (S.nxV 8 true (S.nxL 2 (S.nxL 2 l1))))) := ((exc_set1 _ _ _ _).join (exc_set1 _ _ _ _) (by simp)).join (exc_set1 _ _ _ _) (by simp)
    have hB17 := ((hbkc.set 1 (.int .i64 (S.nxV 2 true l1))).set 2 (.int .i64 (S.nxV 2 true (S.nxL 2 l1)))).set 3 (.int .i64 (S.nxV 8 true (S.nxL 2 (S.nxL 2 l1))))
    simp only [List.setIfInBounds_toArray, List.set_cons_zero, List.set_cons_succ] at hB17
    have hz17 : (((wc.setCell ⟨g + 1, 1, none⟩ (.int .i64 (S.nxV 2 true l1))).setCell ⟨g + 1, 2, none⟩ (.int .i64 (S.nxV 2 true (S.nxL 2 l1)))).setCell ⟨g + 1, 3, none⟩ (.int .i64 (S.nxV 8 true (S.nxL 2 (S.nxL 2 l1))))).heap.size = wc.heap.size := by simp
    generalize (((wc.setCell ⟨g + 1, 1, none⟩ (.int .i64 (S.nxV 2 true l1))).setCell ⟨g + 1, 2, none⟩ (.int .i64 (S.nxV 2 true (S.nxL 2 l1)))).setCell ⟨g + 1, 3, none⟩ (.int .i64 (S.nxV 8 true (S.nxL 2 (S.nxL 2 l1))))) = W17 at *
    have HZ17 := Lib.hid hz17
    have hbb17 : b < W17.heap.size := by omega
    have HE4 := Lib.hid (rd_nx g b 4 4 rfl false (S.nxL 8 (S.nxL 2 (S.nxL 2 l1))) (S.nxS 8 (S.nxL 2 (S.nxL 2 l1)) (S.nxS 2 (S.nxL 2 l1) (S.nxS 2 l1 sh))) W17 (by omega) (nxL_lt (nxL_lt (nxL_lt HI.out.lt))) hgb hbb17 (hRc.exc hW17 (by simp) (by simp; omega) hbbc))
    have HX17 := Lib.hid (HI.out.exc.join (hXX.join' hW17) (by simp))
    have HB17 := Lib.hid hB17
    have HXR17 := Lib.hid (hXX.join' hW17)
    clear hz17 hRc hbkc hXX hW17 hB17 d1 d2 d3 f1 f2 f3 dlc hRa hRb hXa hXb hXc HE1
    go_upto_region 19 with (go_at_call 55; (with_reducible refine HE4.out.mono ?_); rintro e wd ⟨rfl, hRd, hXd, hzd⟩; have HZd := Lib.hid hzd; clear hzd)
    have hND := nx_end l1 sh
    have HPN := Lib.hid (fin_none HI.out.par HEX.out)
    have HPS := Lib.hid (fun (hs : sh = false) => fin_some (show S.headL t = S.restL false m l1 (rs.map (·.l)) from hs ▸ HI.out.par))
    have HDH := Lib.hid (dec_head (by have := HN.out; omega) HH.out)
    have hXd0 := hXd
    have HXd := Lib.hid (HX17.out.join hXd (by simp))
    have HXRd := Lib.hid (HXR17.out.join' hXd0)
    have HBC := Lib.hid (HB17.out.exc hXd0 (by simp))
    have HRW := Lib.hid (show Blk wd w.heap.size 39 #[.slice none 0 0, .int .i64 0, .int .i64 0, .int .i64 0] from HR6.out.exc HXd.out (by simp; omega))
    have HBd := Lib.hid (HB6.out.trans (HXd.out.below (by have := HB6.out.size; omega) (by simp; omega)))
    obtain ⟨p4, D4, _, _, hbg, _⟩ := hRd
    have x0 := hbg.cell 0
    have x1 := hbg.cell 1
    have xl := hbg.lt
    simp only [List.getElem?_toArray, List.getElem?_cons_zero, List.getElem?_cons_succ] at x0 x1
    generalize S.nxL 4 (S.nxL 8 (S.nxL 2 (S.nxL 2 l1))) = L4 at *
    generalize S.nxS 4 (S.nxL 8 (S.nxL 2 (S.nxL 2 l1))) (S.nxS 8 (S.nxL 2 (S.nxL 2 l1)) (S.nxS 2 (S.nxL 2 l1) (S.nxS 2 l1 sh))) = S4 at *
    have HND := Lib.hid hND
    clear hND hbg hXd hXd0 HE4 HX17
    by_cases hfin : S4 = false ∧ L4.length = 0
    ·obtain ⟨hsh, h16⟩ := HND.out.1 hfin
     have hm0 : m = 0 := by
      rcases HEX.out with h | h
      ·exact h
      ·rw [hsh] at h; cases h
     have hps := HPS.out hsh hm0 h16
     have ht16 := (p_sum hps).1
     have hn4 : 18 ≤ n := by have := HLT.out; omega
     have hlen := HN.out
     have HDV := Lib.hid (show S.dec l = if S.nxV 4 false (S.nxL 8 (S.nxL 2 (S.nxL 2 l1))) = ((S.sumB 7 (l.take (n - 4)) : Nat) : Int) then (if S.formed (Cl.mk (rs.map (·.l)) (S.nxV 2 true l1) (S.nxV 2 true (S.nxL 2 l1)) (S.nxV 8 true (S.nxL 2 (S.nxL 2 l1)))) then (Cl.mk (rs.map (·.l)) (S.nxV 2 true l1) (S.nxV 2 true (S.nxL 2 l1)) (S.nxV 8 true (S.nxL 2 (S.nxL 2 l1))), 0) else (S.noCl, 1)) else (S.noCl, 18) from by rw [HDH.out, ← HT.out, hps, hlen])
     rw [hfin.1] at x1
     rw [hfin.2] at x0
     have hcl := HX.out.below (HBd.out.mono hB)
     have hcl4 : Cells wd B (some ⟨b, o, none⟩) ((l.take (n - 4)).map bC) := .inr ⟨b, o, rfl, hbB, fun j v hv => hcl.get (by
      rw [List.map_take, List.getElem?_take] at hv
      split at hv
      ·exact hv
      ·cases hv)⟩
     have HSUM := Lib.hid (sum_any (l.take (n - 4)) (some ⟨b, o, none⟩) (n - 4) c B wd (by rw [List.length_take]; omega) (by omega) (fun x hx => HL.out x (List.mem_of_mem_take hx)) hcl4)
     have e4 : IntKind.i64.wrap ((n : Int) - 4) = ((n - 4 : Nat) : Int) := by rw [show (n : Int) - 4 = ((n - 4 : Nat) : Int) by omega]; exact IntWalk.i64_in _ (by omega)
     have hn4c : ((n - 4 : Nat) : Int) ≤ c := by omega
     clear hps ht16 hlen hcl hcl4 hfin HPN HPS HND HDH hsh h16 hm0
     try clear k1
     generalize S.nxV 4 false (S.nxL 8 (S.nxL 2 (S.nxL 2 l1))) = V4 at *
     generalize S.sumB 7 (l.take (n - 4)) = sm at *
     by_cases hq : V4 = ((sm : Nat) : Int)
     ·have hsk := (HI.out.sks.kept (fun q h1 h2 => HXRd.out.block q h2 (by have := HBS.out; simp; omega))).areas HI.out.len (by have := HI.out.few; omega) (fun r hr => by have := HI.out.fit r hr; omega)
      have HSKA := Lib.hid hsk
      have hfo := formed_any ⟨rs, A1, nA, c1, S.nxV 2 true l1, S.nxV 2 true (S.nxL 2 l1), S.nxV 8 true (S.nxL 2 (S.nxL 2 l1))⟩ wd.heap.size wd (Nat.le_refl _) hsk
      have bq : (V4 == ((sm : Nat) : Int)) = true := by simp [hq]
      have HDF := Lib.hid (HDV.out.trans (if_pos hq))
      unfold ckV at hfo
      dsimp only at hfo
      change Calls _ _ _ _ (fun e w' => e = .returned (.bool (S.formed (Cl.mk (rs.map (·.l)) (S.nxV 2 true l1) (S.nxV 2 true (S.nxL 2 l1)) (S.nxV 8 true (S.nxL 2 (S.nxL 2 l1)))))) ∧ Below wd.heap.size wd w') at hfo
      clear hq HDV hsk
      cases hF : S.formed (Cl.mk (rs.map (·.l)) (S.nxV 2 true l1) (S.nxV 2 true (S.nxL 2 l1)) (S.nxV 8 true (S.nxL 2 (S.nxL 2 l1))))
      ·rw [hF] at hfo
       have HFO := Lib.hid hfo
       have HD1 := Lib.hid (show S.dec l = (S.noCl, 1) from by rw [HDF.out, hF]; rfl)
       clear hfo hF HDF
       go_wp2_with (first | (go_at_call 53; (with_reducible refine HSUM.out.mono ?_); rintro e w' ⟨rfl, rfl⟩) | ((with_reducible refine at_load 39 5 ?_); refine wpList_load_mid rfl 39 (.tmp 5) rfl _ _ rfl _ _ (HBC.out.via belr).range Tryz.underlying39 rfl (by kernel_rfl) ?_) | (go_at_call 48; (with_reducible refine HFO.out.mono ?_); rintro e we ⟨rfl, hbe⟩; have hRW2 := HRW.out.via hbe; have HBe := Lib.hid (ba_via hbe HBd.out); have r0 := hRW2.cell 0; have z0 := hRW2.frozen 0; have r1 := hRW2.cell 1; have z1 := hRW2.frozen 1; have r2 := hRW2.cell 2; have z2 := hRW2.frozen 2; have r3 := hRW2.cell 3; have z3 := hRW2.frozen 3; have rlw := hRW2.lt; simp only [List.getElem?_toArray, List.getElem?_cons_zero, List.getElem?_cons_succ] at r0 r1 r2 r3))
       exact bodyPost_ret (v := .tuple #[.agg #[.slice none 0 0, .int .i64 0, .int .i64 0, .int .i64 0], .int .i64 1]) (by simp [results, Tryz.results21, go_sem, *]) rfl (give_zero rfl HD1.out (by (repeat (refine Below.setCell ?_ (by simp) _)); exact HBe.out))
      ·rw [hF] at hfo
       have HFO := Lib.hid hfo
       have HD1 := Lib.hid (show S.dec l = (Cl.mk (rs.map (·.l)) (S.nxV 2 true l1) (S.nxV 2 true (S.nxL 2 l1)) (S.nxV 8 true (S.nxL 2 (S.nxL 2 l1))), 0) from by rw [HDF.out, hF]; rfl)
       have HSKW := Lib.hid (HI.out.sks.kept (fun q h1 h2 => HXRd.out.block q h2 (by have := HBS.out; simp; omega)))
       clear hfo hF HDF
       go_wp2_with (first | (go_at_call 53; (with_reducible refine HSUM.out.mono ?_); rintro e w' ⟨rfl, rfl⟩) | ((with_reducible refine at_load 39 5 ?_); refine wpList_load_mid rfl 39 (.tmp 5) rfl _ _ rfl _ _ (HBC.out.via belr).range Tryz.underlying39 rfl (by kernel_rfl) ?_) | (go_at_call 48; (with_reducible refine HFO.out.mono ?_); rintro e we ⟨rfl, hbe⟩; have hRW2 := HRW.out.via hbe; have HBe := Lib.hid (ba_via hbe HBd.out); have r0 := hRW2.cell 0; have z0 := hRW2.frozen 0; have r1 := hRW2.cell 1; have z1 := hRW2.frozen 1; have r2 := hRW2.cell 2; have z2 := hRW2.frozen 2; have r3 := hRW2.cell 3; have z3 := hRW2.frozen 3; have rlw := hRW2.lt; simp only [List.getElem?_toArray, List.getElem?_cons_zero, List.getElem?_cons_succ] at r0 r1 r2 r3))
       refine bodyPost_ret (v := .tuple #[.agg #[.slice A1 nA c1, .int .i64 (S.nxV 2 true l1), .int .i64 (S.nxV 2 true (S.nxL 2 l1)), .int .i64 (S.nxV 8 true (S.nxL 2 (S.nxL 2 l1)))], .int .i64 0]) (by simp [results, Tryz.results21, go_sem, *]) rfl ⟨⟨rs, A1, nA, c1, S.nxV 2 true l1, S.nxV 2 true (S.nxL 2 l1), S.nxV 8 true (S.nxL 2 (S.nxL 2 l1))⟩, by rw [HD1.out], by rw [HD1.out]; rfl, ?_, by (repeat (refine Below.setCell ?_ (by simp) _)); exact HBe.out⟩
       refine (((HSKW.out.kept (fun q h1 h2 => hbe.block q h2)).kept (fun q h1 h2 => ?_)).areas HI.out.len (by have := HI.out.few; omega) (fun r hr => by have := HI.out.fit r hr; omega))
       refine Exc.block (M := [w.heap.size]) ?_ q h2 (by have := HBS.out; simp; omega)
       repeat (first | exact exc_set1 _ _ _ _ | refine Exc.join ?_ (exc_set1 _ _ _ _) (by simp))
     ·have bq : (V4 == ((sm : Nat) : Int)) = false := by simp [hq]
      have HD18 := Lib.hid (show S.dec l = (S.noCl, 18) from by rw [HDV.out, if_neg hq])
      have r0 := HRW.out.cell 0
      have z0 := HRW.out.frozen 0
      have r1 := HRW.out.cell 1
      have z1 := HRW.out.frozen 1
      have r2 := HRW.out.cell 2
      have z2 := HRW.out.frozen 2
      have r3 := HRW.out.cell 3
      have z3 := HRW.out.frozen 3
      have rlw := HRW.out.lt
      simp only [List.getElem?_toArray, List.getElem?_cons_zero, List.getElem?_cons_succ] at r0 r1 r2 r3
      clear hq HDV
      go_wp2_with (go_at_call 53; (with_reducible refine HSUM.out.mono ?_); rintro e w' ⟨rfl, rfl⟩)
      exact bodyPost_ret (v := .tuple #[.agg #[.slice none 0 0, .int .i64 0, .int .i64 0, .int .i64 0], .int .i64 18]) (by simp [results, Tryz.results21, go_sem, *]) rfl (give_zero rfl HD18.out (by (repeat (refine Below.setCell ?_ (by simp) _)); exact HBd.out))
    ·have HD7 := Lib.hid (show S.dec l = (S.noCl, 7) from by
      have h1 := HPN.out (fun h => hfin (HND.out.2 h))
      rw [HDH.out, ← HT.out, h1])
     have hc3 : S4 = true ∨ (S4 = false ∧ 0 < L4.length) := by
      cases S4
      ·exact .inr ⟨rfl, by
        rcases Nat.eq_zero_or_pos L4.length with h | h
        ·exact absurd ⟨rfl, h⟩ hfin
        ·exact h⟩
      ·exact .inl rfl
     have r0 := HRW.out.cell 0
     have z0 := HRW.out.frozen 0
     have r1 := HRW.out.cell 1
     have z1 := HRW.out.frozen 1
     have r2 := HRW.out.cell 2
     have z2 := HRW.out.frozen 2
     have r3 := HRW.out.cell 3
     have z3 := HRW.out.frozen 3
     have rlw := HRW.out.lt
     simp only [List.getElem?_toArray, List.getElem?_cons_zero, List.getElem?_cons_succ] at r0 r1 r2 r3
     clear hfin HPN HPS HND HDH
     try clear k1
     rcases hc3 with hs4 | ⟨hs4, hl4⟩
     ·rw [hs4] at x1
      clear hs4
      go_wp2
      exact bodyPost_ret (v := .tuple #[.agg #[.slice none 0 0, .int .i64 0, .int .i64 0, .int .i64 0], .int .i64 7]) (by simp [results, Tryz.results21, go_sem, *]) rfl (give_zero rfl HD7.out (by (repeat (refine Below.setCell ?_ (by simp) _)); exact HBd.out))
     ·rw [hs4] at x1
      have hl4i : (0 : Int) < (L4.length : Int) := by omega
      clear hs4
      go_wp2
      exact bodyPost_ret (v := .tuple #[.agg #[.slice none 0 0, .int .i64 0, .int .i64 0, .int .i64 0], .int .i64 7]) (by simp [results, Tryz.results21, go_sem, *]) rfl (give_zero rfl HD7.out (by (repeat (refine Below.setCell ?_ (by simp) _)); exact HBd.out)))
set_option maxRecDepth 20000 in
set_option maxHeartbeats 2000000 in
theorem decode_two (l : List Nat) (b o B : Nat) (w : World) (hn : l.length = 2) (hx : Cells w B (some ⟨b, o, none⟩) (l.map bC)) (hB : B ≤ w.heap.size) (hh : l[0]? = some 67 ∧ l[1]? = some 83) :
 Calls Tryz.prog 21 #[.slice (some ⟨b, o, none⟩) 2 2] w (GivesDec (S.dec l) w) := by
 have hbB : b < B := by
  obtain ⟨b', o', hA, hb', hxx⟩ := hx.at_ (by simp; omega)
  injection hA with hA
  injection hA with h1 h2
  omega
 have b0 : w.cell? ⟨b, o, none⟩ = some (.int .u8 67) := hx.get (k := 0) (by rw [List.getElem?_map, hh.1]; rfl)
 have b1 : w.cell? ⟨b, o + 1, none⟩ = some (.int .u8 83) := hx.get (k := 1) (by rw [List.getElem?_map, hh.2]; rfl)
 have HD7 := Lib.hid (show S.dec l = (S.noCl, 7) from by
  rw [dec_head (by omega) hh, List.drop_eq_nil_of_le (Nat.le_of_eq hn)]
  rfl)
 have hRB := Blk.new w 39 #[.slice none 0 0, .int .i64 0, .int .i64 0, .int .i64 0]
 have hW1 : Below w.heap.size w (w.alloc (.cells #[.slice none 0 0, .int .i64 0, .int .i64 0, .int .i64 0] 39)) := ba_alloc (Below.refl _ _) _
 replace b0 := (hW1.cell (p := ⟨b, o, none⟩) (show b < w.heap.size by omega)).trans b0
 replace b1 := (hW1.cell (p := ⟨b, o + 1, none⟩) (show b < w.heap.size by omega)).trans b1
 clear hx hn hh
 go_enter Tryz.func21, Tryz.ntmps21
 go_upto_region 1 with fail
 generalize (w.alloc (.cells #[.slice none 0 0, .int .i64 0, .int .i64 0, .int .i64 0] 39)) = W1 at *
 have hbw : b < w.heap.size := by omega
 have hs1 := hRB.lt
 have HRB := Lib.hid hRB
 clear hRB
 go_upto_region 7 with fail
 have hG := Blk.new W1 102 #[.slice (some ⟨b, o, none⟩) 0 0, .bool false]
 have hC5 := Blk.newN (W := W1.alloc (.cells #[.slice (some ⟨b, o, none⟩) 0 0, .bool false] 102)) (n := W1.heap.size + 1) (by simp) 39 #[.slice none 0 0, .int .i64 0, .int .i64 0, .int .i64 0]
 have hG6 := hG.alloc (.cells #[.slice none 0 0, .int .i64 0, .int .i64 0, .int .i64 0] 39)
 have hb16 : Below W1.heap.size W1 ((W1.alloc (.cells #[.slice (some ⟨b, o, none⟩) 0 0, .bool false] 102)).alloc (.cells #[.slice none 0 0, .int .i64 0, .int .i64 0, .int .i64 0] 39)) := ba_alloc (ba_alloc (Below.refl _ _) _) _
 have hsz6 : ((W1.alloc (.cells #[.slice (some ⟨b, o, none⟩) 0 0, .bool false] 102)).alloc (.cells #[.slice none 0 0, .int .i64 0, .int .i64 0, .int .i64 0] 39)).heap.size = W1.heap.size + 2 := by simp
 generalize ((W1.alloc (.cells #[.slice (some ⟨b, o, none⟩) 0 0, .bool false] 102)).alloc (.cells #[.slice none 0 0, .int .i64 0, .int .i64 0, .int .i64 0] 39)) = W6 at *
 obtain ⟨g, hg⟩ : ∃ g, g = W1.heap.size := ⟨_, rfl⟩
 rw [← hg] at hG6 hC5 hsz6 hs1
 rw [← hg]
 have HG0 := Lib.hid hg
 clear hg hG
 have hgb : g ≠ b := by omega
 have hb6 : b < W6.heap.size := by omega
 have hbw6 : Below w.heap.size w W6 := hW1.trans (hb16.mono hW1.size)
 have hR6 : Rd W6 g b [] false := ⟨o, 0, Nat.le_refl _, by omega, hG6, fun j v hv => by simp at hv⟩
 have HC5 := Lib.hid hC5
 have HB6 := Lib.hid hbw6
 have HSZ := Lib.hid hsz6
 have HON := Lib.hid (show Calls Tryz.prog 55 #[.pointer (some ⟨g, 0, none⟩), .int .i64 1, .bool false] W6 (fun e w' => e = .returned (.int .i64 0) ∧ Rd w' g b [] true ∧ Exc [g] W6 w' ∧ w'.heap.size = W6.heap.size) from rd_one g b [] false W6 (fun x hx => by cases hx) hgb hb6 hR6)
 have HR6 := Lib.hid (HRB.out.via hb16)
 clear hG6 hC5 hb16 hW1 hbw6 hR6 hsz6 b0 b1 HRB
 go_upto_region 8 with (go_at_call 55; (with_reducible refine HON.out.mono ?_); rintro e w7 ⟨rfl, hR7, hX7, hz7⟩)
 have HBK := Lib.hid (HC5.out.exc hX7 (by simp))
 have HR7 := Lib.hid hR7
 have HX7 := Lib.hid hX7
 have hb7 : b < w7.heap.size := by omega
 have HZ7 := Lib.hid hz7
 clear hR7 hX7 hz7 HON HC5
 go_wp2
 go_loopw [6] (fun i wr => i = .int .i64 0 ∧ w7 = wr) (fun i _ => 0)
 case atStart => exact ⟨rfl, rfl⟩
 case round =>
  obtain ⟨rfl, rfl⟩ := hrel
  have HE1 := Lib.hid (rd_nx g b 2 2 rfl true [] true w7 (by omega) (fun x hx => by cases hx) hgb hb7 HR7.out)
  go_upto_region 18 with (first | (go_at_call 55; (with_reducible refine HE1.out.mono ?_); rintro e wa ⟨rfl, hRa, hXa, hza⟩; have HZa := Lib.hid hza; have hbba : b < wa.heap.size := (by omega); clear hza; have hEa := rd_nx g b 2 2 rfl true (S.nxL 2 []) (S.nxS 2 [] true) wa (by omega) (nxL_lt (fun x hx => (by cases hx))) hgb hbba hRa; have HE2 := Lib.hid hEa; clear hEa) | (go_at_call 55; (with_reducible refine HE2.out.mono ?_); rintro e wb ⟨rfl, hRb, hXb, hzb⟩; have HZb := Lib.hid hzb; have hbbb : b < wb.heap.size := (by omega); clear hzb; have hEb := rd_nx g b 8 8 rfl true (S.nxL 2 (S.nxL 2 [])) (S.nxS 2 (S.nxL 2 []) (S.nxS 2 [] true)) wb (by omega) (nxL_lt (nxL_lt (fun x hx => (by cases hx)))) hgb hbbb hRb; have HE3 := Lib.hid hEb; clear hEb) | (go_at_call 55; (with_reducible refine HE3.out.mono ?_); rintro e wc ⟨rfl, hRc, hXc, hzc⟩; have HZc := Lib.hid hzc; have hbbc : b < wc.heap.size := (by omega); clear hzc; have hXX := (hXa.join hXb (by simp)).join hXc (by simp); have hbkc := HBK.out.exc hXX (by simp); have d1 := hbkc.cell 1; have d2 := hbkc.cell 2; have d3 := hbkc.cell 3; have f1 := hbkc.frozen 1; have f2 := hbkc.frozen 2; have f3 := hbkc.frozen 3; have dlc := hbkc.lt; simp only [List.getElem?_toArray, List.getElem?_cons_zero, List.getElem?_cons_succ] at d1 d2 d3))
  have hbkc' := Lib.hid hbkc
  have HXX := Lib.hid hXX
  generalize hv1 : S.nxV 2 true [] = v1 at *
  generalize hv2 : S.nxV 2 true (S.nxL 2 []) = v2 at *
  generalize hv3 : S.nxV 8 true (S.nxL 2 (S.nxL 2 [])) = v3 at *
  clear hv1 hv2 hv3
  have hW17 : Exc [g + 1] wc (((wc.setCell ⟨g + 1, 1, none⟩ (.int .i64 v1)).setCell ⟨g + 1, 2, none⟩ (.int .i64 v2)).setCell ⟨g + 1, 3, none⟩ (.int .i64 v3)) := ((exc_set1 _ _ _ _).join (exc_set1 _ _ _ _) (by simp)).join (exc_set1 _ _ _ _) (by simp)
  have hz17 : (((wc.setCell ⟨g + 1, 1, none⟩ (.int .i64 v1)).setCell ⟨g + 1, 2, none⟩ (.int .i64 v2)).setCell ⟨g + 1, 3, none⟩ (.int .i64 v3)).heap.size = wc.heap.size := by simp
  generalize (((wc.setCell ⟨g + 1, 1, none⟩ (.int .i64 v1)).setCell ⟨g + 1, 2, none⟩ (.int .i64 v2)).setCell ⟨g + 1, 3, none⟩ (.int .i64 v3)) = W17 at *
  have HZ17 := Lib.hid hz17
  have hbb17 : b < W17.heap.size := by omega
  have HE4 := Lib.hid (rd_nx g b 4 4 rfl false (S.nxL 8 (S.nxL 2 (S.nxL 2 []))) (S.nxS 8 (S.nxL 2 (S.nxL 2 [])) (S.nxS 2 (S.nxL 2 []) (S.nxS 2 [] true))) W17 (by omega) (nxL_lt (nxL_lt (nxL_lt (fun x hx => (by cases hx))))) hgb hbb17 (hRc.exc hW17 (by simp) (by simp; omega) hbbc))
  have HXR17 := Lib.hid ((HX7.out.join hXX (by simp)).join' hW17)
  clear hz17 hRc hbkc hXX hW17 d1 d2 d3 f1 f2 f3 dlc hRa hRb hXa hXb hXc HE1
  go_upto_region 19 with (go_at_call 55; (with_reducible refine HE4.out.mono ?_); rintro e wd ⟨rfl, hRd, hXd, hzd⟩; have HZd := Lib.hid hzd; clear hzd)
  have HXd := Lib.hid (HXR17.out.join hXd (by simp))
  have HRW := Lib.hid (show Blk wd w.heap.size 39 #[.slice none 0 0, .int .i64 0, .int .i64 0, .int .i64 0] from HR6.out.exc HXd.out (by simp; omega))
  have HBd := Lib.hid (HB6.out.trans (HXd.out.below (by have := HB6.out.size; omega) (by simp; omega)))
  have hs4 : S.nxS 4 (S.nxL 8 (S.nxL 2 (S.nxL 2 []))) (S.nxS 8 (S.nxL 2 (S.nxL 2 [])) (S.nxS 2 (S.nxL 2 []) (S.nxS 2 [] true))) = true := rfl
  rw [hs4] at hRd
  obtain ⟨p4, D4, _, _, hbg, _⟩ := hRd
  have x1 := hbg.cell 1
  have xl := hbg.lt
  have r0 := HRW.out.cell 0
  have z0 := HRW.out.frozen 0
  have r1 := HRW.out.cell 1
  have z1 := HRW.out.frozen 1
  have r2 := HRW.out.cell 2
  have z2 := HRW.out.frozen 2
  have r3 := HRW.out.cell 3
  have z3 := HRW.out.frozen 3
  have rlw := HRW.out.lt
  simp only [List.getElem?_toArray, List.getElem?_cons_zero, List.getElem?_cons_succ] at x1 r0 r1 r2 r3
  generalize S.nxV 4 false (S.nxL 8 (S.nxL 2 (S.nxL 2 []))) = v4 at *
  clear hs4 hbg hXd HE4
  go_wp2
  exact bodyPost_ret (v := .tuple #[.agg #[.slice none 0 0, .int .i64 0, .int .i64 0, .int .i64 0], .int .i64 7]) (by simp [results, Tryz.results21, go_sem, *]) rfl (give_zero rfl HD7.out (by (repeat (refine Below.setCell ?_ (by simp) _)); exact HBd.out))
theorem decode_any (l : List Nat) (A : Option Addr) (n c B : Nat) (w : World) (hn : l.length = n) (hnc : n ≤ c) (hc : c ≤ 9223372036854775807) (hl : ∀ x, x ∈ l → x < 256) (hx : Cells w B A (l.map bC)) (hB : B ≤ w.heap.size) :
 Calls Tryz.prog 21 #[.slice A n c] w (GivesDec (S.dec l) w) := by
 by_cases hbig : 1048576 < n
 ·exact decode_full l A n c w hn (by omega) hbig
 ·by_cases hh : 2 ≤ n ∧ l[0]? = some 67 ∧ l[1]? = some 83
  ·obtain ⟨b, o, rfl, _, _⟩ := hx.at_ (by simp; omega)
   by_cases hc2 : 2 < c
   ·exact decode_yes l b o n c B w hn (by omega) hh.1 hnc hc2 hc hl hx hB hh.2
   ·obtain rfl : c = 2 := by omega
    obtain rfl : n = 2 := by omega
    exact decode_two l b o B w hn hx hB hh.2
  ·exact decode_form l A n c B w hn hbig hx hB hh
end Go.Proofs.YtnmolefblaahmaaGreat
