/- Contract: claim.Encode of any claim. (printed by tools/gen_enc.py) Contract: the reference's Encode of a claim that is formed. (printed by tools/gen_renc.py) -/
import Derived.Test.YtnmolefblaahmaaGreatMAF
import Derived.Test.YtnmolefblaahmaaGreatMAG
import Derived.Test.YtnmolefblaahmaaGreatMAD
set_option linter.unusedVariables false
set_option linter.unusedSimpArgs false
namespace Go.Proofs.YtnmolefblaahmaaGreat
open Go.RowKit
set_option maxRecDepth 20000 in
set_option maxHeartbeats 1000000 in
theorem encode_no (x : Ck) (B : Nat) (w : World) (hB : B ≤ w.heap.size) (hx : CkAt w B x) (hf : S.formed x.cl = false) :
 Calls Tryz.prog 18 #[ckV x] w fun e w' => e = .returned (.tuple #[.slice none 0 0, .int .i64 1]) ∧ Below w.heap.size w w' := by
 have HF := Lib.hid (fun W (hw : Below w.heap.size w W) => hf ▸ formed_any x B W (Nat.le_trans hB hw.size) (hx.below (hw.mono hB)))
 clear hx hf
 unfold ckV at HF ⊢
 have hDB := Blk.new w 39 #[.slice x.A x.n x.c, .int .i64 x.first, .int .i64 x.second, .int .i64 x.square]
 have hW1 : Below w.heap.size w (w.alloc (.cells #[.slice x.A x.n x.c, .int .i64 x.first, .int .i64 x.second, .int .i64 x.square] 39)) := ba_alloc (Below.refl _ _) _
 go_enter Tryz.func18, Tryz.ntmps18
 go_upto_region 1 with fail
 generalize (w.alloc (.cells #[.slice x.A x.n x.c, .int .i64 x.first, .int .i64 x.second, .int .i64 x.square] 39)) = W1 at *
 have HDB := Lib.hid hDB
 clear hDB
 go_wp2_with (first | ((with_reducible refine at_load 39 1 ?_); refine wpList_load_mid rfl 39 (.tmp 1) rfl _ _ rfl _ _ (HDB.out.via belr).range Tryz.underlying39 rfl (by kernel_rfl) ?_) | (go_at_call 48; (with_reducible refine (HF.out _ hW1).mono ?_); rintro e w2 ⟨rfl, hbw2⟩))
 go_ret2
 exact ⟨rfl, ba_via hbw2 hW1⟩
def GivesEnc (l : List Nat) (w : World) (e : Ending) (w' : World) : Prop :=
 ∃ (A : Option Addr) (c : Nat), e = .returned (.tuple #[.slice A l.length c, .int .i64 0]) ∧ w'.ownsRow w.heap.size 5 1 (.slice A l.length c) l.length (l.map bC) ∧ Below w.heap.size w w'
theorem give_enc {l : List Nat} {w : World} {e : Ending} {w' : World} {A : Option Addr} {c n : Nat} (hn : l.length = n) (he : e = .returned (.tuple #[.slice A n c, .int .i64 0])) (ho : w'.ownsRow w.heap.size 5 1 (.slice A n c) n (l.map bC)) (hb : Below w.heap.size w w') : GivesEnc l w e w' := by
 subst hn
 exact ⟨A, c, he, ho, hb⟩
theorem encB_lt {c : Cl} (h : S.formed c = true) : ∀ b, b ∈ S.encB c → b < 256 := by
 obtain ⟨h1, h2, _⟩ := formed_in h
 intro b hb
 unfold S.encB at hb
 simp only [List.mem_append, List.mem_cons, List.not_mem_nil, or_false] at hb
 rcases hb with (rfl | rfl | rfl) | hb | hb | hb | hb
 ·decide
 ·decide
 ·omega
 ·unfold S.encL at hb
  obtain ⟨l, hl, hb⟩ := List.mem_flatMap.1 hb
  have hs := (steps_in (List.all_eq_true.1 h2 l hl)).1
  rcases List.mem_cons.1 hb with rfl | hb
  ·omega
  ·unfold S.encS at hb
   obtain ⟨s, _, hb⟩ := List.mem_flatMap.1 hb
   rcases List.mem_append.1 hb with hb | hb
   ·exact be_lt _ _ _ hb
   ·exact be_lt _ _ _ hb
 ·exact be_lt _ _ _ hb
 ·exact be_lt _ _ _ hb
 ·exact be_lt _ _ _ hb
theorem encL_snoc (L : List (List Stp)) (l : List Stp) : S.encL (L ++ [l]) = S.encL L ++ l.length :: S.encS l := by
 unfold S.encL
 rw [List.flatMap_append, List.flatMap_cons, List.flatMap_nil, List.append_nil]
theorem encS_snoc (l : List Stp) (s : Stp) : S.encS (l ++ [s]) = S.encS l ++ (S.be s.fro 4 ++ S.be s.val 6) := by
 unfold S.encS
 rw [List.flatMap_append, List.flatMap_cons, List.flatMap_nil, List.append_nil]
set_option maxRecDepth 20000 in
set_option maxHeartbeats 2500000 in
theorem encode_yes (xL : List Sk) (xA : Option Addr) (xn xc : Nat) (xf xs xq : Int) (B : Nat) (w : World) (hB : B ≤ w.heap.size) (hx : AreasAt w B xA xn xL) (hf : S.formed (Cl.mk (xL.map (·.l)) xf xs xq) = true) :
 Calls Tryz.prog 18 #[.agg #[.slice xA xn xc, .int .i64 xf, .int .i64 xs, .int .i64 xq]] w (GivesEnc (S.enc (Cl.mk (xL.map (·.l)) xf xs xq)) w) := by
 have HX := Lib.hid hx
 have HF := Lib.hid (fun W (hw : Below w.heap.size w W) => hf ▸ formed_any ⟨xL, xA, xn, xc, xf, xs, xq⟩ B W (Nat.le_trans hB hw.size) (hx.below (hw.mono hB)))
 obtain ⟨hl20, hall, hf1, hf2, hf3⟩ := formed_in hf
 have hlen := hx.len
 have hn20 : xn ≤ 20 := by
  have h1 : (xL.map (·.l)).length ≤ 20 := hl20
  rw [List.length_map] at h1
  omega
 have HST := Lib.hid (fun r (hr : r ∈ xL) => steps_in (List.all_eq_true.1 hall r.l (List.mem_map_of_mem hr)))
 have HLN := Lib.hid hlen
 have HFO := Lib.hid hf
 clear hx hf hl20 hall hlen
 unfold ckV at HF
 dsimp only at HF
 have hDB := Blk.new w 39 #[.slice xA xn xc, .int .i64 xf, .int .i64 xs, .int .i64 xq]
 have hW1 : Below w.heap.size w (w.alloc (.cells #[.slice xA xn xc, .int .i64 xf, .int .i64 xs, .int .i64 xq] 39)) := ba_alloc (Below.refl _ _) _
 go_enter Tryz.func18, Tryz.ntmps18
 go_upto_region 1 with fail
 generalize (w.alloc (.cells #[.slice xA xn xc, .int .i64 xf, .int .i64 xs, .int .i64 xq] 39)) = W1 at *
 have HDB := Lib.hid hDB
 clear hDB
 go_upto_region 3 with (first | ((with_reducible refine at_load 39 1 ?_); refine wpList_load_mid rfl 39 (.tmp 1) rfl _ _ rfl _ _ (HDB.out.via belr).range Tryz.underlying39 rfl (by kernel_rfl) ?_) | (go_at_call 48; (with_reducible refine (HF.out _ hW1).mono ?_); rintro e w2 ⟨rfl, hbw2⟩))
 have hw2 : Below w.heap.size w w2 := ba_via hbw2 hW1
 have HD2 := Lib.hid (HDB.out.via hbw2)
 have d0 := HD2.out.cell 0
 have dl := HD2.out.lt
 have hwn2 := HD2.out.lt
 simp only [List.getElem?_toArray, List.getElem?_cons_zero, List.getElem?_cons_succ] at d0
 have hB2 : B ≤ w2.heap.size := Nat.le_trans hB hw2.size
 have hs2 := hw2.size
 have hw2' := Lib.hid hw2
 have HD2' := Lib.hid HD2.out
 clear HDB hbw2 hW1 HF
 have e1 : IntKind.u8.wrap (xn : Int) = (xn : Int) := IntWalk.u8_in _ (by omega)
 go_upto_region 4 with fail
 have hO0 := World.ownsRow_lit w2 (e := 5) (size := 1) (base := w2.heap.size) #[.int .u8 67, .int .u8 83, .int .u8 (xn : Int)] 3 (Nat.le_refl _) (by unfold maxLen; omega) rfl
 have hb3 : Below w2.heap.size w2 (w2.alloc (.cells #[.int .u8 67, .int .u8 83, .int .u8 (xn : Int)] 5)) := ba_alloc (Below.refl _ _) _
 have hD3 := HD2.out.alloc (.cells #[.int .u8 67, .int .u8 83, .int .u8 (xn : Int)] 5)
 generalize (w2.alloc (.cells #[.int .u8 67, .int .u8 83, .int .u8 (xn : Int)] 5)) = W3 at *
 have HO0 := Lib.hid hO0
 have HD3 := Lib.hid hD3
 have HB3 := Lib.hid hb3
 clear hO0 hb3 hD3 HD2 d0 dl
 have d0 := HD3.out.cell 0
 have dl := HD3.out.lt
 simp only [List.getElem?_toArray, List.getElem?_cons_zero, List.getElem?_cons_succ] at d0
 obtain ⟨bs, hbs⟩ : ∃ bs, bs = w2.heap.size := ⟨_, rfl⟩
 have hs3 := HB3.out.size
 have hs2' : bs ≤ w2.heap.size := Nat.le_of_eq hbs
 rw [← hbs] at HO0 HB3 hs2 hB2 hs3
 have HBS := Lib.hid hbs
 have hwbs : w.heap.size < bs := by rw [hbs]; exact hwn2
 clear hbs
 have HA0 := Lib.hid (show ([67, 83, xn] : List Nat) = [67, 83, xn] ++ S.encL ((xL.map (·.l)).take 0) from by rw [List.take_zero]; rfl)
 go_wp2
 go_loopw [4, 20] (fun v i wr => ∃ (q : Nat) (A1 : Option Addr) (c1 : Nat) (P : List Nat) (nP : Nat), q ≤ xn ∧ i = .int .i64 q ∧ v = .slice A1 nP c1 ∧ Hid (P.length = nP ∧ P = [67, 83, xn] ++ S.encL ((xL.map (·.l)).take q) ∧ nP ≤ 3 + 2001 * q) ∧ Hid (wr.ownsRow bs 5 1 (.slice A1 nP c1) nP (P.map bC)) ∧ Hid (Below bs w2 wr)) (fun _ i _ => xn - (intOf i).toNat)
 case atStart => exact ⟨0, _, _, [67, 83, xn], 3, Nat.zero_le _, rfl, rfl, Lib.hid ⟨rfl, HA0.out, by omega⟩, Lib.hid (by rw [← HBS.out]; exact HO0.out), HB3⟩
 case round =>
  obtain ⟨q, A1, c1, P, nP, hq, rfl, rfl, HP, hO, HBR⟩ := hrel
  have hnP : nP ≤ 3 + 2001 * q := HP.out.2.2
  have hsr := HBR.out.size
  have HDr := Lib.hid (show Blk wr w.heap.size 39 #[.slice xA xn xc, .int .i64 xf, .int .i64 xs, .int .i64 xq] from (HBR.out.block _ hwbs).trans HD2'.out)
  have d0 := HDr.out.cell 0
  have dl := HDr.out.lt
  simp only [List.getElem?_toArray, List.getElem?_cons_zero, List.getElem?_cons_succ] at d0
  by_cases hlt : q < xn
  ·have hqx : q < xL.length := by have := HLN.out; omega
   have hqi : (q : Int) < xn := by omega
   have hcl := HX.out.cells.below (hw2'.out.trans (HBR.out.mono (Nat.le_of_lt hwbs)) |>.mono hB)
   obtain ⟨b, o, hAx, hbb, hxx⟩ := hcl.at_ (by simp; omega)
   have c0 := hxx q _ (skV_get hqx)
   clear hxx hcl
   have hst := HST.out _ (List.getElem_mem hqx)
   have hsa := (HX.out.each _ (List.getElem_mem hqx)).below (hw2'.out.mono hB)
   have HSN := Lib.hid (show (xL.map (·.l)).take (q + 1) = (xL.map (·.l)).take q ++ [xL[q].l] from by rw [List.take_add_one, List.getElem?_map, List.getElem?_eq_getElem hqx]; rfl)
   generalize xL[q] = r at *
   obtain ⟨rA, rn, rc, rl⟩ := r
   have hrl : rl.length = rn := hsa.len
   have hr200 : rn ≤ 200 := by have h1 : rl.length ≤ 200 := hst.1; omega
   have HSA := Lib.hid (show StepsAt w2 B rA rn rl from hsa)
   have HSV := Lib.hid (show ∀ s, s ∈ rl → -1048576 ≤ s.fro ∧ s.fro ≤ 1048576 ∧ 0 ≤ s.val ∧ s.val ≤ 1099511627776 from hst.2)
   have HRL := Lib.hid hrl
   have HSN2 := Lib.hid (show (xL.map (·.l)).take (q + 1) = (xL.map (·.l)).take q ++ [rl] from HSN.out)
   replace c0 : wr.cell? ⟨b, o + q, none⟩ = some (.slice rA rn rc) := c0
   clear hsa hst HSN hrl
   have e2 : IntKind.u8.wrap (rn : Int) = (rn : Int) := IntWalk.u8_in _ (by omega)
   subst hAx
   go_upto_region 8 with (at_builtin; refine wpList_append_cells2 rfl (.tmp 24) (.tmp 28) _ rfl elemB bs (.slice A1 nP c1) nP _ rfl (own_kept hO.out (fun g hg => (ba_alloc (Below.refl _ _) _).block g (hO.out.lt g hg).2)) wr.heap.size 1 1 [bC rn] rfl rfl (fun j u hu => (Blk.new wr 5 #[bC rn]).cell j |>.trans (by simpa using hu)) (by simp [Value.oneCell']) (by unfold maxLen; omega) (by omega) (by simp; omega) ?_; intro v2 wE hOE hbE hz1 hz2 hz3; obtain ⟨A2, c2, hv2, _, _, hxx⟩ := own_form hOE (by unfold maxLen; omega); clear hxx; subst hv2)
   have hbE3 : Below bs w2 wE := HBR.out.trans (((ba_alloc (Below.refl _ _) _ : Below wr.heap.size wr _).mono (Nat.le_trans hs2' hsr)).trans hbE)
   have HBE := Lib.hid hbE3
   have HOE := Lib.hid (show wE.ownsRow bs 5 1 (.slice A2 (nP + 1) c2) (nP + 1) ((P ++ [rn]).map bC) from by simpa using hOE)
   have HP2 := Lib.hid (show (P ++ [rn]).length = nP + 1 from by rw [List.length_append, HP.out.1]; rfl)
   clear hOE hbE hz1 hz2 hz3 hO hbE3 c0 d0 dl HDr
   go_wp2
   go_loopw [4, 32] (fun v i wi => ∃ (k : Nat) (A3 : Option Addr) (c3 : Nat) (Q : List Nat) (nQ : Nat), k ≤ rn ∧ i = .int .i64 k ∧ v = .slice A3 nQ c3 ∧ Hid (Q.length = nQ ∧ Q = P ++ rn :: S.encS (rl.take k) ∧ nQ ≤ nP + 1 + 10 * k) ∧ Hid (wi.ownsRow bs 5 1 (.slice A3 nQ c3) nQ (Q.map bC)) ∧ Hid (Below bs w2 wi)) (fun _ i _ => rn - (intOf i).toNat)
   case atStart => exact ⟨0, _, _, P ++ [rn], nP + 1, Nat.zero_le _, rfl, rfl, Lib.hid ⟨HP2.out, by rw [List.take_zero]; rfl, by omega⟩, HOE, HBE⟩
   case round =>
    obtain ⟨k, A3, c3, Q, nQ, hk, rfl, rfl, HQ, hOQ, HBI⟩ := hrel
    have hnQ : nQ ≤ nP + 1 + 10 * k := HQ.out.2.2
    have hsi := HBI.out.size
    by_cases hlk : k < rn
    ·have hkx : k < rl.length := by have := HRL.out; omega
     have hki : (k : Int) < rn := by omega
     have hcs := HSA.out.cells.below (HBI.out.mono hB2)
     obtain ⟨b7, o7, rfl, hb7, hxx⟩ := hcs.at_ (by rw [flat_len stC 2 stC_len]; omega)
     clear hxx
     have k0 := hcs.row0 stC_len hkx rfl
     have k1 := hcs.rowj stC_len hkx 1 rfl
     have hsv := HSV.out _ (List.getElem_mem hkx)
     have HTK := Lib.hid (show S.encS (rl.take (k + 1)) = S.encS (rl.take k) ++ (S.be rl[k].fro 4 ++ S.be rl[k].val 6) from by rw [List.take_add_one, List.getElem?_eq_getElem hkx]; exact encS_snoc _ _)
     clear hcs
     generalize rl[k] = s at *
     go_upto_region 11 with fail
     have hSB := Blk.new wr 69 #[.int .i64 s.fro, .int .i64 s.val]
     have hbS : Below wr.heap.size wr (wr.alloc (.cells #[.int .i64 s.fro, .int .i64 s.val] 69)) := ba_alloc (Below.refl _ _) _
     generalize (wr.alloc (.cells #[.int .i64 s.fro, .int .i64 s.val] 69)) = W7 at *
     have hO7 := own_kept hOQ.out (fun g hg => hbS.block g (hOQ.out.lt g hg).2)
     obtain ⟨g7, hg7⟩ : ∃ g7, g7 = wr.heap.size := ⟨_, rfl⟩
     have hne : (Value.slice A3 nQ c3).ownBlock ≠ some g7 := fun e => by have := (hOQ.out.lt g7 e).2; omega
     have HB7 := Lib.hid (HBI.out.trans (hbS.mono (Nat.le_trans hs2' hsi)))
     rw [← hg7] at hSB
     rw [← hg7]
     have hs7 : bs ≤ W7.heap.size := Nat.le_trans hs2' HB7.out.size
     clear hg7 hbS k0 k1 hb7 hOQ
     have hdr : Below W7.heap.size W7 W7.drew := Below.drew (Below.refl _ _)
     have hCd : Blk W7.drew g7 69 #[.int .i64 s.fro, .int .i64 s.val] := hSB.via hdr
     have hOd := own_kept hO7 (fun g hg => hdr.block g (hO7.lt g hg).2)
     have HBd := Lib.hid (HB7.out.trans (hdr.mono hs7))
     have hsd : bs ≤ W7.drew.heap.size := Nat.le_trans hs7 hdr.size
     obtain ⟨C, hCC⟩ : ∃ C : World → Prop, ∀ W, C W ↔ Blk W g7 69 #[.int .i64 s.fro, .int .i64 s.val] := ⟨_, fun _ => Iff.rfl⟩
     have hC0 : ∀ W, C W → W.cell? ⟨g7, 0, none⟩ = some (.int .i64 s.fro) := fun W hW => ((hCC W).1 hW).cell 0
     have hC1 : ∀ W, C W → W.cell? ⟨g7, 1, none⟩ = some (.int .i64 s.val) := fun W hW => ((hCC W).1 hW).cell 1
     have HCC := Lib.hid hCC
     clear hCC
     refine wp_region_mixC C 0 [3, 2] (by kernel_rfl) (by kernel_rfl) (of_decide_eq_true (by kernel_rfl)) ((HCC.out _).2 hCd) ?_
     have HCD := Lib.hid hCd
     have HOD := Lib.hid hOd
     clear hCd hOd hSB hO7 hdr HB7 hs7
     generalize W7.drew = wd at *
     have HP4 := Lib.hid (show Calls Tryz.prog 52 #[.slice A3 nQ c3, .int .i64 s.fro, .int .i64 4] wd (fun e w' => ∃ (A' : Option Addr) (c' : Nat), e = .returned (.slice A' (nQ + 4) c') ∧ w'.ownsRow bs 5 1 (.slice A' (nQ + 4) c') (nQ + 4) ((Q ++ S.be s.fro 4).map bC) ∧ Below bs wd w' ∧ Grows wd w' (.slice A3 nQ c3) (.slice A' (nQ + 4) c')) from put_any s.fro 4 bs A3 nQ c3 Q wd (by omega) (by omega) (by omega) hsd HOD.out)
     try simp only [wpSegs, List.take_succ_cons, List.take_zero, List.drop_succ_cons, List.drop_zero, List.take_nil, List.drop_nil]
     refine quietC (by rfl) (.slice A3 nQ c3) (fun W hW => by simp [execOp, go_sem]) ?_
     intro aQ hQ; simp only [go_sem, List.setIfInBounds_toArray, List.set_cons_succ, List.set_cons_zero] at hQ; subst hQ
     refine quietC (by rfl) (.pointer (some ⟨g7, 0, none⟩)) (fun W hW => by simp [execOp, go_sem]) ?_
     intro aQ hQ; simp only [go_sem, List.setIfInBounds_toArray, List.set_cons_succ, List.set_cons_zero] at hQ; subst hQ
     refine quietC (by rfl) (.int .i64 s.fro) (fun W hW => by have e := hC0 W hW; simp [execOp, go_sem, e]) ?_
     intro aQ hQ; simp only [go_sem, List.setIfInBounds_toArray, List.set_cons_succ, List.set_cons_zero] at hQ; subst hQ
     refine wpQuiet_nil ?_
     show wpList _ _ _ _ _ _
     go_wp2_with (go_at_call 52; (with_reducible refine HP4.out.mono ?_); rintro e wp ⟨A4, c4, rfl, hO4, hb4, hg4⟩)
     have hC4 := hg4.blk HCD.out hne
     refine seg_next ((HCC.out _).2 hC4) ?_
     have hne4 : (Value.slice A4 (nQ + 4) c4).ownBlock ≠ some g7 := fun e => by
      rcases hg4.2.2 g7 e with h | h
      ·exact hne h
      ·have := HCD.out.lt
       omega
     have hs4 := hb4.size
     have HP6 := Lib.hid (show Calls Tryz.prog 52 #[.slice A4 (nQ + 4) c4, .int .i64 s.val, .int .i64 6] wp (fun e w' => ∃ (A' : Option Addr) (c' : Nat), e = .returned (.slice A' (nQ + 4 + 6) c') ∧ w'.ownsRow bs 5 1 (.slice A' (nQ + 4 + 6) c') (nQ + 4 + 6) (((Q ++ S.be s.fro 4) ++ S.be s.val 6).map bC) ∧ Below bs wp w' ∧ Grows wp w' (.slice A4 (nQ + 4) c4) (.slice A' (nQ + 4 + 6) c')) from put_any s.val 6 bs A4 (nQ + 4) c4 (Q ++ S.be s.fro 4) wp (by omega) (by omega) (by omega) (by omega) hO4)
     have HB4 := Lib.hid (HBd.out.trans hb4)
     have HC4 := Lib.hid hC4
     clear hO4 hb4 hg4 hC4 HP4 HCD HOD
     try simp only [wpSegs, List.take_succ_cons, List.take_zero, List.drop_succ_cons, List.drop_zero, List.take_nil, List.drop_nil]
     refine quietC (by rfl) (.pointer (some ⟨g7, 1, none⟩)) (fun W hW => by simp [execOp, go_sem]) ?_
     intro aQ hQ; simp only [go_sem, List.setIfInBounds_toArray, List.set_cons_succ, List.set_cons_zero] at hQ; subst hQ
     refine quietC (by rfl) (.int .i64 s.val) (fun W hW => by have e := hC1 W hW; simp [execOp, go_sem, e]) ?_
     intro aQ hQ; simp only [go_sem, List.setIfInBounds_toArray, List.set_cons_succ, List.set_cons_zero] at hQ; subst hQ
     refine wpQuiet_nil ?_
     show wpList _ _ _ _ _ _
     go_wp2_with (go_at_call 52; (with_reducible refine HP6.out.mono ?_); rintro e wq ⟨A5, c5, rfl, hO5, hb5, hg5⟩)
     have hC5 := hg5.blk HC4.out hne4
     refine seg_next ((HCC.out _).2 hC5) ?_
     try simp only [wpSegs, List.take_succ_cons, List.take_zero, List.drop_succ_cons, List.drop_zero, List.take_nil, List.drop_nil]
     refine wpQuiet_nil ?_
     show wpList _ _ _ _ _ _
     clear hC0 hC1 HCC HC4 hC5
     go_wp2
     go_roundw
     case rel =>
      refine ⟨k + 1, A5, c5, Q ++ S.be s.fro 4 ++ S.be s.val 6, nQ + 4 + 6, by omega, by go_num, rfl, Lib.hid ⟨?_, ?_, by omega⟩, Lib.hid hO5, Lib.hid (HB4.out.trans hb5)⟩
      ·rw [List.length_append, List.length_append, be_len, be_len, HQ.out.1]
      ·rw [HTK.out, HQ.out.2.1]
       simp only [List.append_assoc, List.cons_append]
     case measure => simp [intOf]; omega
    ·have hkn : k = rn := by omega
     have hki : ¬ ((k : Int) < rn) := by omega
     subst hkn
     go_wp2
     go_roundw
     case rel =>
      refine ⟨q + 1, A3, c3, Q, nQ, by omega, by go_num, rfl, Lib.hid ⟨HQ.out.1, ?_, by omega⟩, hOQ, HBI⟩
      have h1 : rl.take k = rl := List.take_of_length_le (Nat.le_of_eq HRL.out)
      rw [HQ.out.2.1, h1, HSN2.out, encL_snoc, HRL.out, HP.out.2.1]
      simp only [List.append_assoc]
     case measure => simp [intOf]; omega
  ·have hqn : q = xn := by omega
   have hqi : ¬ ((q : Int) < xn) := by omega
   clear d0 dl
   have hP40 : nP ≤ 40100 := by omega
   have HPB := Lib.hid (show P ++ S.be xf 2 ++ S.be xs 2 ++ S.be xq 8 = S.encB (Cl.mk (xL.map (·.l)) xf xs xq) from by
    rw [HP.out.2.1, hqn, List.take_of_length_le (by rw [List.length_map]; exact Nat.le_of_eq HLN.out)]
    unfold S.encB
    simp only [List.length_map, HLN.out, List.append_assoc])
   have hf1' : -1 ≤ xf ∧ xf < 2000 := hf1
   have hf2' : -1 ≤ xs ∧ xs < 2000 := hf2
   have hf3' : -1 ≤ xq ∧ xq ≤ 1125899906842624 := hf3
   have hs7 : bs ≤ wr.heap.size := Nat.le_trans hs2' hsr
   go_upto_region 14 with fail
   have hdr : Below wr.heap.size wr wr.drew := Below.drew (Below.refl _ _)
   have hCd : Blk wr.drew w.heap.size 39 #[.slice xA xn xc, .int .i64 xf, .int .i64 xs, .int .i64 xq] := HDr.out.via hdr
   have hOd := own_kept hO.out (fun g hg => hdr.block g (hO.out.lt g hg).2)
   have HBd := Lib.hid (HBR.out.trans (hdr.mono hs7))
   have hsd : bs ≤ wr.drew.heap.size := Nat.le_trans hs7 hdr.size
   obtain ⟨C, hCC⟩ : ∃ C : World → Prop, ∀ W, C W ↔ Blk W w.heap.size 39 #[.slice xA xn xc, .int .i64 xf, .int .i64 xs, .int .i64 xq] := ⟨_, fun _ => Iff.rfl⟩
   have hC1 : ∀ W, C W → W.cell? ⟨w.heap.size, 1, none⟩ = some (.int .i64 xf) := fun W hW => ((hCC W).1 hW).cell 1
   have hC2 : ∀ W, C W → W.cell? ⟨w.heap.size, 2, none⟩ = some (.int .i64 xs) := fun W hW => ((hCC W).1 hW).cell 2
   have hC3 : ∀ W, C W → W.cell? ⟨w.heap.size, 3, none⟩ = some (.int .i64 xq) := fun W hW => ((hCC W).1 hW).cell 3
   have HCC := Lib.hid hCC
   clear hCC
   refine wp_region_mixC C 0 [3, 2, 2] (by kernel_rfl) (by kernel_rfl) (of_decide_eq_true (by kernel_rfl)) ((HCC.out _).2 hCd) ?_
   have HCD := Lib.hid hCd
   have HOD := Lib.hid hOd
   clear hCd hOd hdr hs7 HDr hO
   generalize wr.drew = wd at *
   have HPA := Lib.hid (show Calls Tryz.prog 52 #[.slice A1 nP c1, .int .i64 xf, .int .i64 2] wd (fun e w' => ∃ (A' : Option Addr) (c' : Nat), e = .returned (.slice A' (nP + 2) c') ∧ w'.ownsRow bs 5 1 (.slice A' (nP + 2) c') (nP + 2) ((P ++ S.be xf 2).map bC) ∧ Below bs wd w' ∧ Grows wd w' (.slice A1 nP c1) (.slice A' (nP + 2) c')) from put_any xf 2 bs A1 nP c1 P wd (by omega) (by omega) (by omega) hsd HOD.out)
   try simp only [wpSegs, List.take_succ_cons, List.take_zero, List.drop_succ_cons, List.drop_zero, List.take_nil, List.drop_nil]
   refine quietC (by rfl) (.slice A1 nP c1) (fun W hW => by simp [execOp, go_sem]) ?_
   intro aQ hQ; simp only [go_sem, List.setIfInBounds_toArray, List.set_cons_succ, List.set_cons_zero] at hQ; subst hQ
   refine quietC (by rfl) (.pointer (some ⟨w.heap.size, 1, none⟩)) (fun W hW => by simp [execOp, go_sem]) ?_
   intro aQ hQ; simp only [go_sem, List.setIfInBounds_toArray, List.set_cons_succ, List.set_cons_zero] at hQ; subst hQ
   refine quietC (by rfl) (.int .i64 xf) (fun W hW => by have e := hC1 W hW; simp [execOp, go_sem, e]) ?_
   intro aQ hQ; simp only [go_sem, List.setIfInBounds_toArray, List.set_cons_succ, List.set_cons_zero] at hQ; subst hQ
   refine wpQuiet_nil ?_
   show wpList _ _ _ _ _ _
   go_wp2_with (go_at_call 52; (with_reducible refine HPA.out.mono ?_); rintro e wp ⟨A4, c4, rfl, hO4, hb4, hg4⟩)
   have hC4 : Blk wp w.heap.size 39 #[.slice xA xn xc, .int .i64 xf, .int .i64 xs, .int .i64 xq] := (hb4.block _ hwbs).trans HCD.out
   refine seg_next ((HCC.out _).2 hC4) ?_
   have hs4 := hb4.size
   have HPB2 := Lib.hid (show Calls Tryz.prog 52 #[.slice A4 (nP + 2) c4, .int .i64 xs, .int .i64 2] wp (fun e w' => ∃ (A' : Option Addr) (c' : Nat), e = .returned (.slice A' (nP + 2 + 2) c') ∧ w'.ownsRow bs 5 1 (.slice A' (nP + 2 + 2) c') (nP + 2 + 2) (((P ++ S.be xf 2) ++ S.be xs 2).map bC) ∧ Below bs wp w' ∧ Grows wp w' (.slice A4 (nP + 2) c4) (.slice A' (nP + 2 + 2) c')) from put_any xs 2 bs A4 (nP + 2) c4 (P ++ S.be xf 2) wp (by omega) (by omega) (by omega) (by omega) hO4)
   have HB4 := Lib.hid (HBd.out.trans hb4)
   have HC4 := Lib.hid hC4
   clear hO4 hb4 hg4 hC4 HPA HCD HOD HBd
   try simp only [wpSegs, List.take_succ_cons, List.take_zero, List.drop_succ_cons, List.drop_zero, List.take_nil, List.drop_nil]
   refine quietC (by rfl) (.pointer (some ⟨w.heap.size, 2, none⟩)) (fun W hW => by simp [execOp, go_sem]) ?_
   intro aQ hQ; simp only [go_sem, List.setIfInBounds_toArray, List.set_cons_succ, List.set_cons_zero] at hQ; subst hQ
   refine quietC (by rfl) (.int .i64 xs) (fun W hW => by have e := hC2 W hW; simp [execOp, go_sem, e]) ?_
   intro aQ hQ; simp only [go_sem, List.setIfInBounds_toArray, List.set_cons_succ, List.set_cons_zero] at hQ; subst hQ
   refine wpQuiet_nil ?_
   show wpList _ _ _ _ _ _
   go_wp2_with (go_at_call 52; (with_reducible refine HPB2.out.mono ?_); rintro e wq ⟨A5, c5, rfl, hO5, hb5, hg5⟩)
   have hC5 : Blk wq w.heap.size 39 #[.slice xA xn xc, .int .i64 xf, .int .i64 xs, .int .i64 xq] := (hb5.block _ hwbs).trans HC4.out
   refine seg_next ((HCC.out _).2 hC5) ?_
   have hs5 := hb5.size
   have HPC := Lib.hid (show Calls Tryz.prog 52 #[.slice A5 (nP + 2 + 2) c5, .int .i64 xq, .int .i64 8] wq (fun e w' => ∃ (A' : Option Addr) (c' : Nat), e = .returned (.slice A' (nP + 12) c') ∧ w'.ownsRow bs 5 1 (.slice A' (nP + 12) c') (nP + 12) (((P ++ S.be xf 2 ++ S.be xs 2) ++ S.be xq 8).map bC) ∧ Below bs wq w' ∧ Grows wq w' (.slice A5 (nP + 2 + 2) c5) (.slice A' (nP + 12) c')) from put_any xq 8 bs A5 (nP + 2 + 2) c5 (P ++ S.be xf 2 ++ S.be xs 2) wq (by omega) (by omega) (by omega) (by omega) hO5)
   have HB5 := Lib.hid (HB4.out.trans hb5)
   have HC5 := Lib.hid hC5
   clear hO5 hb5 hg5 hC5 HPB2 HC4 HB4
   try simp only [wpSegs, List.take_succ_cons, List.take_zero, List.drop_succ_cons, List.drop_zero, List.take_nil, List.drop_nil]
   refine quietC (by rfl) (.pointer (some ⟨w.heap.size, 3, none⟩)) (fun W hW => by simp [execOp, go_sem]) ?_
   intro aQ hQ; simp only [go_sem, List.setIfInBounds_toArray, List.set_cons_succ, List.set_cons_zero] at hQ; subst hQ
   refine quietC (by rfl) (.int .i64 xq) (fun W hW => by have e := hC3 W hW; simp [execOp, go_sem, e]) ?_
   intro aQ hQ; simp only [go_sem, List.setIfInBounds_toArray, List.set_cons_succ, List.set_cons_zero] at hQ; subst hQ
   refine wpQuiet_nil ?_
   show wpList _ _ _ _ _ _
   go_wp2_with (go_at_call 52; (with_reducible refine HPC.out.mono ?_); rintro e wz ⟨A6, c6, rfl, hO6, hb6, hg6⟩)
   have hC6 : Blk wz w.heap.size 39 #[.slice xA xn xc, .int .i64 xf, .int .i64 xs, .int .i64 xq] := (hb6.block _ hwbs).trans HC5.out
   refine seg_next ((HCC.out _).2 hC6) ?_
   try simp only [wpSegs, List.take_succ_cons, List.take_zero, List.drop_succ_cons, List.drop_zero, List.take_nil, List.drop_nil]
   refine wpQuiet_nil ?_
   show wpList _ _ _ _ _ _
   have hs6 := hb6.size
   have HB6 := Lib.hid (HB5.out.trans hb6)
   rw [HPB.out] at hO6
   replace hO6 : wz.ownsRow bs 5 1 (.slice A6 (nP + 12) c6) (nP + 12) ((S.encB (Cl.mk (xL.map (·.l)) xf xs xq)).map bC) := hO6
   have hlE : (S.encB (Cl.mk (xL.map (·.l)) xf xs xq)).length = nP + 12 := by rw [← HPB.out]; simp only [List.length_append, be_len, HP.out.1]
   have hltE : ∀ b, b ∈ S.encB (Cl.mk (xL.map (·.l)) xf xs xq) → b < 256 := fun b hb => encB_lt HFO.out b hb
   have hsumE := sum_lt (S.encB (Cl.mk (xL.map (·.l)) xf xs xq)) 7 (by decide)
   have hc7 := (own_cells hO6 (by unfold maxLen; omega)).1
   have HSUM := Lib.hid (sum_any (S.encB (Cl.mk (xL.map (·.l)) xf xs xq)) A6 (nP + 12) c6 _ wz hlE (by omega) hltE hc7)
   have HPD := Lib.hid (show Calls Tryz.prog 52 #[.slice A6 (nP + 12) c6, .int .i64 (S.sumB 7 (S.encB (Cl.mk (xL.map (·.l)) xf xs xq))), .int .i64 4] wz (fun e w' => ∃ (A' : Option Addr) (c' : Nat), e = .returned (.slice A' (nP + 12 + 4) c') ∧ w'.ownsRow bs 5 1 (.slice A' (nP + 12 + 4) c') (nP + 12 + 4) ((S.encB (Cl.mk (xL.map (·.l)) xf xs xq) ++ S.be (S.sumB 7 (S.encB (Cl.mk (xL.map (·.l)) xf xs xq))) 4).map bC) ∧ Below bs wz w' ∧ Grows wz w' (.slice A6 (nP + 12) c6) (.slice A' (nP + 12 + 4) c')) from put_any (S.sumB 7 (S.encB (Cl.mk (xL.map (·.l)) xf xs xq))) 4 bs A6 (nP + 12) c6 (S.encB (Cl.mk (xL.map (·.l)) xf xs xq)) wz (by omega) (by omega) (by omega) (by omega) hO6)
   have HLE := Lib.hid hlE
   clear hC1 hC2 hC3 HCC HC5 hC6 HPC hO6 hb6 hg6 HB5 hltE hsumE hc7 hlE
   go_wp2_with (first | (go_at_call 53; (with_reducible refine HSUM.out.mono ?_); rintro e wy ⟨rfl, rfl⟩) | (go_at_call 52; (with_reducible refine HPD.out.mono ?_); rintro e wy ⟨A8, c8, rfl, hO8, hb8, hg8⟩))
   go_ret2
   have hlen : (S.enc (Cl.mk (xL.map (·.l)) xf xs xq)).length = nP + 12 + 4 := by rw [enc_len, HLE.out]
   exact give_enc hlen rfl (own_mono hO8 (Nat.le_of_lt hwbs)) (hw2'.out.trans ((HB6.out.trans hb8).mono (Nat.le_of_lt hwbs)))
def GivesEn1 (l : List Nat) (w : World) (e : Ending) (w' : World) : Prop :=
 ∃ (A : Option Addr) (c : Nat), e = .returned (.slice A l.length c) ∧ w'.ownsRow w.heap.size 5 1 (.slice A l.length c) l.length (l.map bC) ∧ Below w.heap.size w w'
theorem give_en1 {l : List Nat} {w : World} {e : Ending} {w' : World} {A : Option Addr} {c n : Nat} (hn : l.length = n) (he : e = .returned (.slice A n c)) (ho : w'.ownsRow w.heap.size 5 1 (.slice A n c) n (l.map bC)) (hb : Below w.heap.size w w') : GivesEn1 l w e w' := by
 subst hn
 exact ⟨A, c, he, ho, hb⟩
set_option maxRecDepth 20000 in
set_option maxHeartbeats 2500000 in
theorem rencode_yes (xL : List Sk) (xA : Option Addr) (xn xc : Nat) (xf xs xq : Int) (B : Nat) (w : World) (hB : B ≤ w.heap.size) (hx : AreasAt w B xA xn xL) (hf : S.formed (Cl.mk (xL.map (·.l)) xf xs xq) = true) :
 Calls Tryz.prog 23 #[.agg #[.slice xA xn xc, .int .i64 xf, .int .i64 xs, .int .i64 xq]] w (GivesEn1 (S.enc (Cl.mk (xL.map (·.l)) xf xs xq)) w) := by
 have HX := Lib.hid hx
 obtain ⟨hl20, hall, hf1, hf2, hf3⟩ := formed_in hf
 have hlen := hx.len
 have hn20 : xn ≤ 20 := by
  have h1 : (xL.map (·.l)).length ≤ 20 := hl20
  rw [List.length_map] at h1
  omega
 have HST := Lib.hid (fun r (hr : r ∈ xL) => steps_in (List.all_eq_true.1 hall r.l (List.mem_map_of_mem hr)))
 have HLN := Lib.hid hlen
 have HFO := Lib.hid hf
 clear hx hf hl20 hall hlen
 have hDB := Blk.new w 39 #[.slice xA xn xc, .int .i64 xf, .int .i64 xs, .int .i64 xq]
 have hw2 : Below w.heap.size w (w.alloc (.cells #[.slice xA xn xc, .int .i64 xf, .int .i64 xs, .int .i64 xq] 39)) := ba_alloc (Below.refl _ _) _
 go_enter Tryz.func23, Tryz.ntmps23
 go_upto_region 1 with fail
 generalize (w.alloc (.cells #[.slice xA xn xc, .int .i64 xf, .int .i64 xs, .int .i64 xq] 39)) = w2 at *
 have HD2 := Lib.hid hDB
 clear hDB
 have d0 := HD2.out.cell 0
 have dl := HD2.out.lt
 have hwn2 := HD2.out.lt
 simp only [List.getElem?_toArray, List.getElem?_cons_zero, List.getElem?_cons_succ] at d0
 have hB2 : B ≤ w2.heap.size := Nat.le_trans hB hw2.size
 have hs2 := hw2.size
 have hw2' := Lib.hid hw2
 have HD2' := Lib.hid HD2.out
 have e1 : IntKind.u8.wrap (xn : Int) = (xn : Int) := IntWalk.u8_in _ (by omega)
 go_upto_region 2 with fail
 have hO0 := World.ownsRow_lit w2 (e := 5) (size := 1) (base := w2.heap.size) #[.int .u8 67, .int .u8 83, .int .u8 (xn : Int)] 3 (Nat.le_refl _) (by unfold maxLen; omega) rfl
 have hb3 : Below w2.heap.size w2 (w2.alloc (.cells #[.int .u8 67, .int .u8 83, .int .u8 (xn : Int)] 5)) := ba_alloc (Below.refl _ _) _
 have hD3 := HD2.out.alloc (.cells #[.int .u8 67, .int .u8 83, .int .u8 (xn : Int)] 5)
 generalize (w2.alloc (.cells #[.int .u8 67, .int .u8 83, .int .u8 (xn : Int)] 5)) = W3 at *
 have HO0 := Lib.hid hO0
 have HD3 := Lib.hid hD3
 have HB3 := Lib.hid hb3
 clear hO0 hb3 hD3 HD2 d0 dl
 have d0 := HD3.out.cell 0
 have dl := HD3.out.lt
 simp only [List.getElem?_toArray, List.getElem?_cons_zero, List.getElem?_cons_succ] at d0
 obtain ⟨bs, hbs⟩ : ∃ bs, bs = w2.heap.size := ⟨_, rfl⟩
 have hs3 := HB3.out.size
 have hs2' : bs ≤ w2.heap.size := Nat.le_of_eq hbs
 rw [← hbs] at HO0 HB3 hs2 hB2 hs3
 have HBS := Lib.hid hbs
 have hwbs : w.heap.size < bs := by rw [hbs]; exact hwn2
 clear hbs
 have HA0 := Lib.hid (show ([67, 83, xn] : List Nat) = [67, 83, xn] ++ S.encL ((xL.map (·.l)).take 0) from by rw [List.take_zero]; rfl)
 go_wp2
 go_loopw [3, 4] (fun v i wr => ∃ (q : Nat) (A1 : Option Addr) (c1 : Nat) (P : List Nat) (nP : Nat), q ≤ xn ∧ i = .int .i64 q ∧ v = .slice A1 nP c1 ∧ Hid (P.length = nP ∧ P = [67, 83, xn] ++ S.encL ((xL.map (·.l)).take q) ∧ nP ≤ 3 + 2001 * q) ∧ Hid (wr.ownsRow bs 5 1 (.slice A1 nP c1) nP (P.map bC)) ∧ Hid (Below bs w2 wr)) (fun _ i _ => xn - (intOf i).toNat)
 case atStart => exact ⟨0, _, _, [67, 83, xn], 3, Nat.zero_le _, rfl, rfl, Lib.hid ⟨rfl, HA0.out, by omega⟩, Lib.hid (by rw [← HBS.out]; exact HO0.out), HB3⟩
 case round =>
  obtain ⟨q, A1, c1, P, nP, hq, rfl, rfl, HP, hO, HBR⟩ := hrel
  have hnP : nP ≤ 3 + 2001 * q := HP.out.2.2
  have hsr := HBR.out.size
  have HDr := Lib.hid (show Blk wr w.heap.size 39 #[.slice xA xn xc, .int .i64 xf, .int .i64 xs, .int .i64 xq] from (HBR.out.block _ hwbs).trans HD2'.out)
  have d0 := HDr.out.cell 0
  have dl := HDr.out.lt
  simp only [List.getElem?_toArray, List.getElem?_cons_zero, List.getElem?_cons_succ] at d0
  by_cases hlt : q < xn
  ·have hqx : q < xL.length := by have := HLN.out; omega
   have hqi : (q : Int) < xn := by omega
   have hcl := HX.out.cells.below (hw2'.out.trans (HBR.out.mono (Nat.le_of_lt hwbs)) |>.mono hB)
   obtain ⟨b, o, hAx, hbb, hxx⟩ := hcl.at_ (by simp; omega)
   have c0 := hxx q _ (skV_get hqx)
   have hGX := skV_get hqx
   clear hxx hcl
   have hst := HST.out _ (List.getElem_mem hqx)
   have hsa := (HX.out.each _ (List.getElem_mem hqx)).below (hw2'.out.mono hB)
   have HSN := Lib.hid (show (xL.map (·.l)).take (q + 1) = (xL.map (·.l)).take q ++ [xL[q].l] from by rw [List.take_add_one, List.getElem?_map, List.getElem?_eq_getElem hqx]; rfl)
   generalize xL[q] = r at *
   obtain ⟨rA, rn, rc, rl⟩ := r
   have hrl : rl.length = rn := hsa.len
   have hr200 : rn ≤ 200 := by have h1 : rl.length ≤ 200 := hst.1; omega
   have HSA := Lib.hid (show StepsAt w2 B rA rn rl from hsa)
   have HSV := Lib.hid (show ∀ s, s ∈ rl → -1048576 ≤ s.fro ∧ s.fro ≤ 1048576 ∧ 0 ≤ s.val ∧ s.val ≤ 1099511627776 from hst.2)
   have HRL := Lib.hid hrl
   have HSN2 := Lib.hid (show (xL.map (·.l)).take (q + 1) = (xL.map (·.l)).take q ++ [rl] from HSN.out)
   replace c0 : wr.cell? ⟨b, o + q, none⟩ = some (.slice rA rn rc) := c0
   replace hGX : (xL.map skV)[q]? = some (.slice rA rn rc) := hGX
   have hCX := Lib.hid (show ∀ W, Below bs w2 W → W.cell? ⟨b, o + q, none⟩ = some (.slice rA rn rc) from fun W hW => by
    have h1 := HX.out.cells.below (hw2'.out.trans (hW.mono (Nat.le_of_lt hwbs)) |>.mono hB)
    rw [hAx] at h1
    exact h1.get hGX)
   clear hsa hst HSN hrl hGX
   have e2 : IntKind.u8.wrap (rn : Int) = (rn : Int) := IntWalk.u8_in _ (by omega)
   subst hAx
   go_upto_region 6 with (at_builtin; refine wpList_append_cells2 rfl (.tmp 18) (.tmp 26) _ rfl elemB bs (.slice A1 nP c1) nP _ rfl (own_kept hO.out (fun g hg => (ba_alloc (Below.refl _ _) _).block g (hO.out.lt g hg).2)) wr.heap.size 1 1 [bC rn] rfl rfl (fun j u hu => (Blk.new wr 5 #[bC rn]).cell j |>.trans (by simpa using hu)) (by simp [Value.oneCell']) (by unfold maxLen; omega) (by omega) (by simp; omega) ?_; intro v2 wE hOE hbE hz1 hz2 hz3; obtain ⟨A2, c2, hv2, _, _, hxx⟩ := own_form hOE (by unfold maxLen; omega); clear hxx; subst hv2)
   have hbE3 : Below bs w2 wE := HBR.out.trans (((ba_alloc (Below.refl _ _) _ : Below wr.heap.size wr _).mono (Nat.le_trans hs2' hsr)).trans hbE)
   have HBE := Lib.hid hbE3
   have HOE := Lib.hid (show wE.ownsRow bs 5 1 (.slice A2 (nP + 1) c2) (nP + 1) ((P ++ [rn]).map bC) from by simpa using hOE)
   have HP2 := Lib.hid (show (P ++ [rn]).length = nP + 1 from by rw [List.length_append, HP.out.1]; rfl)
   clear hOE hbE hz1 hz2 hz3 hO hbE3 c0 d0 dl HDr
   go_wp2
   go_loopw [3, 5] (fun v i wi => ∃ (k : Nat) (A3 : Option Addr) (c3 : Nat) (Q : List Nat) (nQ : Nat), k ≤ rn ∧ i = .int .i64 k ∧ v = .slice A3 nQ c3 ∧ Hid (Q.length = nQ ∧ Q = P ++ rn :: S.encS (rl.take k) ∧ nQ ≤ nP + 1 + 10 * k) ∧ Hid (wi.ownsRow bs 5 1 (.slice A3 nQ c3) nQ (Q.map bC)) ∧ Hid (Below bs w2 wi)) (fun _ i _ => rn - (intOf i).toNat)
   case atStart => exact ⟨0, _, _, P ++ [rn], nP + 1, Nat.zero_le _, rfl, rfl, Lib.hid ⟨HP2.out, by rw [List.take_zero]; rfl, by omega⟩, HOE, HBE⟩
   case round =>
    obtain ⟨k, A3, c3, Q, nQ, hk, rfl, rfl, HQ, hOQ, HBI⟩ := hrel
    have hnQ : nQ ≤ nP + 1 + 10 * k := HQ.out.2.2
    have hsi := HBI.out.size
    have hDi : Blk wr w.heap.size 39 _ := (HBI.out.block _ hwbs).trans HD2'.out
    have d0 := hDi.cell 0
    have dl := hDi.lt
    simp only [List.getElem?_toArray, List.getElem?_cons_zero, List.getElem?_cons_succ] at d0
    have c0 := hCX.out wr HBI.out
    clear hDi
    by_cases hlk : k < rn
    ·have hkx : k < rl.length := by have := HRL.out; omega
     have hki : (k : Int) < rn := by omega
     have hcs := HSA.out.cells.below (HBI.out.mono hB2)
     obtain ⟨b7, o7, rfl, hb7, hxx⟩ := hcs.at_ (by rw [flat_len stC 2 stC_len]; omega)
     clear hxx
     have k0 := hcs.row0 stC_len hkx rfl
     have hsv := HSV.out _ (List.getElem_mem hkx)
     have HK1 := Lib.hid (fun W (hW : Below bs w2 W) => (HSA.out.cells.below (hW.mono hB2)).rowj stC_len hkx 1 rfl)
     have HTK := Lib.hid (show S.encS (rl.take (k + 1)) = S.encS (rl.take k) ++ (S.be rl[k].fro 4 ++ S.be rl[k].val 6) from by rw [List.take_add_one, List.getElem?_eq_getElem hkx]; exact encS_snoc _ _)
     clear hcs
     generalize rl[k] = s at *
     have HP4 := Lib.hid (show Calls Tryz.prog 56 #[.slice A3 nQ c3, .int .i64 s.fro, .int .i64 4] wr (fun e w' => ∃ (A' : Option Addr) (c' : Nat), e = .returned (.slice A' (nQ + 4) c') ∧ w'.ownsRow bs 5 1 (.slice A' (nQ + 4) c') (nQ + 4) ((Q ++ S.be s.fro 4).map bC) ∧ Below bs wr w' ∧ Grows wr w' (.slice A3 nQ c3) (.slice A' (nQ + 4) c')) from number_any s.fro 4 bs A3 nQ c3 Q wr (by omega) (by omega) (by omega) (Nat.le_trans hs2' hsi) hOQ.out)
     clear hOQ
     go_upto_region 10 with (go_at_call 56; (with_reducible refine HP4.out.mono ?_); rintro e wp ⟨A4, c4, rfl, hO4, hb4, hg4⟩)
     have hs4 := hb4.size
     have HB4 := Lib.hid (HBI.out.trans hb4)
     have hDp : Blk wp w.heap.size 39 _ := (HB4.out.block _ hwbs).trans HD2'.out
     clear d0 dl c0 k0 hg4 hb4 HP4
     have d0 := hDp.cell 0
     have dl := hDp.lt
     simp only [List.getElem?_toArray, List.getElem?_cons_zero, List.getElem?_cons_succ] at d0
     have c0 := hCX.out wp HB4.out
     have k1 := HK1.out wp HB4.out
     have HP6 := Lib.hid (show Calls Tryz.prog 56 #[.slice A4 (nQ + 4) c4, .int .i64 s.val, .int .i64 6] wp (fun e w' => ∃ (A' : Option Addr) (c' : Nat), e = .returned (.slice A' (nQ + 4 + 6) c') ∧ w'.ownsRow bs 5 1 (.slice A' (nQ + 4 + 6) c') (nQ + 4 + 6) (((Q ++ S.be s.fro 4) ++ S.be s.val 6).map bC) ∧ Below bs wp w' ∧ Grows wp w' (.slice A4 (nQ + 4) c4) (.slice A' (nQ + 4 + 6) c')) from number_any s.val 6 bs A4 (nQ + 4) c4 (Q ++ S.be s.fro 4) wp (by omega) (by omega) (by omega) (by omega) hO4)
     clear hDp hO4
     go_wp2_with (go_at_call 56; (with_reducible refine HP6.out.mono ?_); rintro e wq ⟨A5, c5, rfl, hO5, hb5, hg5⟩)
     go_roundw
     case rel =>
      refine ⟨k + 1, A5, c5, Q ++ S.be s.fro 4 ++ S.be s.val 6, nQ + 4 + 6, by omega, by go_num, rfl, Lib.hid ⟨?_, ?_, by omega⟩, Lib.hid hO5, Lib.hid (HB4.out.trans hb5)⟩
      ·rw [List.length_append, List.length_append, be_len, be_len, HQ.out.1]
      ·rw [HTK.out, HQ.out.2.1]
       simp only [List.append_assoc, List.cons_append]
     case measure => simp [intOf]; omega
    ·have hkn : k = rn := by omega
     have hki : ¬ ((k : Int) < rn) := by omega
     subst hkn
     go_wp2
     go_roundw
     case rel =>
      refine ⟨q + 1, A3, c3, Q, nQ, by omega, by go_num, rfl, Lib.hid ⟨HQ.out.1, ?_, by omega⟩, hOQ, HBI⟩
      have h1 : rl.take k = rl := List.take_of_length_le (Nat.le_of_eq HRL.out)
      rw [HQ.out.2.1, h1, HSN2.out, encL_snoc, HRL.out, HP.out.2.1]
      simp only [List.append_assoc]
     case measure => simp [intOf]; omega
  ·have hqn : q = xn := by omega
   have hqi : ¬ ((q : Int) < xn) := by omega
   have hP40 : nP ≤ 40100 := by omega
   have HPB := Lib.hid (show P ++ S.be xf 2 ++ S.be xs 2 ++ S.be xq 8 = S.encB (Cl.mk (xL.map (·.l)) xf xs xq) from by
    rw [HP.out.2.1, hqn, List.take_of_length_le (by rw [List.length_map]; exact Nat.le_of_eq HLN.out)]
    unfold S.encB
    simp only [List.length_map, HLN.out, List.append_assoc])
   have hf1' : -1 ≤ xf ∧ xf < 2000 := hf1
   have hf2' : -1 ≤ xs ∧ xs < 2000 := hf2
   have hf3' : -1 ≤ xq ∧ xq ≤ 1125899906842624 := hf3
   have hs7 : bs ≤ wr.heap.size := Nat.le_trans hs2' hsr
   have d1 := HDr.out.cell 1
   simp only [List.getElem?_toArray, List.getElem?_cons_zero, List.getElem?_cons_succ] at d1
   have HPA := Lib.hid (show Calls Tryz.prog 56 #[.slice A1 nP c1, .int .i64 xf, .int .i64 2] wr (fun e w' => ∃ (A' : Option Addr) (c' : Nat), e = .returned (.slice A' (nP + 2) c') ∧ w'.ownsRow bs 5 1 (.slice A' (nP + 2) c') (nP + 2) ((P ++ S.be xf 2).map bC) ∧ Below bs wr w' ∧ Grows wr w' (.slice A1 nP c1) (.slice A' (nP + 2) c')) from number_any xf 2 bs A1 nP c1 P wr (by omega) (by omega) (by omega) hs7 hO.out)
   clear hO
   go_upto_region 12 with (go_at_call 56; (with_reducible refine HPA.out.mono ?_); rintro e wp ⟨A4, c4, rfl, hO4, hb4, hg4⟩)
   have hs4 := hb4.size
   have HB4 := Lib.hid (HBR.out.trans hb4)
   have hDp : Blk wp w.heap.size 39 #[.slice xA xn xc, .int .i64 xf, .int .i64 xs, .int .i64 xq] := (HB4.out.block _ hwbs).trans HD2'.out
   clear d0 d1 dl HDr HPA hb4 hg4
   have d2 := hDp.cell 2
   have dl := hDp.lt
   simp only [List.getElem?_toArray, List.getElem?_cons_zero, List.getElem?_cons_succ] at d2
   have HPB2 := Lib.hid (show Calls Tryz.prog 56 #[.slice A4 (nP + 2) c4, .int .i64 xs, .int .i64 2] wp (fun e w' => ∃ (A' : Option Addr) (c' : Nat), e = .returned (.slice A' (nP + 2 + 2) c') ∧ w'.ownsRow bs 5 1 (.slice A' (nP + 2 + 2) c') (nP + 2 + 2) (((P ++ S.be xf 2) ++ S.be xs 2).map bC) ∧ Below bs wp w' ∧ Grows wp w' (.slice A4 (nP + 2) c4) (.slice A' (nP + 2 + 2) c')) from number_any xs 2 bs A4 (nP + 2) c4 (P ++ S.be xf 2) wp (by omega) (by omega) (by omega) (by omega) hO4)
   clear hO4 hDp
   go_upto_region 13 with (go_at_call 56; (with_reducible refine HPB2.out.mono ?_); rintro e wq ⟨A5, c5, rfl, hO5, hb5, hg5⟩)
   have hs5 := hb5.size
   have HB5 := Lib.hid (HB4.out.trans hb5)
   have hDq : Blk wq w.heap.size 39 #[.slice xA xn xc, .int .i64 xf, .int .i64 xs, .int .i64 xq] := (HB5.out.block _ hwbs).trans HD2'.out
   clear d2 dl HPB2 hb5 hg5 HB4
   have d3 := hDq.cell 3
   have dl := hDq.lt
   simp only [List.getElem?_toArray, List.getElem?_cons_zero, List.getElem?_cons_succ] at d3
   have HPC := Lib.hid (show Calls Tryz.prog 56 #[.slice A5 (nP + 2 + 2) c5, .int .i64 xq, .int .i64 8] wq (fun e w' => ∃ (A' : Option Addr) (c' : Nat), e = .returned (.slice A' (nP + 12) c') ∧ w'.ownsRow bs 5 1 (.slice A' (nP + 12) c') (nP + 12) (((P ++ S.be xf 2 ++ S.be xs 2) ++ S.be xq 8).map bC) ∧ Below bs wq w' ∧ Grows wq w' (.slice A5 (nP + 2 + 2) c5) (.slice A' (nP + 12) c')) from number_any xq 8 bs A5 (nP + 2 + 2) c5 (P ++ S.be xf 2 ++ S.be xs 2) wq (by omega) (by omega) (by omega) (by omega) hO5)
   clear hO5 hDq
   go_upto_region 14 with (go_at_call 56; (with_reducible refine HPC.out.mono ?_); rintro e wz ⟨A6, c6, rfl, hO6, hb6, hg6⟩)
   have hs6 := hb6.size
   have HB6 := Lib.hid (HB5.out.trans hb6)
   rw [HPB.out] at hO6
   replace hO6 : wz.ownsRow bs 5 1 (.slice A6 (nP + 12) c6) (nP + 12) ((S.encB (Cl.mk (xL.map (·.l)) xf xs xq)).map bC) := hO6
   have hlE : (S.encB (Cl.mk (xL.map (·.l)) xf xs xq)).length = nP + 12 := by rw [← HPB.out]; simp only [List.length_append, be_len, HP.out.1]
   have hltE : ∀ b, b ∈ S.encB (Cl.mk (xL.map (·.l)) xf xs xq) → b < 256 := fun b hb => encB_lt HFO.out b hb
   have hsumE := sum_lt (S.encB (Cl.mk (xL.map (·.l)) xf xs xq)) 7 (by decide)
   have hc7 := (own_cells hO6 (by unfold maxLen; omega)).1
   have HSUM := Lib.hid (rsum_any (S.encB (Cl.mk (xL.map (·.l)) xf xs xq)) A6 (nP + 12) c6 _ wz hlE (by omega) hltE hc7)
   have HPD := Lib.hid (show Calls Tryz.prog 56 #[.slice A6 (nP + 12) c6, .int .i64 (S.sumB 7 (S.encB (Cl.mk (xL.map (·.l)) xf xs xq))), .int .i64 4] wz (fun e w' => ∃ (A' : Option Addr) (c' : Nat), e = .returned (.slice A' (nP + 12 + 4) c') ∧ w'.ownsRow bs 5 1 (.slice A' (nP + 12 + 4) c') (nP + 12 + 4) ((S.encB (Cl.mk (xL.map (·.l)) xf xs xq) ++ S.be (S.sumB 7 (S.encB (Cl.mk (xL.map (·.l)) xf xs xq))) 4).map bC) ∧ Below bs wz w' ∧ Grows wz w' (.slice A6 (nP + 12) c6) (.slice A' (nP + 12 + 4) c')) from number_any (S.sumB 7 (S.encB (Cl.mk (xL.map (·.l)) xf xs xq))) 4 bs A6 (nP + 12) c6 (S.encB (Cl.mk (xL.map (·.l)) xf xs xq)) wz (by omega) (by omega) (by omega) (by omega) hO6)
   have HLE := Lib.hid hlE
   clear d3 dl HPC hO6 hb6 hg6 HB5 hltE hsumE hc7 hlE
   go_wp2_with (first | (go_at_call 57; (with_reducible refine HSUM.out.mono ?_); rintro e wy ⟨rfl, rfl⟩) | (go_at_call 56; (with_reducible refine HPD.out.mono ?_); rintro e wy ⟨A8, c8, rfl, hO8, hb8, hg8⟩))
   go_ret
   have hlen : (S.enc (Cl.mk (xL.map (·.l)) xf xs xq)).length = nP + 12 + 4 := by rw [enc_len, HLE.out]
   exact give_en1 hlen rfl (own_mono hO8 (Nat.le_of_lt hwbs)) (hw2'.out.trans ((HB6.out.trans hb8).mono (Nat.le_of_lt hwbs)))
end Go.Proofs.YtnmolefblaahmaaGreat
