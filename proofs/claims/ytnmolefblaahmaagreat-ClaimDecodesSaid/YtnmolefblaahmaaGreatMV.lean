/- Contract: laid.Count of a valid detail. Contracts: lap.Valid, lap.Chains, lap.Check without laps. The library's sort and Compact at this program, laid in LayS (tools/lay.sh prints it for each seat). -/
import Derived.Shelf.Sort.Plain
import Derived.Shelf.Slices.CompactI
import Derived.Shelf.Slices.In.SortNone
import Derived.Sort.OwnSortedInts
import Derived.Lib.RowBridge
import Derived.Ground.NamesProg
import Derived.Ground.Names2Prog
import Derived.Test.YtnmolefblaahmaaGreatProg
import Derived.Test.YtnmolefblaahmaaGreatMT
set_option linter.unusedVariables false
set_option linter.unusedSimpArgs false
namespace Go.Proofs.YtnmolefblaahmaaGreat
open Go.RowKit
set_option maxHeartbeats 2000000 in
theorem count_yes (x : Dt) (B : Nat) (w : World) (hB : B ≤ w.heap.size) (hA : DtAt w B x) (h : S.laid (bars x.bs) x.rs = true) :
 Calls Tryz.prog 27 #[.slice x.bA x.bn x.bc, .slice x.rA x.rn x.rc] w fun e w' => e = .returned (.tuple #[.int .i64 (S.mains (bars x.bs) x.rs).length, .int .i64 0]) ∧ Below w.heap.size w w' := by
 have HA := Lib.hid hA
 have HF := Lib.hid (fun (k : Nat) (hk : k < x.rs.length) => run_facts (x := x) (B := B) (w := w) h hk)
 have HL := Lib.hid (fun (W : World) (hw : B ≤ W.heap.size) (hh : BarsAt W B x.bA x.bn x.bs) (hr : RunsAt W B x.rA x.rn x.rs) => h ▸ laid_any x.bs x.rs x.bA x.bn x.bc x.rA x.rn x.rc B W hw hh hr)
 have hrl := hA.runs.len
 have hrm := hA.runs.max
 clear hA h
 generalize hrA : x.rA = rA at *
 have HrA := Lib.hid hrA
 clear hrA
 go_enter Tryz.func27, Tryz.ntmps27
 go_wp2_with (first
  | (go_at_call 61; (with_reducible refine (HL.out _ hB HA.out.bars (HrA.out ▸ HA.out.runs)).mono ?_); rintro e w1 ⟨rfl, hbw1⟩; obtain ⟨hcw1, hfw1⟩ := bcell hbw1))
 go_loopw [15, 6] (fun i s wr => ∃ k : Nat, k ≤ x.rn ∧ i = .int .i64 k ∧ s = .int .i64 (S.mains (bars x.bs) (x.rs.take k)).length ∧ Below w.heap.size w wr) (fun i _ _ => x.rn - (intOf i).toNat)
 case atStart => exact ⟨0, Nat.zero_le _, rfl, by simp [S.mains], hbw1⟩
 case round =>
  obtain ⟨k, hk, rfl, rfl, hbr⟩ := hrel
  by_cases hlt : k < x.rn
  ·have hkx : k < x.rs.length := by omega
   have hki : (k : Int) < x.rn := by omega
   have hs' := (HA.out.at_ hB hbr).runs.cells
   rw [HrA.out] at hs'
   obtain ⟨b, o, hAe, hbB, _⟩ := hs'.at_ (by rw [flat_len rnC 10 rnC_len]; omega)
   subst hAe
   have c0 := hs'.row0 rnC_len hkx rfl
   have c1 := hs'.rowj rnC_len hkx 1 rfl
   have c2 := hs'.rowj rnC_len hkx 2 rfl
   have c3 := hs'.rowj rnC_len hkx 3 rfl
   have c4 := hs'.rowj rnC_len hkx 4 rfl
   have c5 := hs'.rowj rnC_len hkx 5 rfl
   have c6 := hs'.rowj rnC_len hkx 6 rfl
   have c7 := hs'.rowj rnC_len hkx 7 rfl
   have c8 := hs'.rowj rnC_len hkx 8 rfl
   have c9 := hs'.rowj rnC_len hkx 9 rfl
   obtain ⟨k0, br, _, hok, _, _, hle⟩ := HF.out k hkx
   have hcnt := hok.count
   have hsn := mains_snoc (bars x.bs) x.rs hkx hok.at_
   have hln : ((S.mains (bars x.bs) (x.rs.take (k + 1))).length : Int) = (S.mains (bars x.bs) (x.rs.take k)).length + x.rs[k].count := by
    rw [hsn, List.length_append, mainsOf_len]
    omega
   have HLN := Lib.hid hln
   clear hs' hok hsn hln
   generalize (S.mains (bars x.bs) (x.rs.take k)).length = sm at *
   generalize x.rs[k] = r at *
   have e1 : IntKind.i64.wrap ((sm : Int) + r.count) = sm + r.count := IntWalk.i64_in _ (by omega)
   go_wp2
   go_roundw
   case rel => exact ⟨k + 1, by omega, by go_num, by rw [HLN.out], bel⟩
   case measure => simp [intOf]; omega
  ·have hke : k = x.rn := by omega
   have HTK := Lib.hid (show x.rs.take k = x.rs from List.take_of_length_le (by omega))
   rw [HTK.out]
   go_wp2
   go_ret2
   exact ⟨rfl, hbr⟩
set_option maxRecDepth 20000 in
set_option maxHeartbeats 2000000 in
theorem lvalid_any (x : Dt) (t : Bool) (B : Nat) (n : Nat) (xs : List Value) (w : World) (hB : B ≤ w.heap.size)
 (hL : ∀ W, Below w.heap.size w W → Calls Tryz.prog 73 #[dtV x] W (GivesLook t n xs W)) :
 Calls Tryz.prog 41 #[dtV x] w fun e w' => e = .returned (.bool t) ∧ Below w.heap.size w w' := by
 have HL := Lib.hid hL
 clear hL
 unfold dtV at HL
 unfold dtV
 have hDB := (Blk.new w 34 #[.string x.m.name, .slice x.mA x.mn x.mc, .slice x.hA x.hn x.hc, .int .i64 x.m.cover, .int .i64 x.m.aggr, .int .i64 x.m.poker, .slice x.bA x.bn x.bc, .slice x.rA x.rn x.rc, .slice x.jA x.jn x.jc, .slice x.dA x.dn x.dc, .int .i64 x.rule.num, .int .i64 x.rule.den, .int .i64 x.rule.pnum, .int .i64 x.rule.pden, .int .i64 x.rule.bnum, .int .i64 x.rule.bden, .int .i64 x.rule.lnum, .int .i64 x.rule.lden, .int .i64 x.rule.least])
 have hRG := hDB.range
 go_enter Tryz.func41, Tryz.ntmps41
 go_wp2_with (first
  | (refine wpList_load_mid rfl 34 (.tmp 1) rfl _ _ rfl _ _ hRG Tryz.underlying34 rfl (by kernel_rfl) ?_)
  | (go_at_call 73; (with_reducible refine (HL.out _ bel).mono ?_); rintro e w1 ⟨A1, c1', rfl, how1, hbw1⟩))
 go_ret
 exact ⟨rfl, bel⟩
end Go.Proofs.YtnmolefblaahmaaGreat
namespace Go.Proofs
open Go.Shelf
end Go.Proofs
namespace Go.Proofs.YtnmolefblaahmaaGreat
open Go.RowKit Go.Sort
def S.sortI (zs : List Int) : List Int := zs.mergeSort fun x y => decide (x ≤ y)
end Go.Proofs.YtnmolefblaahmaaGreat
