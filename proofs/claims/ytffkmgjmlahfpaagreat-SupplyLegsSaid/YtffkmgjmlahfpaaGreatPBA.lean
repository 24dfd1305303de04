/- Contracts of the reference for layer 25, of any detail: Count, Chains. The example of the law of layer 26: stirruplaw26.example. Plain: the example of layer 26 as data: its laid bar, its chain, its su -/
import Derived.Deep.Slices
import Derived.Test.YtffkmgjmlahfpaaGreatPAW
import Derived.Test.YtffkmgjmlahfpaaGreatPAO
import Derived.Test.YtffkmgjmlahfpaaGreatPAZ
import Derived.Test.YtffkmgjmlahfpaaGreatPAV
import Derived.Test.YtffkmgjmlahfpaaGreatPX
import Derived.Test.YtffkmgjmlahfpaaGreatPAQ
import Derived.Test.YtffkmgjmlahfpaaGreatPS
import Derived.Test.YtffkmgjmlahfpaaGreatPJ
import Derived.Test.YtffkmgjmlahfpaaGreatPE
import Derived.Test.YtffkmgjmlahfpaaGreatPR
import Derived.Test.YtffkmgjmlahfpaaGreatPAI
set_option linter.unusedVariables false
set_option linter.unusedSimpArgs false
namespace Go.Proofs.YtffkmgjmlahfpaaGreat
open Go.RowKit
section
variable {x : Dt} {ds : List Dm} {w : World}
theorem good_rcount (h : DtOk w x ds) (hlk : S.look x (S.dems ds) = true) : ∀ W, Below w.heap.size w W → Calls Tryz.prog 42 #[dtV x] W fun e w' => e = .returned (.int .i64 (S.nOf x)) ∧ Below W.heap.size W w' :=
  fun W hw => rcount25_any x w.heap.size W hw.size (h.at_.at_ (Nat.le_refl _) hw) (look_ok hlk).laid
theorem good_rchains (h : DtOk w x ds) (hlk : S.look x (S.dems ds) = true) : ∀ W, Below w.heap.size w W → Calls Tryz.prog 23 #[dtV x] W (GivesChs (S.cOf x) W) := fun W hw => by
  have g := look_ok hlk
  exact rchains_any x (S.nOf x) _ w.heap.size W hw.size (h.at_.at_ (Nat.le_refl _) hw) g.good g.n2000 g.j1000 (fun V hV => good_rcount h hlk V (hw.trans (hV.mono hw.size)))
end
end Go.Proofs.YtffkmgjmlahfpaaGreat
namespace Go.Proofs.YtffkmgjmlahfpaaGreat
open Go.RowKit
set_option maxRecDepth 20000 in
theorem exat_any (x y z : Int) (w : World) : Calls Tryz.prog 136 #[.int .i64 x, .int .i64 y, .int .i64 z] w fun e w' => e = .returned (.agg #[.int .i64 x, .int .i64 y, .int .i64 z]) ∧ Below w.heap.size w w' := by
  go_enter Tryz.func136, Tryz.ntmps136
  go_wp2
  exact bodyPost_ret (v := .agg #[.int .i64 x, .int .i64 y, .int .i64 z]) (by simp [results, Tryz.results136, go_sem, *]) rfl ⟨rfl, bel⟩
abbrev strA : ByteArray := ⟨#[97]⟩
abbrev strM : ByteArray := ⟨#[109]⟩
abbrev strD : ByteArray := ⟨#[100]⟩
abbrev box2 : Array Value := #[.int .i64 0, .int .i64 0, .int .i64 0, .int .i64 1000, .int .i64 200, .int .i64 300]
abbrev barArr2 (g : Nat) : Array Value := #[.string strA, .int .i64 10, .int .i64 1, .int .i64 0, .slice (some ⟨g, 0, none⟩) 1 1]
abbrev runArr2 : Array Value := #[.string strA, .int .i64 1, .int .i64 2, .int .i64 0, .int .i64 50, .int .i64 50, .int .i64 0, .int .i64 0, .int .i64 0, .int .i64 1]
abbrev demArr2 : Array Value := #[.string strD, .int .i64 0, .int .i64 0, .int .i64 0, .int .i64 0, .int .i64 200, .int .i64 100, .slice none 0 0]
abbrev exL2 (gx gb gr gd : Nat) : List Value := [.string strM, .slice (some ⟨gx, 0, none⟩) 1 1, .slice none 0 0, .int .i64 0, .int .i64 16, .int .i64 50, .slice (some ⟨gb, 0, none⟩) 1 1, .slice (some ⟨gr, 0, none⟩) 1 1, .slice none 0 0, .slice (some ⟨gd, 0, none⟩) 1 1,
  .int .i64 40, .int .i64 1, .int .i64 1, .int .i64 1, .int .i64 1, .int .i64 1, .int .i64 1, .int .i64 1, .int .i64 0]
structure ExBlks2 (w : World) (b gx g gb gr gd : Nat) : Prop where
  nx : gx ≠ b
  n0 : g ≠ b
  n1 : gb ≠ b
  n2 : gr ≠ b
  n3 : gd ≠ b
  box : Blk w gx 89 box2
  dims : Blk w g 3 #[.int .i64 1000]
  bar : Blk w gb 158 (barArr2 g)
  run : Blk w gr 183 runArr2
  dem : Blk w gd 103 demArr2
theorem ba_exc {w W W' : World} (h : Below w.heap.size w W) (hX : Exc [w.heap.size] W W') : Below w.heap.size w W' :=
  ⟨hX.os.trans h.os, hX.tape.trans h.tape, hX.output.trans h.output, Nat.le_trans h.size hX.size, fun k hk => (hX.block k (Nat.lt_of_lt_of_le hk h.size) (by simp; omega)).trans (h.block k hk)⟩
set_option maxRecDepth 20000 in
set_option maxHeartbeats 800000 in
theorem example26_any (w : World) : Calls Tryz.prog 80 #[] w fun e w' => ∃ gx g gb gr gd, e = .returned (.agg (exL2 gx gb gr gd).toArray) ∧ ExBlks2 w' w.heap.size gx g gb gr gd ∧ Below w.heap.size w w' := by
  go_enter Tryz.func80, Tryz.ntmps80
  go_upto_region 1 with fail
  have hD0 : Blk (w.alloc (.cells #[.string ⟨#[]⟩, .slice none 0 0, .slice none 0 0, .int .i64 0, .int .i64 0, .int .i64 0, .slice none 0 0, .slice none 0 0, .slice none 0 0, .slice none 0 0, .int .i64 0, .int .i64 0, .int .i64 0, .int .i64 0, .int .i64 0, .int .i64 0, .int .i64 0, .int .i64 0, .int .i64 0] 34)) w.heap.size 34 #[.string ⟨#[]⟩, .slice none 0 0, .slice none 0 0, .int .i64 0, .int .i64 0, .int .i64 0, .slice none 0 0, .slice none 0 0, .slice none 0 0, .slice none 0 0, .int .i64 0, .int .i64 0, .int .i64 0, .int .i64 0, .int .i64 0, .int .i64 0, .int .i64 0, .int .i64 0, .int .i64 0] := Blk.new _ _ _
  have hb3 : Below w.heap.size w (w.alloc (.cells #[.string ⟨#[]⟩, .slice none 0 0, .slice none 0 0, .int .i64 0, .int .i64 0, .int .i64 0, .slice none 0 0, .slice none 0 0, .slice none 0 0, .slice none 0 0, .int .i64 0, .int .i64 0, .int .i64 0, .int .i64 0, .int .i64 0, .int .i64 0, .int .i64 0, .int .i64 0, .int .i64 0] 34)) := ba_alloc (Below.refl _ _) _
  generalize (w.alloc (.cells #[.string ⟨#[]⟩, .slice none 0 0, .slice none 0 0, .int .i64 0, .int .i64 0, .int .i64 0, .slice none 0 0, .slice none 0 0, .slice none 0 0, .slice none 0 0, .int .i64 0, .int .i64 0, .int .i64 0, .int .i64 0, .int .i64 0, .int .i64 0, .int .i64 0, .int .i64 0, .int .i64 0] 34)) = W0 at *
  go_wp2_with (first
    | (go_at_call 136; (with_reducible refine (exat_any 1000 200 300 _).mono ?_); rintro e w1 ⟨rfl, hbw1⟩)
    | (go_at_call 136; (with_reducible refine (exat_any 0 50 50 _).mono ?_); rintro e w2 ⟨rfl, hbw2⟩)
    | (go_at_call 136; (with_reducible refine (exat_any 0 200 100 _).mono ?_); rintro e w3 ⟨rfl, hbw3⟩)
    | (with_reducible refine at_store 34 0 18 ?_
       go_loud (
       have hDz : Blk (w3.alloc (.cells demArr2 103)) w.heap.size 34 #[.string ⟨#[]⟩, .slice none 0 0, .slice none 0 0, .int .i64 0, .int .i64 0, .int .i64 0, .slice none 0 0, .slice none 0 0, .slice none 0 0, .slice none 0 0, .int .i64 0, .int .i64 0, .int .i64 0, .int .i64 0, .int .i64 0, .int .i64 0, .int .i64 0, .int .i64 0, .int .i64 0] := ((((((((hD0.via hbw1).alloc _).alloc _).alloc _).via hbw2).alloc _).via hbw3).alloc _)
       have e1 := hbw1.size
       have hk2 : w1.heap.size + 1 + 1 + 1 ≤ w2.heap.size := by have := hbw2.size; simp at this; omega
       have hk3 : w2.heap.size + 1 ≤ w3.heap.size := by have := hbw3.size; simp at this; omega
       have hgb : w.heap.size < w1.heap.size := (hD0.via hbw1).lt
       have hBox : Blk (w3.alloc (.cells demArr2 103)) w1.heap.size 89 box2 := (((((((Blk.new w1 _ _).alloc _).alloc _).via hbw2).alloc _).via hbw3).alloc _)
       have hDim : Blk (w3.alloc (.cells demArr2 103)) (w1.heap.size + 1) 3 #[.int .i64 1000] := ((((((Blk.newN (n := w1.heap.size + 1) (by simp) _ _).alloc _).via hbw2).alloc _).via hbw3).alloc _)
       have hBar : Blk (w3.alloc (.cells demArr2 103)) (w1.heap.size + 1 + 1) 158 (barArr2 (w1.heap.size + 1)) := (((((Blk.newN (n := w1.heap.size + 1 + 1) (by simp) _ _).via hbw2).alloc _).via hbw3).alloc _)
       have hRun : Blk (w3.alloc (.cells demArr2 103)) w2.heap.size 183 runArr2 := (((Blk.new w2 _ _).via hbw3).alloc _)
       have hDem : Blk (w3.alloc (.cells demArr2 103)) w3.heap.size 103 demArr2 := Blk.new w3 _ _
       have hbel : Below w.heap.size w (w3.alloc (.cells demArr2 103)) := belr
       clear hbw1 hbw2 hbw3 hD0 hb3
       generalize (w3.alloc (.cells demArr2 103)) = WD at *
       have hPut : Blk (WD.setCells w.heap.size 0 (exL2 w1.heap.size (w1.heap.size + 1 + 1) w2.heap.size w3.heap.size).toArray.toList) w.heap.size 34 (exL2 w1.heap.size (w1.heap.size + 1 + 1) w2.heap.size w3.heap.size).toArray := Blk.put0 hDz (exL2 w1.heap.size (w1.heap.size + 1 + 1) w2.heap.size w3.heap.size).toArray rfl
       have hXs : Exc [w.heap.size] WD (WD.setCells w.heap.size 0 (exL2 w1.heap.size (w1.heap.size + 1 + 1) w2.heap.size w3.heap.size).toArray.toList) := exc_setCells _ _ _ _
       have hTh : WD.there w.heap.size 0 (exL2 w1.heap.size (w1.heap.size + 1 + 1) w2.heap.size w3.heap.size).toArray.size := hDz.there (by simp)
       refine wpList_store_mid rfl 34 (.tmp 0) (.tmp 18) rfl w.heap.size 0 (exL2 w1.heap.size (w1.heap.size + 1 + 1) w2.heap.size w3.heap.size).toArray rfl rfl hTh (by kernel_rfl) (all_oneCell_toArray (by simp [Value.oneCell'])) ?_
       generalize (WD.setCells w.heap.size 0 (exL2 w1.heap.size (w1.heap.size + 1 + 1) w2.heap.size w3.heap.size).toArray.toList) = WF at *)))
  have hbF : Below w.heap.size w WF := ba_exc hbel hXs
  refine bodyPost_ret (v := .agg (exL2 w1.heap.size (w1.heap.size + 1 + 1) w2.heap.size w3.heap.size).toArray) ?_ rfl ⟨_, w1.heap.size + 1, _, _, _, rfl, ⟨by omega, by omega, by omega, by omega, by omega, hBox.exc hXs (by simp; omega), hDim.exc hXs (by simp; omega), hBar.exc hXs (by simp; omega), hRun.exc hXs (by simp; omega), hDem.exc hXs (by simp; omega)⟩, hbF⟩
  have hres : (loadVar 34 ⟨w.heap.size, 0, none⟩).run Tryz.prog WF = .ok (.agg (exL2 w1.heap.size (w1.heap.size + 1 + 1) w2.heap.size w3.heap.size).toArray) WF := run_loadVar_mid WF w.heap.size 0 _ _ _ hPut.range Tryz.underlying34 rfl (by kernel_rfl)
  have ha : (asAddr (.pointer (some ⟨w.heap.size, 0, none⟩))).run Tryz.prog WF = .ok ⟨w.heap.size, 0, none⟩ WF := by kernel_rfl
  simp [results, Tryz.results80, Act.put, ha, hres, Result.andThen]
end Go.Proofs.YtffkmgjmlahfpaaGreat
namespace Go.Proofs.YtffkmgjmlahfpaaGreat
open Go.RowKit
theorem Blk.cells {w : World} {g : Nat} {t : TypeId} {cs : List Value} (h : Blk w g t cs.toArray) : Cells w w.heap.size (some ⟨g, 0, none⟩) cs := .inr ⟨g, 0, rfl, h.lt, fun j v hv => by
  rw [Nat.zero_add]
  exact (h.cell j).trans (by simpa using hv)⟩
theorem ex_le1 : 1 ≤ 9223372036854775807 := by decide
theorem ex_le0 : 0 ≤ 9223372036854775807 := by decide
def exBar2 (g : Nat) : BarR := ⟨⟨strA, 10, 1, 0, [1000]⟩, some ⟨g, 0, none⟩, 1, 1⟩
def exDt2 (gx g gb gr gd : Nat) : Dt where
  m := ⟨strM, [⟨⟨0, 0, 0⟩, ⟨1000, 200, 300⟩⟩], [], 0, 16, 50⟩
  mA := some ⟨gx, 0, none⟩
  mn := 1
  mc := 1
  hA := none
  hn := 0
  hc := 0
  bs := [exBar2 g]
  bA := some ⟨gb, 0, none⟩
  bn := 1
  bc := 1
  rs := [⟨strA, 1, 2, ⟨0, 50, 50⟩, ⟨0, 0, 0⟩, 1⟩]
  rA := some ⟨gr, 0, none⟩
  rn := 1
  rc := 1
  js := []
  jA := none
  jn := 0
  jc := 0
  dA := some ⟨gd, 0, none⟩
  dn := 1
  dc := 1
  rule := ⟨40, 1, 1, 1, 1, 1, 1, 1, 0⟩
def exDem : Dm := ⟨strD, ⟨⟨0, 0, 0⟩, ⟨0, 200, 100⟩⟩, [], none, 0, 0⟩
theorem ex2_dtV (gx g gb gr gd : Nat) : dtV (exDt2 gx g gb gr gd) = .agg (exL2 gx gb gr gd).toArray := rfl
theorem ex2_ok {w : World} {b gx g gb gr gd : Nat} (h : ExBlks2 w b gx g gb gr gd) : DtOk w (exDt2 gx g gb gr gd) [exDem] := by
  refine ⟨⟨⟨rfl, ex_le1, rfl, ex_le0, h.box.cells, Cells.nil⟩, ex_le1, ⟨rfl, ex_le1, h.bar.cells, fun r hr => ?_⟩, ⟨rfl, ex_le1, h.run.cells⟩, rfl, ex_le0, Cells.nil⟩, ⟨rfl, ex_le1, h.dem.cells, fun d hd => ?_, fun d hd => ?_⟩, Nat.le_refl _⟩
  · rw [show (exDt2 gx g gb gr gd).bs = [exBar2 g] from rfl, List.mem_singleton] at hr
    subst hr
    exact ⟨rfl, ex_le1, ex_le1, h.dims.cells⟩
  · rw [List.mem_singleton] at hd
    subst hd
    exact ⟨rfl, ex_le0, Cells.nil⟩
  · rw [List.mem_singleton] at hd
    subst hd
    exact ex_le1
theorem ex2_look (gx g gb gr gd : Nat) : S.look (exDt2 gx g gb gr gd) (S.dems [exDem]) = true := by kernel_rfl
theorem ex2_n (gx g gb gr gd : Nat) : S.nOf (exDt2 gx g gb gr gd) = 1 := by kernel_rfl
theorem ex2_c (gx g gb gr gd : Nat) : S.cOf (exDt2 gx g gb gr gd) = [[0]] := by kernel_rfl
def exRod (g : Nat) : Rod := ⟨exBar2 g, [⟨⟨0, 50, 50⟩, ⟨1000, 50, 50⟩⟩], none, 0, 0⟩
theorem ex2_rods (gx g gb gr gd : Nat) : RodsOf (exDt2 gx g gb gr gd) (S.nOf (exDt2 gx g gb gr gd)) [exRod g] := by
  have hla := (look_ok (ex2_look gx g gb gr gd)).laid
  obtain ⟨k, j, k0, r, hL⟩ := lies_of hla (i := 0) (by rw [show (S.mains (bars (exDt2 gx g gb gr gd).bs) (exDt2 gx g gb gr gd).rs).length = 1 from ex2_n gx g gb gr gd]; decide)
  have hk : k = 0 := by have := hL.st.lt; rw [show (exDt2 gx g gb gr gd).rs.length = 1 from rfl] at this; omega
  subst hk
  have hj : j = 0 := by have := hL.st.sum; rw [sumTo_zero] at this; omega
  subst hj
  have hk0 : k0 = 0 := by have := (List.getElem?_eq_some_iff.1 hL.get).1; rw [show (exDt2 gx g gb gr gd).bs.length = 1 from rfl] at this; omega
  subst hk0
  have hr : r = exBar2 g := by have := hL.get; rw [show (exDt2 gx g gb gr gd).bs[0]? = some (exBar2 g) from rfl] at this; injection this with this; exact this.symm
  subst hr
  refine ⟨(ex2_n gx g gb gr gd).symm, fun i hi => ?_⟩
  have hi0 : i = 0 := by simp at hi; exact hi
  subst hi0
  exact ⟨⟨0, 0, 0, hL, by kernel_rfl⟩, by kernel_rfl⟩
def exSch : SCh := ⟨none, 0, [0], 400, 600, true, 7854⟩
theorem ex2_sch (gx g gb gr gd : Nat) : S.schOf (exDt2 gx g gb gr gd) [exRod g] [0] = exSch := by kernel_rfl
theorem ex2_sup (g : Nat) : S.sup [exRod g] exDem.zone exSch = true := by kernel_rfl
theorem ex2_at (gx g gb gr gd : Nat) : S.supplyAt (exDt2 gx g gb gr gd) [exRod g] (S.cOf (exDt2 gx g gb gr gd)) exDem.zone 599 = 7854 := by
  unfold S.supplyAt
  rw [ex2_c, List.map_cons, List.map_nil, ex2_sch]
  kernel_rfl
theorem ex2_sort : S.sortI [400, 600] = [400, 600] := by
  unfold S.sortI
  exact List.mergeSort_of_pairwise (by decide)
theorem ex2_of (gx g gb gr gd : Nat) : S.supplyOf (exDt2 gx g gb gr gd) [exRod g] (S.cOf (exDt2 gx g gb gr gd)) exDem.zone = [⟨400, 7854⟩, ⟨600, 0⟩] := by
  unfold S.supplyOf
  rw [ex2_c, List.map_cons, List.map_nil, ex2_sch, List.filter_cons, if_pos (ex2_sup g), List.filter_nil]
  unfold S.ofL S.places
  rw [show S.ends2 [exSch] = [400, 600] from rfl, ex2_sort]
  kernel_rfl
end Go.Proofs.YtffkmgjmlahfpaaGreat
namespace Go.Proofs.YtffkmgjmlahfpaaGreat
open Go.RowKit
set_option maxHeartbeats 2000000 in
theorem eqSt_yes (l : List Stp) (A : Option Addr) (n c : Nat) (A' : Option Addr) (c' : Nat) (B : Nat) (w : World) (hB : B ≤ w.heap.size) (hA : StepsAt w B A n l) (hA' : StepsAt w B A' n l) :
    Calls Tryz.prog 35 #[.slice A n c, .slice A' n c'] w fun e w' => e = .returned (.bool true) ∧ Below w.heap.size w w' := by
  have HN := Lib.hid hA.len
  have hmx := hA.max
  have hs := hA.cells
  have hs' := hA'.cells
  clear hA hA'
  go_enter Tryz.func35, Tryz.ntmps35
  go_wp2
  go_loopw [13] (fun i wr => ∃ k : Nat, k ≤ n ∧ i = .int .i64 k ∧ Below w.heap.size w wr) (fun i _ => n - (intOf i).toNat)
  case atStart => exact ⟨0, Nat.zero_le _, rfl, Below.refl _ _⟩
  case round =>
    obtain ⟨k, hk, rfl, hbr⟩ := hrel
    by_cases hlt : k < n
    · have hkx : k < l.length := by have := HN.out; omega
      have h1 := hs.below (hbr.mono hB)
      have h2 := hs'.below (hbr.mono hB)
      obtain ⟨b, o, rfl, hbB, hx⟩ := h1.at_ (by rw [flat_len stC 2 stC_len]; omega)
      clear hx
      obtain ⟨b', o', rfl, hbB', hx⟩ := h2.at_ (by rw [flat_len stC 2 stC_len]; omega)
      clear hx
      have c0 := h1.row0 stC_len hkx rfl
      have c1 := h1.rowj stC_len hkx 1 rfl
      have d0 := h2.row0 stC_len hkx rfl
      have d1 := h2.rowj stC_len hkx 1 rfl
      clear h1 h2
      have hbl : b < wr.heap.size := by have := hbr.size; omega
      have hbl' : b' < wr.heap.size := by have := hbr.size; omega
      have hki : (k : Int) < n := by omega
      generalize l[k] = r at *
      go_wp2
      go_quiet (fail)
      go_wp2
      go_roundw
      case rel => exact ⟨k + 1, by omega, by go_num, bel⟩
      case measure => simp [intOf]; omega
    · have hki : ¬ ((k : Int) < n) := by omega
      go_wp2
      go_ret
      exact ⟨rfl, hbr⟩
end Go.Proofs.YtffkmgjmlahfpaaGreat
namespace Go.Proofs.YtffkmgjmlahfpaaGreat
open Go.RowKit
section
variable {gx g gb gr gd b : Nat} {w : World}
theorem ex2_anch (h : ExBlks2 w b gx g gb gr gd) (W : World) (hw : Below w.heap.size w W) : Calls Tryz.prog 40 #[.agg (exL2 gx gb gr gd).toArray, .int .i64 0] W fun e w' => e = .returned (.tuple #[.agg #[.int .i64 400, .int .i64 600], .int .i64 0]) ∧ Below W.heap.size W w' := by
  rw [← ex2_dtV gx g gb gr gd]
  have hc := ex2_c gx g gb gr gd
  have h0 : 0 < (S.cOf (exDt2 gx g gb gr gd)).length := by rw [hc]; decide
  refine (Anch_any (exDt2 gx g gb gr gd) (S.cOf (exDt2 gx g gb gr gd)) (S.nOf (exDt2 gx g gb gr gd)) 0 W (by rw [hc]; decide) h0 (fun V hV => good_chains (ex2_ok h) (ex2_look gx g gb gr gd) V (hw.trans (hV.mono hw.size)))).mono ?_
  rintro e w' ⟨rs, c, rfl, h1, h2, h3, h4⟩
  have hb := sch_bare ⟨h1, h2⟩ (ex2_rods gx g gb gr gd) h3
  rw [show (S.cOf (exDt2 gx g gb gr gd))[0] = [0] by simp [hc], ex2_sch] at hb
  have e1 : c.is = true := congrArg SCh.is hb
  have e2 : c.lo = 400 := congrArg SCh.lo hb
  have e3 : c.hi = 600 := congrArg SCh.hi hb
  rw [e1, e2, e3]
  exact ⟨rfl, h4⟩
theorem ex2_Of (h : ExBlks2 w b gx g gb gr gd) (W : World) (hw : Below w.heap.size w W) : Calls Tryz.prog 31 #[.agg (exL2 gx gb gr gd).toArray, .int .i64 0] W fun e w' => ∃ (A : Option Addr) (c : Nat), e = .returned (.tuple #[.slice A 2 c, .int .i64 0]) ∧
    StepsAt w' w'.heap.size A 2 [⟨400, 7854⟩, ⟨600, 0⟩] ∧ Below W.heap.size W w' := by
  rw [← ex2_dtV gx g gb gr gd]
  refine (good_Of (ex2_ok h) (ex2_look gx g gb gr gd) (by rw [ex2_c]; decide) (k := 0) (d := exDem) rfl (ex2_rods gx g gb gr gd) W hw).mono ?_
  rintro e w' ⟨A, c, rfl, h1, h2⟩
  rw [ex2_of] at h1 ⊢
  exact ⟨A, c, rfl, ⟨rfl, by decide, (own_cells h1 (by unfold maxLen; decide)).1⟩, h2⟩
theorem ex2_At (h : ExBlks2 w b gx g gb gr gd) (W : World) (hw : Below w.heap.size w W) : Calls Tryz.prog 30 #[.agg (exL2 gx gb gr gd).toArray, .int .i64 0, .int .i64 599] W fun e w' => e = .returned (.tuple #[.int .i64 7854, .int .i64 0]) ∧ Below W.heap.size W w' := by
  rw [← ex2_dtV gx g gb gr gd]
  have := good_At (ex2_ok h) (ex2_look gx g gb gr gd) (k := 0) (d := exDem) rfl (p := 599) (by decide) (ex2_rods gx g gb gr gd) W hw
  rw [ex2_at] at this
  exact this
end
set_option maxHeartbeats 2000000 in
theorem awake26_any (w : World) : Calls Tryz.prog 28 #[] w fun e w' => e = .returned (.bool true) ∧ Below w.heap.size w w' := by
  have HEX := Lib.hid (fun w => example26_any w)
  go_enter Tryz.func28, Tryz.ntmps28
  go_upto_region 2 with (first
    | (go_at_call 80; (with_reducible refine (HEX.out _).mono ?_); rintro e w1 ⟨gx1, g1, gb1, gr1, gd1, rfl, hE1, hb1⟩)
    | (go_at_call 40; (with_reducible refine (ex2_anch hE1 _ (Below.refl _ _)).mono ?_); rintro e w2 ⟨rfl, hb2⟩))
  have hS2 := Blk.new w2 45 #[.int .i64 400, .int .i64 600]
  have hW2 : Below w.heap.size w (w2.alloc (.cells #[.int .i64 400, .int .i64 600] 45)) := ba_alloc (ba_via hb2 hb1) _
  have hl2 : w2.heap.size < (w2.alloc (.cells #[.int .i64 400, .int .i64 600] 45)).heap.size := hS2.lt
  generalize (w2.alloc (.cells #[.int .i64 400, .int .i64 600] 45)) = W2 at *
  generalize w2.heap.size = gs at *
  clear hE1 hb1 hb2
  go_upto_region 3 with (first
    | (go_at_call 80; (with_reducible refine (HEX.out _).mono ?_); rintro e w3 ⟨gx3, g3, gb3, gr3, gd3, rfl, hE3, hb3⟩)
    | (go_at_call 31; (with_reducible refine (ex2_Of hE3 _ (Below.refl _ _)).mono ?_); rintro e w4 ⟨A4, c4, rfl, hs4, hb4⟩))
  have hW4 : Below W2.heap.size W2 w4 := ba_via hb4 hb3
  have hS4 := hS2.via hW4
  clear hE3
  go_upto_region 4 with (first
    | (go_at_call 80; (with_reducible refine (HEX.out _).mono ?_); rintro e w5 ⟨gx5, g5, gb5, gr5, gd5, rfl, hE5, hb5⟩)
    | (go_at_call 30; (with_reducible refine (ex2_At hE5 _ (Below.refl _ _)).mono ?_); rintro e w6 ⟨rfl, hb6⟩))
  have hW6 : Below w4.heap.size w4 w6 := ba_via hb6 hb5
  have hS6 := hS4.via hW6
  have hs6 := hs4.below hW6
  have s0 := hS6.cell 0
  have s1 := hS6.cell 1
  have sl := hS6.lt
  simp only [List.getElem?_toArray, List.getElem?_cons_zero, List.getElem?_cons_succ] at s0 s1
  have hL := Blk.new w6 81 #[.int .i64 400, .int .i64 7854, .int .i64 600, .int .i64 0]
  have HEQ := Lib.hid (show Calls Tryz.prog 35 #[.slice A4 2 c4, .slice (some ⟨w6.heap.size, 0, none⟩) 2 2] (w6.alloc (.cells #[.int .i64 400, .int .i64 7854, .int .i64 600, .int .i64 0] 81)) (fun e w' => e = .returned (.bool true) ∧ Below (w6.alloc (.cells #[.int .i64 400, .int .i64 7854, .int .i64 600, .int .i64 0] 81)).heap.size (w6.alloc (.cells #[.int .i64 400, .int .i64 7854, .int .i64 600, .int .i64 0] 81)) w') from
    eqSt_yes [⟨400, 7854⟩, ⟨600, 0⟩] A4 2 c4 (some ⟨w6.heap.size, 0, none⟩) 2 (w6.alloc (.cells #[.int .i64 400, .int .i64 7854, .int .i64 600, .int .i64 0] 81)).heap.size _ (Nat.le_refl _) ⟨rfl, by decide, ((hs6.cells.mono (Nat.le_trans (Nat.le_refl _) (hW6.size))).alloc (Nat.le_refl _) _).mono (by simp)⟩ ⟨rfl, by decide, hL.cells⟩)
  have hbw6 : Below w.heap.size w w6 := ba_via hW6 (ba_via hW4 hW2)
  clear hE5 hS2 hS4 hL hs4 hs6 hb3 hb4 hb5 hb6 hS6
  go_wp2_with (go_at_call 35; (with_reducible refine HEQ.out.mono ?_); rintro e w7 ⟨rfl, hb7⟩)
  go_ret
  exact ⟨rfl, ba_via hb7 (ba_alloc hbw6 _)⟩
end Go.Proofs.YtffkmgjmlahfpaaGreat
namespace Go.Proofs.YtffkmgjmlahfpaaGreat
open Go.RowKit
theorem few_any (x : Dt) (t : Bool) (w : World)
    (hSM : ∀ W, Below w.heap.size w W → Calls Tryz.prog 13 #[dtV x] W fun e w' => e = .returned (.bool t) ∧ Below W.heap.size W w') :
    Calls Tryz.prog 29 #[dtV x] w fun e w' => e = .returned (.bool t) ∧ Below w.heap.size w w' := by
  have HSM := Lib.hid hSM
  clear hSM
  unfold dtV at HSM
  unfold dtV
  have hDB := Blk.new w 34 #[.string x.m.name, .slice x.mA x.mn x.mc, .slice x.hA x.hn x.hc, .int .i64 x.m.cover, .int .i64 x.m.aggr, .int .i64 x.m.poker, .slice x.bA x.bn x.bc, .slice x.rA x.rn x.rc, .slice x.jA x.jn x.jc, .slice x.dA x.dn x.dc, .int .i64 x.rule.num, .int .i64 x.rule.den, .int .i64 x.rule.pnum, .int .i64 x.rule.pden, .int .i64 x.rule.bnum, .int .i64 x.rule.bden, .int .i64 x.rule.lnum, .int .i64 x.rule.lden, .int .i64 x.rule.least]
  have hW1 : Below w.heap.size w (w.alloc (.cells #[.string x.m.name, .slice x.mA x.mn x.mc, .slice x.hA x.hn x.hc, .int .i64 x.m.cover, .int .i64 x.m.aggr, .int .i64 x.m.poker, .slice x.bA x.bn x.bc, .slice x.rA x.rn x.rc, .slice x.jA x.jn x.jc, .slice x.dA x.dn x.dc, .int .i64 x.rule.num, .int .i64 x.rule.den, .int .i64 x.rule.pnum, .int .i64 x.rule.pden, .int .i64 x.rule.bnum, .int .i64 x.rule.bden, .int .i64 x.rule.lnum, .int .i64 x.rule.lden, .int .i64 x.rule.least] 34)) := ba_alloc (Below.refl _ _) _
  go_enter Tryz.func29, Tryz.ntmps29
  go_upto_region 1 with fail
  generalize (w.alloc (.cells #[.string x.m.name, .slice x.mA x.mn x.mc, .slice x.hA x.hn x.hc, .int .i64 x.m.cover, .int .i64 x.m.aggr, .int .i64 x.m.poker, .slice x.bA x.bn x.bc, .slice x.rA x.rn x.rc, .slice x.jA x.jn x.jc, .slice x.dA x.dn x.dc, .int .i64 x.rule.num, .int .i64 x.rule.den, .int .i64 x.rule.pnum, .int .i64 x.rule.pden, .int .i64 x.rule.bnum, .int .i64 x.rule.bden, .int .i64 x.rule.lnum, .int .i64 x.rule.lden, .int .i64 x.rule.least] 34)) = W1 at *
  have HDB := Lib.hid hDB
  clear hDB
  go_wp2_with (first
    | ((with_reducible refine at_load 34 1 ?_); refine wpList_load_mid rfl 34 (.tmp 1) rfl _ _ rfl _ _ (HDB.out.via belr).range Tryz.underlying34 rfl (by kernel_rfl) ?_)
    | (go_at_call 13; (with_reducible refine (HSM.out _ belr).mono ?_); rintro e w2 ⟨rfl, hbw2⟩))
  go_ret
  exact ⟨rfl, bel⟩
end Go.Proofs.YtffkmgjmlahfpaaGreat
namespace Go.Proofs.YtffkmgjmlahfpaaGreat
open Go.ChangeShapes Go.WideShapes Go.ChangeAt Go.RowKit
section
variable {H : Type} {enc : TypeId × Value → H} {w : World} {base : Nat} {sp : Nat → Bool} {hd : Bool}
theorem own : ownKnob Tryz.prog.godebug = none := by kernel_rfl
theorem cellsInt : Tryz.prog.cellsOf 3 = 1 := by kernel_rfl
theorem cellsRule : Tryz.prog.cellsOf 32 = 9 := by kernel_rfl
def I64 (n : Int) : Prop := -9223372036854775808 ≤ n ∧ n ≤ 9223372036854775807
theorem opn_int {fuel : Nat} {cs : List Value} {y : Option (DataW H × List MemPlace)} (h : DataW.trod enc Tryz.prog w base sp hd fuel 3 cs = y) (hy : y.isSome = true) : ∃ n, cs = [.int .i64 n] ∧ I64 n := by
  obtain ⟨z, rfl⟩ := Option.isSome_iff_exists.1 hy
  obtain ⟨n, rfl, _, hw⟩ := DataW.trod_int Tryz.underlying3 h
  exact ⟨n, rfl, bounds_i64 hw⟩
theorem len9 {α : Type} {l : List α} (h : l.length = 9) : ∃ a b c d e f g i j, l = [a, b, c, d, e, f, g, i, j] := by
  match l, h with
  | [a, b, c, d, e, f, g, i, j], _ => exact ⟨a, b, c, d, e, f, g, i, j, rfl⟩
structure RuleI (r : Rule) : Prop where
  num : I64 r.num
  den : I64 r.den
  pnum : I64 r.pnum
  pden : I64 r.pden
  bnum : I64 r.bnum
  bden : I64 r.bden
  lnum : I64 r.lnum
  lden : I64 r.lden
  least : I64 r.least
theorem open_rule {fuel : Nat} {cs : List Value} {x : DataW H × List MemPlace} (h : DataW.trod enc Tryz.prog w base sp hd fuel 32 cs = some x) :
    ∃ r : Rule, cs = (ruleV r).cells.toList ∧ RuleI r := by
  obtain ⟨xs, n, _, _, hl, hxl, hg⟩ := DataW.trod_struct Tryz.underlying32 h
  rw [cellsRule] at hl
  obtain ⟨c0, c1, c2, c3, c4, c5, c6, c7, c8, rfl⟩ := len9 hl
  have hs : ∀ i, i < 9 → xs[i]?.isSome = true := fun i hi => by
    have : xs.length = 9 := hxl
    simp [this, hi]
  obtain ⟨n0, e0, b0⟩ := opn_int (hg 0 _ rfl) (hs 0 (by decide))
  obtain ⟨n1, e1, b1⟩ := opn_int (hg 1 _ rfl) (hs 1 (by decide))
  obtain ⟨n2, e2, b2⟩ := opn_int (hg 2 _ rfl) (hs 2 (by decide))
  obtain ⟨n3, e3, b3⟩ := opn_int (hg 3 _ rfl) (hs 3 (by decide))
  obtain ⟨n4, e4, b4⟩ := opn_int (hg 4 _ rfl) (hs 4 (by decide))
  obtain ⟨n5, e5, b5⟩ := opn_int (hg 5 _ rfl) (hs 5 (by decide))
  obtain ⟨n6, e6, b6⟩ := opn_int (hg 6 _ rfl) (hs 6 (by decide))
  obtain ⟨n7, e7, b7⟩ := opn_int (hg 7 _ rfl) (hs 7 (by decide))
  obtain ⟨n8, e8, b8⟩ := opn_int (hg 8 _ rfl) (hs 8 (by decide))
  simp [cellsInt] at e0 e1 e2 e3 e4 e5 e6 e7 e8
  subst e0 e1 e2 e3 e4 e5 e6 e7 e8
  exact ⟨⟨n0, n1, n2, n3, n4, n5, n6, n7, n8⟩, rfl, ⟨b0, b1, b2, b3, b4, b5, b6, b7, b8⟩⟩
end
end Go.Proofs.YtffkmgjmlahfpaaGreat
namespace Go.Proofs.YtffkmgjmlahfpaaGreat
open Go.ChangeShapes Go.WideShapes Go.ChangeAt Go.RowKit
section
variable {H : Type} {enc : TypeId × Value → H} {w : World} {base : Nat} {sp : Nat → Bool} {hd : Bool}
theorem cellsStr : Tryz.prog.cellsOf 9 = 1 := by kernel_rfl
theorem cellsPt : Tryz.prog.cellsOf 87 = 3 := by kernel_rfl
theorem cellsBox : Tryz.prog.cellsOf 89 = 6 := by kernel_rfl
theorem cellsBoxes : Tryz.prog.cellsOf 22 = 1 := by kernel_rfl
theorem cellsSolid : Tryz.prog.cellsOf 24 = 2 := by kernel_rfl
theorem cellsMember : Tryz.prog.cellsOf 26 = 6 := by kernel_rfl
theorem opn_str {fuel : Nat} {cs : List Value} {y : Option (DataW H × List MemPlace)} (h : DataW.trod enc Tryz.prog w base sp hd fuel 9 cs = y) (hy : y.isSome = true) : ∃ s : ByteArray, cs = [.string s] ∧ s.size ≤ maxLen := by
  obtain ⟨z, rfl⟩ := Option.isSome_iff_exists.1 hy
  obtain ⟨s, rfl, _, hw⟩ := DataW.trod_string Tryz.underlying9 h
  exact ⟨s, rfl, hw⟩
theorem len3 {α : Type} {l : List α} (h : l.length = 3) : ∃ a b c, l = [a, b, c] := by
  match l, h with
  | [a, b, c], _ => exact ⟨a, b, c, rfl⟩
theorem len2 {α : Type} {l : List α} (h : l.length = 2) : ∃ a b, l = [a, b] := by
  match l, h with
  | [a, b], _ => exact ⟨a, b, rfl⟩
theorem len6 {α : Type} {l : List α} (h : l.length = 6) : ∃ a b c d e f, l = [a, b, c, d, e, f] := by
  match l, h with
  | [a, b, c, d, e, f], _ => exact ⟨a, b, c, d, e, f, rfl⟩
structure PtI (p : Pt) : Prop where
  x : I64 p.x
  y : I64 p.y
  z : I64 p.z
structure BxI (b : Bx) : Prop where
  lo : PtI b.lo
  hi : PtI b.hi
theorem opn_pt {fuel : Nat} {cs : List Value} {y : Option (DataW H × List MemPlace)} (h : DataW.trod enc Tryz.prog w base sp hd fuel 87 cs = y) (hy : y.isSome = true) :
    ∃ p : Pt, cs = [.int .i64 p.x, .int .i64 p.y, .int .i64 p.z] ∧ PtI p := by
  obtain ⟨z, rfl⟩ := Option.isSome_iff_exists.1 hy
  obtain ⟨xs, n, _, _, hl, hxl, hg⟩ := DataW.trod_struct Tryz.underlying87 h
  rw [cellsPt] at hl
  obtain ⟨c0, c1, c2, rfl⟩ := len3 hl
  have hs : ∀ i, i < 3 → xs[i]?.isSome = true := fun i hi => by
    have : xs.length = 3 := hxl
    simp [this, hi]
  obtain ⟨n0, e0, b0⟩ := opn_int (hg 0 _ rfl) (hs 0 (by decide))
  obtain ⟨n1, e1, b1⟩ := opn_int (hg 1 _ rfl) (hs 1 (by decide))
  obtain ⟨n2, e2, b2⟩ := opn_int (hg 2 _ rfl) (hs 2 (by decide))
  simp [cellsInt] at e0 e1 e2
  subst e0 e1 e2
  exact ⟨⟨n0, n1, n2⟩, rfl, ⟨b0, b1, b2⟩⟩
theorem opn_box {fuel : Nat} {cs : List Value} {y : Option (DataW H × List MemPlace)} (h : DataW.trod enc Tryz.prog w base sp hd fuel 89 cs = y) (hy : y.isSome = true) :
    ∃ b : Bx, cs = boxC b ∧ BxI b := by
  obtain ⟨z, rfl⟩ := Option.isSome_iff_exists.1 hy
  obtain ⟨xs, n, _, _, hl, hxl, hg⟩ := DataW.trod_struct Tryz.underlying89 h
  rw [cellsBox] at hl
  obtain ⟨c0, c1, c2, c3, c4, c5, rfl⟩ := len6 hl
  have hs : ∀ i, i < 2 → xs[i]?.isSome = true := fun i hi => by
    have : xs.length = 2 := hxl
    simp [this, hi]
  obtain ⟨p0, e0, b0⟩ := opn_pt (hg 0 _ rfl) (hs 0 (by decide))
  obtain ⟨p1, e1, b1⟩ := opn_pt (hg 1 _ rfl) (hs 1 (by decide))
  simp [cellsPt] at e0 e1
  obtain ⟨rfl, rfl, rfl⟩ := e0
  obtain ⟨rfl, rfl, rfl⟩ := e1
  exact ⟨⟨p0, p1⟩, rfl, ⟨b0, b1⟩⟩
theorem opn_rows {α : Type} [Inhabited α] {t e : TypeId} (ht : Tryz.prog.underlying t = some (.slice e)) (enc' : α → List Value) (m : Nat) (hm0 : 0 < m) (hm : ∀ a, (enc' a).length = m) (ce : Tryz.prog.cellsOf e = m) (ok : α → Prop)
    (hop : ∀ {fuel : Nat} {cs : List Value} {y : Option (DataW H × List MemPlace)}, DataW.trod enc Tryz.prog w base sp hd fuel e cs = y → y.isSome = true → ∃ b : α, cs = enc' b ∧ ok b)
    {fuel : Nat} {cs : List Value} {y : Option (DataW H × List MemPlace)} (h : DataW.trod enc Tryz.prog w base sp hd fuel t cs = y) (hy : y.isSome = true) :
    ∃ (A : Option Addr) (n c : Nat) (xs : List α), cs = [.slice A n c] ∧ xs.length = n ∧ n ≤ c ∧ c ≤ maxLen ∧ Cells w w.heap.size A (xs.flatMap enc') ∧ ∀ x, x ∈ xs → ok x := by
  obtain ⟨z, rfl⟩ := Option.isSome_iff_exists.1 hy
  rcases DataW.trod_slice ht h with ⟨rfl, _⟩ | ⟨a, len, cap, elems, rest, n, _, rfl, _, _, hl, hc, hel, hx, _, _⟩
  · exact ⟨none, 0, 0, [], rfl, rfl, Nat.le_refl _, Nat.zero_le _, .inl rfl, by simp⟩
  · rw [ce] at hx
    have each : ∀ i, i < len → ∃ b : α, ok b ∧ ∀ j, j < m → w.cell? (a.add (i * m + j)) = (enc' b)[j]? := by
      intro i hi
      have h1 := hx i hi
      have h2 : elems[i]?.isSome = true := by simp [hel, hi]
      obtain ⟨q, hq⟩ := Option.isSome_iff_exists.1 h2
      rw [hq] at h1
      obtain ⟨cs', g1, g2⟩ := Option.bind_eq_some_iff.1 h1
      obtain ⟨_, _, hcell⟩ := World.cells?_some g1
      obtain ⟨b, rfl, hb⟩ := hop g2 rfl
      refine ⟨b, hb, fun j hj => ?_⟩
      rw [← Go.Deep.add_add]
      exact hcell j hj
    obtain ⟨q, hq⟩ := Go.Deep.choose_lt each
    refine ⟨some a, len, cap, (List.range len).map q, rfl, by simp, hl, hc, ?_, fun x hx => ?_⟩
    · by_cases h0 : len = 0
      · left; simp [h0]
      · right
        have h1 := (hq 0 (by omega)).2 0 hm0
        rw [List.getElem?_eq_getElem (by rw [hm]; exact hm0)] at h1
        have hsp : a.spot = none := by
          unfold World.cell? at h1
          split at h1
          · split at h1
            · cases h1
            · rename_i hn
              simpa [Addr.add] using hn
          · cases h1
        have hlt : a.block < w.heap.size := by
          unfold World.cell? at h1
          split at h1
          · rename_i hh
            have hh2 := (Array.getElem?_eq_some_iff.1 hh).1
            simpa [Addr.add] using hh2
          · cases h1
        obtain ⟨bb, o, s⟩ := a
        cases hsp
        refine ⟨bb, o, rfl, hlt, fun j v hv => ?_⟩
        have hjl := (List.getElem?_eq_some_iff.1 hv).1
        rw [flat_len enc' m hm] at hjl
        have hj : j < len * m := by simpa using hjl
        have hk : j / m < len := (Nat.div_lt_iff_lt_mul hm0).2 hj
        have hr : j % m < m := Nat.mod_lt _ hm0
        have hd := Nat.div_add_mod j m
        have hjm : j / m * m + j % m = j := by rw [Nat.mul_comm]; exact hd
        have h2 := (hq (j / m) hk).2 (j % m) hr
        have h3 := flat_get enc' m hm ((List.range len).map q) (j / m) (by simpa using hk) (j % m) hr
        rw [hjm] at h2 h3
        rw [h3] at hv
        have e : (Addr.add ⟨bb, o, none⟩ j) = ⟨bb, o + j, none⟩ := by unfold Addr.add; split <;> simp_all
        rw [e] at h2
        rw [h2, ← hv]
        simp
    · obtain ⟨i, hi, rfl⟩ := List.mem_map.1 hx
      exact (hq i (List.mem_range.1 hi)).1
instance : Inhabited Bx := ⟨⟨⟨0, 0, 0⟩, ⟨0, 0, 0⟩⟩⟩
theorem opn_boxes {fuel : Nat} {cs : List Value} {y : Option (DataW H × List MemPlace)} (h : DataW.trod enc Tryz.prog w base sp hd fuel 22 cs = y) (hy : y.isSome = true) :
    ∃ (A : Option Addr) (n c : Nat) (xs : List Bx), cs = [.slice A n c] ∧ xs.length = n ∧ n ≤ c ∧ c ≤ maxLen ∧ Cells w w.heap.size A (xs.flatMap boxC) ∧ ∀ x, x ∈ xs → BxI x :=
  opn_rows Tryz.underlying22 boxC 6 (by decide) boxC_len cellsBox BxI (fun h hy => opn_box h hy) h hy
theorem opn_solid {fuel : Nat} {cs : List Value} {y : Option (DataW H × List MemPlace)} (h : DataW.trod enc Tryz.prog w base sp hd fuel 24 cs = y) (hy : y.isSome = true) :
    ∃ (A : Option Addr) (n c : Nat) (A' : Option Addr) (n' c' : Nat) (xs hs : List Bx), cs = [.slice A n c, .slice A' n' c'] ∧ SolAt w w.heap.size A n A' n' xs hs ∧ n ≤ c ∧ c ≤ maxLen ∧ n' ≤ c' ∧ c' ≤ maxLen ∧ (∀ x, x ∈ xs → BxI x) ∧ ∀ x, x ∈ hs → BxI x := by
  obtain ⟨z, rfl⟩ := Option.isSome_iff_exists.1 hy
  obtain ⟨ys, n, _, _, hl, hxl, hg⟩ := DataW.trod_struct Tryz.underlying24 h
  rw [cellsSolid] at hl
  obtain ⟨c0, c1, rfl⟩ := len2 hl
  have hs : ∀ i, i < 2 → ys[i]?.isSome = true := fun i hi => by
    have : ys.length = 2 := hxl
    simp [this, hi]
  obtain ⟨A, n0, m0, xs, e0, h1, h2, h3, h4, h5⟩ := opn_boxes (hg 0 _ rfl) (hs 0 (by decide))
  obtain ⟨A', n1, m1, hs', e1, g1, g2, g3, g4, g5⟩ := opn_boxes (hg 1 _ rfl) (hs 1 (by decide))
  simp [cellsBoxes] at e0 e1
  subst e0 e1
  have hmx : maxLen ≤ 9223372036854775807 := by unfold maxLen; decide
  exact ⟨A, n0, m0, A', n1, m1, xs, hs', rfl, ⟨h1, by omega, g1, by omega, h4, g4⟩, h2, h3, g2, g3, h5, g5⟩
structure MemI (m : Mem) : Prop where
  name : m.name.size ≤ 9223372036854775807
  boxes : ∀ x, x ∈ m.boxes → BxI x
  holes : ∀ x, x ∈ m.holes → BxI x
  cover : I64 m.cover
  aggr : I64 m.aggr
  poker : I64 m.poker
theorem opn_member {fuel : Nat} {cs : List Value} {y : Option (DataW H × List MemPlace)} (h : DataW.trod enc Tryz.prog w base sp hd fuel 26 cs = y) (hy : y.isSome = true) :
    ∃ (m : Mem) (A : Option Addr) (n c : Nat) (A' : Option Addr) (n' c' : Nat), cs = (memV m A n c A' n' c').cells.toList ∧ SolAt w w.heap.size A n A' n' m.boxes m.holes ∧ n ≤ c ∧ c ≤ maxLen ∧ n' ≤ c' ∧ c' ≤ maxLen ∧ MemI m := by
  obtain ⟨z, rfl⟩ := Option.isSome_iff_exists.1 hy
  obtain ⟨ys, n, _, _, hl, hxl, hg⟩ := DataW.trod_struct Tryz.underlying26 h
  rw [cellsMember] at hl
  obtain ⟨c0, c1, c2, c3, c4, c5, rfl⟩ := len6 hl
  have hs : ∀ i, i < 5 → ys[i]?.isSome = true := fun i hi => by
    have : ys.length = 5 := hxl
    simp [this, hi]
  obtain ⟨s, e0, b0⟩ := opn_str (hg 0 _ rfl) (hs 0 (by decide))
  obtain ⟨A, n0, m0, A', n1, m1, xs, hs', e1, h1, h2, h3, h4, h5, h6, h7⟩ := opn_solid (hg 1 _ rfl) (hs 1 (by decide))
  obtain ⟨k2, e2, b2⟩ := opn_int (hg 2 _ rfl) (hs 2 (by decide))
  obtain ⟨k3, e3, b3⟩ := opn_int (hg 3 _ rfl) (hs 3 (by decide))
  obtain ⟨k4, e4, b4⟩ := opn_int (hg 4 _ rfl) (hs 4 (by decide))
  simp [cellsStr, cellsSolid, cellsInt] at e0 e1 e2 e3 e4
  obtain ⟨rfl, rfl⟩ := e1
  subst e0 e2 e3 e4
  have hmx : maxLen ≤ 9223372036854775807 := by unfold maxLen; decide
  exact ⟨⟨s, xs, hs', k2, k3, k4⟩, A, n0, m0, A', n1, m1, rfl, h1, h2, h3, h4, h5, ⟨by show s.size ≤ _; omega, h6, h7, b2, b3, b4⟩⟩
end
end Go.Proofs.YtffkmgjmlahfpaaGreat
namespace Go.Proofs.YtffkmgjmlahfpaaGreat
open Go.ChangeShapes Go.WideShapes Go.ChangeAt Go.RowKit
section
variable {H : Type} {enc : TypeId × Value → H} {w : World} {base : Nat} {sp : Nat → Bool} {hd : Bool}
theorem cellsInts : Tryz.prog.cellsOf 58 = 1 := by kernel_rfl
theorem cellsBar : Tryz.prog.cellsOf 158 = 5 := by kernel_rfl
theorem opn_ints {fuel : Nat} {cs : List Value} {y : Option (DataW H × List MemPlace)} (h : DataW.trod enc Tryz.prog w base sp hd fuel 58 cs = y) (hy : y.isSome = true) :
    ∃ (A : Option Addr) (n c : Nat) (xs : List Int), cs = [.slice A n c] ∧ xs.length = n ∧ n ≤ c ∧ c ≤ maxLen ∧ Cells w w.heap.size A (i64s xs) ∧ ∀ x, x ∈ xs → I64 x := by
  obtain ⟨z, rfl⟩ := Option.isSome_iff_exists.1 hy
  rcases open_ints Tryz.underlying58 Tryz.underlying3 cellsInt h with ⟨rfl, _⟩ | ⟨a, len, cap, zs, rfl, _, hl, hm, hz, _, hc, hw⟩
  · exact ⟨none, 0, 0, [], rfl, rfl, Nat.le_refl _, Nat.zero_le _, .inl rfl, by simp⟩
  · have hlz : len ≤ zs.length := by rw [hz]; split <;> omega
    refine ⟨some a, len, cap, zs.take len, rfl, by simp; omega, hl, hm, ?_, fun x hx => bounds_i64 (hw x (List.mem_of_mem_take hx))⟩
    by_cases h0 : len = 0
    · left; simp [h0]
    · right
      have h1 := hc 0 (by omega)
      have hsp : a.spot = none := by
        unfold World.cell? at h1
        split at h1
        · split at h1
          · cases h1
          · rename_i hn
            simpa [Addr.add] using hn
        · cases h1
      have hlt : a.block < w.heap.size := by
        unfold World.cell? at h1
        split at h1
        · rename_i hh
          exact (Array.getElem?_eq_some_iff.1 hh).1
        · cases h1
      obtain ⟨bb, o, s⟩ := a
      cases hsp
      refine ⟨bb, o, rfl, hlt, fun j v hv => ?_⟩
      have hj : j < len := by
        obtain ⟨hj, _⟩ := List.getElem?_eq_some_iff.1 hv
        simp at hj
        omega
      have h2 := hc j (by omega)
      have h3 : (i64s (zs.take len))[j]? = some (.int .i64 (zs.getD j 0)) := by
        simp [hj, List.getElem?_eq_getElem (show j < zs.length by omega)]
      rw [h3] at hv
      injection hv with hv
      subst hv
      have e : (Addr.add ⟨bb, o, none⟩ j) = ⟨bb, o + j, none⟩ := by unfold Addr.add; split <;> simp_all
      rw [e] at h2
      exact h2
theorem len5 {α : Type} {l : List α} (h : l.length = 5) : ∃ a b c d e, l = [a, b, c, d, e] := by
  match l, h with
  | [a, b, c, d, e], _ => exact ⟨a, b, c, d, e, rfl⟩
structure BarI (b : Bar) : Prop where
  size : I64 b.size
  count : I64 b.count
  code : I64 b.code
  dims : ∀ x, x ∈ b.dims → I64 x
theorem open_bar {fuel : Nat} {cs : List Value} {x : DataW H × List MemPlace} (h : DataW.trod enc Tryz.prog w base sp hd fuel 158 cs = some x) :
    ∃ (b : Bar) (A : Option Addr) (n c : Nat), cs = (barV b A n c).cells.toList ∧ BarAt w w.heap.size A n b ∧ n ≤ c ∧ c ≤ maxLen ∧ BarI b := by
  obtain ⟨xs, n, _, _, hl, hxl, hg⟩ := DataW.trod_struct Tryz.underlying158 h
  rw [cellsBar] at hl
  obtain ⟨c0, c1, c2, c3, c4, rfl⟩ := len5 hl
  have hs : ∀ i, i < 5 → xs[i]?.isSome = true := fun i hi => by
    have : xs.length = 5 := hxl
    simp [this, hi]
  obtain ⟨n0, e0, b0⟩ := opn_str (hg 0 _ rfl) (hs 0 (by decide))
  obtain ⟨n1, e1, b1⟩ := opn_int (hg 1 _ rfl) (hs 1 (by decide))
  obtain ⟨n2, e2, b2⟩ := opn_int (hg 2 _ rfl) (hs 2 (by decide))
  obtain ⟨n3, e3, b3⟩ := opn_int (hg 3 _ rfl) (hs 3 (by decide))
  obtain ⟨A, m, c, zs, e4, hz, hmc, hcm, hcl, hzi⟩ := opn_ints (hg 4 _ rfl) (hs 4 (by decide))
  simp [cellsInt, cellsStr, cellsInts] at e0 e1 e2 e3 e4
  subst e0 e1 e2 e3 e4
  have hmx : maxLen ≤ 9223372036854775807 := by unfold maxLen; decide
  exact ⟨⟨n0, n1, n2, n3, zs⟩, A, m, c, rfl, ⟨hz, by omega, by show n0.size ≤ _; omega, hcl⟩, hmc, hcm, ⟨b1, b2, b3, hzi⟩⟩
end
end Go.Proofs.YtffkmgjmlahfpaaGreat
namespace Go.Proofs.YtffkmgjmlahfpaaGreat
open Go.ChangeShapes Go.WideShapes Go.ChangeAt Go.RowKit
section
variable {H : Type} {enc : TypeId × Value → H} {w : World} {base : Nat} {sp : Nat → Bool} {hd : Bool}
instance : Inhabited Sp := ⟨⟨0, 0⟩⟩
structure SpI (s : Sp) : Prop where
  lo : I64 s.lo
  hi : I64 s.hi
end
end Go.Proofs.YtffkmgjmlahfpaaGreat
namespace Go.Proofs.YtffkmgjmlahfpaaGreat
open Go.ChangeShapes Go.WideShapes Go.ChangeAt Go.RowKit
section
variable {H : Type} {enc : TypeId × Value → H} {w : World} {base : Nat} {sp : Nat → Bool} {hd : Bool}
theorem cellsBars : Tryz.prog.cellsOf 27 = 1 := by kernel_rfl
theorem cellsRuns : Tryz.prog.cellsOf 28 = 1 := by kernel_rfl
theorem cellsJoints : Tryz.prog.cellsOf 29 = 1 := by kernel_rfl
theorem cellsDems : Tryz.prog.cellsOf 30 = 1 := by kernel_rfl
theorem cellsSteps : Tryz.prog.cellsOf 70 = 1 := by kernel_rfl
theorem cellsRun : Tryz.prog.cellsOf 183 = 10 := by kernel_rfl
theorem cellsTurn : Tryz.prog.cellsOf 181 = 2 := by kernel_rfl
theorem cellsJoint : Tryz.prog.cellsOf 124 = 2 := by kernel_rfl
theorem cellsStep : Tryz.prog.cellsOf 81 = 2 := by kernel_rfl
theorem cellsDem : Tryz.prog.cellsOf 103 = 8 := by kernel_rfl
theorem cellsDetail : Tryz.prog.cellsOf 34 = 19 := by kernel_rfl
instance : Inhabited BarR := ⟨⟨⟨⟨#[]⟩, 0, 0, 0, []⟩, none, 0, 0⟩⟩
instance : Inhabited Rn := ⟨⟨⟨#[]⟩, 0, 0, ⟨0, 0, 0⟩, ⟨0, 0, 0⟩, 0⟩⟩
instance : Inhabited Jn := ⟨⟨0, 0⟩⟩
instance : Inhabited Stp := ⟨⟨0, 0⟩⟩
instance : Inhabited Dm := ⟨⟨⟨#[]⟩, ⟨⟨0, 0, 0⟩, ⟨0, 0, 0⟩⟩, [], none, 0, 0⟩⟩
structure RnI (r : Rn) : Prop where
  tx : I64 r.tx
  ty : I64 r.ty
  at_ : PtI r.at_
  step : PtI r.step
  count : I64 r.count
structure JnI (j : Jn) : Prop where
  first : I64 j.first
  second : I64 j.second
structure StpI (s : Stp) : Prop where
  fro : I64 s.fro
  val : I64 s.val
theorem opn_bar {fuel : Nat} {cs : List Value} {y : Option (DataW H × List MemPlace)} (h : DataW.trod enc Tryz.prog w base sp hd fuel 158 cs = y) (hy : y.isSome = true) :
    ∃ r : BarR, cs = barC r ∧ (BarAt w w.heap.size r.A r.n r.b ∧ r.n ≤ r.c ∧ BarI r.b) := by
  obtain ⟨z, rfl⟩ := Option.isSome_iff_exists.1 hy
  obtain ⟨b, A, n, c, e, h1, h2, _, h3⟩ := open_bar h
  exact ⟨⟨b, A, n, c⟩, e, h1, h2, h3⟩
theorem opn_turn {fuel : Nat} {cs : List Value} {y : Option (DataW H × List MemPlace)} (h : DataW.trod enc Tryz.prog w base sp hd fuel 181 cs = y) (hy : y.isSome = true) :
    ∃ a b : Int, cs = [.int .i64 a, .int .i64 b] ∧ I64 a ∧ I64 b := by
  obtain ⟨z, rfl⟩ := Option.isSome_iff_exists.1 hy
  obtain ⟨xs, n, _, _, hl, hxl, hg⟩ := DataW.trod_struct Tryz.underlying181 h
  rw [cellsTurn] at hl
  obtain ⟨c0, c1, rfl⟩ := len2 hl
  have hs : ∀ i, i < 2 → xs[i]?.isSome = true := fun i hi => by
    have : xs.length = 2 := hxl
    simp [this, hi]
  obtain ⟨n0, e0, b0⟩ := opn_int (hg 0 _ rfl) (hs 0 (by decide))
  obtain ⟨n1, e1, b1⟩ := opn_int (hg 1 _ rfl) (hs 1 (by decide))
  simp [cellsInt] at e0 e1
  subst e0 e1
  exact ⟨n0, n1, rfl, b0, b1⟩
theorem opn_joint {fuel : Nat} {cs : List Value} {y : Option (DataW H × List MemPlace)} (h : DataW.trod enc Tryz.prog w base sp hd fuel 124 cs = y) (hy : y.isSome = true) :
    ∃ j : Jn, cs = jnC j ∧ JnI j := by
  obtain ⟨z, rfl⟩ := Option.isSome_iff_exists.1 hy
  obtain ⟨xs, n, _, _, hl, hxl, hg⟩ := DataW.trod_struct Tryz.underlying124 h
  rw [cellsJoint] at hl
  obtain ⟨c0, c1, rfl⟩ := len2 hl
  have hs : ∀ i, i < 2 → xs[i]?.isSome = true := fun i hi => by
    have : xs.length = 2 := hxl
    simp [this, hi]
  obtain ⟨n0, e0, b0⟩ := opn_int (hg 0 _ rfl) (hs 0 (by decide))
  obtain ⟨n1, e1, b1⟩ := opn_int (hg 1 _ rfl) (hs 1 (by decide))
  simp [cellsInt] at e0 e1
  subst e0 e1
  exact ⟨⟨n0, n1⟩, rfl, ⟨b0, b1⟩⟩
theorem opn_step {fuel : Nat} {cs : List Value} {y : Option (DataW H × List MemPlace)} (h : DataW.trod enc Tryz.prog w base sp hd fuel 81 cs = y) (hy : y.isSome = true) :
    ∃ s : Stp, cs = stC s ∧ StpI s := by
  obtain ⟨z, rfl⟩ := Option.isSome_iff_exists.1 hy
  obtain ⟨xs, n, _, _, hl, hxl, hg⟩ := DataW.trod_struct Tryz.underlying81 h
  rw [cellsStep] at hl
  obtain ⟨c0, c1, rfl⟩ := len2 hl
  have hs : ∀ i, i < 2 → xs[i]?.isSome = true := fun i hi => by
    have : xs.length = 2 := hxl
    simp [this, hi]
  obtain ⟨n0, e0, b0⟩ := opn_int (hg 0 _ rfl) (hs 0 (by decide))
  obtain ⟨n1, e1, b1⟩ := opn_int (hg 1 _ rfl) (hs 1 (by decide))
  simp [cellsInt] at e0 e1
  subst e0 e1
  exact ⟨⟨n0, n1⟩, rfl, ⟨b0, b1⟩⟩
theorem len10 {α : Type} {l : List α} (h : l.length = 10) : ∃ a b c d e f g i j k, l = [a, b, c, d, e, f, g, i, j, k] := by
  match l, h with
  | [a, b, c, d, e, f, g, i, j, k], _ => exact ⟨a, b, c, d, e, f, g, i, j, k, rfl⟩
theorem len8 {α : Type} {l : List α} (h : l.length = 8) : ∃ a b c d e f g i, l = [a, b, c, d, e, f, g, i] := by
  match l, h with
  | [a, b, c, d, e, f, g, i], _ => exact ⟨a, b, c, d, e, f, g, i, rfl⟩
theorem len19 {α : Type} {l : List α} (h : l.length = 19) : ∃ a0 a1 a2 a3 a4 a5 a6 a7 a8 a9 b0 b1 b2 b3 b4 b5 b6 b7 b8, l = [a0, a1, a2, a3, a4, a5, a6, a7, a8, a9, b0, b1, b2, b3, b4, b5, b6, b7, b8] := by
  match l, h with
  | [a0, a1, a2, a3, a4, a5, a6, a7, a8, a9, b0, b1, b2, b3, b4, b5, b6, b7, b8], _ => exact ⟨a0, a1, a2, a3, a4, a5, a6, a7, a8, a9, b0, b1, b2, b3, b4, b5, b6, b7, b8, rfl⟩
theorem opn_run {fuel : Nat} {cs : List Value} {y : Option (DataW H × List MemPlace)} (h : DataW.trod enc Tryz.prog w base sp hd fuel 183 cs = y) (hy : y.isSome = true) :
    ∃ r : Rn, cs = rnC r ∧ (r.mark.size ≤ 9223372036854775807 ∧ RnI r) := by
  obtain ⟨z, rfl⟩ := Option.isSome_iff_exists.1 hy
  obtain ⟨xs, n, _, _, hl, hxl, hg⟩ := DataW.trod_struct Tryz.underlying183 h
  rw [cellsRun] at hl
  obtain ⟨c0, c1, c2, c3, c4, c5, c6, c7, c8, c9, rfl⟩ := len10 hl
  have hs : ∀ i, i < 5 → xs[i]?.isSome = true := fun i hi => by
    have : xs.length = 5 := hxl
    simp [this, hi]
  obtain ⟨m, e0, b0⟩ := opn_str (hg 0 _ rfl) (hs 0 (by decide))
  obtain ⟨t0, t1, e1, b1, b1'⟩ := opn_turn (hg 1 _ rfl) (hs 1 (by decide))
  obtain ⟨p, e2, b2⟩ := opn_pt (hg 2 _ rfl) (hs 2 (by decide))
  obtain ⟨q, e3, b3⟩ := opn_pt (hg 3 _ rfl) (hs 3 (by decide))
  obtain ⟨k, e4, b4⟩ := opn_int (hg 4 _ rfl) (hs 4 (by decide))
  simp [cellsStr, cellsTurn, cellsPt, cellsInt] at e0 e1 e2 e3 e4
  obtain ⟨rfl, rfl⟩ := e1
  obtain ⟨rfl, rfl, rfl⟩ := e2
  obtain ⟨rfl, rfl, rfl⟩ := e3
  subst e0 e4
  have hmx : maxLen ≤ 9223372036854775807 := by unfold maxLen; decide
  exact ⟨⟨m, t0, t1, p, q, k⟩, rfl, by show m.size ≤ _; omega, ⟨b1, b1', b2, b3, b4⟩⟩
theorem opn_steps {fuel : Nat} {cs : List Value} {y : Option (DataW H × List MemPlace)} (h : DataW.trod enc Tryz.prog w base sp hd fuel 70 cs = y) (hy : y.isSome = true) :
    ∃ (A : Option Addr) (n c : Nat) (xs : List Stp), cs = [.slice A n c] ∧ xs.length = n ∧ n ≤ c ∧ c ≤ maxLen ∧ Cells w w.heap.size A (xs.flatMap stC) ∧ ∀ x, x ∈ xs → StpI x :=
  opn_rows Tryz.underlying70 stC 2 (by decide) stC_len cellsStep StpI (fun h hy => opn_step h hy) h hy
theorem opn_dem {fuel : Nat} {cs : List Value} {y : Option (DataW H × List MemPlace)} (h : DataW.trod enc Tryz.prog w base sp hd fuel 103 cs = y) (hy : y.isSome = true) :
    ∃ d : Dm, cs = dmC d ∧ (StepsAt w w.heap.size d.A d.n d.st ∧ d.n ≤ d.c ∧ d.name.size ≤ 9223372036854775807 ∧ BxI d.zone ∧ ∀ s, s ∈ d.st → StpI s) := by
  obtain ⟨z, rfl⟩ := Option.isSome_iff_exists.1 hy
  obtain ⟨xs, n, _, _, hl, hxl, hg⟩ := DataW.trod_struct Tryz.underlying103 h
  rw [cellsDem] at hl
  obtain ⟨c0, c1, c2, c3, c4, c5, c6, c7, rfl⟩ := len8 hl
  have hs : ∀ i, i < 3 → xs[i]?.isSome = true := fun i hi => by
    have : xs.length = 3 := hxl
    simp [this, hi]
  obtain ⟨m, e0, b0⟩ := opn_str (hg 0 _ rfl) (hs 0 (by decide))
  obtain ⟨z, e1, b1⟩ := opn_box (hg 1 _ rfl) (hs 1 (by decide))
  obtain ⟨A, k, c, st, e2, h1, h2, h3, h4, h5⟩ := opn_steps (hg 2 _ rfl) (hs 2 (by decide))
  simp [cellsStr, cellsBox, cellsSteps] at e0 e1 e2
  obtain ⟨rfl, rfl, rfl, rfl, rfl, rfl⟩ := e1
  subst e0 e2
  have hmx : maxLen ≤ 9223372036854775807 := by unfold maxLen; decide
  exact ⟨⟨m, z, st, A, k, c⟩, rfl, ⟨h1, by show k ≤ _; omega, h4⟩, h2, by show m.size ≤ _; omega, b1, h5⟩
theorem opn_bars {fuel : Nat} {cs : List Value} {y : Option (DataW H × List MemPlace)} (h : DataW.trod enc Tryz.prog w base sp hd fuel 27 cs = y) (hy : y.isSome = true) :
    ∃ (A : Option Addr) (n c : Nat) (xs : List BarR), cs = [.slice A n c] ∧ xs.length = n ∧ n ≤ c ∧ c ≤ maxLen ∧ Cells w w.heap.size A (xs.flatMap barC) ∧ ∀ r, r ∈ xs → (BarAt w w.heap.size r.A r.n r.b ∧ r.n ≤ r.c ∧ BarI r.b) :=
  opn_rows Tryz.underlying27 barC 5 (by decide) barC_len cellsBar _ (fun h hy => opn_bar h hy) h hy
theorem opn_runs {fuel : Nat} {cs : List Value} {y : Option (DataW H × List MemPlace)} (h : DataW.trod enc Tryz.prog w base sp hd fuel 28 cs = y) (hy : y.isSome = true) :
    ∃ (A : Option Addr) (n c : Nat) (xs : List Rn), cs = [.slice A n c] ∧ xs.length = n ∧ n ≤ c ∧ c ≤ maxLen ∧ Cells w w.heap.size A (xs.flatMap rnC) ∧ ∀ r, r ∈ xs → (r.mark.size ≤ 9223372036854775807 ∧ RnI r) :=
  opn_rows Tryz.underlying28 rnC 10 (by decide) rnC_len cellsRun _ (fun h hy => opn_run h hy) h hy
theorem opn_joints {fuel : Nat} {cs : List Value} {y : Option (DataW H × List MemPlace)} (h : DataW.trod enc Tryz.prog w base sp hd fuel 29 cs = y) (hy : y.isSome = true) :
    ∃ (A : Option Addr) (n c : Nat) (xs : List Jn), cs = [.slice A n c] ∧ xs.length = n ∧ n ≤ c ∧ c ≤ maxLen ∧ Cells w w.heap.size A (xs.flatMap jnC) ∧ ∀ j, j ∈ xs → JnI j :=
  opn_rows Tryz.underlying29 jnC 2 (by decide) jnC_len cellsJoint JnI (fun h hy => opn_joint h hy) h hy
theorem opn_dems {fuel : Nat} {cs : List Value} {y : Option (DataW H × List MemPlace)} (h : DataW.trod enc Tryz.prog w base sp hd fuel 30 cs = y) (hy : y.isSome = true) :
    ∃ (A : Option Addr) (n c : Nat) (xs : List Dm), cs = [.slice A n c] ∧ xs.length = n ∧ n ≤ c ∧ c ≤ maxLen ∧ Cells w w.heap.size A (xs.flatMap dmC) ∧ ∀ d, d ∈ xs → (StepsAt w w.heap.size d.A d.n d.st ∧ d.n ≤ d.c ∧ d.name.size ≤ 9223372036854775807 ∧ BxI d.zone ∧ ∀ s, s ∈ d.st → StpI s) :=
  opn_rows Tryz.underlying30 dmC 8 (by decide) dmC_len cellsDem _ (fun h hy => opn_dem h hy) h hy
structure DtI (x : Dt) (ds : List Dm) : Prop where
  mem : MemI x.m
  bars : ∀ r, r ∈ x.bs → r.n ≤ r.c ∧ BarI r.b
  runs : ∀ r, r ∈ x.rs → r.mark.size ≤ 9223372036854775807 ∧ RnI r
  laps : ∀ j, j ∈ x.js → JnI j
  dems : ∀ d, d ∈ ds → d.n ≤ d.c ∧ BxI d.zone ∧ ∀ s, s ∈ d.st → StpI s
  rule : RuleI x.rule
  caps : x.mn ≤ x.mc ∧ x.hn ≤ x.hc ∧ x.bn ≤ x.bc ∧ x.rn ≤ x.rc ∧ x.jn ≤ x.jc ∧ x.dn ≤ x.dc
theorem arg_detail {cs : Array Value} {d : DataW H} {p : List MemPlace} (h : DataW.Trod enc Tryz.prog w base sp hd 34 (.agg cs) d p) :
    ∃ (x : Dt) (ds : List Dm), cs = (dtV x).cells ∧ DtOk w x ds ∧ DtI x ds := by
  obtain ⟨fuel, hf⟩ := h
  obtain ⟨xs, n, _, _, hl, hxl, hg⟩ := DataW.trod_struct Tryz.underlying34 hf
  rw [cellsDetail] at hl
  generalize hcl : cs.toList = cl at *
  have hcl2 : (Value.agg cs).cells.toList = cl := hcl
  rw [hcl2] at hl hg
  obtain ⟨a0, a1, a2, a3, a4, a5, a6, a7, a8, a9, b0, b1, b2, b3, b4, b5, b6, b7, b8, rfl⟩ := len19 hl
  have hs : ∀ i, i < 6 → xs[i]?.isSome = true := fun i hi => by
    have : xs.length = 6 := hxl
    simp [this, hi]
  obtain ⟨m, mA, mn, mc, hA, hn, hc, e0, g0, g1, g2, g3, g4, g5⟩ := opn_member (hg 0 _ rfl) (hs 0 (by decide))
  obtain ⟨bA, bn, bc, bs, e1, k1, k2, k3, k4, k5⟩ := opn_bars (hg 1 _ rfl) (hs 1 (by decide))
  obtain ⟨rA, rn, rc, rs, e2, r1, r2, r3, r4, r5⟩ := opn_runs (hg 2 _ rfl) (hs 2 (by decide))
  obtain ⟨jA, jn, jc, js, e3, j1, j2, j3, j4, j5⟩ := opn_joints (hg 3 _ rfl) (hs 3 (by decide))
  obtain ⟨dA, dn, dc, ds, e4, d1, d2, d3, d4, d5⟩ := opn_dems (hg 4 _ rfl) (hs 4 (by decide))
  obtain ⟨q5, hq5⟩ := Option.isSome_iff_exists.1 (hs 5 (by decide))
  have h5 := hg 5 _ rfl
  rw [hq5] at h5
  obtain ⟨rule, e5, u1⟩ := open_rule h5
  simp [cellsMember, cellsBars, cellsRuns, cellsJoints, cellsDems, cellsRule] at e0 e1 e2 e3 e4 e5
  obtain ⟨rfl, rfl, rfl, rfl, rfl, rfl⟩ := e0
  obtain ⟨rfl, rfl, rfl, rfl, rfl, rfl, rfl, rfl, rfl⟩ := e5
  subst e1 e2 e3 e4
  have hmx : maxLen ≤ 9223372036854775807 := by unfold maxLen; decide
  refine ⟨⟨m, mA, mn, mc, hA, hn, hc, bs, bA, bn, bc, rs, rA, rn, rc, js, jA, jn, jc, dA, dn, dc, rule⟩, ds, ?_, ⟨⟨g0, g5.name, ⟨k1, by show bn ≤ _; omega, k4, fun r hr => (k5 r hr).1⟩, ⟨r1, by show rn ≤ _; omega, r4⟩, j1, by show jn ≤ _; omega, j4⟩, ⟨d1, by show dn ≤ _; omega, d4, fun d hd => (d5 d hd).1, fun d hd => (d5 d hd).2.2.1⟩, d2⟩, ⟨g5, fun r hr => (k5 r hr).2, r5, j5, fun d hd => ⟨(d5 d hd).2.1, (d5 d hd).2.2.2⟩, u1, g1, g3, k2, r2, j2, d2⟩⟩
  exact Array.toList_inj.1 hcl
end
end Go.Proofs.YtffkmgjmlahfpaaGreat
