/- Contracts of the reference for layer 25, of any detail: Count, Chains. Contracts: supply.Leg, supply.Anchored, supply.Area of any detail and any index. Contract: supply.All of any detail. Contracts fo -/
import Derived.Test.YtffkmgjmlahfpaaGreatYAQ
import Derived.Test.YtffkmgjmlahfpaaGreatYAE
import Derived.Test.YtffkmgjmlahfpaaGreatYY
import Derived.Test.YtffkmgjmlahfpaaGreatYAA
import Derived.Test.YtffkmgjmlahfpaaGreatYAC
import Derived.Test.YtffkmgjmlahfpaaGreatYX
import Derived.Test.YtffkmgjmlahfpaaGreatYAJ
import Derived.Test.YtffkmgjmlahfpaaGreatYT
import Derived.Test.YtffkmgjmlahfpaaGreatYO
import Derived.Test.YtffkmgjmlahfpaaGreatYAS
import Derived.Test.YtffkmgjmlahfpaaGreatYAU
import Derived.Test.YtffkmgjmlahfpaaGreatYAI
import Derived.Test.YtffkmgjmlahfpaaGreatYP
set_option linter.unusedVariables false
set_option linter.unusedSimpArgs false
namespace Go.Proofs.YtffkmgjmlahfpaaGreat
open Go.RowKit
section
variable {x : Dt} {ds : List Dm} {w : World}
theorem good_rcount (h : DtOk w x ds) (hlk : S.look x (S.dems ds) = true) : ∀ W, Below w.heap.size w W → Calls Tryz.prog 42 #[dtV x] W fun e w' => e = .returned (.int .i64 (S.nOf x)) ∧ Below W.heap.size W w' :=
  fun W hw => rcount25_any x w.heap.size W hw.size (h.at_.at_ (Nat.le_refl _) hw) (look_ok hlk).laid
end
section
variable {x : Dt} {ds : List Dm} {w : World}
theorem good_lv (h : DtOk w x ds) : ∀ W, Below w.heap.size w W → Calls Tryz.prog 87 #[dtV x] W fun e w' => e = .returned (.bool (S.look x (S.dems ds))) ∧ Below W.heap.size W w' := fun W hw => by
  cases hlk : S.look x (S.dems ds)
  · exact lvalid_any x false w.heap.size _ _ W hw.size (fun U hU => bad_look h hlk U (hw.trans (hU.mono hw.size)))
  · exact lvalid_any x true w.heap.size _ _ W hw.size (fun U hU => good_look h hlk U (hw.trans (hU.mono hw.size)))
theorem good_Anch (h : DtOk w x ds) (hlk : S.look x (S.dems ds) = true) {k : Nat} (hk : k < (S.cOf x).length) {rs : List Rod} (hrs : RodsOf x (S.nOf x) rs) :
    ∀ W, Below w.heap.size w W → Calls Tryz.prog 40 #[dtV x, .int .i64 k] W fun e w' => e = .returned (.tuple #[.agg #[.int .i64 (S.spanL x rs (S.cOf x)[k]).1, .int .i64 (S.spanL x rs (S.cOf x)[k]).2.1], .int .i64 (if (S.spanL x rs (S.cOf x)[k]).2.2 then 0 else 12)]) ∧ Below W.heap.size W w' := fun W hw => by
  have g := look_ok hlk
  refine (Anch_any x (S.cOf x) (S.nOf x) k W g.c2000 hk (fun V hV => good_chains h hlk V (hw.trans (hV.mono hw.size)))).mono ?_
  rintro e w' ⟨rs', c, rfl, h1, h2, h3, h4⟩
  refine ⟨?_, h4⟩
  have hb := sch_bare ⟨h1, h2⟩ hrs h3
  have e1 : c.lo = (S.spanL x rs (S.cOf x)[k]).1 := congrArg SCh.lo hb
  have e2 : c.hi = (S.spanL x rs (S.cOf x)[k]).2.1 := congrArg SCh.hi hb
  have e3 : c.is = (S.spanL x rs (S.cOf x)[k]).2.2 := congrArg SCh.is hb
  have hz : c.is = false → c.lo = 0 ∧ c.hi = 0 := fun hf => by
    obtain ⟨a, b, h5, h6, h7⟩ := h3.span
    rw [hf] at h7
    unfold S.spanOf at h7
    split at h7
    · simp only [Prod.mk.injEq] at h7; exact ⟨h7.1, h7.2.1⟩
    · split at h7
      · simp only [Prod.mk.injEq] at h7; exact ⟨h7.1, h7.2.1⟩
      · split at h7
        · simp only [Prod.mk.injEq] at h7; exact absurd h7.2.2 (by simp)
        · simp only [Prod.mk.injEq] at h7; exact ⟨h7.1, h7.2.1⟩
  rw [← e1, ← e2, ← e3]
  cases hi : c.is
  · obtain ⟨z1, z2⟩ := hz hi
    rw [z1, z2]
    rfl
  · rfl
end
structure Stq where
  A : Option Addr
  c : Nat
  l : List Stp
abbrev stqV (r : Stq) : Value := .slice r.A r.l.length r.c
theorem elemStq : Elem Tryz.prog 73 70 (.slice none 0 0) 1 24 := ⟨Tryz.underlying73, by kernel_rfl, rfl, by decide⟩
structure StqsAt (w : World) (base : Nat) (v : Value) (rs : List Stq) : Prop where
  own : w.ownsRow base 70 1 v rs.length (rs.map stqV)
  each : ∀ r, r ∈ rs → (∀ g, (stqV r).ownBlock = some g → v.ownBlock ≠ some g) ∧ w.ownsRow base 81 2 (stqV r) r.l.length (r.l.flatMap stC)
def GivesAll (L : List (List Stp)) (w : World) (e : Ending) (w' : World) : Prop :=
  ∃ (A : Option Addr) (c : Nat) (rs : List Stq), e = .returned (.tuple #[.slice A rs.length c, .int .i64 0]) ∧ rs.map (·.l) = L ∧ Cells w' w'.heap.size A (rs.map stqV) ∧ (∀ r, r ∈ rs → Cells w' w'.heap.size r.A (r.l.flatMap stC)) ∧ Below w.heap.size w w'
theorem StqsAt.push {w w2 : World} {base : Nat} {v v2 : Value} {rs : List Stq} {r : Stq} (h : StqsAt w base v rs) (hr : (∀ g, (stqV r).ownBlock = some g → v.ownBlock ≠ some g) ∧ w.ownsRow base 81 2 (stqV r) r.l.length (r.l.flatMap stC))
    (hown : w2.ownsRow base 70 1 v2 (rs.length + 1) (rs.map stqV ++ [stqV r])) (hk : ∀ k, k < w.heap.size → v.ownBlock ≠ some k → w2.heap[k]? = w.heap[k]?) (hv : ∀ k, v2.ownBlock = some k → some k = v.ownBlock ∨ w.heap.size ≤ k) : StqsAt w2 base v2 (rs ++ [r]) := by
  refine ⟨by simpa using hown, fun q hq => ?_⟩
  have hq2 : (∀ g, (stqV q).ownBlock = some g → v.ownBlock ≠ some g) ∧ w.ownsRow base 81 2 (stqV q) q.l.length (q.l.flatMap stC) := by
    rcases List.mem_append.1 hq with hq | hq
    · exact h.each q hq
    · rw [List.mem_singleton] at hq
      subst hq
      exact hr
  obtain ⟨h3, h4⟩ := hq2
  refine ⟨fun g hg he => ?_, own_kept h4 (fun k hkk => ?_)⟩
  · have hlt := (h4.lt g hg).2
    rcases hv g he with h5 | h5
    · exact h3 g hg h5.symm
    · omega
  · exact hk k (h4.lt k hkk).2 (h3 k hkk)
theorem StqsAt.kept {w w2 : World} {base : Nat} {v : Value} {rs : List Stq} (h : StqsAt w base v rs) (hb : Below w.heap.size w w2) : StqsAt w2 base v rs :=
  ⟨own_kept h.own (fun k hk => hb.block k (h.own.lt k hk).2), fun r hr => ⟨(h.each r hr).1, own_kept (h.each r hr).2 (fun k hk => hb.block k ((h.each r hr).2.lt k hk).2)⟩⟩
theorem All_err (x : Dt) (w : World)
    (hLV : ∀ W, Below w.heap.size w W → Calls Tryz.prog 87 #[dtV x] W fun e w' => e = .returned (.bool false) ∧ Below W.heap.size W w') :
    Calls Tryz.prog 32 #[dtV x] w fun e w' => e = .returned (.tuple #[.slice none 0 0, .int .i64 1]) ∧ Below w.heap.size w w' := by
  have HLV := Lib.hid hLV
  clear hLV
  unfold dtV at HLV
  unfold dtV
  have hDB := Blk.new w 34 #[.string x.m.name, .slice x.mA x.mn x.mc, .slice x.hA x.hn x.hc, .int .i64 x.m.cover, .int .i64 x.m.aggr, .int .i64 x.m.poker, .slice x.bA x.bn x.bc, .slice x.rA x.rn x.rc, .slice x.jA x.jn x.jc, .slice x.dA x.dn x.dc, .int .i64 x.rule.num, .int .i64 x.rule.den, .int .i64 x.rule.pnum, .int .i64 x.rule.pden, .int .i64 x.rule.bnum, .int .i64 x.rule.bden, .int .i64 x.rule.lnum, .int .i64 x.rule.lden, .int .i64 x.rule.least]
  have hW1 : Below w.heap.size w (w.alloc (.cells #[.string x.m.name, .slice x.mA x.mn x.mc, .slice x.hA x.hn x.hc, .int .i64 x.m.cover, .int .i64 x.m.aggr, .int .i64 x.m.poker, .slice x.bA x.bn x.bc, .slice x.rA x.rn x.rc, .slice x.jA x.jn x.jc, .slice x.dA x.dn x.dc, .int .i64 x.rule.num, .int .i64 x.rule.den, .int .i64 x.rule.pnum, .int .i64 x.rule.pden, .int .i64 x.rule.bnum, .int .i64 x.rule.bden, .int .i64 x.rule.lnum, .int .i64 x.rule.lden, .int .i64 x.rule.least] 34)) := ba_alloc (Below.refl _ _) _
  go_enter Tryz.func32, Tryz.ntmps32
  go_upto_region 1 with fail
  generalize (w.alloc (.cells #[.string x.m.name, .slice x.mA x.mn x.mc, .slice x.hA x.hn x.hc, .int .i64 x.m.cover, .int .i64 x.m.aggr, .int .i64 x.m.poker, .slice x.bA x.bn x.bc, .slice x.rA x.rn x.rc, .slice x.jA x.jn x.jc, .slice x.dA x.dn x.dc, .int .i64 x.rule.num, .int .i64 x.rule.den, .int .i64 x.rule.pnum, .int .i64 x.rule.pden, .int .i64 x.rule.bnum, .int .i64 x.rule.bden, .int .i64 x.rule.lnum, .int .i64 x.rule.lden, .int .i64 x.rule.least] 34)) = W1 at *
  have HDB := Lib.hid hDB
  clear hDB
  go_wp2_with (first
    | ((with_reducible refine at_load 34 1 ?_); refine wpList_load_mid rfl 34 (.tmp 1) rfl _ _ rfl _ _ (HDB.out.via belr).range Tryz.underlying34 rfl (by kernel_rfl) ?_)
    | (go_at_call 87; (with_reducible refine (HLV.out _ belr).mono ?_); rintro e w2 ⟨rfl, hbw2⟩))
  go_ret2
  exact ⟨rfl, bel⟩
theorem range_snoc {α : Type} (L : Nat → α) (q : Nat) : (List.range (q + 1)).map L = (List.range q).map L ++ [L q] := by rw [List.range_succ, List.map_append]; rfl
set_option maxRecDepth 20000 in
set_option maxHeartbeats 4000000 in
theorem All_yes (x : Dt) (L : Nat → List Stp) (w : World) (hdn : x.dn ≤ 20) (hlen : ∀ k, (L k).length ≤ 10000)
    (hLV : ∀ W, Below w.heap.size w W → Calls Tryz.prog 87 #[dtV x] W fun e w' => e = .returned (.bool true) ∧ Below W.heap.size W w')
    (hOF : ∀ (k : Nat), k < x.dn → ∀ W, Below w.heap.size w W → Calls Tryz.prog 31 #[dtV x, .int .i64 k] W fun e w' => ∃ (A : Option Addr) (c : Nat), e = .returned (.tuple #[.slice A (L k).length c, .int .i64 0]) ∧
      w'.ownsRow W.heap.size 81 2 (.slice A (L k).length c) (L k).length ((L k).flatMap stC) ∧ Below W.heap.size W w') :
    Calls Tryz.prog 32 #[dtV x] w (GivesAll ((List.range x.dn).map L) w) := by
  have HLV := Lib.hid hLV
  have HOF := Lib.hid hOF
  have HLE := Lib.hid hlen
  clear hLV hOF hlen
  unfold dtV at HLV HOF
  unfold dtV
  have hDB := Blk.new w 34 #[.string x.m.name, .slice x.mA x.mn x.mc, .slice x.hA x.hn x.hc, .int .i64 x.m.cover, .int .i64 x.m.aggr, .int .i64 x.m.poker, .slice x.bA x.bn x.bc, .slice x.rA x.rn x.rc, .slice x.jA x.jn x.jc, .slice x.dA x.dn x.dc, .int .i64 x.rule.num, .int .i64 x.rule.den, .int .i64 x.rule.pnum, .int .i64 x.rule.pden, .int .i64 x.rule.bnum, .int .i64 x.rule.bden, .int .i64 x.rule.lnum, .int .i64 x.rule.lden, .int .i64 x.rule.least]
  have hW1 : Below w.heap.size w (w.alloc (.cells #[.string x.m.name, .slice x.mA x.mn x.mc, .slice x.hA x.hn x.hc, .int .i64 x.m.cover, .int .i64 x.m.aggr, .int .i64 x.m.poker, .slice x.bA x.bn x.bc, .slice x.rA x.rn x.rc, .slice x.jA x.jn x.jc, .slice x.dA x.dn x.dc, .int .i64 x.rule.num, .int .i64 x.rule.den, .int .i64 x.rule.pnum, .int .i64 x.rule.pden, .int .i64 x.rule.bnum, .int .i64 x.rule.bden, .int .i64 x.rule.lnum, .int .i64 x.rule.lden, .int .i64 x.rule.least] 34)) := ba_alloc (Below.refl _ _) _
  go_enter Tryz.func32, Tryz.ntmps32
  go_upto_region 1 with fail
  generalize (w.alloc (.cells #[.string x.m.name, .slice x.mA x.mn x.mc, .slice x.hA x.hn x.hc, .int .i64 x.m.cover, .int .i64 x.m.aggr, .int .i64 x.m.poker, .slice x.bA x.bn x.bc, .slice x.rA x.rn x.rc, .slice x.jA x.jn x.jc, .slice x.dA x.dn x.dc, .int .i64 x.rule.num, .int .i64 x.rule.den, .int .i64 x.rule.pnum, .int .i64 x.rule.pden, .int .i64 x.rule.bnum, .int .i64 x.rule.bden, .int .i64 x.rule.lnum, .int .i64 x.rule.lden, .int .i64 x.rule.least] 34)) = W1 at *
  have HDB := Lib.hid hDB
  clear hDB
  go_upto_region 3 with (first
    | ((with_reducible refine at_load 34 1 ?_); refine wpList_load_mid rfl 34 (.tmp 1) rfl _ _ rfl _ _ (HDB.out.via belr).range Tryz.underlying34 rfl (by kernel_rfl) ?_)
    | (go_at_call 87; (with_reducible refine (HLV.out _ belr).mono ?_); rintro e w1 ⟨rfl, hbw1⟩))
  have hw1 : Below w.heap.size w w1 := ba_via hbw1 hW1
  have hD1 := HDB.out.via hbw1
  have HD1 := Lib.hid hD1
  have d9 := hD1.cell 9
  have dl := hD1.lt
  simp only [List.getElem?_toArray, List.getElem?_cons_zero, List.getElem?_cons_succ] at d9
  clear hD1 HDB HLV hbw1 hW1
  go_wp2
  clear d9 dl
  go_loopw [4, 14] (fun v i wr => ∃ (q : Nat) (rs : List Stq), q ≤ x.dn ∧ i = .int .i64 q ∧ rs.map (·.l) = (List.range q).map L ∧ StqsAt wr w1.heap.size v rs ∧ Below w1.heap.size w1 wr) (fun _ i _ => x.dn - (intOf i).toNat)
  case atStart => exact ⟨0, [], Nat.zero_le _, rfl, rfl, ⟨World.ownsRow_nil _ _ _ _, fun r hr => by cases hr⟩, Below.refl _ _⟩
  case round =>
    obtain ⟨q, rs, hq, rfl, hrs, hC, hbr⟩ := hrel
    have hrl : rs.length = q := by
      have := congrArg List.length hrs
      simpa using this
    have HRS := Lib.hid hrs
    have HC := Lib.hid hC
    have HRL := Lib.hid hrl
    clear hrs hC hrl
    have hbwr : Below w.heap.size w wr := ba_via hbr hw1
    by_cases hlt : q < x.dn
    · have hqi : (q : Int) < x.dn := by omega
      have HDR := Lib.hid (HD1.out.via hbr)
      have HO := Lib.hid (fun (W : World) (hw : Below w.heap.size w W) => HOF.out q hlt W hw)
      have hlq := HLE.out q
      generalize hLq : L q = lq at *
      have HLQ := Lib.hid hLq
      clear hLq
      have hsr := hbr.size
      go_upto_region 10 with (first
        | ((with_reducible refine at_load 34 1 ?_); refine wpList_load_mid rfl 34 (.tmp 1) rfl _ _ rfl _ _ (HDR.out.via belr).range Tryz.underlying34 rfl (by kernel_rfl) ?_)
        | (go_at_call 31; (with_reducible refine (HO.out _ belr).mono ?_); rintro e w5 ⟨A5, c5, rfl, hO5, hbw5⟩))
      have HO5 := Lib.hid hO5
      have HC5 := Lib.hid (HC.out.kept hbw5)
      have hb15 : Below w1.heap.size w1 w5 := ba_via hbw5 hbr
      have h5s := hbw5.size
      have hnew : (∀ g, (stqV ⟨A5, c5, lq⟩).ownBlock = some g → u4.ownBlock ≠ some g) ∧ w5.ownsRow w1.heap.size 81 2 (stqV ⟨A5, c5, lq⟩) lq.length (lq.flatMap stC) := by
        refine ⟨fun g hg he => ?_, ?_⟩
        · have h1 := (hO5.lt g hg).1
          have h2 := (HC.out.own.lt g he).2
          omega
        · exact own_mono hO5 hsr
      have HNW := Lib.hid hnew
      clear hnew hO5
      have hbE1 : w1.heap.size ≤ w5.heap.size := by omega
      have hrl20 : rs.length ≤ 20 := by have := HRL.out; omega
      go_wp2_with (at_builtin; refine wpList_push rfl (.tmp 26) (.tmp 28) _ rfl elemStq ((show Row w5 w5 u4.ownBlock w1.heap.size 70 1 u4 rs.length (rs.map stqV) from ⟨HC5.out.own, fun k hk => .inl hk.symm⟩).alloc _) ((Exc.refl u4.ownBlock.toList w5).alloc _) (by intro k hk; simp [hk]) hbE1 rfl w5.heap.size 1 1 [.slice A5 lq.length c5] rfl rfl ?_ (by simp [Value.oneCell']) (by unfold maxLen; omega) (by omega) ?_; (· intro j u hu; exact one_new _ _ _ _ j u hu); intro v2 wE hRE hXE hOE)
      have hpush := StqsAt.push (r := ⟨A5, c5, lq⟩) (w2 := wE) (v2 := v2) HC5.out HNW.out hRE.own (fun k hk hne => (hOE k (by simp; omega) hne).trans (Below.heap_alloc _ _ k hk)) (fun k hk => hRE.place k hk)
      have hbE : Below w1.heap.size w1 wE := hb15.trans (hXE.below (by omega) (fun g hg => (HC5.out.own.lt g (by simpa using hg)).1))
      go_roundw
      case rel => exact ⟨q + 1, rs ++ [⟨A5, c5, lq⟩], by omega, by go_num, by rw [range_snoc, List.map_append, HRS.out, HLQ.out]; rfl, hpush, hbE⟩
      case measure => simp [intOf]; omega
    · have hqn : q = x.dn := by omega
      have hqi : ¬ ((q : Int) < x.dn) := by omega
      have hrl20 : rs.length ≤ 20 := by have := HRL.out; omega
      go_wp2
      obtain ⟨A5, c5, rfl, hnc5, hxx5, hC5⟩ := own_form HC.out.own (by unfold maxLen; omega)
      go_ret2
      refine ⟨A5, c5, rs, rfl, by rw [HRS.out, hqn], hC5, fun r hr => ?_, hbwr⟩
      have h1 := (HC.out.each r hr).2
      have h2 : r.l ∈ (List.range q).map L := by rw [← HRS.out]; exact List.mem_map.2 ⟨r, hr, rfl⟩
      obtain ⟨j, hj, hjl⟩ := List.mem_map.1 h2
      have h3 := HLE.out j
      rw [hjl] at h3
      exact (own_cells h1 (by unfold maxLen; omega)).1
def GivesSt (L : List Stp) (w : World) (e : Ending) (w' : World) : Prop :=
  ∃ (A : Option Addr) (c : Nat), e = .returned (.tuple #[.slice A L.length c, .int .i64 0]) ∧ w'.ownsRow w.heap.size 81 2 (.slice A L.length c) L.length (L.flatMap stC) ∧ Below w.heap.size w w'
section
variable {x : Dt} {ds : List Dm} {w : World}
theorem sup_steps (h : DtOk w x ds) (hlk : S.look x (S.dems ds) = true) (hC : (S.cOf x).length ≤ 100) (z : Bx) {rs : List Rod} (hrs : RodsOf x (S.nOf x) rs) : (S.supplyOf x rs (S.cOf x) z).length ≤ 200 := by
  have g := look_ok hlk
  have hp := places_len ((S.cOf x).map (S.schOf x rs) |>.filter (S.sup rs z))
  have hf := List.length_filter_le (S.sup rs z) ((S.cOf x).map (S.schOf x rs))
  rw [List.length_map] at hf
  have h1 := shortStF_len (S.ofL ((S.cOf x).map (S.schOf x rs) |>.filter (S.sup rs z)))
  have h2 := ofF_len ((S.cOf x).map (S.schOf x rs) |>.filter (S.sup rs z)) (S.places ((S.cOf x).map (S.schOf x rs) |>.filter (S.sup rs z)))
  unfold S.supplyOf S.shortSt
  unfold S.ofL at h1 ⊢
  omega
theorem sch_span {rs : List Rod} (hlk : S.look x (S.dems ds) = true) (hrs : RodsOf x (S.nOf x) rs) : ∀ c, c ∈ (S.cOf x).map (S.schOf x rs) → c.is = true → -1048576 ≤ c.lo ∧ c.lo < c.hi := fun c hc hi => by
  have g := look_ok hlk
  obtain ⟨l, hl, rfl⟩ := List.mem_map.1 hc
  obtain ⟨h0, _, h1⟩ := g.cin l hl
  have hpos : 0 < l.length := h0
  obtain ⟨a1, a2⟩ := h1 (l.headD 0) (by cases l with | nil => simp at hpos | cons a t => simp)
  obtain ⟨b1, b2⟩ := h1 (l.getLastD 0) (by cases l with | nil => simp at hpos | cons a t => rw [List.getLastD_cons]; exact List.getLastD_mem_cons)
  have ka : (l.headD 0).toNat < rs.length := by rw [hrs.len]; omega
  have kb : (l.getLastD 0).toNat < rs.length := by rw [hrs.len]; omega
  have hsp := spanL_at (x := x) (List.getElem?_eq_getElem ka) (List.getElem?_eq_getElem kb)
  change (S.spanL x rs l).2.2 = true at hi
  have hb := span_in (lo := (S.spanL x rs l).1) (hi := (S.spanL x rs l).2.1) g.rule (rod_fit (hrs.ok _ ka) g.laid) (rod_fit (hrs.ok _ kb) g.laid) (by rw [← hsp, ← hi])
  exact ⟨hb.1, hb.2.1⟩
def S.supplies (x : Dt) (ds : List Dm) (rs : List Rod) (i : Nat) : List Stp := match ds[i]? with | some d => S.supplyOf x rs (S.cOf x) d.zone | none => []
theorem good_All (h : DtOk w x ds) (hlk : S.look x (S.dems ds) = true) (hC : (S.cOf x).length ≤ 100) {rs : List Rod} (hrs : RodsOf x (S.nOf x) rs) :
    ∀ W, Below w.heap.size w W → Calls Tryz.prog 32 #[dtV x] W (GivesAll ((List.range x.dn).map (S.supplies x ds rs)) W) := fun W hw => by
  have g := look_ok hlk
  have h20 : ds.length ≤ 20 := by
    have := g.dems
    unfold S.dems at this
    simp only [Bool.and_eq_true, decide_eq_true_eq] at this
    exact this.1
  refine All_yes x (S.supplies x ds rs) W (by rw [← h.dems.len]; exact h20) (fun k => ?_) (fun V hV => hlk ▸ good_lv h V (hw.trans (hV.mono hw.size))) (fun k hk V hV => ?_)
  · unfold S.supplies
    split
    · exact Nat.le_trans (sup_steps h hlk hC _ hrs) (by decide)
    · simp
  · have hkx : k < ds.length := by rw [h.dems.len]; exact hk
    unfold S.supplies
    rw [List.getElem?_eq_getElem hkx]
    exact good_Of h hlk hC (List.getElem?_eq_getElem hkx) hrs V (hw.trans (hV.mono hw.size))
theorem bad_All (h : DtOk w x ds) (hlk : S.look x (S.dems ds) = false) : ∀ W, Below w.heap.size w W → Calls Tryz.prog 32 #[dtV x] W fun e w' => e = .returned (.tuple #[.slice none 0 0, .int .i64 1]) ∧ Below W.heap.size W w' :=
  fun W hw => All_err x W (fun V hV => hlk ▸ good_lv h V (hw.trans (hV.mono hw.size)))
end
theorem Blk.cells {w : World} {g : Nat} {t : TypeId} {cs : List Value} (h : Blk w g t cs.toArray) : Cells w w.heap.size (some ⟨g, 0, none⟩) cs := .inr ⟨g, 0, rfl, h.lt, fun j v hv => by
  rw [Nat.zero_add]
  exact (h.cell j).trans (by simpa using hv)⟩
theorem ex_le1 : 1 ≤ 9223372036854775807 := by decide
theorem ex_le0 : 0 ≤ 9223372036854775807 := by decide
def exBar2 (g : Nat) : BarR := ⟨⟨strA, 10, 1, 0, [1000]⟩, some ⟨g, 0, none⟩, 1, 1⟩
def exDt2 (gx g gb gr gd : Nat) : Dt where
  m := ⟨strM, [⟨⟨0, 0, 0⟩, ⟨1000, 200, 300⟩⟩], [], 0, 16, 50⟩
  mA := some ⟨gx, 0, none⟩
  mn := 1
  mc := 1
  hA := none
  hn := 0
  hc := 0
  bs := [exBar2 g]
  bA := some ⟨gb, 0, none⟩
  bn := 1
  bc := 1
  rs := [⟨strA, 1, 2, ⟨0, 50, 50⟩, ⟨0, 0, 0⟩, 1⟩]
  rA := some ⟨gr, 0, none⟩
  rn := 1
  rc := 1
  js := []
  jA := none
  jn := 0
  jc := 0
  dA := some ⟨gd, 0, none⟩
  dn := 1
  dc := 1
  rule := ⟨40, 1, 1, 1, 1, 1, 1, 1, 0⟩
def exDem : Dm := ⟨strD, ⟨⟨0, 0, 0⟩, ⟨0, 200, 100⟩⟩, [], none, 0, 0⟩
theorem ex2_dtV (gx g gb gr gd : Nat) : dtV (exDt2 gx g gb gr gd) = .agg (exL2 gx gb gr gd).toArray := rfl
theorem ex2_ok {w : World} {b gx g gb gr gd : Nat} (h : ExBlks2 w b gx g gb gr gd) : DtOk w (exDt2 gx g gb gr gd) [exDem] := by
  refine ⟨⟨⟨rfl, ex_le1, rfl, ex_le0, h.box.cells, Cells.nil⟩, ex_le1, ⟨rfl, ex_le1, h.bar.cells, fun r hr => ?_⟩, ⟨rfl, ex_le1, h.run.cells⟩, rfl, ex_le0, Cells.nil⟩, ⟨rfl, ex_le1, h.dem.cells, fun d hd => ?_, fun d hd => ?_⟩, Nat.le_refl _⟩
  · rw [show (exDt2 gx g gb gr gd).bs = [exBar2 g] from rfl, List.mem_singleton] at hr
    subst hr
    exact ⟨rfl, ex_le1, ex_le1, h.dims.cells⟩
  · rw [List.mem_singleton] at hd
    subst hd
    exact ⟨rfl, ex_le0, Cells.nil⟩
  · rw [List.mem_singleton] at hd
    subst hd
    exact ex_le1
theorem ex2_look (gx g gb gr gd : Nat) : S.look (exDt2 gx g gb gr gd) (S.dems [exDem]) = true := by kernel_rfl
theorem ex2_n (gx g gb gr gd : Nat) : S.nOf (exDt2 gx g gb gr gd) = 1 := by kernel_rfl
theorem ex2_c (gx g gb gr gd : Nat) : S.cOf (exDt2 gx g gb gr gd) = [[0]] := by kernel_rfl
def exRod (g : Nat) : Rod := ⟨exBar2 g, [⟨⟨0, 50, 50⟩, ⟨1000, 50, 50⟩⟩], none, 0, 0⟩
theorem ex2_rods (gx g gb gr gd : Nat) : RodsOf (exDt2 gx g gb gr gd) (S.nOf (exDt2 gx g gb gr gd)) [exRod g] := by
  have hla := (look_ok (ex2_look gx g gb gr gd)).laid
  obtain ⟨k, j, k0, r, hL⟩ := lies_of hla (i := 0) (by rw [show (S.mains (bars (exDt2 gx g gb gr gd).bs) (exDt2 gx g gb gr gd).rs).length = 1 from ex2_n gx g gb gr gd]; decide)
  have hk : k = 0 := by have := hL.st.lt; rw [show (exDt2 gx g gb gr gd).rs.length = 1 from rfl] at this; omega
  subst hk
  have hj : j = 0 := by have := hL.st.sum; rw [sumTo_zero] at this; omega
  subst hj
  have hk0 : k0 = 0 := by have := (List.getElem?_eq_some_iff.1 hL.get).1; rw [show (exDt2 gx g gb gr gd).bs.length = 1 from rfl] at this; omega
  subst hk0
  have hr : r = exBar2 g := by have := hL.get; rw [show (exDt2 gx g gb gr gd).bs[0]? = some (exBar2 g) from rfl] at this; injection this with this; exact this.symm
  subst hr
  refine ⟨(ex2_n gx g gb gr gd).symm, fun i hi => ?_⟩
  have hi0 : i = 0 := by simp at hi; exact hi
  subst hi0
  exact ⟨⟨0, 0, 0, hL, by kernel_rfl⟩, by kernel_rfl⟩
def exSch : SCh := ⟨none, 0, [0], 400, 600, true, 7854⟩
theorem ex2_sch (gx g gb gr gd : Nat) : S.schOf (exDt2 gx g gb gr gd) [exRod g] [0] = exSch := by kernel_rfl
theorem ex2_sup (g : Nat) : S.sup [exRod g] exDem.zone exSch = true := by kernel_rfl
theorem ex2_at (gx g gb gr gd : Nat) : S.supplyAt (exDt2 gx g gb gr gd) [exRod g] (S.cOf (exDt2 gx g gb gr gd)) exDem.zone 599 = 7854 := by
  unfold S.supplyAt
  rw [ex2_c, List.map_cons, List.map_nil, ex2_sch]
  kernel_rfl
theorem ex2_sort : S.sortI [400, 600] = [400, 600] := by
  unfold S.sortI
  exact List.mergeSort_of_pairwise (by decide)
theorem ex2_of (gx g gb gr gd : Nat) : S.supplyOf (exDt2 gx g gb gr gd) [exRod g] (S.cOf (exDt2 gx g gb gr gd)) exDem.zone = [⟨400, 7854⟩, ⟨600, 0⟩] := by
  unfold S.supplyOf
  rw [ex2_c, List.map_cons, List.map_nil, ex2_sch, List.filter_cons, if_pos (ex2_sup g), List.filter_nil]
  unfold S.ofL S.places
  rw [show S.ends2 [exSch] = [400, 600] from rfl, ex2_sort]
  kernel_rfl
set_option maxHeartbeats 2000000 in
theorem eqSt_yes (l : List Stp) (A : Option Addr) (n c : Nat) (A' : Option Addr) (c' : Nat) (B : Nat) (w : World) (hB : B ≤ w.heap.size) (hA : StepsAt w B A n l) (hA' : StepsAt w B A' n l) :
    Calls Tryz.prog 35 #[.slice A n c, .slice A' n c'] w fun e w' => e = .returned (.bool true) ∧ Below w.heap.size w w' := by
  have HN := Lib.hid hA.len
  have hmx := hA.max
  have hs := hA.cells
  have hs' := hA'.cells
  clear hA hA'
  go_enter Tryz.func35, Tryz.ntmps35
  go_wp2
  go_loopw [13] (fun i wr => ∃ k : Nat, k ≤ n ∧ i = .int .i64 k ∧ Below w.heap.size w wr) (fun i _ => n - (intOf i).toNat)
  case atStart => exact ⟨0, Nat.zero_le _, rfl, Below.refl _ _⟩
  case round =>
    obtain ⟨k, hk, rfl, hbr⟩ := hrel
    by_cases hlt : k < n
    · have hkx : k < l.length := by have := HN.out; omega
      have h1 := hs.below (hbr.mono hB)
      have h2 := hs'.below (hbr.mono hB)
      obtain ⟨b, o, rfl, hbB, hx⟩ := h1.at_ (by rw [flat_len stC 2 stC_len]; omega)
      clear hx
      obtain ⟨b', o', rfl, hbB', hx⟩ := h2.at_ (by rw [flat_len stC 2 stC_len]; omega)
      clear hx
      have c0 := h1.row0 stC_len hkx rfl
      have c1 := h1.rowj stC_len hkx 1 rfl
      have d0 := h2.row0 stC_len hkx rfl
      have d1 := h2.rowj stC_len hkx 1 rfl
      clear h1 h2
      have hbl : b < wr.heap.size := by have := hbr.size; omega
      have hbl' : b' < wr.heap.size := by have := hbr.size; omega
      have hki : (k : Int) < n := by omega
      generalize l[k] = r at *
      go_wp2
      go_quiet (fail)
      go_wp2
      go_roundw
      case rel => exact ⟨k + 1, by omega, by go_num, bel⟩
      case measure => simp [intOf]; omega
    · have hki : ¬ ((k : Int) < n) := by omega
      go_wp2
      go_ret
      exact ⟨rfl, hbr⟩
section
variable {gx g gb gr gd b : Nat} {w : World}
theorem ex2_anch (h : ExBlks2 w b gx g gb gr gd) (W : World) (hw : Below w.heap.size w W) : Calls Tryz.prog 40 #[.agg (exL2 gx gb gr gd).toArray, .int .i64 0] W fun e w' => e = .returned (.tuple #[.agg #[.int .i64 400, .int .i64 600], .int .i64 0]) ∧ Below W.heap.size W w' := by
  rw [← ex2_dtV gx g gb gr gd]
  have hc := ex2_c gx g gb gr gd
  have h0 : 0 < (S.cOf (exDt2 gx g gb gr gd)).length := by rw [hc]; decide
  refine (Anch_any (exDt2 gx g gb gr gd) (S.cOf (exDt2 gx g gb gr gd)) (S.nOf (exDt2 gx g gb gr gd)) 0 W (by rw [hc]; decide) h0 (fun V hV => good_chains (ex2_ok h) (ex2_look gx g gb gr gd) V (hw.trans (hV.mono hw.size)))).mono ?_
  rintro e w' ⟨rs, c, rfl, h1, h2, h3, h4⟩
  have hb := sch_bare ⟨h1, h2⟩ (ex2_rods gx g gb gr gd) h3
  rw [show (S.cOf (exDt2 gx g gb gr gd))[0] = [0] by simp [hc], ex2_sch] at hb
  have e1 : c.is = true := congrArg SCh.is hb
  have e2 : c.lo = 400 := congrArg SCh.lo hb
  have e3 : c.hi = 600 := congrArg SCh.hi hb
  rw [e1, e2, e3]
  exact ⟨rfl, h4⟩
theorem ex2_Of (h : ExBlks2 w b gx g gb gr gd) (W : World) (hw : Below w.heap.size w W) : Calls Tryz.prog 31 #[.agg (exL2 gx gb gr gd).toArray, .int .i64 0] W fun e w' => ∃ (A : Option Addr) (c : Nat), e = .returned (.tuple #[.slice A 2 c, .int .i64 0]) ∧
    StepsAt w' w'.heap.size A 2 [⟨400, 7854⟩, ⟨600, 0⟩] ∧ Below W.heap.size W w' := by
  rw [← ex2_dtV gx g gb gr gd]
  refine (good_Of (ex2_ok h) (ex2_look gx g gb gr gd) (by rw [ex2_c]; decide) (k := 0) (d := exDem) rfl (ex2_rods gx g gb gr gd) W hw).mono ?_
  rintro e w' ⟨A, c, rfl, h1, h2⟩
  rw [ex2_of] at h1 ⊢
  exact ⟨A, c, rfl, ⟨rfl, by decide, (own_cells h1 (by unfold maxLen; decide)).1⟩, h2⟩
theorem ex2_At (h : ExBlks2 w b gx g gb gr gd) (W : World) (hw : Below w.heap.size w W) : Calls Tryz.prog 30 #[.agg (exL2 gx gb gr gd).toArray, .int .i64 0, .int .i64 599] W fun e w' => e = .returned (.tuple #[.int .i64 7854, .int .i64 0]) ∧ Below W.heap.size W w' := by
  rw [← ex2_dtV gx g gb gr gd]
  have := good_At (ex2_ok h) (ex2_look gx g gb gr gd) (k := 0) (d := exDem) rfl (p := 599) (by decide) (ex2_rods gx g gb gr gd) W hw
  rw [ex2_at] at this
  exact this
end
set_option maxHeartbeats 2000000 in
theorem awake26_any (w : World) : Calls Tryz.prog 28 #[] w fun e w' => e = .returned (.bool true) ∧ Below w.heap.size w w' := by
  have HEX := Lib.hid (fun w => example26_any w)
  go_enter Tryz.func28, Tryz.ntmps28
  go_upto_region 2 with (first
    | (go_at_call 80; (with_reducible refine (HEX.out _).mono ?_); rintro e w1 ⟨gx1, g1, gb1, gr1, gd1, rfl, hE1, hb1⟩)
    | (go_at_call 40; (with_reducible refine (ex2_anch hE1 _ (Below.refl _ _)).mono ?_); rintro e w2 ⟨rfl, hb2⟩))
  have hS2 := Blk.new w2 45 #[.int .i64 400, .int .i64 600]
  have hW2 : Below w.heap.size w (w2.alloc (.cells #[.int .i64 400, .int .i64 600] 45)) := ba_alloc (ba_via hb2 hb1) _
  have hl2 : w2.heap.size < (w2.alloc (.cells #[.int .i64 400, .int .i64 600] 45)).heap.size := hS2.lt
  generalize (w2.alloc (.cells #[.int .i64 400, .int .i64 600] 45)) = W2 at *
  generalize w2.heap.size = gs at *
  clear hE1 hb1 hb2
  go_upto_region 3 with (first
    | (go_at_call 80; (with_reducible refine (HEX.out _).mono ?_); rintro e w3 ⟨gx3, g3, gb3, gr3, gd3, rfl, hE3, hb3⟩)
    | (go_at_call 31; (with_reducible refine (ex2_Of hE3 _ (Below.refl _ _)).mono ?_); rintro e w4 ⟨A4, c4, rfl, hs4, hb4⟩))
  have hW4 : Below W2.heap.size W2 w4 := ba_via hb4 hb3
  have hS4 := hS2.via hW4
  clear hE3
  go_upto_region 4 with (first
    | (go_at_call 80; (with_reducible refine (HEX.out _).mono ?_); rintro e w5 ⟨gx5, g5, gb5, gr5, gd5, rfl, hE5, hb5⟩)
    | (go_at_call 30; (with_reducible refine (ex2_At hE5 _ (Below.refl _ _)).mono ?_); rintro e w6 ⟨rfl, hb6⟩))
  have hW6 : Below w4.heap.size w4 w6 := ba_via hb6 hb5
  have hS6 := hS4.via hW6
  have hs6 := hs4.below hW6
  have s0 := hS6.cell 0
  have s1 := hS6.cell 1
  have sl := hS6.lt
  simp only [List.getElem?_toArray, List.getElem?_cons_zero, List.getElem?_cons_succ] at s0 s1
  have hL := Blk.new w6 81 #[.int .i64 400, .int .i64 7854, .int .i64 600, .int .i64 0]
  have HEQ := Lib.hid (show Calls Tryz.prog 35 #[.slice A4 2 c4, .slice (some ⟨w6.heap.size, 0, none⟩) 2 2] (w6.alloc (.cells #[.int .i64 400, .int .i64 7854, .int .i64 600, .int .i64 0] 81)) (fun e w' => e = .returned (.bool true) ∧ Below (w6.alloc (.cells #[.int .i64 400, .int .i64 7854, .int .i64 600, .int .i64 0] 81)).heap.size (w6.alloc (.cells #[.int .i64 400, .int .i64 7854, .int .i64 600, .int .i64 0] 81)) w') from
    eqSt_yes [⟨400, 7854⟩, ⟨600, 0⟩] A4 2 c4 (some ⟨w6.heap.size, 0, none⟩) 2 (w6.alloc (.cells #[.int .i64 400, .int .i64 7854, .int .i64 600, .int .i64 0] 81)).heap.size _ (Nat.le_refl _) ⟨rfl, by decide, ((hs6.cells.mono (Nat.le_trans (Nat.le_refl _) (hW6.size))).alloc (Nat.le_refl _) _).mono (by simp)⟩ ⟨rfl, by decide, hL.cells⟩)
  have hbw6 : Below w.heap.size w w6 := ba_via hW6 (ba_via hW4 hW2)
  clear hE5 hS2 hS4 hL hs4 hs6 hb3 hb4 hb5 hb6 hS6
  go_wp2_with (go_at_call 35; (with_reducible refine HEQ.out.mono ?_); rintro e w7 ⟨rfl, hb7⟩)
  go_ret
  exact ⟨rfl, ba_via hb7 (ba_alloc hbw6 _)⟩
theorem few_any (x : Dt) (t : Bool) (w : World)
    (hSM : ∀ W, Below w.heap.size w W → Calls Tryz.prog 13 #[dtV x] W fun e w' => e = .returned (.bool t) ∧ Below W.heap.size W w') :
    Calls Tryz.prog 29 #[dtV x] w fun e w' => e = .returned (.bool t) ∧ Below w.heap.size w w' := by
  have HSM := Lib.hid hSM
  clear hSM
  unfold dtV at HSM
  unfold dtV
  have hDB := Blk.new w 34 #[.string x.m.name, .slice x.mA x.mn x.mc, .slice x.hA x.hn x.hc, .int .i64 x.m.cover, .int .i64 x.m.aggr, .int .i64 x.m.poker, .slice x.bA x.bn x.bc, .slice x.rA x.rn x.rc, .slice x.jA x.jn x.jc, .slice x.dA x.dn x.dc, .int .i64 x.rule.num, .int .i64 x.rule.den, .int .i64 x.rule.pnum, .int .i64 x.rule.pden, .int .i64 x.rule.bnum, .int .i64 x.rule.bden, .int .i64 x.rule.lnum, .int .i64 x.rule.lden, .int .i64 x.rule.least]
  have hW1 : Below w.heap.size w (w.alloc (.cells #[.string x.m.name, .slice x.mA x.mn x.mc, .slice x.hA x.hn x.hc, .int .i64 x.m.cover, .int .i64 x.m.aggr, .int .i64 x.m.poker, .slice x.bA x.bn x.bc, .slice x.rA x.rn x.rc, .slice x.jA x.jn x.jc, .slice x.dA x.dn x.dc, .int .i64 x.rule.num, .int .i64 x.rule.den, .int .i64 x.rule.pnum, .int .i64 x.rule.pden, .int .i64 x.rule.bnum, .int .i64 x.rule.bden, .int .i64 x.rule.lnum, .int .i64 x.rule.lden, .int .i64 x.rule.least] 34)) := ba_alloc (Below.refl _ _) _
  go_enter Tryz.func29, Tryz.ntmps29
  go_upto_region 1 with fail
  generalize (w.alloc (.cells #[.string x.m.name, .slice x.mA x.mn x.mc, .slice x.hA x.hn x.hc, .int .i64 x.m.cover, .int .i64 x.m.aggr, .int .i64 x.m.poker, .slice x.bA x.bn x.bc, .slice x.rA x.rn x.rc, .slice x.jA x.jn x.jc, .slice x.dA x.dn x.dc, .int .i64 x.rule.num, .int .i64 x.rule.den, .int .i64 x.rule.pnum, .int .i64 x.rule.pden, .int .i64 x.rule.bnum, .int .i64 x.rule.bden, .int .i64 x.rule.lnum, .int .i64 x.rule.lden, .int .i64 x.rule.least] 34)) = W1 at *
  have HDB := Lib.hid hDB
  clear hDB
  go_wp2_with (first
    | ((with_reducible refine at_load 34 1 ?_); refine wpList_load_mid rfl 34 (.tmp 1) rfl _ _ rfl _ _ (HDB.out.via belr).range Tryz.underlying34 rfl (by kernel_rfl) ?_)
    | (go_at_call 13; (with_reducible refine (HSM.out _ belr).mono ?_); rintro e w2 ⟨rfl, hbw2⟩))
  go_ret
  exact ⟨rfl, bel⟩
structure BarSays (x : Dt) (n : Nat) (dm : Dm) (Z : Int → Int) (M : Int → Bx) (T I : Int → Bool) (w : World) : Prop where
  size : ∀ i, 0 ≤ i ∧ i < (n : Int) → ∀ W, Below w.heap.size w W → Calls Tryz.prog 47 #[dtV x, .int .i64 i] W fun e w' => e = .returned (.int .i64 (Z i)) ∧ Below W.heap.size W w'
  ok : ∀ i, 0 ≤ i ∧ i < (n : Int) → S.size (Z i) = true ∧ 1 ≤ S.steelArea (Z i) ∧ S.steelArea (Z i) ≤ 1000000
  legY : ∀ i, 0 ≤ i ∧ i < (n : Int) → T i = true → ∀ W, Below w.heap.size w W → Calls Tryz.prog 39 #[dtV x, .int .i64 i] W fun e w' => e = .returned (.tuple #[boxV (M i), .int .i64 0]) ∧ Below W.heap.size W w'
  legN : ∀ i, 0 ≤ i ∧ i < (n : Int) → T i = false → ∀ W, Below w.heap.size w W → Calls Tryz.prog 39 #[dtV x, .int .i64 i] W fun e w' => e = .returned (.tuple #[boxV (M i), .int .i64 12]) ∧ Below W.heap.size W w'
  inn : ∀ i, 0 ≤ i ∧ i < (n : Int) → T i = true → ∀ W, Below w.heap.size w W → Calls Tryz.prog 52 #[dmV dm, boxV (M i)] W fun e w' => e = .returned (.tuple #[.bool (I i), .int .i64 0]) ∧ Below W.heap.size W w'
theorem sch_self {x : Dt} {n : Nat} {rs : List Rod} (hrs : RodsOf x n rs) {l : List Int} (h0 : 0 < l.length) (hin : ∀ i, i ∈ l → 0 ≤ i ∧ i < (n : Int)) : SchOk x rs l (S.schOf x rs l) := by
  obtain ⟨a1, a2⟩ := hin (l.headD 0) (by cases l with | nil => simp at h0 | cons a t => simp)
  obtain ⟨b1, b2⟩ := hin (l.getLastD 0) (by cases l with | nil => simp at h0 | cons a t => rw [List.getLastD_cons]; exact List.getLastD_mem_cons)
  have ka : (l.headD 0).toNat < rs.length := by rw [hrs.len]; omega
  have kb : (l.getLastD 0).toNat < rs.length := by rw [hrs.len]; omega
  exact ⟨rfl, rfl, _, _, List.getElem?_eq_getElem ka, List.getElem?_eq_getElem kb, spanL_at (x := x) (List.getElem?_eq_getElem ka) (List.getElem?_eq_getElem kb)⟩
theorem sup_valid {x : Dt} {ds : List Dm} {rs : List Rod} (hlk : S.look x (S.dems ds) = true) (hC : (S.cOf x).length ≤ 100) (hrs : RodsOf x (S.nOf x) rs) (z : Bx) : S.steps (S.supplyOf x rs (S.cOf x) z) = true := by
  have g := look_ok hlk
  have h := of_steps hC g.cin g.laid g.rule z rs ((S.cOf x).map (S.schOf x rs)) hrs (by simp) (fun i hi hj => by
    obtain ⟨h0, _, h1⟩ := g.cin _ (List.getElem_mem hj)
    rw [List.getElem_map]
    exact sch_self hrs h0 h1)
  unfold S.supplyOf
  rw [short_ofL, ← ofL_sh]
  exact h
section
variable {x : Dt} {ds : List Dm} {w : World}
end
end Go.Proofs.YtffkmgjmlahfpaaGreat
