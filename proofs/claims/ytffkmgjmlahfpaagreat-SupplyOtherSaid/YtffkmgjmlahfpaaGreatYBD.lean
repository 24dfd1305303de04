/- Lemmas. -/
import Derived.WalkKit
import Derived.ProofKit
import Derived.Lib.Hide
import Derived.BigQuiet
import Derived.Handy
import Derived.Maps.AppendAt
import Derived.Test.YtffkmgjmlahfpaaGreatRows
import Derived.StillTail
import Derived.BigRegion
import Derived.Deep.CutRange
import Derived.Deep.RegionHeld3
import Derived.Maps.OwnOps
import Derived.Maps.OwnSet
import Derived.Deep.MidRow
import Derived.Lib.SliceRun
import Derived.Shelf.SlicesQ.Reverse
import Derived.Ground.SlgnProg
import Derived.Deep.LoopGhost
import Derived.RangeFuncNested
import Derived.RangeFuncBound
import Derived.RangeFuncCalls
import Derived.RangeFuncLeaves
import Derived.RangeFuncFrom
import Derived.OwnWalkIn
import Derived.TacticsInMore
import Derived.LoopNIn
import Derived.LoopIn
import Derived.Shelf.Abstract
import Derived.Shelf.Sort.Plain
import Derived.Shelf.Slices.CompactI
import Derived.Shelf.Slices.In.SortNone
import Derived.Sort.OwnSortedInts
import Derived.Lib.RowBridge
import Derived.Ground.NamesProg
import Derived.Ground.Names2Prog
import Derived.OrdersHeld
import Derived.Laws.OwnMore
import Derived.Test.YtffkmgjmlahfpaaGreatYAC
import Derived.Test.YtffkmgjmlahfpaaGreatYAL
import Derived.Test.YtffkmgjmlahfpaaGreatYD
import Derived.Test.YtffkmgjmlahfpaaGreatYC
import Derived.Test.YtffkmgjmlahfpaaGreatYA
import Derived.Test.YtffkmgjmlahfpaaGreatYX
import Derived.Test.YtffkmgjmlahfpaaGreatYW
import Derived.Test.YtffkmgjmlahfpaaGreatYQ
import Derived.Test.YtffkmgjmlahfpaaGreatYM
import Derived.Test.YtffkmgjmlahfpaaGreatYL
import Derived.Test.YtffkmgjmlahfpaaGreatYI
import Derived.Test.YtffkmgjmlahfpaaGreatYG
import Derived.Test.YtffkmgjmlahfpaaGreatYF
import Derived.Test.YtffkmgjmlahfpaaGreatYB
import Derived.Test.YtffkmgjmlahfpaaGreatYH
import Derived.Test.YtffkmgjmlahfpaaGreatYE
import Derived.Test.YtffkmgjmlahfpaaGreatYJ
import Derived.Test.YtffkmgjmlahfpaaGreatYK
import Derived.Test.YtffkmgjmlahfpaaGreatYP
import Derived.Test.YtffkmgjmlahfpaaGreatYO
import Derived.Test.YtffkmgjmlahfpaaGreatYN
import Derived.Test.YtffkmgjmlahfpaaGreatYAX
import Derived.Test.YtffkmgjmlahfpaaGreatYAU
import Derived.Test.YtffkmgjmlahfpaaGreatYAS
import Derived.Test.YtffkmgjmlahfpaaGreatYAQ
import Derived.Test.YtffkmgjmlahfpaaGreatYAE
import Derived.Test.YtffkmgjmlahfpaaGreatYY
import Derived.Test.YtffkmgjmlahfpaaGreatYAA
import Derived.Test.YtffkmgjmlahfpaaGreatYT
import Derived.Test.YtffkmgjmlahfpaaGreatYAP
import Derived.Test.YtffkmgjmlahfpaaGreatYAM
import Derived.Test.YtffkmgjmlahfpaaGreatYAH
import Derived.Test.YtffkmgjmlahfpaaGreatYR
import Derived.Test.YtffkmgjmlahfpaaGreatYAF
import Derived.Test.YtffkmgjmlahfpaaGreatYAG
import Derived.Test.YtffkmgjmlahfpaaGreatYAI
import Derived.Test.YtffkmgjmlahfpaaGreatYAN
import Derived.Test.YtffkmgjmlahfpaaGreatYAO
import Derived.Test.YtffkmgjmlahfpaaGreatYAJ
set_option linter.unusedVariables false
set_option linter.unusedSimpArgs false
namespace Go.Proofs
open Go.Shelf Go.Lib
def Tryz.reverseDm_ren : Go.Shelf.Ren := ⟨fun | 35 => 49 | n => n, fun | 22 => 30 | 23 => 103 | 3 => 3 | 4 => 4 | 0 => 0 | n => n, fun | n => n⟩
theorem Tryz.reverseDm : Go.Proofs.SlLaysE0.n35 Tryz.prog Tryz.reverseDm_ren := {
  mixed := by kernel_rfl
  f35 := ⟨Tryz.f49.name, by decide, Tryz.func49.trans (congrArg some (by kernel_rfl))⟩
  t0 := Tryz.underlying0
  a0 := Tryz.isAgg0
  z0 := Tryz.sizeOf0
  v0 := Tryz.zeroValue0
  t3 := Tryz.underlying3
  a3 := Tryz.isAgg3
  z3 := Tryz.sizeOf3
  v3 := Tryz.zeroValue3
  t4 := Tryz.underlying4
  a4 := Tryz.isAgg4
  z4 := Tryz.sizeOf4
  v4 := Tryz.zeroValue4
  t22 := Tryz.underlying30
  a22 := Tryz.isAgg30
  z22 := Tryz.sizeOf30
  v22 := Tryz.zeroValue30 }
end Go.Proofs
namespace Go.Proofs.YtffkmgjmlahfpaaGreat
open Go.RowKit
theorem elemDm : Elem Tryz.prog 30 103 (.agg #[.string ⟨#[]⟩, .int .i64 0, .int .i64 0, .int .i64 0, .int .i64 0, .int .i64 0, .int .i64 0, .slice none 0 0]) 8 88 := ⟨Tryz.underlying30, by kernel_rfl, rfl, by decide⟩
theorem dmC_one (d : Dm) : ∀ v ∈ dmC d, v.oneCell' = true := by
  intro v hv
  simp at hv
  rcases hv with rfl | rfl | rfl | rfl | rfl | rfl | rfl | rfl <;> rfl
def GivesDm (n : Nat) (xs : List Dm) (w : World) (e : Ending) (w' : World) : Prop :=
  ∃ A c, e = .returned (.slice A n c) ∧ n ≤ c ∧ c ≤ maxLen ∧ w'.ownsRow w.heap.size 103 8 (.slice A n c) n (xs.flatMap dmC) ∧ Below w.heap.size w w'
theorem cloneD_any (A : Option Addr) (n c : Nat) (l : List Dm) (B : Nat) (w : World) (hB : B ≤ w.heap.size) (hn : l.length = n) (h2 : n ≤ 1000) (hx : Cells w B A (l.flatMap dmC)) :
    Calls Tryz.prog 48 #[.slice A n c] w (GivesDm n l w) := by
  obtain ⟨i0, hi, hz0, hz1, hz2⟩ := info_parts elemDm.info
  have q22 : ∀ (w : World) (a : Option Addr) (n c n' c' : Nat), (binOp .eql 30 (.slice a n c) (.slice none n' c')).run Tryz.prog w = .ok (.bool a.isNone) w := fun w a n c n' c' => Lib.run_eql_slice_nil w _ _ a n c n' c' Tryz.underlying30
  have HX := Lib.hid hx
  have HN := Lib.hid hn
  cases A with
  | none =>
    have hl : l = [] := by
      rcases hx with h | ⟨b, o, h, _⟩
      · cases l with
        | nil => rfl
        | cons a l => simp at h
      · cases h
    subst hl
    obtain rfl : n = 0 := by simpa using hn.symm
    clear hx hn
    go_enter Tryz.func48, Tryz.ntmps48
    go_wp2
    go_ret
    exact ⟨none, 0, rfl, Nat.le_refl _, Nat.zero_le _, World.ownsRow_nil _ _ _ _, bel⟩
  | some a =>
    clear hx hn
    go_enter Tryz.func48, Tryz.ntmps48
    go_wp2_with (at_builtin; refine wpList_append_own_at _ rfl _ _ 30 rfl w.heap.size 103 i0 (.agg #[.string ⟨#[]⟩, .int .i64 0, .int .i64 0, .int .i64 0, .int .i64 0, .int .i64 0, .int .i64 0, .slice none 0 0]) 8 88 Tryz.underlying30 hi hz0 hz1 hz2 rfl (by decide) _ _ _ rfl (World.ownsRow_made w #[] 0 (Nat.le_refl _) (Nat.zero_le _) rfl) a n c (l.flatMap dmC) rfl ?qc1 ?qc2 ?qc3 ?qc4 ?qc5 ?qc6 ?_)
    case qc1 => rw [flat_len dmC 8 dmC_len, HN.out]
    case qc2 =>
      intro j u hj
      have hlen : 0 < (l.flatMap dmC).length := by
        rcases Nat.eq_zero_or_pos (l.flatMap dmC).length with h | h
        · rw [List.length_eq_zero_iff.1 h] at hj; simp at hj
        · exact h
      obtain ⟨b, o, he, _, _⟩ := HX.out.at_ hlen
      have hx2 := HX.out
      rw [he] at hx2
      have he2 : a = ⟨b, o, none⟩ := Option.some.inj he
      have e : (Addr.add ⟨b, o, none⟩ j) = ⟨b, o + j, none⟩ := by unfold Addr.add; split <;> simp_all
      rw [he2, e]
      exact (hx2.alloc hB _).get hj
    case qc3 => intro u hu; obtain ⟨s, _, hs⟩ := List.mem_flatMap.1 hu; exact dmC_one s u hs
    case qc4 => unfold maxLen; omega
    case qc5 => omega
    case qc6 => simp
    intro v' w1 hown hgrow hnil hat
    have hbel : Below w.heap.size w w1 := ((Below.refl _ w).alloc (Nat.le_refl _) _).grown hgrow (by simp) (by intro k hk; simp [Value.ownBlock] at hk; omega)
    obtain ⟨A5, c5, rfl, hc1, hc2, _⟩ := own_form hown (by unfold maxLen; omega)
    go_wp2
    go_ret
    exact ⟨A5, c5, rfl, hc1, hc2, by simpa using hown, hbel⟩
instance dmRevI : Inhabited Dm := ⟨⟨⟨#[]⟩, ⟨⟨0, 0, 0⟩, ⟨0, 0, 0⟩⟩, [], none, 0, 0⟩⟩
theorem flatK_dems (l : List Dm) : (Sort.flatK dmC 8 l.toArray).toList = l.flatMap dmC := by
  apply List.ext_getElem?
  intro t
  by_cases ht : t < l.length * 8
  · have h1 : t / 8 < l.length := by omega
    have h2 := flat_get dmC 8 dmC_len l (t / 8) h1 (t % 8) (by omega)
    rw [show t / 8 * 8 + t % 8 = t by omega] at h2
    rw [h2]
    have h3 : t < (Sort.flatK dmC 8 l.toArray).size := by simpa using ht
    have h4 := Sort.get_flatK dmC 8 l.toArray t (by simpa using ht)
    rw [getElem!_pos (Sort.flatK dmC 8 l.toArray) t h3] at h4
    rw [Array.getElem?_toList, Array.getElem?_eq_getElem h3, h4]
    have h5 : l.toArray[t / 8]! = l[t / 8] := by rw [getElem!_pos l.toArray (t / 8) (by simpa using h1)]; simp
    rw [h5]
    have h6 : t % 8 < (dmC l[t / 8]).length := by rw [dmC_len]; omega
    rw [getElem!_pos (dmC l[t / 8]) (t % 8) h6, List.getElem?_eq_getElem h6]
  · rw [List.getElem?_eq_none (by simp; omega), List.getElem?_eq_none (by rw [flat_len dmC 8 dmC_len]; omega)]
theorem revD_any (A : Option Addr) (n c : Nat) (l : List Dm) (B : Nat) (w : World) (hB : B ≤ w.heap.size) (hn : l.length = n) (hm : n ≤ 1000) (ho : w.ownsRow B 103 8 (.slice A n c) n (l.flatMap dmC)) :
    Calls Tryz.prog 49 #[.slice A n c] w fun e w' => e = .returned (.tuple #[]) ∧ w'.ownsRow B 103 8 (.slice A n c) n (l.reverse.flatMap dmC) ∧ Below B w w' := by
  by_cases h0 : n = 0
  · subst h0
    have hl : l = [] := List.length_eq_zero_iff.1 hn
    subst hl
    refine (AnyQ.slices_Reverse_empty Tryz.reverseDm A c w).mono ?_
    rintro e w' ⟨rfl, rfl⟩
    exact ⟨rfl, ho, Below.refl _ _⟩
  · obtain ⟨hlen, ho2⟩ := ho
    rcases ho2 with ⟨_, h⟩ | ⟨g, cap, cur, hv, hbg, hg, hnc, hcm, hcs, htake⟩
    · exact absurd h h0
    · injection hv with hA _ hc
      subst hA hc
      have hH : Sort.HoldsK dmC 8 w g 0 l.toArray := by
        intro j hj
        have hj2 : j < l.length * 8 := by simpa using hj
        have hjl : j < (Sort.flatK dmC 8 l.toArray).size := by simpa using hj2
        refine ⟨?_, frozen_of_row w g _ cur _ hg⟩
        rw [Nat.zero_add, cell_of_row w g j cur _ (0, 0) hg]
        have h1 : cur[j]? = (Sort.flatK dmC 8 l.toArray)[j]? := by
          have h2 : cur.toList[j]? = (l.flatMap dmC)[j]? := by
            rw [← htake, List.getElem?_take, if_pos (by omega)]
          rw [← flatK_dems] at h2
          simpa using h2
        rw [h1, getElem!_pos (Sort.flatK dmC 8 l.toArray) j hjl, Array.getElem?_eq_getElem hjl]
        rfl
      have hK := AnyQ.slices_Reverse Tryz.reverseDm 8 Tryz.isAgg103 Tryz.sizeOf103 dmC dmC_len dmC_one g 0 c l.toArray w hH (by simp; omega)
      rw [show l.toArray.size = n by simpa using hn] at hK
      refine hK.mono ?_
      rintro e w' ⟨rfl, k, rfl⟩
      have hsz : (Sort.putCells id 0 (Sort.flatK dmC 8 l.toArray.reverse) cur).size = cur.size := by simp [Sort.putCells]
      refine ⟨rfl, ⟨by simpa [flat_len dmC 8 dmC_len] using hlen, .inr ⟨g, c, Sort.putCells id 0 (Sort.flatK dmC 8 l.toArray.reverse) cur, rfl, hbg, ?_, hnc, hcm, by rw [hsz]; exact hcs, ?_⟩⟩, ?_⟩
      · simp [Sort.putRowK, Sort.putRow, Sort.mapBlock, Sort.ahead, Array.getElem?_modify, hg, Sort.onCells]
      · rw [show l.toArray.reverse = l.reverse.toArray by simp, ← flatK_dems l.reverse]
        apply List.ext_getElem?
        intro t
        by_cases ht : t < n * 8
        · have h1 : t < (Sort.flatK dmC 8 l.reverse.toArray).size := by simp [hn]; omega
          have h2 : n * 8 ≤ cur.size := by rw [hcs]; omega
          have h3 : t < cur.size := by omega
          rw [List.getElem?_take, if_pos ht, Array.getElem?_toList, Array.getElem?_toList]
          simp only [Sort.putCells, Array.getElem?_mapIdx, Array.getElem?_eq_getElem h3, Option.map_some]
          rw [if_pos ⟨by omega, by omega⟩, Array.getElem?_eq_getElem h1, Nat.sub_zero, getElem!_pos (Sort.flatK dmC 8 l.reverse.toArray) t h1]
          rfl
        · rw [List.getElem?_take, if_neg ht, List.getElem?_eq_none (by simp [hn]; omega)]
      · refine ⟨rfl, rfl, rfl, by simp [Sort.putRowK, Sort.putRow, Sort.mapBlock, Sort.ahead], fun k hk => ?_⟩
        have hne : ¬ g = k := by omega
        simp [Sort.putRowK, Sort.putRow, Sort.mapBlock, Sort.ahead, Array.getElem?_modify, hne]
end Go.Proofs.YtffkmgjmlahfpaaGreat
namespace Go.Proofs.YtffkmgjmlahfpaaGreat
open Go.RowKit
def S.nilSt (d : Dm) : Dm := { d with st := [], A := none, n := 0, c := 0 }
def S.nilTo (l : List Dm) (k : Nat) : List Dm := (l.take k).map S.nilSt ++ l.drop k
theorem nilTo_len (l : List Dm) (k : Nat) : (S.nilTo l k).length = l.length := by
  unfold S.nilTo
  simp
  omega
theorem nilTo_all {l : List Dm} {k : Nat} (h : l.length ≤ k) : S.nilTo l k = l.map S.nilSt := by
  unfold S.nilTo
  rw [List.take_of_length_le h, List.drop_eq_nil_of_le h, List.append_nil]
theorem flat_nil : ∀ (l : List Dm) (k : Nat) (hk : k < l.length), (l.flatMap dmC).set (k * 8 + 7) (.slice none 0 0) = (l.set k (S.nilSt l[k])).flatMap dmC := by
  intro l
  induction l with
  | nil => intro k hk; exact absurd hk (by simp)
  | cons a t ih =>
    intro k hk
    cases k with
    | zero => rfl
    | succ k =>
      have := ih k (by simpa using hk)
      rw [List.set_cons_succ, List.flatMap_cons, List.flatMap_cons, List.getElem_cons_succ, ← this, show (k + 1) * 8 + 7 = (k * 8 + 7) + 1 + 1 + 1 + 1 + 1 + 1 + 1 + 1 by omega]
      rfl
theorem nilTo_next {l : List Dm} {k : Nat} (hk : k < l.length) : ((S.nilTo l k).flatMap dmC).set (k * 8 + 7) (.slice none 0 0) = (S.nilTo l (k + 1)).flatMap dmC := by
  have hl : k < (S.nilTo l k).length := by rw [nilTo_len]; exact hk
  rw [flat_nil _ _ hl]
  have h0 : ((l.take k).map S.nilSt).length = k := by rw [List.length_map, List.length_take]; omega
  have h1 : (S.nilTo l k)[k] = l[k] := by
    have h2 : (S.nilTo l k)[k]? = l[k]? := by
      unfold S.nilTo
      rw [List.getElem?_append_right (by omega), h0, Nat.sub_self, List.getElem?_drop, Nat.add_zero]
    rw [List.getElem?_eq_getElem hl, List.getElem?_eq_getElem hk] at h2
    exact Option.some.inj h2
  rw [h1]
  congr 1
  unfold S.nilTo
  rw [List.set_append_right _ _ (by omega), h0, Nat.sub_self, List.drop_eq_getElem_cons hk, List.set_cons_zero, List.take_add_one, List.getElem?_eq_getElem hk, Option.toList_some, List.map_append, List.map_singleton, List.append_assoc, List.singleton_append]
def S.other (ds : List Dm) : List Dm := ds.reverse.map S.nilSt
theorem other_len (ds : List Dm) : (S.other ds).length = ds.length := by unfold S.other; simp
theorem other_get {ds : List Dm} {i : Nat} (h : i < ds.length) : (S.other ds)[ds.length - 1 - i]? = some (S.nilSt ds[i]) := by
  unfold S.other
  rw [List.getElem?_map, List.getElem?_reverse (by omega), List.getElem?_eq_getElem (by omega)]
  simp only [Option.map_some]
  congr 2
  congr 1
  omega
theorem anyb_false {α : Type} {l : List α} {p : α → Bool} (h : ∀ x, x ∈ l → p x = false) : anyb l p = false := by
  unfold anyb
  rw [List.any_eq_false]
  intro x hx
  rw [h x hx]
  simp
theorem dems_iff (ds : List Dm) : S.dems ds = true ↔ ds.length ≤ 20 ∧ (∀ d, d ∈ ds → S.demRight d = true) ∧ ds.Pairwise (fun a b => ¬ a.name.toList = b.name.toList) := by
  unfold S.dems
  rw [Bool.and_eq_true, decide_eq_true_eq, List.all_eq_true]
  constructor
  · rintro ⟨h1, h2⟩
    refine ⟨h1, fun d hd => ?_, ?_⟩
    · obtain ⟨i, hi, rfl⟩ := List.getElem_of_mem hd
      have := h2 i (List.mem_range.2 hi)
      unfold S.demAt at this
      rw [List.getElem?_eq_getElem hi] at this
      simp only [Bool.and_eq_true] at this
      exact this.1
    · rw [List.pairwise_iff_getElem]
      intro i j hi hj hij he
      have := h2 j (List.mem_range.2 hj)
      unfold S.demAt at this
      rw [List.getElem?_eq_getElem hj] at this
      simp only [Bool.and_eq_true, Bool.not_eq_true'] at this
      have h3 := this.2
      unfold anyb at h3
      rw [List.any_eq_false] at h3
      refine h3 ds[i] ?_ ?_
      · rw [List.mem_take_iff_getElem]
        exact ⟨i, by omega, rfl⟩
      · unfold S.isDem
        rw [he]
        simp
  · rintro ⟨h1, h2, h3⟩
    refine ⟨h1, fun j hj => ?_⟩
    have hj := List.mem_range.1 hj
    unfold S.demAt
    rw [List.getElem?_eq_getElem hj]
    simp only [Bool.and_eq_true, Bool.not_eq_true']
    refine ⟨h2 _ (List.getElem_mem hj), anyb_false fun d hd => ?_⟩
    rw [List.mem_take_iff_getElem] at hd
    obtain ⟨i, hi, rfl⟩ := hd
    have := List.pairwise_iff_getElem.1 h3 i j (by omega) hj (by omega)
    unfold S.isDem
    simpa using this
theorem other_dems {ds : List Dm} (h : S.dems ds = true) : S.dems (S.other ds) = true := by
  rw [dems_iff] at h ⊢
  obtain ⟨h1, h2, h3⟩ := h
  refine ⟨by rw [other_len]; exact h1, fun d hd => ?_, ?_⟩
  · unfold S.other at hd
    obtain ⟨e, he, rfl⟩ := List.mem_map.1 hd
    have := h2 e (List.mem_reverse.1 he)
    unfold S.demRight at this ⊢
    simp only [Bool.and_eq_true] at this ⊢
    exact ⟨this.1, rfl⟩
  · unfold S.other
    rw [List.pairwise_map, List.pairwise_reverse]
    exact h3.imp fun hab he => hab he.symm
abbrev withDems (x : Dt) (A : Option Addr) (c : Nat) : Dt := { x with dA := A, dc := c }
abbrev lapless (x : Dt) : Dt := { x with js := [], jA := none, jn := 0, jc := 0 }
theorem lapless_at {w : World} {B : Nat} {x : Dt} (h : DtAt w B x) : DtAt w B (lapless x) := ⟨h.sol, h.name, h.bars, h.runs, rfl, Nat.zero_le _, .inl rfl⟩
theorem lapless_look {x : Dt} {td : Bool} (h : S.look x td = true) : S.look (lapless x) td = true := by
  simp only [S.look, Bool.and_eq_true, decide_eq_true_eq] at h ⊢
  exact ⟨⟨h.1.1, Nat.zero_le _⟩, rfl⟩
theorem lapless_ok {w : World} {x : Dt} {ds : List Dm} (h : DtOk w x ds) : DtOk w (lapless x) ds := ⟨lapless_at h.at_, h.dems, h.cap⟩
theorem lapless_chains (x : Dt) : S.cOf (lapless x) = (List.range (S.nOf x)).map fun (i : Nat) => [(i : Int)] := by
  show S.chains [] (S.nOf x) = _
  unfold S.chains S.chainsTo
  have e1 : ∀ i : Int, S.nextF [] i = none := fun _ => rfl
  have e2 : ∀ i : Int, S.secF [] i = false := fun _ => rfl
  have e3 : ∀ (n : Nat) (i : Int), S.chainOf (S.nextF []) n i = [i] := fun n i => by
    unfold S.chainOf
    rw [e1]
    cases n <;> rfl
  simp only [e2, e3, Bool.not_false]
  rw [List.filter_eq_self.2 (fun _ _ => rfl)]
theorem with_at {w W : World} {x : Dt} {ds : List Dm} (h : DtOk w x ds) (hlk : S.dems ds = true) {A : Option Addr} {c : Nat} (hw : Below w.heap.size w W) (hn : x.dn ≤ c) (hs : Cells W W.heap.size A ((S.other ds).flatMap dmC)) : DtOk W (withDems x A c) (S.other ds) := by
  have k := h.at_.at_ (Nat.le_refl _) hw
  have k2 := k.wide hw.size
  refine ⟨⟨k2.sol, k2.name, k2.bars, k2.runs, k2.jlen, k2.jmax, k2.joints⟩, ⟨by rw [other_len]; exact h.dems.len, h.dems.max, hs, fun d hd => ?_, fun d hd => ?_⟩, hn⟩
  · unfold S.other at hd
    obtain ⟨e, he, rfl⟩ := List.mem_map.1 hd
    exact ⟨rfl, Nat.zero_le _, .inl rfl⟩
  · unfold S.other at hd
    obtain ⟨e, he, rfl⟩ := List.mem_map.1 hd
    exact h.dems.name e (List.mem_reverse.1 he)
def OneSays (x : Dt) (i : Nat) (w : World) : Prop :=
  ∃ (G : Bx) (lo hi er fr : Int), (∀ W, Below w.heap.size w W → Calls Tryz.prog 39 #[dtV x, .int .i64 i] W fun e w' => e = .returned (.tuple #[boxV G, .int .i64 er]) ∧ Below W.heap.size W w') ∧
    (∀ W, Below w.heap.size w W → Calls Tryz.prog 40 #[dtV x, .int .i64 i] W fun e w' => e = .returned (.tuple #[.agg #[.int .i64 lo, .int .i64 hi], .int .i64 fr]) ∧ Below W.heap.size W w') ∧
    ((er = 12 ∧ fr = 12) ∨ (er = 0 ∧ fr = 12) ∨ (er = 0 ∧ fr = 0 ∧ decide (lo < G.lo.x) = false ∧ decide (G.hi.x < hi) = false))
section
variable {x : Dt} {ds : List Dm} {w : World}
theorem with_All (h : DtOk w x ds) (hlk : S.look x (S.dems ds) = true) (hC : (S.cOf x).length ≤ 100) {rs : List Rod} (hrs : RodsOf x (S.nOf x) rs) {W : World} (hw : Below w.heap.size w W) {A : Option Addr} {c : Nat} (hn : x.dn ≤ c) (hs : Cells W W.heap.size A ((S.other ds).flatMap dmC)) :
    Calls Tryz.prog 32 #[dtV (withDems x A c)] W (GivesAll ((List.range x.dn).map (S.supplies x (S.other ds) rs)) W) := by
  have g := look_ok hlk
  have hd := other_dems g.dems
  have hlk2 : S.look (withDems x A c) (S.dems (S.other ds)) = true := by
    have e := g.dems
    rw [e] at hlk
    rw [hd]
    exact hlk
  have hrs2 : RodsOf (withDems x A c) (S.nOf x) rs := ⟨hrs.len, fun i hi => ⟨(hrs.ok i hi).ex, (hrs.ok i hi).main⟩⟩
  exact good_All (x := withDems x A c) (with_at h g.dems hw hn hs) hlk2 hC hrs2 W (Below.refl _ _)
theorem other_same {rs : List Rod} {i : Nat} (hi : i < ds.length) : S.supplies x (S.other ds) rs (ds.length - 1 - i) = S.supplies x ds rs i := by
  unfold S.supplies
  rw [other_get hi, List.getElem?_eq_getElem hi]
  rfl
theorem one_says (h : DtOk w x ds) (hlk : S.look x (S.dems ds) = true) {i : Nat} (hi : i < S.nOf x) : OneSays (lapless x) i w := by
  have hz := lapless_ok h
  have hlz := lapless_look hlk
  have g := look_ok hlz
  obtain ⟨rs, hrs⟩ := rods_ex g.laid
  have hix : i < rs.length := by rw [hrs.len]; exact hi
  have hCl : i < (S.cOf (lapless x)).length := by rw [lapless_chains]; simpa using hi
  have hL := good_Leg hz hlz hrs (List.getElem?_eq_getElem hix)
  have hA := good_Anch hz hlz hCl hrs
  have he : (S.cOf (lapless x))[i] = [(i : Int)] := by simp only [lapless_chains]; simp
  have hsp : S.spanL (lapless x) rs [(i : Int)] = S.spanOf (lapless x) rs[i] rs[i] := spanL_at (by simp [hix]) (by simp [hix])
  rw [he, hsp] at hA
  refine ⟨_, _, _, _, _, hL, hA, ?_⟩
  by_cases hm : rs[i].main < 0
  · left
    unfold S.spanOf
    rw [if_pos hm, if_pos hm]
    exact ⟨rfl, rfl⟩
  · right
    rw [if_neg hm, if_neg hm]
    unfold S.spanOf
    rw [if_neg hm, if_neg hm]
    split
    · right
      have hf := rod_fit (hrs.ok i hix) g.laid
      have e3 := endLen_bd (lapless x) rs[i] g.rule hf (S.legOf rs[i]).lo
      have e4 := endLen_bd (lapless x) rs[i] g.rule hf (S.legOf rs[i]).hi
      change 0 ≤ S.lowOf (lapless x) rs[i] ∧ _ at e3
      change 0 ≤ S.upOf (lapless x) rs[i] ∧ _ at e4
      refine ⟨rfl, rfl, decide_eq_false ?_, decide_eq_false ?_⟩
      · show ¬ (S.legOf rs[i]).lo.x + S.lowOf (lapless x) rs[i] < (S.legOf rs[i]).lo.x
        omega
      · show ¬ (S.legOf rs[i]).hi.x < (S.legOf rs[i]).hi.x - S.upOf (lapless x) rs[i]
        omega
    · left
      exact ⟨rfl, rfl⟩
end
end Go.Proofs.YtffkmgjmlahfpaaGreat
namespace Go.Proofs.YtffkmgjmlahfpaaGreat
open Go.RowKit
theorem wp_copy_block {P : Program} {id : Nat} {Q : Exit → Act → World → Prop} {a : Act} {w : World} {o1 o2 o3 : Oper} (g1 : o1.guard = none) (g2 : o2.guard = none) (g3 : o3.guard = none) (T : TypeId) (x y z : Operand) (b : Nat) (cs Z : List Value) (d : TypeDesc)
    (h1 : o1.op = .load T x) (hx : a.eval x = .pointer (some ⟨b, 0, none⟩)) (hc : w.rangeAt b 0 cs) (hu : P.underlying T = some d) (hd : d.isRow = true) (hi : (P.info? T).map (·.size) = some cs.length)
    (h2 : (execOp (a.put o1.dst (.agg cs.toArray)).eval o2).run P w = .ok (.value (.pointer (some ⟨w.heap.size, 0, none⟩))) (w.alloc (.cells Z.toArray T))) (hZ : Z.length = cs.length)
    (h3 : o3.op = .store T y z) (hy : ((a.put o1.dst (.agg cs.toArray)).put o2.dst (.pointer (some ⟨w.heap.size, 0, none⟩))).eval y = .pointer (some ⟨w.heap.size, 0, none⟩)) (hz : ((a.put o1.dst (.agg cs.toArray)).put o2.dst (.pointer (some ⟨w.heap.size, 0, none⟩))).eval z = .agg cs.toArray)
    (hone : cs.toArray.all (·.oneCell') = true)
    (h : ∀ W, Blk W w.heap.size T cs.toArray → Below w.heap.size w W → Q .normal (((a.put o1.dst (.agg cs.toArray)).put o2.dst (.pointer (some ⟨w.heap.size, 0, none⟩))).put o3.dst undef) W) :
    (Code.region id #[o1, o2, o3] false).wp P Q a w := by
  refine wp_region_list ?_
  refine wpList_load_mid g1 T x h1 b 0 hx cs d hc hu hd hi ?_
  refine wpList_plain g2 fun K hK => ?_
  unfold Oper.wp
  rw [h2]
  refine hK _ _ ?_
  have hB := Blk.new w T Z.toArray
  have hsz : cs.toArray.size = Z.toArray.size := by simp [hZ]
  refine wpList_store_mid g3 T y z h3 w.heap.size 0 cs.toArray hy hz (hB.there (by omega)) (by simpa using hi) hone ?_
  refine wpList_nil (h _ ?_ ?_)
  · have := hB.put0 cs.toArray hsz
    exact this
  · exact (ba_alloc (Below.refl _ _) _).trans ((exc_setCells w.heap.size _ 0 _).below (by simp) (by intro g hg; simp at hg; omega))
end Go.Proofs.YtffkmgjmlahfpaaGreat
namespace Go.Proofs.YtffkmgjmlahfpaaGreat
open Go.RowKit
set_option maxRecDepth 20000 in
set_option maxHeartbeats 4000000 in
theorem otherLaw_big (x : Dt) (w : World)
    (hSM : ∀ W, Below w.heap.size w W → Calls Tryz.prog 29 #[dtV x] W fun e w' => e = .returned (.bool false) ∧ Below W.heap.size W w') :
    Calls Tryz.prog 10 #[dtV x] w fun e w' => e = .returned (.bool true) ∧ Below w.heap.size w w' := by
  have HA := Lib.hid (fun w => awake26_any w)
  have HSM := Lib.hid hSM
  clear hSM
  unfold dtV at HSM
  unfold dtV
  have hDB := Blk.new w 34 #[.string x.m.name, .slice x.mA x.mn x.mc, .slice x.hA x.hn x.hc, .int .i64 x.m.cover, .int .i64 x.m.aggr, .int .i64 x.m.poker, .slice x.bA x.bn x.bc, .slice x.rA x.rn x.rc, .slice x.jA x.jn x.jc, .slice x.dA x.dn x.dc, .int .i64 x.rule.num, .int .i64 x.rule.den, .int .i64 x.rule.pnum, .int .i64 x.rule.pden, .int .i64 x.rule.bnum, .int .i64 x.rule.bden, .int .i64 x.rule.lnum, .int .i64 x.rule.lden, .int .i64 x.rule.least]
  have hW1 : Below w.heap.size w (w.alloc (.cells #[.string x.m.name, .slice x.mA x.mn x.mc, .slice x.hA x.hn x.hc, .int .i64 x.m.cover, .int .i64 x.m.aggr, .int .i64 x.m.poker, .slice x.bA x.bn x.bc, .slice x.rA x.rn x.rc, .slice x.jA x.jn x.jc, .slice x.dA x.dn x.dc, .int .i64 x.rule.num, .int .i64 x.rule.den, .int .i64 x.rule.pnum, .int .i64 x.rule.pden, .int .i64 x.rule.bnum, .int .i64 x.rule.bden, .int .i64 x.rule.lnum, .int .i64 x.rule.lden, .int .i64 x.rule.least] 34)) := ba_alloc (Below.refl _ _) _
  go_enter Tryz.func10, Tryz.ntmps10
  go_upto_region 1 with fail
  generalize (w.alloc (.cells #[.string x.m.name, .slice x.mA x.mn x.mc, .slice x.hA x.hn x.hc, .int .i64 x.m.cover, .int .i64 x.m.aggr, .int .i64 x.m.poker, .slice x.bA x.bn x.bc, .slice x.rA x.rn x.rc, .slice x.jA x.jn x.jc, .slice x.dA x.dn x.dc, .int .i64 x.rule.num, .int .i64 x.rule.den, .int .i64 x.rule.pnum, .int .i64 x.rule.pden, .int .i64 x.rule.bnum, .int .i64 x.rule.bden, .int .i64 x.rule.lnum, .int .i64 x.rule.lden, .int .i64 x.rule.least] 34)) = W1 at *
  have HDB := Lib.hid hDB
  clear hDB
  go_wp2_with (first
    | (go_at_call 28; (with_reducible refine (HA.out _).mono ?_); rintro e wa ⟨rfl, hbwa⟩)
    | ((with_reducible refine at_load 34 1 ?_); refine wpList_load_mid rfl 34 (.tmp 1) rfl _ _ rfl _ _ (HDB.out.via belr).range Tryz.underlying34 rfl (by kernel_rfl) ?_)
    | (go_at_call 29; (with_reducible refine (HSM.out _ belr).mono ?_); rintro e wb ⟨rfl, hbwb⟩))
  go_ret
  exact ⟨rfl, bel⟩
set_option maxRecDepth 20000 in
set_option maxHeartbeats 4000000 in
theorem otherLaw_err (x : Dt) (w : World)
    (hSM : ∀ W, Below w.heap.size w W → Calls Tryz.prog 29 #[dtV x] W fun e w' => e = .returned (.bool true) ∧ Below W.heap.size W w')
    (hAL : ∀ W, Below w.heap.size w W → Calls Tryz.prog 32 #[dtV x] W fun e w' => e = .returned (.tuple #[.slice none 0 0, .int .i64 1]) ∧ Below W.heap.size W w') :
    Calls Tryz.prog 10 #[dtV x] w fun e w' => e = .returned (.bool true) ∧ Below w.heap.size w w' := by
  have HA := Lib.hid (fun w => awake26_any w)
  have HSM := Lib.hid hSM
  have HAL := Lib.hid hAL
  clear hSM hAL
  unfold dtV at HSM HAL
  unfold dtV
  have hDB := Blk.new w 34 #[.string x.m.name, .slice x.mA x.mn x.mc, .slice x.hA x.hn x.hc, .int .i64 x.m.cover, .int .i64 x.m.aggr, .int .i64 x.m.poker, .slice x.bA x.bn x.bc, .slice x.rA x.rn x.rc, .slice x.jA x.jn x.jc, .slice x.dA x.dn x.dc, .int .i64 x.rule.num, .int .i64 x.rule.den, .int .i64 x.rule.pnum, .int .i64 x.rule.pden, .int .i64 x.rule.bnum, .int .i64 x.rule.bden, .int .i64 x.rule.lnum, .int .i64 x.rule.lden, .int .i64 x.rule.least]
  have hW1 : Below w.heap.size w (w.alloc (.cells #[.string x.m.name, .slice x.mA x.mn x.mc, .slice x.hA x.hn x.hc, .int .i64 x.m.cover, .int .i64 x.m.aggr, .int .i64 x.m.poker, .slice x.bA x.bn x.bc, .slice x.rA x.rn x.rc, .slice x.jA x.jn x.jc, .slice x.dA x.dn x.dc, .int .i64 x.rule.num, .int .i64 x.rule.den, .int .i64 x.rule.pnum, .int .i64 x.rule.pden, .int .i64 x.rule.bnum, .int .i64 x.rule.bden, .int .i64 x.rule.lnum, .int .i64 x.rule.lden, .int .i64 x.rule.least] 34)) := ba_alloc (Below.refl _ _) _
  go_enter Tryz.func10, Tryz.ntmps10
  go_upto_region 1 with fail
  generalize (w.alloc (.cells #[.string x.m.name, .slice x.mA x.mn x.mc, .slice x.hA x.hn x.hc, .int .i64 x.m.cover, .int .i64 x.m.aggr, .int .i64 x.m.poker, .slice x.bA x.bn x.bc, .slice x.rA x.rn x.rc, .slice x.jA x.jn x.jc, .slice x.dA x.dn x.dc, .int .i64 x.rule.num, .int .i64 x.rule.den, .int .i64 x.rule.pnum, .int .i64 x.rule.pden, .int .i64 x.rule.bnum, .int .i64 x.rule.bden, .int .i64 x.rule.lnum, .int .i64 x.rule.lden, .int .i64 x.rule.least] 34)) = W1 at *
  have HDB := Lib.hid hDB
  clear hDB
  go_wp2_with (first
    | (go_at_call 28; (with_reducible refine (HA.out _).mono ?_); rintro e wa ⟨rfl, hbwa⟩)
    | ((with_reducible refine at_load 34 1 ?_); refine wpList_load_mid rfl 34 (.tmp 1) rfl _ _ rfl _ _ (HDB.out.via belr).range Tryz.underlying34 rfl (by kernel_rfl) ?_)
    | (go_at_call 29; (with_reducible refine (HSM.out _ belr).mono ?_); rintro e wb ⟨rfl, hbwb⟩)
    | (go_at_call 32; (with_reducible refine (HAL.out _ belr).mono ?_); rintro e wc ⟨rfl, hbwc⟩))
  go_ret
  exact ⟨rfl, bel⟩
theorem exc_low {B g : Nat} {w w' : World} {t : TypeId} {cs : Array Value} (h : Blk w g t cs) (hb : Below B w w') (hg : g < B) : Blk w' g t cs := (hb.block g hg).trans h
set_option maxRecDepth 20000 in
set_option maxHeartbeats 16000000 in
theorem otherLaw_yes (x : Dt) (N : Nat) (ds : List Dm) (Ls Lo : Nat → List Stp) (w : World)
    (hds : ds.length = x.dn) (hn20 : x.dn ≤ 20) (hN : N ≤ 2000) (hLs : ∀ i, (Ls i).length ≤ 10000) (hst : ∀ i, i < x.dn → S.steps (Ls i) = true)
    (hLo : ∀ i, i < x.dn → Lo (x.dn - 1 - i) = Ls i)
    (hDC : ∀ W, Below w.heap.size w W → Cells W w.heap.size x.dA (ds.flatMap dmC))
    (hSM : ∀ W, Below w.heap.size w W → Calls Tryz.prog 29 #[dtV x] W fun e w' => e = .returned (.bool true) ∧ Below W.heap.size W w')
    (hAL : ∀ W, Below w.heap.size w W → Calls Tryz.prog 32 #[dtV x] W (GivesAll ((List.range x.dn).map Ls) W))
    (hAY : ∀ (A : Option Addr) (c : Nat) W, Below w.heap.size w W → x.dn ≤ c → Cells W W.heap.size A ((S.other ds).flatMap dmC) → Calls Tryz.prog 32 #[dtV (withDems x A c)] W (GivesAll ((List.range x.dn).map Lo) W))
    (hCO : ∀ W, Below w.heap.size w W → Calls Tryz.prog 42 #[dtV x] W fun e w' => e = .returned (.int .i64 N) ∧ Below W.heap.size W w')
    (hZ : ∀ i, i < N → OneSays (lapless x) i w) :
    Calls Tryz.prog 10 #[dtV x] w fun e w' => e = .returned (.bool true) ∧ Below w.heap.size w w' := by
  have HA := Lib.hid (fun w => awake26_any w)
  have HSM := Lib.hid hSM
  have HAL := Lib.hid hAL
  have HAY := Lib.hid hAY
  have HCO := Lib.hid hCO
  have HZ := Lib.hid hZ
  have HLS := Lib.hid hLs
  have HST := Lib.hid hst
  have HLO := Lib.hid hLo
  have HCL := Lib.hid (fun (W : World) (hw : Below w.heap.size w W) => cloneD_any x.dA x.dn x.dc ds w.heap.size W hw.size hds (by omega) (hDC W hw))
  have HRV := Lib.hid (fun (A2 : Option Addr) (c2 B : Nat) (W : World) (hB : B ≤ W.heap.size) (ho : W.ownsRow B 103 8 (.slice A2 x.dn c2) x.dn (ds.flatMap dmC)) => revD_any A2 x.dn c2 ds B W hB hds (by omega) ho)
  have HDS := Lib.hid hds
  clear hSM hAL hAY hCO hZ hLs hst hLo hDC hds
  unfold dtV at HSM HAL HAY HCO
  unfold withDems at HAY
  unfold dtV
  simp only [] at HAY
  have hDB := Blk.new w 34 #[.string x.m.name, .slice x.mA x.mn x.mc, .slice x.hA x.hn x.hc, .int .i64 x.m.cover, .int .i64 x.m.aggr, .int .i64 x.m.poker, .slice x.bA x.bn x.bc, .slice x.rA x.rn x.rc, .slice x.jA x.jn x.jc, .slice x.dA x.dn x.dc, .int .i64 x.rule.num, .int .i64 x.rule.den, .int .i64 x.rule.pnum, .int .i64 x.rule.pden, .int .i64 x.rule.bnum, .int .i64 x.rule.bden, .int .i64 x.rule.lnum, .int .i64 x.rule.lden, .int .i64 x.rule.least]
  have hW1 : Below w.heap.size w (w.alloc (.cells #[.string x.m.name, .slice x.mA x.mn x.mc, .slice x.hA x.hn x.hc, .int .i64 x.m.cover, .int .i64 x.m.aggr, .int .i64 x.m.poker, .slice x.bA x.bn x.bc, .slice x.rA x.rn x.rc, .slice x.jA x.jn x.jc, .slice x.dA x.dn x.dc, .int .i64 x.rule.num, .int .i64 x.rule.den, .int .i64 x.rule.pnum, .int .i64 x.rule.pden, .int .i64 x.rule.bnum, .int .i64 x.rule.bden, .int .i64 x.rule.lnum, .int .i64 x.rule.lden, .int .i64 x.rule.least] 34)) := ba_alloc (Below.refl _ _) _
  go_enter Tryz.func10, Tryz.ntmps10
  go_upto_region 1 with fail
  generalize (w.alloc (.cells #[.string x.m.name, .slice x.mA x.mn x.mc, .slice x.hA x.hn x.hc, .int .i64 x.m.cover, .int .i64 x.m.aggr, .int .i64 x.m.poker, .slice x.bA x.bn x.bc, .slice x.rA x.rn x.rc, .slice x.jA x.jn x.jc, .slice x.dA x.dn x.dc, .int .i64 x.rule.num, .int .i64 x.rule.den, .int .i64 x.rule.pnum, .int .i64 x.rule.pden, .int .i64 x.rule.bnum, .int .i64 x.rule.bden, .int .i64 x.rule.lnum, .int .i64 x.rule.lden, .int .i64 x.rule.least] 34)) = W1 at *
  have HDB := Lib.hid hDB
  clear hDB
  go_upto_region 8 with (first
    | (go_at_call 28; (with_reducible refine (HA.out _).mono ?_); rintro e wa ⟨rfl, hbwa⟩)
    | ((with_reducible refine at_load 34 1 ?_); refine wpList_load_mid rfl 34 (.tmp 1) rfl _ _ rfl _ _ (HDB.out.via belr).range Tryz.underlying34 rfl (by kernel_rfl) ?_)
    | (go_at_call 29; (with_reducible refine (HSM.out _ belr).mono ?_); rintro e wb ⟨rfl, hbwb⟩)
    | (go_at_call 32; (with_reducible refine (HAL.out _ belr).mono ?_); rintro e w2 ⟨A4, c4, rs, rfl, hmap, hcc, hce, hbw2⟩))
  have hb12 : Below W1.heap.size W1 w2 := ba_via hbw2 (ba_via hbwb hbwa)
  have hw2 : Below w.heap.size w w2 := ba_via hb12 hW1
  have hsw1 := hW1.size
  have hwx : w.heap.size < W1.heap.size := HDB.out.lt
  have HD2 := Lib.hid (HDB.out.via hb12)
  have HMAP := Lib.hid hmap
  have HCC := Lib.hid hcc
  have HCE := Lib.hid hce
  have hrl : rs.length = x.dn := by
    have := congrArg List.length hmap
    simpa using this
  have HRL := Lib.hid hrl
  rw [hrl]
  have nn : ((x.dn : Int) != (x.dn : Int)) = false := by simp
  have hDx := HD2.out
  have d9 := hDx.cell 9
  have dl := hDx.lt
  simp only [List.getElem?_toArray, List.getElem?_cons_zero, List.getElem?_cons_succ] at d9
  clear hmap hcc hce hrl hbw2 hbwb hbwa HA HSM HAL HDB hDx
  go_upto_region 10 with fail
  clear d9 dl nn
  have hRX := HD2.out.range
  refine wp_copy_block rfl rfl rfl 34 (.tmp 1) (.tmp 5) (.tmp 37) w.heap.size [.string x.m.name, .slice x.mA x.mn x.mc, .slice x.hA x.hn x.hc, .int .i64 x.m.cover, .int .i64 x.m.aggr, .int .i64 x.m.poker, .slice x.bA x.bn x.bc, .slice x.rA x.rn x.rc, .slice x.jA x.jn x.jc, .slice x.dA x.dn x.dc, .int .i64 x.rule.num, .int .i64 x.rule.den, .int .i64 x.rule.pnum, .int .i64 x.rule.pden, .int .i64 x.rule.bnum, .int .i64 x.rule.bden, .int .i64 x.rule.lnum, .int .i64 x.rule.lden, .int .i64 x.rule.least] [.string ⟨#[]⟩, .slice none 0 0, .slice none 0 0, .int .i64 0, .int .i64 0, .int .i64 0, .slice none 0 0, .slice none 0 0, .slice none 0 0, .slice none 0 0, .int .i64 0, .int .i64 0, .int .i64 0, .int .i64 0, .int .i64 0, .int .i64 0, .int .i64 0, .int .i64 0, .int .i64 0] _ rfl rfl hRX Tryz.underlying34 rfl (by kernel_rfl) (by kernel_rfl) rfl rfl rfl rfl (by simp [Value.oneCell']) ?_
  intro w3 hD3 hb23
  clear hRX
  have hsw2 := hw2.size
  have hs12 := hb12.size
  have hw3 : Below w.heap.size w w3 := ba_via hb23 hw2
  have hgy3 : w2.heap.size < w3.heap.size := hD3.lt
  have HX3 := Lib.hid (HD2.out.via hb23)
  have HY3 := Lib.hid hD3
  have hwx2 : w.heap.size < w2.heap.size := by omega
  clear hD3 hb12 hW1 hs12
  go_upto_region 11 with fail
  have hDx := HX3.out
  have d9 := hDx.cell 9
  have dl := hDx.lt
  simp only [List.getElem?_toArray, List.getElem?_cons_zero, List.getElem?_cons_succ] at d9
  clear hDx
  go_upto_region 12 with (first
    | (go_at_call 48; (with_reducible refine (HCL.out _ belr).mono ?_); rintro e w4 ⟨A2, c2, rfl, hn2, hc2, ho4, hb4⟩; have hb34 : Below w3.heap.size w3 w4 := hb4.mono (Nat.le_refl _); have hDy := HY3.out.via hb34; have y9 := hDy.cell 9; have f9 := hDy.frozen 9; have yl := hDy.lt; simp only [List.getElem?_toArray, List.getElem?_cons_zero, List.getElem?_cons_succ] at y9; clear hDy))
  clear d9 dl y9 f9 yl
  have hs34 := hb34.size
  have HY5 : Hid (Blk (w4.setCell ⟨w2.heap.size, 9, none⟩ (.slice A2 x.dn c2)) w2.heap.size 34 #[.string x.m.name, .slice x.mA x.mn x.mc, .slice x.hA x.hn x.hc, .int .i64 x.m.cover, .int .i64 x.m.aggr, .int .i64 x.m.poker, .slice x.bA x.bn x.bc, .slice x.rA x.rn x.rc, .slice x.jA x.jn x.jc, .slice A2 x.dn c2, .int .i64 x.rule.num, .int .i64 x.rule.den, .int .i64 x.rule.pnum, .int .i64 x.rule.pden, .int .i64 x.rule.bnum, .int .i64 x.rule.bden, .int .i64 x.rule.lnum, .int .i64 x.rule.lden, .int .i64 x.rule.least]) := Lib.hid (by
    have h := (HY3.out.via hb34).set 9 (.slice A2 x.dn c2)
    simp only [List.setIfInBounds_toArray, List.set_cons_zero, List.set_cons_succ] at h
    exact h)
  have ho5 := ownsRow_setCell_below ho4 (a := ⟨w2.heap.size, 9, none⟩) hgy3 (.slice A2 x.dn c2)
  have hw5 : Below w.heap.size w (w4.setCell ⟨w2.heap.size, 9, none⟩ (.slice A2 x.dn c2)) := ba_set (ba_via hb34 hw3) (by show w.heap.size ≤ w2.heap.size; omega) _
  have h25 : Below w2.heap.size w2 (w4.setCell ⟨w2.heap.size, 9, none⟩ (.slice A2 x.dn c2)) := ba_set (ba_via hb34 hb23) (Nat.le_refl _) _
  have hs5 : w3.heap.size ≤ (w4.setCell ⟨w2.heap.size, 9, none⟩ (.slice A2 x.dn c2)).heap.size := by simpa using hs34
  generalize (w4.setCell ⟨w2.heap.size, 9, none⟩ (.slice A2 x.dn c2)) = w5 at *
  clear hb34 hb4 ho4 HY3 HX3 hs34 hb23
  have hDy := HY5.out
  have y9 := hDy.cell 9
  have yl := hDy.lt
  simp only [List.getElem?_toArray, List.getElem?_cons_zero, List.getElem?_cons_succ] at y9
  clear hDy
  go_upto_region 13 with (first
    | (go_at_call 49; (with_reducible refine (HRV.out A2 c2 w3.heap.size _ hs5 ho5).mono ?_); rintro e w6 ⟨rfl, ho6, hb56⟩))
  clear y9 yl
  have HY6 := Lib.hid (exc_low HY5.out hb56 hgy3)
  have hw6 : Below w.heap.size w w6 := hw5.trans (hb56.mono (by omega))
  have h26 : Below w2.heap.size w2 w6 := h25.trans (hb56.mono (by omega))
  have hs36 : w3.heap.size ≤ w6.heap.size := Nat.le_trans hs5 hb56.size
  clear ho5 hb56 HY5 hw5 h25 hs5
  have hDy := HY6.out
  have y9 := hDy.cell 9
  have yl := hDy.lt
  simp only [List.getElem?_toArray, List.getElem?_cons_zero, List.getElem?_cons_succ] at y9
  clear hDy
  go_wp2
  go_loopw [48] (fun v wr => ∃ q : Nat, q ≤ x.dn ∧ v = .int .i64 q ∧ wr.ownsRow w3.heap.size 103 8 (.slice A2 x.dn c2) x.dn ((S.nilTo ds.reverse q).flatMap dmC) ∧ Below w3.heap.size w6 wr) (fun v _ => x.dn - (intOf v).toNat)
  case atStart => exact ⟨0, Nat.zero_le _, rfl, ho6, Below.refl _ _⟩
  case round =>
    obtain ⟨q, hq, rfl, hown, hbr⟩ := hrel
    clear y9 yl ho6
    have HYr := Lib.hid (exc_low HY6.out hbr hgy3)
    by_cases hlt : q < x.dn
    · have hqi : (q : Int) < x.dn := by omega
      have hDy := HYr.out
      have y9 := hDy.cell 9
      have yl := hDy.lt
      simp only [List.getElem?_toArray, List.getElem?_cons_zero, List.getElem?_cons_succ] at y9
      clear hDy
      rcases hown.2 with ⟨_, h0⟩ | ⟨g, cap, cur, hv, hbg, hg, hxx⟩
      · omega
      clear hxx
      injection hv with hA _ hc
      subst hc
      have hown2 := hown
      rw [hA] at hown2
      obtain ⟨o, ho0⟩ : ∃ o, o = 0 := ⟨_, rfl⟩
      have HO0 := Lib.hid ho0
      have y9' : wr.cell? ⟨w2.heap.size, 9, none⟩ = some (.slice (some ⟨g, o, none⟩) x.dn c2) := by rw [ho0, ← hA]; exact y9
      have hnl : (S.nilTo ds.reverse q).length = x.dn := by rw [nilTo_len, List.length_reverse]; exact HDS.out
      have c7 : wr.cell? ⟨g, o + q * 8 + 7, none⟩ = some (((S.nilTo ds.reverse q).flatMap dmC)[q * 8 + 7]'(by rw [flat_len dmC 8 dmC_len]; omega)) := by rw [ho0, Nat.zero_add]; exact (hown2.cellAt (q * 8 + 7) (by omega)).trans (List.getElem?_eq_getElem _)
      have f7 : wr.frozen? ⟨g, o + q * 8 + 7, none⟩ = false := by rw [ho0, Nat.zero_add]; exact hown2.frozenAt _
      have gl : g < wr.heap.size := (Array.getElem?_eq_some_iff.1 hg).1
      have HW2 := Lib.hid hown2
      have HA2 := Lib.hid hA
      generalize (((S.nilTo ds.reverse q).flatMap dmC)[q * 8 + 7]'(by rw [flat_len dmC 8 dmC_len]; omega)) = v7 at *
      clear hown hown2 hg ho0 y9 hnl hA
      go_wp2
      go_roundw
      case rel =>
        refine ⟨q + 1, by omega, by go_num, ?_, hbr.setCell hbg _⟩
        rw [HO0.out, Nat.zero_add, HA2.out]
        have h := (HW2.out.stored (q * 8 + 7) (.slice none 0 0)).1
        rw [nilTo_next (by rw [List.length_reverse, HDS.out]; exact hlt)] at h
        exact h
      case measure => simp [intOf]; omega
    · have hqn : q = x.dn := by omega
      have hqi : ¬ ((q : Int) < x.dn) := by omega
      have hown3 : wr.ownsRow w3.heap.size 103 8 (.slice A2 x.dn c2) x.dn ((S.other ds).flatMap dmC) := by
        have h := hown
        rw [nilTo_all (by rw [List.length_reverse, HDS.out]; omega)] at h
        exact h
      have HC2 := Lib.hid (own_cells hown3 (by unfold maxLen; omega)).1
      have hwr : Below w.heap.size w wr := hw6.trans (hbr.mono (by omega))
      have h2r : Below w2.heap.size w2 wr := h26.trans (hbr.mono (by omega))
      clear hown hown3 hbr hw6 h26 hs36 hlt hq HY6 hc2
      go_upto_region 19 with (first
        | ((with_reducible refine at_load 34 5 ?_); refine wpList_load_mid rfl 34 (.tmp 5) rfl _ _ rfl _ _ (HYr.out.via belr).range Tryz.underlying34 rfl (by kernel_rfl) ?_)
        | (go_at_call 32; (with_reducible refine (HAY.out A2 c2 _ hwr hn2 HC2.out).mono ?_); rintro e w8 ⟨A8, c8, rs2, rfl, hmap2, hcc2, hce2, hbw8⟩))
      have hw8 : Below w.heap.size w w8 := ba_via hbw8 hwr
      have h28 : Below w2.heap.size w2 w8 := ba_via hbw8 h2r
      have HX8 := Lib.hid (HD2.out.via h28)
      have HC8 := Lib.hid ((HCC.out.below h28).mono h28.size)
      have HE8 := Lib.hid (fun r hr => ((HCE.out r hr).below h28).mono h28.size)
      have HM2 := Lib.hid hmap2
      have HCC2 := Lib.hid hcc2
      have HCE2 := Lib.hid hce2
      have hrl2 : rs2.length = x.dn := by
        have := congrArg List.length hmap2
        simpa using this
      have HRL2 := Lib.hid hrl2
      rw [hrl2]
      have nn : ((x.dn : Int) != (x.dn : Int)) = false := by simp
      clear hmap2 hcc2 hce2 hrl2 hbw8 HYr HC2 hwr h2r HAY HD2 HCC HCE hn2
      go_upto_region 21 with fail
      clear nn
      go_wp2
      go_loopw [73] (fun v wr => ∃ q : Nat, q ≤ x.dn ∧ v = .int .i64 q ∧ Below w8.heap.size w8 wr) (fun v _ => x.dn - (intOf v).toNat)
      case atStart => exact ⟨0, Nat.zero_le _, rfl, Below.refl _ _⟩
      case round =>
        generalize wr = wq at *
        obtain ⟨q, hq, rfl, hbq⟩ := hrel
        have hsq := hbq.size
        by_cases hlt : q < x.dn
        · have hqi : (q : Int) < x.dn := by omega
          obtain ⟨m, hm⟩ : ∃ m : Nat, m = x.dn - 1 - q := ⟨_, rfl⟩
          have hqx : q < rs.length := by rw [HRL.out]; exact hlt
          have hmx : m < rs2.length := by rw [HRL2.out]; omega
          have hrq : rs[q].l = Ls q := by
            have h1 := congrArg (fun l => l[q]?) HMAP.out
            simp only [List.getElem?_map, List.getElem?_eq_getElem hqx, List.getElem?_range hlt, Option.map_some, Option.some.injEq] at h1
            exact h1
          have hrm : rs2[m].l = Ls q := by
            have h1 := congrArg (fun l => l[m]?) HM2.out
            have hm2 : m < x.dn := by omega
            simp only [List.getElem?_map, List.getElem?_eq_getElem hmx, List.getElem?_range hm2, Option.map_some, Option.some.injEq] at h1
            rw [h1, hm]
            exact HLO.out q hlt
          obtain ⟨bA, oA, hAe, hbA, hxx⟩ := (HC8.out.below hbq).at_ (by rw [List.length_map]; omega)
          clear hxx
          have hc0 := HC8.out.below hbq
          rw [hAe] at hc0
          have c0 := hc0.get (k := q) (v := stqV rs[q]) (by rw [List.getElem?_map, List.getElem?_eq_getElem hqx]; rfl)
          obtain ⟨bB, oB, hBe, hbB, hxx⟩ := (HCC2.out.below hbq).at_ (by rw [List.length_map]; omega)
          clear hxx
          have hc1 := HCC2.out.below hbq
          rw [hBe] at hc1
          have c1 := hc1.get (k := m) (v := stqV rs2[m]) (by rw [List.getElem?_map, List.getElem?_eq_getElem hmx]; rfl)
          have HQ := Lib.hid (((HE8.out rs[q] (List.getElem_mem hqx)).below hbq).mono hsq)
          have HQ2 := Lib.hid (((HCE2.out rs2[m] (List.getElem_mem hmx)).below hbq).mono hsq)
          have hlq := HLS.out q
          have hstq := HST.out q hlt
          unfold stqV at c0 c1
          rw [hrq] at c0 HQ
          rw [hrm] at c1 HQ2
          have hbAl : bA < wq.heap.size := by omega
          have hbBl : bB < wq.heap.size := by omega
          rw [hAe, hBe]
          clear hc0 hc1 hrq hrm hAe hBe hbA hbB
          generalize rs[q].A = rA at *
          generalize rs[q].c = rc at *
          generalize rs2[m].A = rB at *
          generalize rs2[m].c = rd at *
          generalize Ls q = lq at *
          have HEQ := Lib.hid (fun (W : World) (hw : Below wq.heap.size wq W) => eqSt_yes lq rA lq.length rc rB rd W.heap.size W (Nat.le_refl _) ⟨rfl, by omega, (HQ.out.below hw).mono hw.size⟩ ⟨rfl, by omega, (HQ2.out.below hw).mono hw.size⟩)
          have HVL := Lib.hid (fun (W : World) (hw : Below wq.heap.size wq W) => hstq ▸ rsteps_any lq rA lq.length rc W.heap.size W (Nat.le_refl _) ⟨rfl, by omega, (HQ.out.below hw).mono hw.size⟩)
          have e1 : IntKind.i64.wrap ((x.dn : Int) - 1) = (x.dn : Int) - 1 := IntWalk.i64_in _ (by omega)
          have e2 : IntKind.i64.wrap ((x.dn : Int) - 1 - (q : Int)) = (m : Int) := by rw [show ((x.dn : Int) - 1 - (q : Int)) = (m : Int) by omega]; exact IntWalk.i64_in _ (by omega)
          have hmi : (m : Int) < x.dn := by omega
          clear HQ HQ2 hstq hlq hm
          generalize lq.length = ln at *
          go_upto_region 24 with fail
          refine wp_region_mix 1 [12, 6] (by kernel_rfl) (by kernel_rfl) (of_decide_eq_true (by kernel_rfl)) ?_
          try simp only [wpSegs, List.take_succ_cons, List.take_zero, List.drop_succ_cons, List.drop_zero, List.take_nil, List.drop_nil]
          repeat (go_big_quiet_step (fail))
          refine wpQuiet_nil ?_
          show wpList _ _ _ _ _ _
          go_wp2_with ((go_at_call 35; (with_reducible refine (HEQ.out _ belr).mono ?_); rintro e wi ⟨rfl, hbwi⟩))
          refine seg_next (grow_to belr) ?_
          have c2h := (hbwi.cell (p := ⟨bA, oA + q, none⟩) (by simpa using hbAl)).trans c0
          try simp only [wpSegs, List.take_succ_cons, List.take_zero, List.drop_succ_cons, List.drop_zero, List.take_nil, List.drop_nil]
          repeat (go_big_quiet_step (fail))
          refine wpQuiet_nil ?_
          show wpList _ _ _ _ _ _
          go_wp2_with ((go_at_call 50; (with_reducible refine (HVL.out _ belr).mono ?_); rintro e wj ⟨rfl, hbwj⟩))
          refine seg_next (grow_to belr) ?_
          try simp only [wpSegs, List.take_succ_cons, List.take_zero, List.drop_succ_cons, List.drop_zero, List.take_nil, List.drop_nil]
          repeat (go_big_quiet_step (fail))
          refine wpQuiet_nil ?_
          show wpList _ _ _ _ _ _
          have hbj : Below wq.heap.size wq wj := ba_via hbwj (ba_via hbwi (ba_drew (Below.refl _ _)))
          clear c0 c1 c2h HEQ HVL
          go_wp2
          go_roundw
          case rel => exact ⟨q + 1, by omega, by go_num, ba_via hbj hbq⟩
          case measure => simp [intOf]; omega
        · have hqn : q = x.dn := by omega
          have hqi : ¬ ((q : Int) < x.dn) := by omega
          have hwq : Below w.heap.size w wq := ba_via hbq hw8
          have HXq := Lib.hid (HX8.out.via hbq)
          clear hbq hw8 h28 HC8 HE8 HM2 HCC2 HCE2 HRL HRL2 HMAP HX8 hq hlt hsq HLS HST HLO
          go_upto_region 27 with fail
          have hRX := HXq.out.range
          refine wp_copy_block rfl rfl rfl 34 (.tmp 1) (.tmp 10) (.tmp 99) w.heap.size [.string x.m.name, .slice x.mA x.mn x.mc, .slice x.hA x.hn x.hc, .int .i64 x.m.cover, .int .i64 x.m.aggr, .int .i64 x.m.poker, .slice x.bA x.bn x.bc, .slice x.rA x.rn x.rc, .slice x.jA x.jn x.jc, .slice x.dA x.dn x.dc, .int .i64 x.rule.num, .int .i64 x.rule.den, .int .i64 x.rule.pnum, .int .i64 x.rule.pden, .int .i64 x.rule.bnum, .int .i64 x.rule.bden, .int .i64 x.rule.lnum, .int .i64 x.rule.lden, .int .i64 x.rule.least] [.string ⟨#[]⟩, .slice none 0 0, .slice none 0 0, .int .i64 0, .int .i64 0, .int .i64 0, .slice none 0 0, .slice none 0 0, .slice none 0 0, .slice none 0 0, .int .i64 0, .int .i64 0, .int .i64 0, .int .i64 0, .int .i64 0, .int .i64 0, .int .i64 0, .int .i64 0, .int .i64 0] _ rfl rfl hRX Tryz.underlying34 rfl (by kernel_rfl) (by kernel_rfl) rfl rfl rfl rfl (by simp [Value.oneCell']) ?_
          intro w9 hD9 hbq9
          clear hRX
          have hgz : wq.heap.size < w9.heap.size := hD9.lt
          have hwlq : w.heap.size < wq.heap.size := HXq.out.lt
          have hw10 : Below w.heap.size w (w9.setCell ⟨wq.heap.size, 8, none⟩ (.slice none 0 0)) := ba_set (ba_via hbq9 hwq) hwq.size _
          have HZB : Hid (Blk (w9.setCell ⟨wq.heap.size, 8, none⟩ (.slice none 0 0)) wq.heap.size 34 #[.string x.m.name, .slice x.mA x.mn x.mc, .slice x.hA x.hn x.hc, .int .i64 x.m.cover, .int .i64 x.m.aggr, .int .i64 x.m.poker, .slice x.bA x.bn x.bc, .slice x.rA x.rn x.rc, .slice none 0 0, .slice x.dA x.dn x.dc, .int .i64 x.rule.num, .int .i64 x.rule.den, .int .i64 x.rule.pnum, .int .i64 x.rule.pden, .int .i64 x.rule.bnum, .int .i64 x.rule.bden, .int .i64 x.rule.lnum, .int .i64 x.rule.lden, .int .i64 x.rule.least]) := Lib.hid (by
            have h := hD9.set 8 (.slice none 0 0)
            simp only [List.setIfInBounds_toArray, List.set_cons_zero, List.set_cons_succ] at h
            exact h)
          have HX10 := Lib.hid ((HXq.out.via hbq9).far (p := ⟨wq.heap.size, 8, none⟩) (show w.heap.size ≠ wq.heap.size by omega) (.slice none 0 0))
          have z8 := hD9.cell 8
          have f8 := hD9.frozen 8
          simp only [List.getElem?_toArray, List.getElem?_cons_zero, List.getElem?_cons_succ] at z8
          clear hD9 HXq hbq9
          go_upto_region 29 with fail
          clear z8 f8
          generalize (w9.setCell ⟨wq.heap.size, 8, none⟩ (.slice none 0 0)) = w10 at *
          go_wp2_with (first
            | ((with_reducible refine at_load 34 1 ?_); refine wpList_load_mid rfl 34 (.tmp 1) rfl _ _ rfl _ _ (HX10.out.via belr).range Tryz.underlying34 rfl (by kernel_rfl) ?_)
            | (go_at_call 42; (with_reducible refine (HCO.out _ hw10).mono ?_); rintro e w11 ⟨rfl, hbw11⟩))
          have hw11 : Below w.heap.size w w11 := ba_via hbw11 hw10
          have HZ11 := Lib.hid (HZB.out.via hbw11)
          clear HZB HX10 hw10 hbw11 HCO
          go_loopw [103] (fun v wr => ∃ q : Nat, q ≤ N ∧ v = .int .i64 q ∧ Below w11.heap.size w11 wr) (fun v _ => N - (intOf v).toNat)
          case atStart => exact ⟨0, Nat.zero_le _, rfl, Below.refl _ _⟩
          case round =>
            obtain ⟨i, hi, rfl, hbr⟩ := hrel
            have hwr : Below w.heap.size w wr := ba_via hbr hw11
            by_cases hlt : i < N
            · have hii : (i : Int) < N := by omega
              obtain ⟨G, lo, hi', er, fr, hLg, hAn, hcs⟩ := HZ.out i hlt
              unfold dtV lapless at hLg hAn
              unfold boxV at hLg
              simp only [] at hLg hAn
              have HLg := Lib.hid (fun (W : World) (hw : Below wr.heap.size wr W) => hLg W (ba_via hw hwr))
              have HAn := Lib.hid (fun (W : World) (hw : Below wr.heap.size wr W) => hAn W (ba_via hw hwr))
              have HZr := Lib.hid (HZ11.out.via hbr)
              clear hLg hAn
              go_upto_region 33 with (first
                | ((with_reducible refine at_load 34 10 ?_); refine wpList_load_mid rfl 34 (.tmp 10) rfl _ _ rfl _ _ (HZr.out.via belr).range Tryz.underlying34 rfl (by kernel_rfl) ?_)
                | (go_at_call 39; (with_reducible refine (HLg.out _ belr).mono ?_); rintro e w12 ⟨rfl, hbw12⟩))
              have hb13 : Below wr.heap.size wr (w12.alloc (.cells #[.int .i64 G.lo.x, .int .i64 G.lo.y, .int .i64 G.lo.z, .int .i64 G.hi.x, .int .i64 G.hi.y, .int .i64 G.hi.z] 89)) := ba_alloc hbw12 _
              have hGB := Blk.new w12 89 #[.int .i64 G.lo.x, .int .i64 G.lo.y, .int .i64 G.lo.z, .int .i64 G.hi.x, .int .i64 G.hi.y, .int .i64 G.hi.z]
              generalize (w12.alloc (.cells #[.int .i64 G.lo.x, .int .i64 G.lo.y, .int .i64 G.lo.z, .int .i64 G.hi.x, .int .i64 G.hi.y, .int .i64 G.hi.z] 89)) = W13 at *
              generalize w12.heap.size = g13 at *
              have HGB := Lib.hid hGB
              have HZ13 := Lib.hid (HZr.out.via hb13)
              clear hGB hbw12 HZr HLg
              go_upto_region 34 with (first
                | ((with_reducible refine at_load 34 10 ?_); refine wpList_load_mid rfl 34 (.tmp 10) rfl _ _ rfl _ _ (HZ13.out.via belr).range Tryz.underlying34 rfl (by kernel_rfl) ?_)
                | (go_at_call 40; (with_reducible refine (HAn.out _ (ba_via belr hb13)).mono ?_); rintro e w14 ⟨rfl, hbw14⟩))
              have hb15 : Below W13.heap.size W13 (w14.alloc (.cells #[.int .i64 lo, .int .i64 hi'] 45)) := ba_alloc hbw14 _
              have hSP := Blk.new w14 45 #[.int .i64 lo, .int .i64 hi']
              generalize (w14.alloc (.cells #[.int .i64 lo, .int .i64 hi'] 45)) = W15 at *
              generalize w14.heap.size = g15 at *
              have hG15 := HGB.out.via hb15
              have z0 := hG15.cell 0
              have z3 := hG15.cell 3
              have zl := hG15.lt
              have s0 := hSP.cell 0
              have s1 := hSP.cell 1
              have sl := hSP.lt
              simp only [List.getElem?_toArray, List.getElem?_cons_zero, List.getElem?_cons_succ] at z0 z3 s0 s1
              have hb := ba_via hb15 hb13
              clear hG15 hSP HGB HZ13 HAn hbw14 hb15 hb13
              rcases hcs with ⟨rfl, rfl⟩ | ⟨rfl, rfl⟩ | ⟨rfl, rfl, k1, k2⟩
              all_goals (
                go_wp2
                go_roundw
                case rel => exact ⟨i + 1, by omega, by go_num, ba_via hb hbr⟩
                case measure => simp [intOf]; omega)
            · have hin : i = N := by omega
              have hii : ¬ ((i : Int) < N) := by omega
              go_wp2
              go_ret
              exact ⟨rfl, hwr⟩
end Go.Proofs.YtffkmgjmlahfpaaGreat
namespace Go.Proofs.YtffkmgjmlahfpaaGreat
open Go.RowKit
theorem other_walk (x : Dt) (ds : List Dm) (w : World) (h : DtOk w x ds) :
    Calls Tryz.prog 10 #[dtV x] w fun e w' => e = .returned (.bool true) ∧ Below w.heap.size w w' := by
  have HSM : ∀ W, Below w.heap.size w W → Calls Tryz.prog 29 #[dtV x] W fun e w' => e = .returned (.bool (S.small25 x ds)) ∧ Below W.heap.size W w' := fun W hw =>
    few_any x (S.small25 x ds) W (fun V hV => small25_any x ds w.heap.size V (hw.trans (hV.mono hw.size)).size (h.at_.at_ (Nat.le_refl _) (hw.trans (hV.mono hw.size))) (h.dems.at_ (Nat.le_refl _) (hw.trans (hV.mono hw.size))))
  cases hsm : S.small25 x ds
  · rw [hsm] at HSM
    exact otherLaw_big x w HSM
  · rw [hsm] at HSM
    by_cases hlk : S.look x (S.dems ds) = false
    · exact otherLaw_err x w HSM (bad_All h hlk)
    · have hlk2 : S.look x (S.dems ds) = true := by simpa using hlk
      have g := look_ok hlk2
      obtain ⟨rs, hrs⟩ := rods_ex g.laid
      have hC := few_chains hsm g.laid
      have h20 : ds.length ≤ 20 := ((dems_iff ds).1 g.dems).1
      refine otherLaw_yes x (S.nOf x) ds (S.supplies x ds rs) (S.supplies x (S.other ds) rs) w h.dems.len (by rw [← h.dems.len]; exact h20) g.n2000 (fun i => ?_) (fun i hi => ?_) (fun i hi => ?_) (fun W hw => (h.dems.at_ (Nat.le_refl _) hw).cells) HSM (good_All h hlk2 hC hrs)
        (fun A c W hw hn hs => with_All h hlk2 hC hrs hw hn hs) (good_rcount h hlk2) (fun i hi => one_says h hlk2 hi)
      · unfold S.supplies
        split
        · exact Nat.le_trans (sup_steps h hlk2 hC _ hrs) (by decide)
        · simp
      · unfold S.supplies
        rw [List.getElem?_eq_getElem (show i < ds.length by rw [h.dems.len]; exact hi)]
        exact sup_valid hlk2 hC hrs _
      · rw [← h.dems.len] at hi ⊢
        exact other_same hi
end Go.Proofs.YtffkmgjmlahfpaaGreat
