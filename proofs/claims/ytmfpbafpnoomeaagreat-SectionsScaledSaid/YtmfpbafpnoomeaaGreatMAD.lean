/- Lemmas. -/
import Derived.Test.YtmfpbafpnoomeaaGreatMAA
import Derived.Test.YtmfpbafpnoomeaaGreatMAC
set_option linter.unusedVariables false
set_option linter.unusedSimpArgs false
namespace Go.Proofs.YtmfpbafpnoomeaaGreat
open Go.RowKit
def AsksM (w : World) (F : Nat) (fst cap : Array Value) (xs : List Int) (p : Int -> Bool) : Prop :=
 ∀ (x : Int), x ∈ xs -> ∀ (w' : World), Below w.heap.size w w' -> Calls Tryz.prog F (fst.push (.int .i64 x) ++ cap) w' fun e w'' => e = .returned (.bool (p x)) /\ Below w'.heap.size w' w''
theorem indexfM_any (F : Nat) (fst cap : Array Value) (p : Int -> Bool) (A : Option Addr) (n c : Nat) (xs : List Int) (B : Nat) (w : World) (hn : xs.length = n) (hm : n <= 9223372036854775807) (hB : B <= w.heap.size)
 (hs : Cells w B A (i64s xs)) (hF : ∀ args w, Sem.run Tryz.prog (callFunc F args) w = .ok (.enter F args) w) (hf : AsksM w F fst cap xs p) :
 Calls Tryz.prog 183 #[.slice A n c, .func (.func F) fst cap] w fun e w' => e = .returned (.int .i64 (idxf xs p)) /\ Below w.heap.size w w' := by
 have HN := lh hn
 clear hn
 go_enter Tryz.func183, Tryz.ntmps183
 go_wp2
 go_loopw [8] (fun i wr => ∃ k : Nat, k <= n /\ i = .int .i64 k /\ (∀ j (h : j < xs.length), j < k -> p xs[j] = false) /\ Below w.heap.size w wr) (fun i _ => n - (intOf i).toNat)
 case atStart => exact ⟨0, Nat.zero_le _, rfl, fun j _ hj => absurd hj (by omega), Below.refl _ _⟩
 case round =>
  obtain ⟨k, hk, rfl, hno, hbr⟩ := hrel
  have HNO := lh hno
  clear hno
  by_cases hlt : k < n
  ·have hkx : k < xs.length := by have := HN.out; omega
   have hs' := hs.below (hbr.mono hB)
   obtain ⟨b, o, rfl, _, hc⟩ := hs'.at_ (by simp; omega)
   have hck := hc k _ (i64s_get hkx)
   clear hc
   by_cases hx : p xs[k] = true
   ·go_wp2_with (refine (hf _ (List.getElem_mem hkx) _ hbr).mono ?_; rintro e w1 ⟨rfl, hb1⟩)
    go_ret
    exact ⟨ret_i (idxf_hit hkx hx HNO.out).symm, hbr.trans (hb1.mono hbr.size)⟩
   ·have hx' : p xs[k] = false := by simpa using hx
    clear hx
    go_wp2_with (refine (hf _ (List.getElem_mem hkx) _ hbr).mono ?_; rintro e w1 ⟨rfl, hb1⟩)
    go_roundw
    case rel =>
     refine ⟨k + 1, by omega, by go_num, fun j hj hjk => ?_, hbr.trans (hb1.mono hbr.size)⟩
     by_cases hjk' : j = k
     ·subst hjk'; exact hx'
     ·exact HNO.out j hj (by omega)
    case measure => simp [intOf]; omega
  ·go_wp2
   go_ret
   exact ⟨ret_i (idxf_miss (fun j hj => HNO.out j hj (by have := HN.out; omega))).symm, hbr⟩
theorem containsfM_any (F : Nat) (fst cap : Array Value) (p : Int -> Bool) (A : Option Addr) (n c : Nat) (xs : List Int) (B : Nat) (w : World) (hn : xs.length = n) (hm : n <= 9223372036854775807) (hB : B <= w.heap.size)
 (hs : Cells w B A (i64s xs)) (hF : ∀ args w, Sem.run Tryz.prog (callFunc F args) w = .ok (.enter F args) w) (hf : AsksM w F fst cap xs p) :
 Calls Tryz.prog 127 #[.slice A n c, .func (.func F) fst cap] w fun e w' => e = .returned (.bool (anyb xs p)) /\ Below w.heap.size w w' := by
 have HN := lh hn
 have HF := lh hF
 have he : decide (0 <= idxf xs p) = anyb xs p := idxf_ge xs p
 clear hn hF
 go_enter Tryz.func127, Tryz.ntmps127
 go_wp2_with (go_at_call 183; refine (indexfM_any F fst cap p _ _ _ xs B _ HN.out hm hB hs HF.out hf).mono ?_; rintro e w1 ⟨rfl, hb1⟩)
 go_ret
 exact ⟨rfl, bel⟩
theorem at_store {P : Program} {ops : Array Oper} {Q : Exit -> Act -> World -> Prop} {rest : List Oper} {a : Act} {w : World} (ty : TypeId) (s r : Nat) {dst : Option Nat} {t : TypeId} {pos : String} {after : Array Edge}
 (h : wpList P ops Q ({ dst := dst, op := .store ty (.tmp s) (.tmp r), type := t, pos := pos, after := after, guard := none } :: rest) a w) : wpList P ops Q ({ dst := dst, op := .store ty (.tmp s) (.tmp r), type := t, pos := pos, after := after, guard := none } :: rest) a w := h
theorem filter_next {α : Type} (p : α -> Bool) {l : List α} {k : Nat} (h : k < l.length) : (l.take (k + 1)).filter p = (l.take k).filter p ++ (if p l[k] then [l[k]] else []) := by
 have e : l.take (k + 1) = l.take k ++ [l[k]] := by rw [List.take_add_one, List.getElem?_eq_getElem h]; rfl
 rw [e, List.filter_append]
 congr 1
 cases hp : p l[k] <;> simp [hp]
theorem flat5_get {l : List SCh} {k : Nat} (h : k < l.length) {q : Nat} (hq : q < 5) : (l.flatMap schC)[k * 5 + q]? = (schC l[k])[q]? := by
 induction l generalizing k with
 | nil => simp at h
 | cons a t ih =>
  rw [List.flatMap_cons]
  cases k with
  | zero => rw [Nat.zero_mul, Nat.zero_add, List.getElem?_append_left (by rw [schC_len]; exact hq)]; rfl
  | succ k =>
   rw [List.getElem?_append_right (by rw [schC_len]; omega), schC_len, show (k + 1) * 5 + q - 5 = k * 5 + q by omega]
   exact ih (by simpa using h)
theorem flat5_len (l : List SCh) : (l.flatMap schC).length = l.length * 5 := by rw [flat_len schC 5 schC_len]
theorem idxf_cases {α : Type} (xs : List α) (p : α -> Bool) : (idxf xs p = -1 /\ ∀ j (h : j < xs.length), p xs[j] = false) ∨ ∃ k : Nat, ∃ hk : k < xs.length, idxf xs p = k /\ p xs[k] = true /\ ∀ j (h : j < xs.length), j < k -> p xs[j] = false := by
 cases hf : xs.findIdx? p with
 | none =>
  rw [List.findIdx?_eq_none_iff] at hf
  have hno : ∀ j (h : j < xs.length), p xs[j] = false := fun j h => hf _ (List.getElem_mem h)
  exact .inl ⟨idxf_miss hno, hno⟩
 | some k =>
  rw [List.findIdx?_eq_some_iff_getElem] at hf
  obtain ⟨hk, hx, hno⟩ := hf
  have hno' : ∀ j (h : j < xs.length), j < k -> p xs[j] = false := fun j h hj => by simpa using hno j hj
  exact .inr ⟨k, hk, idxf_hit hk hx hno', hx, hno'⟩
theorem Exc.trans5 {M : List Nat} {W w w' : World} (h : Exc M W w) (h' : Exc M w w') : Exc M W w' :=
 ⟨h'.os.trans h.os, h'.tape.trans h.tape, h'.output.trans h.output, Nat.le_trans h.size h'.size, fun k hk hm => (h'.block k (Nat.lt_of_lt_of_le hk h.size) hm).trans (h.block k hk hm)⟩
theorem exc_put (g o : Nat) (vs : List Value) (w : World) : Exc [g] w (w.setCells g o vs) := by
 induction vs generalizing o w with
 | nil => exact Exc.refl _ _
 | cons v r ih => exact Exc.trans5 ((Exc.refl [g] w).set (p := ⟨g, o, none⟩) (.inl (by simp)) v) (ih (o + 1) _)
theorem Exc.into {M M' : List Nat} {W w : World} (h : Exc M W w) (hM : ∀ k, k ∈ M -> k ∈ M') : Exc M' W w := ⟨h.os, h.tape, h.output, h.size, fun k hk hm => h.block k hk fun hm' => hm (hM k hm')⟩
theorem indexSch_any (p : Int) (gp : Nat) (A : Option Addr) (n c : Nat) (xs : List SCh) (B : Nat) (w : World) (hn : xs.length = n) (hm : n <= 2000) (hB : B <= w.heap.size)
 (hs : Cells w B A (xs.flatMap schC)) (hc : w.cell? ⟨gp, 0, none⟩ = some (.int .i64 p)) (hg : gp < w.heap.size) :
 Calls Tryz.prog 131 #[.slice A n c, .func (.func 92) #[] #[.pointer (some ⟨gp, 0, none⟩)]] w fun e w' => e = .returned (.int .i64 (idxf xs fun r => !S.atPl p r)) /\ Below w.heap.size w w' := by
 have HN := lh hn
 have HK := lh (fun (r : SCh) (W : World) (hw : Below w.heap.size w W) => notat_any r p gp W ((hw.cell (p := ⟨gp, 0, none⟩) hg).trans hc) (Nat.lt_of_lt_of_le hg hw.size))
 clear hn hc
 go_enter Tryz.func131, Tryz.ntmps131
 go_wp2
 go_loopw [8] (fun i wr => ∃ k : Nat, k <= n /\ i = .int .i64 k /\ (∀ j (h : j < xs.length), j < k -> (!S.atPl p xs[j]) = false) /\ Below w.heap.size w wr) (fun i _ => n - (intOf i).toNat)
 case atStart => exact ⟨0, Nat.zero_le _, rfl, fun j _ hj => absurd hj (by omega), Below.refl _ _⟩
 case round =>
  obtain ⟨k, hk, rfl, hno, hbr⟩ := hrel
  have HNO := lh hno
  clear hno
  by_cases hlt : k < n
  ·have hkx : k < xs.length := by have := HN.out; omega
   have hs' := hs.below (hbr.mono hB)
   obtain ⟨b, o, rfl, hb, hxx⟩ := hs'.at_ (by rw [flat5_len]; omega)
   clear hxx
   have c0 := hs'.row0 schC_len hkx rfl
   have c1 := hs'.rowj schC_len hkx 1 rfl
   have c2 := hs'.rowj schC_len hkx 2 rfl
   have c3 := hs'.rowj schC_len hkx 3 rfl
   have c4 := hs'.rowj schC_len hkx 4 rfl
   have hbl : b < wr.heap.size := by have := hbr.size; omega
   clear hs'
   have HX := lh (fun (h : (!S.atPl p xs[k]) = true) => idxf_hit (p := fun r => !S.atPl p r) hkx h HNO.out)
   have HKK := lh (HK.out xs[k])
   have HY := lh (fun (h : (!S.atPl p xs[k]) = false) => show ∀ j (hj : j < xs.length), j < k + 1 -> (!S.atPl p xs[j]) = false from fun j hj hjk => by
    by_cases hjk' : j = k
    ·subst hjk'; exact h
    ·exact HNO.out j hj (by omega))
   generalize (!S.atPl p xs[k]) = t at *
   generalize xs[k] = r at *
   cases t
   ·go_wp2_with (go_at_call 92; refine (HKK.out _ hbr).mono ?_; rintro e w1 ⟨rfl, hb1⟩)
    go_roundw
    case rel => exact ⟨k + 1, by omega, by go_num, HY.out trivial, hbr.trans (hb1.mono hbr.size)⟩
    case measure => simp [intOf]; omega
   ·go_wp2_with (go_at_call 92; refine (HKK.out _ hbr).mono ?_; rintro e w1 ⟨rfl, hb1⟩)
    go_ret
    exact ⟨ret_i (HX.out trivial).symm, hbr.trans (hb1.mono hbr.size)⟩
  ·go_wp2
   go_ret
   exact ⟨ret_i (idxf_miss (fun j hj => HNO.out j hj (by have := HN.out; omega))).symm, hbr⟩
def zeroSch : Array Value := #[.slice none 0 0, .int .i64 0, .int .i64 0, .bool false, .int .i64 0]
theorem zeroSch_one (n : Nat) : ∀ v, v ∈ (Builtin.zeroCells zeroSch n).toList -> v.oneCell' = true := by
 intro v hv
 simp only [Builtin.zeroCells, Array.toList_map, List.mem_map] at hv
 obtain ⟨i, _, rfl⟩ := hv
 have hi : i % zeroSch.size < 5 := Nat.mod_lt _ (by decide)
 generalize i % zeroSch.size = k at hi
 match k, hi with
 | 0, _ => rfl
 | 1, _ => rfl
 | 2, _ => rfl
 | 3, _ => rfl
 | 4, _ => rfl
 | k + 5, h => omega
theorem zeroSch_len (n : Nat) : (Builtin.zeroCells zeroSch n).toList.length = n * 5 := by simp [Builtin.zeroCells, zeroSch]
theorem clear5_run (b o n c : Nat) (hn : 0 < n) (w : World) (ht : w.there b o (n * 5)) (ty : TypeId) :
 (Builtin.clear_ #[118] ty #[.slice (some ⟨b, o, none⟩) n c]).run Tryz.prog w = .ok (.tuple #[]) (w.setCells b o (Builtin.zeroCells zeroSch n).toList) := by
 have hz : ∀ w, (zeroValue 172).run Tryz.prog w = .ok (.agg zeroSch) w := fun w => by
  have h := elemSch.info
  cases hi : Tryz.prog.info? 172 with
  | none => rw [hi] at h; cases h
  | some i =>
   rw [hi] at h
   simp only [Option.map_some, Option.some.injEq, Prod.mk.injEq] at h
   simp [zeroValue, typeInfo, Sem.run, hi, h.1, zeroSch]
 have hst := run_storeCells_cells (P := Tryz.prog) b o (Builtin.zeroCells zeroSch n).toList 0 w (fun j hj => by rw [zeroSch_len] at hj; rw [Nat.add_zero]; exact (ht j hj).1) (fun j hj => by rw [zeroSch_len] at hj; rw [Nat.add_zero]; exact (ht j hj).2) (zeroSch_one n)
 simp only [Nat.add_zero] at hst
 obtain ⟨m, rfl⟩ : ∃ m, n = m + 1 := ⟨n - 1, by omega⟩
 have hcs : (Value.agg zeroSch).cells = zeroSch := rfl
 simp [Builtin.clear_, run_underlying elemSch.slice, hz, hcs, hst]
structure Kept (cs : List SCh) (p : Int) (cur cur' : Array Value) (i j : Nat) : Prop where
 size : cur'.size = cur.size
 len : ((cs.take j).filter (S.atPl p)).length = i
 lt : i < j
 le : j <= cs.length
 done : ∀ q, q < i * 5 -> cur'[q]? = (((cs.take j).filter (S.atPl p)).flatMap schC)[q]?
 rest : ∀ q, j * 5 <= q -> cur'[q]? = cur[q]?
theorem Kept.skip {cs : List SCh} {p : Int} {cur cur' : Array Value} {i j : Nat} (h : Kept cs p cur cur' i j) (hj : j < cs.length) (hp : S.atPl p cs[j] = false) : Kept cs p cur cur' i (j + 1) := by
 have e : (cs.take (j + 1)).filter (S.atPl p) = (cs.take j).filter (S.atPl p) := by rw [filter_next (S.atPl p) hj, hp]; simp
 exact ⟨h.size, by rw [e]; exact h.len, by have := h.lt; omega, hj, by rw [e]; exact h.done, fun q hq => h.rest q (by omega)⟩
theorem Kept.keep {cs : List SCh} {p : Int} {cur cur' cur2 : Array Value} {i j : Nat} (h : Kept cs p cur cur' i j) (hj : j < cs.length) (hp : S.atPl p cs[j] = true) (hs : cur2.size = cur'.size)
 (hc : ∀ q, cur2[q]? = if i * 5 <= q /\ q < i * 5 + (schC cs[j]).length then (schC cs[j])[q - i * 5]? else cur'[q]?) : Kept cs p cur cur2 (i + 1) (j + 1) := by
 have e : (cs.take (j + 1)).filter (S.atPl p) = (cs.take j).filter (S.atPl p) ++ [cs[j]] := by rw [filter_next (S.atPl p) hj, hp]; simp
 have hl := h.lt
 rw [schC_len] at hc
 have hfl : (((cs.take j).filter (S.atPl p)).flatMap schC).length = i * 5 := by rw [flat5_len, h.len]
 refine ⟨hs.trans h.size, by rw [e, List.length_append, h.len]; rfl, by omega, hj, fun q hq => ?_, fun q hq => ?_⟩
 ·rw [e, List.flatMap_append, hc q]
  by_cases hqi : q < i * 5
  ·rw [if_neg (by omega), List.getElem?_append_left (by rw [hfl]; exact hqi)]
   exact h.done q hqi
  ·rw [if_pos ⟨by omega, by omega⟩, List.getElem?_append_right (by rw [hfl]; omega), hfl, List.flatMap_cons, List.flatMap_nil, List.append_nil]
 ·rw [hc q, if_neg (by omega)]
  exact h.rest q (by omega)
theorem Kept.first {cs : List SCh} {p : Int} {cur : Array Value} {i : Nat} (hi : i < cs.length) (hcur : ∀ q, q < cs.length * 5 -> cur[q]? = (cs.flatMap schC)[q]?) (hp : S.atPl p cs[i] = false) (hno : ∀ j (h : j < cs.length), j < i -> S.atPl p cs[j] = true) : Kept cs p cur cur i (i + 1) := by
 have e0 : (cs.take i).filter (S.atPl p) = cs.take i := List.filter_eq_self.2 fun r hr => by
  obtain ⟨j, hj, rfl⟩ := List.getElem_of_mem hr
  rw [List.length_take] at hj
  rw [List.getElem_take]
  exact hno j (by omega) (by omega)
 have e : (cs.take (i + 1)).filter (S.atPl p) = cs.take i := by rw [filter_next (S.atPl p) hi, hp, e0]; simp
 refine ⟨rfl, by rw [e, List.length_take]; omega, by omega, hi, fun q hq => ?_, fun q _ => rfl⟩
 rw [e, hcur q (by omega)]
 have e2 : cs.flatMap schC = (cs.take i).flatMap schC ++ (cs.drop i).flatMap schC := by rw [<- List.flatMap_append, List.take_append_drop]
 rw [e2, List.getElem?_append_left (by rw [flat5_len, List.length_take, Nat.min_eq_left (by omega)]; exact hq)]
theorem Blk.thereAt5 {w : World} {g : Nat} {t : TypeId} {cs : Array Value} (h : Blk w g t cs) (o : Nat) {n : Nat} (hn : o + n <= cs.size) : w.there g o n := fun j hj => ⟨by rw [h.cell]; simp; omega, h.frozen _⟩
def S.outI (rs : List Rod) (z : Bx) (i : Int) : Bool := match rs[i.toNat]? with | some r => S.outside r z | none => false
def S.sup (rs : List Rod) (z : Bx) (c : SCh) : Bool := c.is && !(anyb c.l (S.outI rs z))
def GivesSups (x : Dt) (C : List (List Int)) (n : Nat) (keep : List Rod -> SCh -> Bool) (w : World) (e : Ending) (w' : World) : Prop :=
 ∃ (A1 : Option Addr) (c1 : Nat) (rs : List Rod) (A2 : Option Addr) (c2 : Nat) (cs : List SCh) (b2 : Nat), e = .returned (.tuple #[.slice A1 rs.length c1, .slice A2 (cs.filter (keep rs)).length c2, .int .i64 0]) /\ rs.length = n /\ (∀ (i : Nat) (hi : i < rs.length), RodOk x i rs[i]) /\ w.heap.size <= b2 /\ b2 <= w'.heap.size /\
  Cells w' b2 A1 (rs.flatMap rodC) /\ (∀ r, r ∈ rs -> Cells w' b2 r.A (r.legs.flatMap boxC)) /\ w'.ownsRow b2 172 5 (.slice A2 (cs.filter (keep rs)).length c2) (cs.filter (keep rs)).length ((cs.filter (keep rs)).flatMap schC) /\
  cs.length = C.length /\ (∀ (i : Nat) (hi : i < cs.length) (hj : i < C.length), SchOk x rs C[i] cs[i]) /\ (∀ c, c ∈ cs -> Cells w' b2 c.A (i64s c.l)) /\ Below w.heap.size w w'
theorem DemsAt.wide {w : World} {B B' : Nat} {A : Option Addr} {n : Nat} {ds : List Dm} (h : DemsAt w B A n ds) (hB : B <= B') : DemsAt w B' A n ds :=
 ⟨h.len, h.max, h.cells.mono hB, fun d hd => ⟨(h.each d hd).len, (h.each d hd).max, (h.each d hd).cells.mono hB⟩, h.name⟩
set_option maxRecDepth 20000 in
set_option maxHeartbeats 8000000 in
theorem sups_any (x : Dt) (C : List (List Int)) (n : Nat) (ds : List Dm) (k : Nat) (d : Dm) (B : Nat) (w : World) (hB : B <= w.heap.size) (hA : DtAt w B x) (hD : DemsAt w B x.dA x.dn ds) (hk : ds[k]? = some d) (hrt : S.demRight d = true) (hl : S.laid (bars x.bs) x.rs = true) (hn : n <= 2000) (hC : C.length <= 2000)
 (hCI : ∀ l, l ∈ C -> 0 < l.length /\ l.length <= 2001 /\ ∀ i, i ∈ l -> 0 <= i /\ i < (n : Int))
 (hCH : ∀ W, Below w.heap.size w W -> Calls Tryz.prog 126 #[dtV x] W (GivesSup x C n W)) :
 Calls Tryz.prog 90 #[dtV x, .int .i64 k] w (GivesSups x C n (fun rs => S.sup rs d.zone) w) := by
 have HCH := lh hCH
 have HD := lh hD
 have HCI := lh hCI
 have hkx : k < ds.length := (List.getElem?_eq_some_iff.1 hk).1
 have hkd : (k : Int) < x.dn := by have := hD.len; omega
 clear hCH hD hCI
 unfold dtV at HCH
 unfold dtV
 have hDB := (Blk.new w 34 (dtc x)).alloc (.cells #[.int .i64 k] 3)
 have hKB := Blk.new (w.alloc (.cells (dtc x) 34)) 3 #[.int .i64 k]
 have hW1 : Below w.heap.size w ((w.alloc (.cells (dtc x) 34)).alloc (.cells #[.int .i64 k] 3)) := ba_alloc (ba_alloc (Below.refl _ _) _) _
 go_enter Tryz.func90, Tryz.ntmps90
 go_upto_region 1 with fail
 rw [show (w.alloc (.cells (dtc x) 34)).heap.size = w.heap.size + 1 by simp] at hKB
 generalize ((w.alloc (.cells (dtc x) 34)).alloc (.cells #[.int .i64 k] 3)) = W1 at *
 have HDB := lh hDB
 have HKB := lh hKB
 clear hDB hKB
 go_upto_region 2 with (first
  | ((with_reducible refine at_load 34 2 ?_); refine wpList_load_mid rfl 34 (.tmp 2) rfl _ _ rfl _ _ (HDB.out.via belr).range Tryz.underlying34 rfl (by kernel_rfl) ?_)
  | (go_at_call 126; (with_reducible refine (HCH.out _ belr).mono ?_); rintro e w2 ⟨A1, c1, rs, A2, c2, cs, rfl, hrl, hok, hRA, hOW, hcl, hsch, hcc, hbw2⟩; have HRL := lh hrl; have HOK := lh hok; have HRA := lh hRA; have HOW := lh hOW; have HCL := lh hcl; have HSC := lh hsch; have HCC := lh hcc; clear hrl hok hRA hOW hcl hsch hcc))
 have hL2 := Blk.new w2 117 #[.slice A1 rs.length c1]
 have hb2 : Below w2.heap.size w2 (w2.alloc (.cells #[.slice A1 rs.length c1] 117)) := ba_alloc (Below.refl _ _) _
 have hs12 := hbw2.size
 have hsw1 := hW1.size
 have hwl : w.heap.size < W1.heap.size := HDB.out.lt
 have hwl1 : w.heap.size + 1 < W1.heap.size := HKB.out.lt
 have hw2 : Below w.heap.size w w2 := ba_via hbw2 hW1
 have HD3 := lh ((HDB.out.via hbw2).via hb2)
 have HK3 := lh ((HKB.out.via hbw2).via hb2)
 have HR3 := lh (HRA.out.kept hb2)
 have HO3 := lh (own_kept HOW.out (fun k hk => hb2.block k (HOW.out.lt k hk).2))
 have HC3 := lh (fun (c : SCh) (hc : c ∈ cs) => ((HCC.out c hc).below hb2).mono hb2.size)
 have hw3 : Below w.heap.size w (w2.alloc (.cells #[.slice A1 rs.length c1] 117)) := hw2.trans (hb2.mono hw2.size)
 have h23 : w2.heap.size < (w2.alloc (.cells #[.slice A1 rs.length c1] 117)).heap.size := by simp
 generalize (w2.alloc (.cells #[.slice A1 rs.length c1] 117)) = W3 at *
 generalize w2.heap.size = g7 at *
 clear HDB HKB HRA HOW HCC hbw2 hb2 hW1 HCH hw2
 obtain ⟨nc, hnc⟩ : ∃ nc, nc = cs.length := ⟨_, rfl⟩
 have HNC := lh hnc
 have hnc2 : nc <= 2000 := by rw [hnc, HCL.out]; exact hC
 rw [<- hnc]
 clear hnc
 have d9 := HD3.out.cell 9
 have k0 := HK3.out.cell 0
 have dl := HD3.out.lt
 have kl := HK3.out.lt
 simp only [ga1, ga2, ga3] at d9 k0
 have hk0 : ¬ ((k : Int) < 0) := by omega
 have hk1 : ¬ ((x.dn : Int) <= k) := by omega
 have HL3 := lh hL2
 clear hL2
 go_wp2
 go_loopw [10, 36] (fun v i wr => ∃ q : Nat, q <= nc /\ i = .int .i64 q /\ wr.ownsRow W3.heap.size 172 5 v ((cs.take q).filter (S.sup rs d.zone)).length (((cs.take q).filter (S.sup rs d.zone)).flatMap schC) /\ Below W3.heap.size W3 wr) (fun _ i _ => nc - (intOf i).toNat)
 case atStart => exact ⟨0, Nat.zero_le _, rfl, World.ownsRow_nil _ _ _ _, Below.refl _ _⟩
 case round =>
  obtain ⟨q, hq, rfl, hO, hbr⟩ := hrel
  have HO := lh hO
  clear hO d9 k0
  by_cases hlt : q < nc
  ·have hqx : q < cs.length := by have := HNC.out; omega
   have hqi : (q : Int) < nc := by omega
   have hCS := (own_cells HO3.out (by have := HNC.out; unfold maxLen; omega)).1.below hbr
   obtain ⟨b2, o2, hA2, hbb2, hxx⟩ := hCS.at_ (by rw [flat_len schC 5 schC_len]; omega)
   clear hxx
   subst hA2
   have c0 := hCS.row0 schC_len hqx rfl
   have c1' := hCS.rowj schC_len hqx 1 rfl
   have c2' := hCS.rowj schC_len hqx 2 rfl
   have c3' := hCS.rowj schC_len hqx 3 rfl
   have c4' := hCS.rowj schC_len hqx 4 rfl
   have hsr := hbr.size
   have hb2l : b2 < wr.heap.size := by omega
   have HCM := lh (show cs[q] ∈ cs from List.getElem_mem hqx)
   have HFN := lh (filter_next (S.sup rs d.zone) hqx)
   have hqC : q < C.length := by rw [<- HCL.out]; exact hqx
   have hce := HCI.out C[q] (List.getElem_mem hqC)
   rw [<- (HSC.out q hqx hqC).bars] at hce
   clear hCS
   generalize cs[q] = c at *
   have HCE := lh hce.2.2
   have hll := hce.2.1
   have HSP := lh (show S.sup rs d.zone c = (c.is && !(anyb c.l (S.outI rs d.zone))) from rfl)
   have HCL3 := lh ((HC3.out c HCM.out).below hbr)
   clear hce
   go_upto_region 10 with fail
   have hC12 := Blk.new wr 172 #[.slice c.A c.l.length c.c, .int .i64 c.lo, .int .i64 c.hi, .bool c.is, .int .i64 c.area]
   have hb12 : Below wr.heap.size wr (wr.alloc (.cells #[.slice c.A c.l.length c.c, .int .i64 c.lo, .int .i64 c.hi, .bool c.is, .int .i64 c.area] 172)) := ba_alloc (Below.refl _ _) _
   generalize (wr.alloc (.cells #[.slice c.A c.l.length c.c, .int .i64 c.lo, .int .i64 c.hi, .bool c.is, .int .i64 c.area] 172)) = W12 at *
   clear c0 c1' c2' c3' c4'
   have h12s := hb12.size
   have h312 : Below W3.heap.size W3 W12 := hbr.trans (hb12.mono hsr)
   have hw12 : Below w.heap.size w W12 := hw3.trans (h312.mono hw3.size)
   have HD12 := lh (HD3.out.via h312)
   have HK12 := lh (HK3.out.via h312)
   have HL12 := lh (HL3.out.via h312)
   have HR12 := lh (HR3.out.kept h312)
   have HRC := lh (own_cells HR12.out.own (by have := HRL.out; unfold maxLen; omega)).1
   have HDE := lh (DemsAt.wide (HD.out.at_ hB hw12) (size_via hB hw12))
   have h312s := h312.size
   have HCF := lh (fun (W : World) (hw : Below W12.heap.size W12 W) => containsfM_any 128 #[] #[.pointer (some ⟨g7, 0, none⟩), .pointer (some ⟨w.heap.size, 0, none⟩), .pointer (some ⟨w.heap.size + 1, 0, none⟩)] (S.outI rs d.zone) c.A c.l.length c.c c.l W12.heap.size W rfl (by omega) hw.size
    (((HCL3.out.below (hb12.mono hsr)).mono h312s).below hw) Tryz.call128 (fun i hi W' hw' => by
      have hww := hw.trans (hw'.mono hw.size)
      obtain ⟨hi0, hi1⟩ := HCE.out i hi
      obtain ⟨m, rfl⟩ := Int.eq_ofNat_of_zero_le hi0
      have hir : m < rs.length := by have := HRL.out; omega
      have hO := HOK.out m hir
      have hF := rod_fit hO hl
      have he : S.outI rs d.zone (m : Int) = S.outside rs[m] d.zone := by unfold S.outI; rw [Int.toNat_natCast, List.getElem?_eq_getElem hir]
      rw [he]
      exact outside_any rs ds m k rs[m] d g7 w.heap.size (w.heap.size + 1) A1 rs.length c1 x.dA x.dn x.dc W12.heap.size W' hww.size rfl (List.getElem?_eq_getElem hir) hk ((HL12.out.via hww).cell 0) ((HD12.out.via hww).cell 9) ((HK12.out.via hww).cell 0) (HL12.out.via hww).lt (HD12.out.via hww).lt (HK12.out.via hww).lt
       (HRC.out.below hww) (HDE.out.below hww) ((HR12.out.each _ (List.getElem_mem hir)).cells.below hww) hrt hF.main hF.legs))
   have t0 := hC12.cell 0
   have tl := hC12.lt
   simp only [ga1, ga2, ga3] at t0
   have HC12 := lh hC12
   clear hC12
   generalize anyb c.l (S.outI rs d.zone) = ab at *
   go_upto_region 11 with (go_at_call 127; (with_reducible refine (HCF.out _ belr).mono ?_); rintro e w5 ⟨rfl, hbw5⟩)
   have hC5 := HC12.out.via hbw5
   have hb5 : Below wr.heap.size wr w5 := ba_via hbw5 hb12
   have HO5 := lh (own_kept HO.out (fun k hk => hb5.block k (HO.out.lt k hk).2))
   have h5s := hb5.size
   have hb35 : Below W3.heap.size W3 w5 := hbr.trans (hb5.mono hsr)
   have s0 := hC5.cell 0
   have s1 := hC5.cell 1
   have s2 := hC5.cell 2
   have s3 := hC5.cell 3
   have s4 := hC5.cell 4
   have sl := hC5.lt
   simp only [ga1, ga2, ga3] at s0 s1 s2 s3 s4
   clear HCF hbw5 hb12 t0 tl hC5 HC12 HR12 HRC HDE HD12 HK12 HL12 HCL3 hw12 h312 hb5
   have HB35 := lh hb35
   cases his : c.is
   ·rw [his] at s3 HSP
    have HFE := lh (show (cs.take (q + 1)).filter (S.sup rs d.zone) = (cs.take q).filter (S.sup rs d.zone) by rw [HFN.out, HSP.out]; simp)
    go_wp2
    go_roundw
    case rel => exact ⟨q + 1, by omega, by go_num, by rw [HFE.out]; exact HO5.out, HB35.out⟩
    case measure => simp [intOf]; omega
   ·rw [his] at s3 HSP
    cases ab
    ·have HFE := lh (show (cs.take (q + 1)).filter (S.sup rs d.zone) = (cs.take q).filter (S.sup rs d.zone) ++ [c] by rw [HFN.out, HSP.out]; simp)
     have hfl := List.length_filter_le (S.sup rs d.zone) (cs.take q)
     rw [List.length_take] at hfl
     have hfl2 : ((cs.take q).filter (S.sup rs d.zone)).length <= 2000 := by omega
     clear hfl
     have hbE1 : W3.heap.size <= w5.heap.size := by omega
     go_wp2_with (at_builtin; refine wpList_push rfl (.tmp 50) (.tmp 52) _ rfl elemSch ((show Row w5 w5 u10.ownBlock W3.heap.size 172 5 u10 ((cs.take q).filter (S.sup rs d.zone)).length (((cs.take q).filter (S.sup rs d.zone)).flatMap schC) from ⟨HO5.out, fun k hk => .inl hk.symm⟩).alloc _) ((Exc.refl u10.ownBlock.toList w5).alloc _) (by intro k hk; simp [hk]) hbE1 rfl w5.heap.size 1 1 [.slice c.A c.l.length c.c, .int .i64 c.lo, .int .i64 c.hi, .bool true, .int .i64 c.area] rfl rfl ?_ (by simp [Value.oneCell']) (by unfold maxLen; omega) (by omega) ?_; (· intro j u hu; have := (Cells.newRow w5 #[.slice c.A c.l.length c.c, .int .i64 c.lo, .int .i64 c.hi, .bool true, .int .i64 c.area] 172 (0, 0)).get (k := j) (v := u) hu; simpa using this); intro v2 wE hRE hXE hOE)
     have hown := hRE.own
     rw [show ([.slice c.A c.l.length c.c, .int .i64 c.lo, .int .i64 c.hi, .bool true, .int .i64 c.area] : List Value) = schC c from by rw [<- his]] at hown
     have hbE : Below W3.heap.size W3 wE := HB35.out.trans (hXE.below (by omega) (fun g hg => (HO5.out.lt g (by simpa using hg)).1))
     go_roundw
     case rel => exact ⟨q + 1, by omega, by go_num, by rw [HFE.out]; simpa using hown, hbE⟩
     case measure => simp [intOf]; omega
    ·have HFE := lh (show (cs.take (q + 1)).filter (S.sup rs d.zone) = (cs.take q).filter (S.sup rs d.zone) by rw [HFN.out, HSP.out]; simp)
     go_wp2
     go_roundw
     case rel => exact ⟨q + 1, by omega, by go_num, by rw [HFE.out]; exact HO5.out, HB35.out⟩
     case measure => simp [intOf]; omega
  ·have hqn : q = nc := by omega
   have HFE := lh (show (cs.take q).filter (S.sup rs d.zone) = cs.filter (S.sup rs d.zone) by rw [List.take_of_length_le (by have := HNC.out; omega)])
   have hO := HO.out
   rw [HFE.out] at hO
   have hfl := List.length_filter_le (S.sup rs d.zone) cs
   obtain ⟨A5, c5, rfl, _, _, _⟩ := own_form hO (by have := HNC.out; unfold maxLen; omega)
   have hL := HL3.out.via hbr
   have l0 := hL.cell 0
   have ll := hL.lt
   simp only [ga1, ga2, ga3] at l0
   have HO9 := lh hO
   have hqi : ¬ ((q : Int) < nc) := by omega
   clear hO hL hqn hfl
   go_wp2
   go_returns
   have hRc := (own_cells HR3.out.own (by have := HRL.out; unfold maxLen; omega)).1
   exact ⟨A1, c1, rs, A5, c5, cs, W3.heap.size, rfl, HRL.out, HOK.out, hw3.size, hbr.size, hRc.below hbr, fun r hr => (HR3.out.each r hr).cells.below hbr, HO9.out, HCL.out, HSC.out, fun c hc => (HC3.out c hc).below hbr, hw3.trans (hbr.mono hw3.size)⟩
def S.ends2 (l : List SCh) : List Int := l.flatMap fun c => [c.lo, c.hi]
def S.places (l : List SCh) : List Int := Go.Lib.compact (S.sortI (S.ends2 l))
def S.ofF (l : List SCh) (ps : List Int) : Int × List Stp := ps.foldl (fun x p => if S.valueAt p l = x.1 then x else (S.valueAt p l, x.2 ++ [⟨p, S.valueAt p l⟩])) (0, [])
def S.ofL (l : List SCh) : List Stp := (S.ofF l (S.places l)).2
theorem ends2_len (l : List SCh) : (S.ends2 l).length = l.length * 2 := by
 unfold S.ends2
 induction l with
 | nil => rfl
 | cons a t ih => rw [List.flatMap_cons, List.length_append, ih, List.length_cons]; simp only [List.length_cons, List.length_nil]; omega
theorem ends2_next {l : List SCh} {k : Nat} (h : k < l.length) : S.ends2 (l.take (k + 1)) = S.ends2 (l.take k) ++ [l[k].lo, l[k].hi] := by
 have e : l.take (k + 1) = l.take k ++ [l[k]] := by rw [List.take_add_one, List.getElem?_eq_getElem h]; rfl
 unfold S.ends2
 rw [e, List.flatMap_append]
 simp
theorem places_len (l : List SCh) : (S.places l).length <= l.length * 2 := by
 unfold S.places
 have := Go.Lib.compact_length_le (S.sortI (S.ends2 l))
 rw [sortI_len, ends2_len] at this
 exact this
theorem ofF_next (l : List SCh) {ps : List Int} {k : Nat} (h : k < ps.length) : S.ofF l (ps.take (k + 1)) = if S.valueAt ps[k] l = (S.ofF l (ps.take k)).1 then S.ofF l (ps.take k) else (S.valueAt ps[k] l, (S.ofF l (ps.take k)).2 ++ [⟨ps[k], S.valueAt ps[k] l⟩]) := by
 have e : ps.take (k + 1) = ps.take k ++ [ps[k]] := by rw [List.take_add_one, List.getElem?_eq_getElem h]; rfl
 unfold S.ofF
 rw [e, List.foldl_append]
 rfl
theorem ofF_len (l : List SCh) (ps : List Int) : (S.ofF l ps).2.length <= ps.length := by
 suffices hs : ∀ (ps : List Int) (x : Int × List Stp), (ps.foldl (fun x p => if S.valueAt p l = x.1 then x else (S.valueAt p l, x.2 ++ [⟨p, S.valueAt p l⟩])) x).2.length <= x.2.length + ps.length by
  have := hs ps (0, [])
  unfold S.ofF
  simpa using this
 intro ps
 induction ps with
 | nil => intro x; simp
 | cons a t ih =>
  intro x
  rw [List.foldl_cons]
  refine Nat.le_trans (ih _) ?_
  split
  ·simp only [List.length_cons]; omega
  ·simp only [List.length_cons, List.length_append, List.length_nil]; omega
set_option maxRecDepth 20000 in
set_option maxHeartbeats 8000000 in
theorem Of_any (x : Dt) (C : List (List Int)) (n : Nat) (z : Bx) (k : Nat) (w : World) (hC : C.length <= 100)
 (har : ∀ (rs : List Rod) (l : List Int) (c : SCh), (∀ (i : Nat) (hi : i < rs.length), RodOk x i rs[i]) -> rs.length = n -> l ∈ C -> SchOk x rs l c -> 0 <= c.area /\ c.area <= 1000000)
 (hst : ∀ (rs : List Rod) (cs : List SCh), (∀ (i : Nat) (hi : i < rs.length), RodOk x i rs[i]) -> rs.length = n -> cs.length = C.length -> (∀ (i : Nat) (hi : i < cs.length) (hj : i < C.length), SchOk x rs C[i] cs[i]) -> S.steps (S.ofL (cs.filter (S.sup rs z))) = true)
 (hSU : ∀ W, Below w.heap.size w W -> Calls Tryz.prog 90 #[dtV x, .int .i64 k] W (GivesSups x C n (fun rs => S.sup rs z) W)) :
 Calls Tryz.prog 69 #[dtV x, .int .i64 k] w fun e w' => ∃ (A : Option Addr) (c : Nat) (rs : List Rod) (cs : List SCh), e = .returned (.tuple #[.slice A (S.shortSt (S.ofL (cs.filter (S.sup rs z)))).length c, .int .i64 0]) /\ rs.length = n /\ (∀ (i : Nat) (hi : i < rs.length), RodOk x i rs[i]) /\ cs.length = C.length /\ (∀ (i : Nat) (hi : i < cs.length) (hj : i < C.length), SchOk x rs C[i] cs[i]) /\
  w'.ownsRow w.heap.size 136 2 (.slice A (S.shortSt (S.ofL (cs.filter (S.sup rs z)))).length c) (S.shortSt (S.ofL (cs.filter (S.sup rs z)))).length ((S.shortSt (S.ofL (cs.filter (S.sup rs z)))).flatMap stC) /\ Below w.heap.size w w' := by
 have HSU := lh hSU
 have HAR := lh har
 have HST := lh hst
 clear hSU har hst
 unfold dtV at HSU
 unfold dtV
 have hDB := Blk.new w 34 (dtc x)
 have hW1 : Below w.heap.size w (w.alloc (.cells (dtc x) 34)) := ba_alloc (Below.refl _ _) _
 go_enter Tryz.func69, Tryz.ntmps69
 go_upto_region 1 with fail
 generalize (w.alloc (.cells (dtc x) 34)) = W1 at *
 have HDB := lh hDB
 clear hDB
 go_upto_region 2 with (first
  | ((with_reducible refine at_load 34 2 ?_); refine wpList_load_mid rfl 34 (.tmp 2) rfl _ _ rfl _ _ (HDB.out.via belr).range Tryz.underlying34 rfl (by kernel_rfl) ?_)
  | (go_at_call 90; (with_reducible refine (HSU.out _ belr).mono ?_); rintro e w2 ⟨A1, c1, rs, A2, c2, cs, b2, rfl, hrl, hok, hb1, hb2, hRC, hRL, hOW, hcl, hsch, hcc, hbw2⟩; have HRL := lh hrl; have HOK := lh hok; have HOW := lh hOW; have HCL := lh hcl; have HSC := lh hsch; clear hrl hok hRC hRL hOW hcl hsch hcc))
 have hw2 : Below w.heap.size w w2 := ba_via hbw2 hW1
 have hfl := List.length_filter_le (S.sup rs z) cs
 have hfl2 : (cs.filter (S.sup rs z)).length <= 100 := by rw [HCL.out] at hfl; omega
 have HSE := lh (HST.out rs cs HOK.out HRL.out HCL.out HSC.out)
 have HA := lh (show ∀ c, c ∈ cs.filter (S.sup rs z) -> 0 <= c.area /\ c.area <= 1000000 from fun c hc => by
  obtain ⟨i, hi, rfl⟩ := List.getElem_of_mem (List.mem_filter.1 hc).1
  exact HAR.out rs _ _ HOK.out HRL.out (List.getElem_mem _) (HSC.out i hi (by rw [<- HCL.out]; exact hi)))
 have HCS := lh (own_cells HOW.out (by unfold maxLen; omega)).1
 have HEX := lh (show ∃ (rs' : List Rod) (cs' : List SCh), rs'.length = n /\ (∀ (i : Nat) (hi : i < rs'.length), RodOk x i rs'[i]) /\ cs'.length = C.length /\ (∀ (i : Nat) (hi : i < cs'.length) (hj : i < C.length), SchOk x rs' C[i] cs'[i]) /\ cs'.filter (S.sup rs' z) = cs.filter (S.sup rs z) from ⟨rs, cs, HRL.out, HOK.out, HCL.out, HSC.out, rfl⟩)
 have hs2 := hw2.size
 clear hfl HSC HCL HOK HRL HAR HST HOW hb1 hb2 HDB HSU
 generalize cs.filter (S.sup rs z) = cl at *
 have hcli : (cl.length : Int) <= 100 := by omega
 go_wp2
 go_loopw [9, 29] (fun v i wr => ∃ q : Nat, q <= cl.length /\ i = .int .i64 q /\ wr.ownsRow w2.heap.size 3 1 v (S.ends2 (cl.take q)).length (i64s (S.ends2 (cl.take q))) /\ Below w2.heap.size w2 wr) (fun _ i _ => cl.length - (intOf i).toNat)
 case atStart => exact ⟨0, Nat.zero_le _, rfl, World.ownsRow_nil _ _ _ _, Below.refl _ _⟩
 case round =>
  obtain ⟨q, hq, rfl, hO, hbr⟩ := hrel
  have HO := lh hO
  clear hO
  by_cases hlt : q < cl.length
  ·have hqi : (q : Int) < cl.length := by omega
   have hCS := HCS.out.below hbr
   obtain ⟨b2, o2, hA2, hbb2, hxx⟩ := hCS.at_ (by rw [flat_len schC 5 schC_len]; omega)
   clear hxx
   subst hA2
   have c0 := hCS.row0 schC_len hlt rfl
   have c1' := hCS.rowj schC_len hlt 1 rfl
   have c2' := hCS.rowj schC_len hlt 2 rfl
   have c3' := hCS.rowj schC_len hlt 3 rfl
   have c4' := hCS.rowj schC_len hlt 4 rfl
   have hsr := hbr.size
   have hb2l : b2 < wr.heap.size := by omega
   have HEN := lh (ends2_next hlt)
   have hel := ends2_len (cl.take q)
   rw [List.length_take] at hel
   have hel2 : (S.ends2 (cl.take q)).length <= 200 := by omega
   clear hCS hel
   generalize cl[q] = c at *
   go_upto_region 8 with fail
   have hC12 := Blk.new wr 172 #[.slice c.A c.l.length c.c, .int .i64 c.lo, .int .i64 c.hi, .bool c.is, .int .i64 c.area]
   have hb12 : Below wr.heap.size wr (wr.alloc (.cells #[.slice c.A c.l.length c.c, .int .i64 c.lo, .int .i64 c.hi, .bool c.is, .int .i64 c.area] 172)) := ba_alloc (Below.refl _ _) _
   generalize (wr.alloc (.cells #[.slice c.A c.l.length c.c, .int .i64 c.lo, .int .i64 c.hi, .bool c.is, .int .i64 c.area] 172)) = W12 at *
   clear c0 c1' c2' c3' c4'
   have h12s := hb12.size
   have HO5 := lh (own_kept HO.out (fun k hk => hb12.block k (HO.out.lt k hk).2))
   have s1 := hC12.cell 1
   have s2 := hC12.cell 2
   have sl := hC12.lt
   simp only [ga1, ga2, ga3] at s1 s2
   have HB := lh (hbr.trans (hb12.mono hsr))
   have hbE1 : w2.heap.size <= W12.heap.size := by omega
   clear hC12 hb12
   go_wp2_with (at_builtin; refine wpList_push rfl (.tmp 33) (.tmp 40) _ rfl elemInt ((show Row W12 W12 u9.ownBlock w2.heap.size 3 1 u9 (S.ends2 (cl.take q)).length (i64s (S.ends2 (cl.take q))) from ⟨HO5.out, fun k hk => .inl hk.symm⟩).alloc _) ((Exc.refl u9.ownBlock.toList W12).alloc _) (by intro k hk; simp [hk]) hbE1 rfl W12.heap.size 2 2 [.int .i64 c.lo, .int .i64 c.hi] rfl rfl ?_ (by simp [Value.oneCell']) (by unfold maxLen; omega) (by omega) ?_; (· intro j u hu; have := (Cells.newRow W12 #[.int .i64 c.lo, .int .i64 c.hi] 3 (0, 0)).get (k := j) (v := u) hu; simpa using this); intro v2 wE hRE hXE hOE)
   have hown := hRE.own
   have hbE : Below w2.heap.size w2 wE := HB.out.trans (hXE.below (by omega) (fun g hg => (HO5.out.lt g (by simpa using hg)).1))
   go_roundw
   case rel => exact ⟨q + 1, by omega, by go_num, by rw [HEN.out]; simpa using hown, hbE⟩
   case measure => simp [intOf]; omega
  ·have hqn : q = cl.length := by omega
   have hO := HO.out
   rw [hqn, List.take_length] at hO
   have hqi : ¬ ((q : Int) < cl.length) := by omega
   have hel := ends2_len cl
   have hel2 : (S.ends2 cl).length <= 200 := by omega
   clear hel
   have hsr := hbr.size
   have HSO := lh (sort_own (S.ends2 cl) u9 (S.ends2 cl).length w2.heap.size wr hO (by omega))
   have HCSr := lh (HCS.out.below hbr)
   have HOr := lh hO
   clear hO HO hqn
   go_upto_region 11 with (go_at_call 71; (with_reducible refine HSO.out.mono ?_); rintro e w3 ⟨rfl, hO3, hX3⟩)
   have hb3 : Below w2.heap.size wr w3 := hX3.below (by omega) (fun k hk => (HOr.out.lt k (by simpa using hk)).1)
   have h3s := hX3.size
   obtain ⟨A3, c3, hu9, _, _, _⟩ := own_form hO3 (by unfold maxLen; omega)
   subst hu9
   have HCO := lh (compact_own (S.sortI (S.ends2 cl)) A3 c3 (S.ends2 cl).length w2.heap.size w3 hO3 (by omega))
   have HCS3 := lh (HCSr.out.below hb3)
   have hw3 : Below w2.heap.size w2 w3 := hbr.trans hb3
   have HLT3 := lh hO3.lt
   have HPL := lh (show Go.Lib.compact (S.sortI (S.ends2 cl)) = S.places cl from rfl)
   rw [HPL.out] at HCO
   clear hO3 hX3 HSO HCSr HOr hb3 HPL
   have hpl := places_len cl
   have hpl2 : (S.places cl).length <= 200 := by omega
   go_upto_region 14 with (go_at_call 72; (with_reducible refine HCO.out.mono ?_); rintro e w4 ⟨rfl, hO4, hX4⟩)
   have hb4 : Below w2.heap.size w3 w4 := hX4.below (by omega) (fun k hk => (HLT3.out k (by simpa using hk)).1)
   have h4s := hX4.size
   have HPC := lh (own_cells hO4 (by unfold maxLen; omega)).1
   have HCS4 := lh ((HCS3.out.below hb4).mono (show w2.heap.size <= w4.heap.size by omega))
   have hw4 : Below w2.heap.size w2 w4 := hw3.trans hb4
   have h24 := hw4.size
   clear hO4 hX4 HCO HLT3 hb4 HCS3 HCS hw3 hbr hqi
   obtain ⟨m, hm⟩ : ∃ m, m = (S.places cl).length := ⟨_, rfl⟩
   have HM := lh hm
   rw [<- hm] at hpl2
   rw [<- hm]
   clear hm hpl
   go_loopw [12, 13, 48] (fun v u i wr => ∃ q : Nat, q <= m /\ i = .int .i64 q /\ ∃ (la : Int) (out : List Stp), u = .int .i64 la /\ Hid ((la, out) = S.ofF cl ((S.places cl).take q)) /\ wr.ownsRow w4.heap.size 136 2 v out.length (out.flatMap stC) /\ Below w4.heap.size w4 wr) (fun _ _ i _ => m - (intOf i).toNat)
   case atStart => exact ⟨0, Nat.zero_le _, rfl, 0, [], rfl, lh rfl, World.ownsRow_nil _ _ _ _, Below.refl _ _⟩
   case round =>
    obtain ⟨q, hq, rfl, la, out, rfl, hu, hO, hbr⟩ := hrel
    have HO := lh hO
    clear hO
    have hol : out.length <= 200 := by
     have h1 := ofF_len cl ((S.places cl).take q)
     rw [<- hu.out, List.length_take] at h1
     simp only [] at h1
     omega
    by_cases hlt : q < m
    ·have hqx : q < (S.places cl).length := by rw [<- HM.out]; exact hlt
     have hqi : (q : Int) < m := by omega
     obtain ⟨b, o, hA3, hbb, hcc⟩ := (HPC.out.below hbr).at_ (by simp; omega)
     subst hA3
     have hck := hcc q _ (i64s_get hqx)
     have hsr := hbr.size
     have hbl : b < wr.heap.size := by omega
     have HNX := lh (ofF_next cl hqx)
     rw [<- hu.out] at HNX
     have HV := lh (fun (W : World) (hw : Below wr.heap.size wr W) => value_any cl A2 cl.length c2 (S.places cl)[q] w4.heap.size W (Nat.le_trans hsr hw.size) rfl (by omega) (HCS4.out.below (hbr.trans (hw.mono hsr))) HA.out)
     clear hcc
     generalize (S.places cl)[q] = p at *
     generalize S.valueAt p cl = nv at *
     go_upto_region 17 with (go_at_call 57; (with_reducible refine (HV.out _ belr).mono ?_); rintro e w5 ⟨rfl, hbw5⟩)
     have hb5 : Below wr.heap.size wr w5 := belr
     have HO5 := lh (own_kept HO.out (fun k hk => hb5.block k (HO.out.lt k hk).2))
     have HB5 := lh (hbr.trans (hb5.mono hsr))
     have h5s := hb5.size
     clear hb5 hbw5 HV hck
     by_cases h1 : nv = la
     ·have hb1 : (nv != la) = false := by simp [h1]
      have HV2 := lh (HNX.out.trans (by rw [if_pos h1]))
      clear h1
      go_wp2
      go_roundw
      case rel => exact ⟨q + 1, by omega, by go_num, la, out, rfl, lh HV2.out.symm, HO5.out, HB5.out⟩
      case measure => simp [intOf]; omega
     ·have hb1 : (nv != la) = true := by simp [h1]
      have HV2 := lh (HNX.out.trans (by rw [if_neg h1]))
      clear h1
      have hbE1 : w4.heap.size <= w5.heap.size := by omega
      go_wp2_with (at_builtin; refine wpList_push rfl (.tmp 58) (.tmp 62) _ rfl elemSt ((show Row w5 w5 u12.ownBlock w4.heap.size 136 2 u12 out.length (out.flatMap stC) from ⟨HO5.out, fun k hk => .inl hk.symm⟩).alloc _) ((Exc.refl u12.ownBlock.toList w5).alloc _) (by intro k hk; simp [hk]) hbE1 rfl w5.heap.size 1 1 [.int .i64 p, .int .i64 nv] rfl rfl ?_ (by simp [Value.oneCell']) (by unfold maxLen; omega) (by omega) ?_; (· intro j u hu; have := (Cells.newRow w5 #[.int .i64 p, .int .i64 nv] 136 (0, 0)).get (k := j) (v := u) hu; simpa using this); intro v2 wE hRE hXE hOE)
      have hown := hRE.own
      have hbE : Below w4.heap.size w4 wE := HB5.out.trans (hXE.below (by omega) (fun g hg => (HO5.out.lt g (by simpa using hg)).1))
      go_roundw
      case rel => exact ⟨q + 1, by omega, by go_num, nv, out ++ [⟨p, nv⟩], rfl, lh HV2.out.symm, by simpa using hown, hbE⟩
      case measure => simp [intOf]; omega
    ·have hqm : q = m := by omega
     have HE := lh (show out = S.ofL cl by have h := hu.out; rw [List.take_of_length_le (by rw [<- HM.out]; omega)] at h; unfold S.ofL; rw [<- h])
     clear hu
     have hO := HO.out
     obtain ⟨A5, c5, hu12, _, _, hC5⟩ := own_form hO (by unfold maxLen; omega)
     subst hu12
     have hqi : ¬ ((q : Int) < m) := by omega
     have hoi : ¬ ((200 : Int) < out.length) := by omega
     have hsr := hbr.size
     have HSH := lh (fun (W : World) (hw : Below wr.heap.size wr W) => Short_any out A5 out.length c5 wr.heap.size W hw.size ⟨rfl, by omega, hC5.below hw⟩ (by omega) (by rw [HE.out]; exact HSE.out))
     have HBR := lh (hw4.trans (hbr.mono h24))
     clear hO hC5 HO hbr hqm
     go_wp2_with (go_at_call 95; (with_reducible refine (HSH.out _ belr).mono ?_); rintro e w6 ⟨A6, c6, rfl, hO6, hb6⟩)
     go_ret2
     obtain ⟨rs', cs', e1, e2, e3, e4, e5⟩ := HEX.out
     have h2r := HBR.out.size
     refine ⟨A6, c6, rs', cs', ?_, e1, e2, e3, e4, ?_, hw2.trans ((HBR.out.trans (hb6.mono h2r)).mono hs2)⟩
     ·rw [e5, <- HE.out]
      rfl
     ·rw [e5, <- HE.out]
      exact own_mono hO6 (by omega)
set_option maxHeartbeats 8000000 in
theorem delf_own (cs : List SCh) (p : Int) (gp : Nat) (A : Option Addr) (n c base : Nat) (w : World) (ho : w.ownsRow base 172 5 (.slice A n c) n (cs.flatMap schC)) (hm : n <= 2000)
 (hc : w.cell? ⟨gp, 0, none⟩ = some (.int .i64 p)) (hg : gp < w.heap.size) (hne : (Value.slice A n c).ownBlock ≠ some gp) :
 Calls Tryz.prog 91 #[.slice A n c, .func (.func 92) #[] #[.pointer (some ⟨gp, 0, none⟩)]] w fun e w' => e = .returned (.slice A (cs.filter (S.atPl p)).length c) /\
  w'.ownsRow base 172 5 (.slice A (cs.filter (S.atPl p)).length c) (cs.filter (S.atPl p)).length ((cs.filter (S.atPl p)).flatMap schC) /\ Exc (Value.slice A n c).ownBlock.toList w w' := by
 have hl : cs.length = n := by have h := ho.1; rw [flat5_len] at h; omega
 have HIX := lh (fun (W : World) (hw : Below w.heap.size w W) => indexSch_any p gp A n c cs w.heap.size W hl hm hw.size ((own_cells ho (by unfold maxLen; omega)).1.below hw) ((hw.cell (p := ⟨gp, 0, none⟩) hg).trans hc) (Nat.lt_of_lt_of_le hg hw.size))
 have HO := lh ho
 rcases idxf_cases cs (fun r => !S.atPl p r) with ⟨hi, hno⟩ | ⟨i, hix, hi, hpi, hno⟩
 ·have HF := lh (show cs.filter (S.atPl p) = cs from List.filter_eq_self.2 fun r hr => by
   obtain ⟨j, hj, rfl⟩ := List.getElem_of_mem hr
   have := hno j hj
   simpa using this)
  rw [HF.out, hl]
  rw [hi] at HIX
  clear hi hno ho hc hne hl
  go_enter Tryz.func91, Tryz.ntmps91
  go_wp2_with (go_at_call 131; (with_reducible refine (HIX.out _ belr).mono ?_); rintro e w1 ⟨rfl, hbw1⟩)
  go_ret
  exact ⟨rfl, own_kept HO.out (fun k hk => hbw1.block k (HO.out.lt k hk).2), (Exc.of_below hbw1).into (by simp)⟩
 ·have hpi' : S.atPl p cs[i] = false := by simpa using hpi
  have hno' : ∀ j (h : j < cs.length), j < i -> S.atPl p cs[j] = true := fun j h hj => by simpa using hno j h hj
  rcases ho.2 with ⟨_, h0⟩ | ⟨g, cap, cur, hv, hbg, hh, hnc, hcm, hcs, htk⟩
  ·omega
  injection hv with hA _ hcap
  subst hcap
  have hcur : ∀ q, q < cs.length * 5 -> cur[q]? = (cs.flatMap schC)[q]? := fun q hq => by
   rw [<- htk, List.getElem?_take, if_pos (by omega), Array.getElem?_toList]
  have HK0 := lh (Kept.first hix hcur hpi' hno')
  have HB0 := lh (show Blk w g 172 cur from hh)
  have HCUR := lh hcur
  have hgne : gp ≠ g := fun h => hne (by rw [hA, h]; rfl)
  obtain ⟨o, ho0⟩ : ∃ o : Nat, o = 0 := ⟨0, rfl⟩
  have HO0 := lh ho0
  rw [hA, show (⟨g, 0, none⟩ : Addr) = ⟨g, o, none⟩ by rw [ho0]] at HIX ⊢
  rw [hi] at HIX
  have HL := lh hl
  have hin : i < n := by omega
  have hib : ((i : Int) == -1) = false := by first | (simp; done) | (simp; omega)
  have hib2 : ¬ ((i : Int) = -1) := by omega
  have hgl : g < w.heap.size := HB0.out.lt
  have HHC := lh hc
  have HCS := lh hcs
  have HIX0 := lh hix
  clear hno hno' hpi hpi' hcur hh htk hi ho hc ho0 hl hcs hne hix hA
  go_enter Tryz.func91, Tryz.ntmps91
  go_wp2_with (go_at_call 131; (with_reducible refine (HIX.out _ belr).mono ?_); rintro e w1 ⟨rfl, hbw1⟩)
  go_loopw [5, 6] (fun s5 s6 wr => ∃ (a b : Nat) (cur' : Array Value), s5 = .int .i64 a /\ s6 = .int .i64 b /\ Kept cs p cur cur' a b /\ Blk wr g 172 cur' /\ Exc [g] w wr) (fun _ s6 _ => n - (intOf s6).toNat)
  case atStart => exact ⟨i, i + 1, cur, rfl, by go_num, HK0.out, HB0.out.via hbw1, (Exc.of_below hbw1).into (by simp)⟩
  case round =>
   obtain ⟨a, b, cur', rfl, rfl, hkp, hblk, hex⟩ := hrel
   have hab := hkp.lt
   have hbl := hkp.le
   rw [HL.out] at hbl
   have HKP := lh hkp
   have HBK := lh hblk
   have HEX := lh hex
   have hgw : g < wr.heap.size := hblk.lt
   have hcp : wr.cell? ⟨gp, 0, none⟩ = some (.int .i64 p) := (hex.cell (p := ⟨gp, 0, none⟩) hg (by simpa using hgne)).trans HHC.out
   have hgpw : gp < wr.heap.size := Nat.lt_of_lt_of_le hg hex.size
   clear hkp hblk hex
   by_cases hlt : b < n
   ·have hbx : b < cs.length := by have := HL.out; omega
    have hbi : (b : Int) < n := by omega
    have hg5 : ∀ k v, k < 5 -> (schC cs[b])[k]? = some v -> wr.cell? ⟨g, o + b * 5 + k, none⟩ = some v := fun k v hk hv => by
     rw [HBK.out.cell, HO0.out, Nat.zero_add, HKP.out.rest _ (by omega), HCUR.out _ (by omega), flat5_get hbx hk]
     exact hv
    have e0 := hg5 0 _ (by omega) rfl
    have e1 := hg5 1 _ (by omega) rfl
    have e2 := hg5 2 _ (by omega) rfl
    have e3 := hg5 3 _ (by omega) rfl
    have e4 := hg5 4 _ (by omega) rfl
    rw [Nat.add_zero] at e0
    have HSK := lh (fun h => HKP.out.skip hbx h)
    have HKE := lh (fun cur2 h => HKP.out.keep (cur2 := cur2) hbx h)
    clear hg5
    generalize cs[b] = r at *
    have hT := Blk.new wr 172 #[.slice r.A r.l.length r.c, .int .i64 r.lo, .int .i64 r.hi, .bool r.is, .int .i64 r.area]
    have hbT : Below wr.heap.size wr (wr.alloc (.cells #[.slice r.A r.l.length r.c, .int .i64 r.lo, .int .i64 r.hi, .bool r.is, .int .i64 r.area] 172)) := ba_alloc (Below.refl _ _) _
    go_upto_region 8 with fail
    generalize (wr.alloc (.cells #[.slice r.A r.l.length r.c, .int .i64 r.lo, .int .i64 r.hi, .bool r.is, .int .i64 r.area] 172)) = W8 at *
    have hgp8 : W8.cell? ⟨gp, 0, none⟩ = some (.int .i64 p) := (hbT.cell (p := ⟨gp, 0, none⟩) hgpw).trans hcp
    have h8s := hbT.size
    have HN := lh (fun (W : World) (hw : Below W8.heap.size W8 W) => notat_any r p gp W ((hw.cell (p := ⟨gp, 0, none⟩) (show gp < W8.heap.size by omega)).trans hgp8) (by have := hw.size; omega))
    have t0 := hT.cell 0
    have t1 := hT.cell 1
    have t2 := hT.cell 2
    have t3 := hT.cell 3
    have t4 := hT.cell 4
    have tl := hT.lt
    simp only [ga1, ga2, ga3] at t0 t1 t2 t3 t4
    clear e0 e1 e2 e3 e4 hcp hgp8
    generalize ht : S.atPl p r = t at *
    clear ht
    cases t
    ·go_wp2_with (go_at_call 92; (with_reducible refine (HN.out _ belr).mono ?_); rintro e w5 ⟨rfl, hbw5⟩)
     go_roundw
     case rel =>
      have hb5 : Below wr.heap.size wr w5 := ba_via hbw5 hbT
      exact ⟨a, b + 1, cur', rfl, by go_num, HSK.out trivial, HBK.out.via hb5, HEX.out.trans5 ((Exc.of_below hb5).into (by simp))⟩
     case measure => simp [intOf]; omega
    ·have HT := lh hT
     clear hT
     go_upto_region 9 with (go_at_call 92; (with_reducible refine (HN.out _ belr).mono ?_); rintro e w5 ⟨rfl, hbw5⟩)
     have hT5 := HT.out.via hbw5
     have hb5 : Below wr.heap.size wr w5 := ba_via hbw5 hbT
     have hB5 := HBK.out.via hb5
     have s0 := hT5.cell 0
     have s1 := hT5.cell 1
     have s2 := hT5.cell 2
     have s3 := hT5.cell 3
     have s4 := hT5.cell 4
     have sl := hT5.lt
     simp only [ga1, ga2, ga3] at s0 s1 s2 s3 s4
     have hsz : a * 5 + 5 <= cur'.size := by have h1 := HKP.out.size; have h2 := HCS.out; omega
     have HTH := lh (show w5.there g (o + a * 5) (#[.slice r.A r.l.length r.c, .int .i64 r.lo, .int .i64 r.hi, .bool r.is, .int .i64 r.area] : Array Value).size from by rw [HO0.out, Nat.zero_add]; exact hB5.thereAt5 (a * 5) hsz)
     have hgl5 : g < w5.heap.size := hB5.lt
     obtain ⟨cur2, hp1, hp2, hp3⟩ := Blk.put [.slice r.A r.l.length r.c, .int .i64 r.lo, .int .i64 r.hi, .bool r.is, .int .i64 r.area] (a * 5) w5 cur' hB5 hsz
     have HP1 := lh (show Blk (w5.setCells g (o + a * 5) (#[.slice r.A r.l.length r.c, .int .i64 r.lo, .int .i64 r.hi, .bool r.is, .int .i64 r.area] : Array Value).toList) g 172 cur2 from by rw [HO0.out, Nat.zero_add]; exact hp1)
     have HX6 := lh (show Exc [g] w5 (w5.setCells g (o + a * 5) (#[.slice r.A r.l.length r.c, .int .i64 r.lo, .int .i64 r.hi, .bool r.is, .int .i64 r.area] : Array Value).toList) from exc_put g _ _ w5)
     have HKE2 := lh (HKE.out cur2 trivial hp2 hp3)
     have hai : (a : Int) < n := by omega
     have HB5 := lh hb5
     clear hp1 hp2 hp3 hB5 hT5 hb5 t0 t1 t2 t3 t4 tl hbw5 hbT
     have HX5 := lh (HEX.out.trans5 ((Exc.of_below HB5.out).into (M' := [g]) (by simp)))
     clear HEX HB5 HBK HKP HSK HKE HN HT
     go_wp2_with (with_reducible refine at_store 172 33 32 ?_; refine wpList_store_mid rfl 172 (.tmp 33) (.tmp 32) rfl g (o + a * 5) #[.slice r.A r.l.length r.c, .int .i64 r.lo, .int .i64 r.hi, .bool r.is, .int .i64 r.area] rfl rfl HTH.out (by kernel_rfl) (all_oneCell_toArray (by simp [Value.oneCell'])) ?_; generalize (w5.setCells g (o + a * 5) (#[.slice r.A r.l.length r.c, .int .i64 r.lo, .int .i64 r.hi, .bool r.is, .int .i64 r.area] : Array Value).toList) = W6 at *)
     go_roundw
     case rel => exact ⟨a + 1, b + 1, cur2, by go_num, by go_num, HKE2.out, HP1.out, HX5.out.trans5 HX6.out⟩
     case measure => simp [intOf]; omega
   ·have hbn : b = n := by omega
    have hna : 0 < n - a := by omega
    have hcz : (a * 5) + (n - a) * 5 <= cur'.size := by
     have h1 := HKP.out.size
     have h2 := HCS.out
     have h3 : n * 5 <= c * 5 := Nat.mul_le_mul_right 5 hnc
     omega
    have hcl : ∀ ty, (Builtin.clear_ #[118] ty #[.slice (some ⟨g, o + a * 5, none⟩) (n - a) (c - a)]).run Tryz.prog wr = .ok (.tuple #[]) (wr.setCells g (o + a * 5) (Builtin.zeroCells zeroSch (n - a)).toList) := fun ty => clear5_run g (o + a * 5) (n - a) (c - a) hna wr (by rw [HO0.out, Nat.zero_add]; exact HBK.out.thereAt5 (a * 5) hcz) ty
    obtain ⟨cur2, hp1, hp2, hp3⟩ := Blk.put (Builtin.zeroCells zeroSch (n - a)).toList (a * 5) wr cur' HBK.out (by rw [zeroSch_len]; exact hcz)
    have HP1 := lh hp1
    have HP3 := lh hp3
    have HFN := lh (show (cs.take b).filter (S.atPl p) = cs.filter (S.atPl p) by rw [List.take_of_length_le (by have := HL.out; omega)])
    have HFL := lh (show (cs.filter (S.atPl p)).length = a by rw [<- HFN.out]; exact HKP.out.len)
    have HSZ := lh (show cur2.size = c * 5 by rw [hp2, HKP.out.size]; exact HCS.out)
    have hai : (a : Int) <= n := by omega
    have hai2 : (a : Int) <= c := by omega
    have hnci : (n : Int) <= c := by omega
    have hac : a <= n := by omega
    have hac2 : a <= c := by omega
    have hca : ¬ (c = a) := by omega
    have hbi : ¬ ((b : Int) < n) := by omega
    have hcx : c <= 9223372036854775807 := by have : c <= maxLen := hcm; unfold maxLen at this; omega
    clear hp1 hp2 hp3 hcz
    generalize (Builtin.zeroCells zeroSch (n - a)).toList = Z at *
    go_wp2
    go_ret
    rw [HFL.out]
    refine ⟨rfl, ⟨by rw [flat5_len, HFL.out], .inr ⟨g, c, cur2, by rw [HO0.out], hbg, ?_, hac2, hcm, HSZ.out, ?_⟩⟩, HEX.out.trans5 (exc_put g _ _ wr)⟩
    ·have h := HP1.out
     rw [HO0.out, Nat.zero_add]
     exact h
    ·apply List.ext_getElem?
     intro q
     rw [List.getElem?_take]
     split
     ·rename_i hq
      rw [Array.getElem?_toList, HP3.out q, if_neg (by omega), HKP.out.done q hq, HFN.out]
     ·rename_i hq
      rw [List.getElem?_eq_none (by rw [flat5_len, HFL.out]; omega)]
def S.supAt (z : Bx) (p : Int) (rs : List Rod) (c : SCh) : Bool := S.atPl p c && S.sup rs z c
set_option maxHeartbeats 2000000 in
theorem at_any (x : Dt) (C : List (List Int)) (n : Nat) (z : Bx) (k : Nat) (p : Int) (w : World) (hC : C.length <= 2000) (hp : -1048576 <= p) (hp' : p <= 1048576)
 (hSU : ∀ W, Below w.heap.size w W -> Calls Tryz.prog 90 #[dtV x, .int .i64 k] W (GivesSups x C n (fun rs => S.sup rs z) W)) :
 Calls Tryz.prog 56 #[dtV x, .int .i64 k, .int .i64 p] w (GivesSups x C n (S.supAt z p) w) := by
 have HSU := lh hSU
 clear hSU
 unfold dtV at HSU
 unfold dtV
 have hDB := (Blk.new w 34 (dtc x)).alloc (.cells #[.int .i64 p] 3)
 have hPB := Blk.new (w.alloc (.cells (dtc x) 34)) 3 #[.int .i64 p]
 have hW1 : Below w.heap.size w ((w.alloc (.cells (dtc x) 34)).alloc (.cells #[.int .i64 p] 3)) := ba_alloc (ba_alloc (Below.refl _ _) _) _
 go_enter Tryz.func56, Tryz.ntmps56
 go_upto_region 1 with fail
 rw [show (w.alloc (.cells (dtc x) 34)).heap.size = w.heap.size + 1 by simp] at hPB
 generalize ((w.alloc (.cells (dtc x) 34)).alloc (.cells #[.int .i64 p] 3)) = W1 at *
 have HDB := lh hDB
 have HPB := lh hPB
 clear hDB hPB
 go_upto_region 2 with (first
  | ((with_reducible refine at_load 34 3 ?_); refine wpList_load_mid rfl 34 (.tmp 3) rfl _ _ rfl _ _ (HDB.out.via belr).range Tryz.underlying34 rfl (by kernel_rfl) ?_)
  | (go_at_call 90; (with_reducible refine (HSU.out _ belr).mono ?_); rintro e w2 ⟨A1, c1, rs, A2, c2, cs, b2, rfl, hrl, hok, hb1, hb2, hRC, hRL, hOW, hcl, hsch, hcc, hbw2⟩; have HRL := lh hrl; have HOK := lh hok; have HRC := lh hRC; have HRG := lh hRL; have HOW := lh hOW; have HCL := lh hcl; have HSC := lh hsch; have HCC := lh hcc; clear hrl hok hRC hRL hOW hcl hsch hcc))
 have hs1 := hW1.size
 have hs2 := hbw2.size
 have hPB2 := HPB.out.via hbw2
 have p0 := hPB2.cell 0
 have pl := hPB2.lt
 have pl1 := HPB.out.lt
 simp only [ga1, ga2, ga3] at p0
 have hfl := List.length_filter_le (S.sup rs z) cs
 have hfl2 : (cs.filter (S.sup rs z)).length <= 2000 := by rw [HCL.out] at hfl; omega
 have HDF := lh (fun (W : World) (hw : Below w2.heap.size w2 W) => delf_own (cs.filter (S.sup rs z)) p (w.heap.size + 1) A2 (cs.filter (S.sup rs z)).length c2 b2 W (own_kept HOW.out (fun k hk => hw.block k (HOW.out.lt k hk).2)) hfl2 ((hw.cell (p := ⟨w.heap.size + 1, 0, none⟩) pl).trans p0) (Nat.lt_of_lt_of_le pl hw.size) (fun h => by have := (HOW.out.lt _ h).1; omega))
 have HFF := lh (show (cs.filter (S.sup rs z)).filter (S.atPl p) = cs.filter (S.supAt z p rs) by rw [List.filter_filter]; rfl)
 rw [HFF.out] at HDF
 have hp1 : ¬ (p < -1048576) := by omega
 have hp2 : ¬ (1048576 < p) := by omega
 clear hfl hPB2 HSU HDB HPB
 go_wp2_with (go_at_call 91; (with_reducible refine (HDF.out _ belr).mono ?_); rintro e w3 ⟨rfl, hO3, hX3⟩; have HO3 := lh hO3; have HX3 := lh hX3; clear hO3 hX3)
 go_returns
 have hb3 : Below b2 w2 w3 := HX3.out.below hb2 (fun k hk => (HOW.out.lt k (by simpa using hk)).1)
 have hs3 := HX3.out.size
 exact ⟨A1, c1, rs, A2, c2, cs, b2, rfl, HRL.out, HOK.out, Nat.le_trans hs1 hb1, Nat.le_trans hb2 hs3, HRC.out.below hb3, fun r hr => (HRG.out r hr).below hb3, HO3.out, HCL.out, HSC.out, fun c hc => (HCC.out c hc).below hb3, (ba_via hbw2 hW1).trans (hb3.mono (Nat.le_trans hs1 hb1))⟩
theorem At_any (x : Dt) (C : List (List Int)) (n : Nat) (z : Bx) (k : Nat) (p : Int) (w : World) (hC : C.length <= 2000) (har : ∀ (rs : List Rod) (l : List Int) (c : SCh), (∀ (i : Nat) (hi : i < rs.length), RodOk x i rs[i]) -> rs.length = n -> l ∈ C -> SchOk x rs l c -> 0 <= c.area /\ c.area <= 1000000)
 (hAT : ∀ W, Below w.heap.size w W -> Calls Tryz.prog 56 #[dtV x, .int .i64 k, .int .i64 p] W (GivesSups x C n (S.supAt z p) W)) :
 Calls Tryz.prog 28 #[dtV x, .int .i64 k, .int .i64 p] w fun e w' => ∃ (rs : List Rod) (cs : List SCh), e = .returned (.tuple #[.int .i64 (S.valueAt p (cs.filter (S.supAt z p rs))), .int .i64 0]) /\ rs.length = n /\ (∀ (i : Nat) (hi : i < rs.length), RodOk x i rs[i]) /\ cs.length = C.length /\ (∀ (i : Nat) (hi : i < cs.length) (hj : i < C.length), SchOk x rs C[i] cs[i]) /\ Below w.heap.size w w' := by
 have HAT := lh hAT
 have HAR := lh har
 clear hAT har
 unfold dtV at HAT
 unfold dtV
 have hDB := Blk.new w 34 (dtc x)
 have hW1 : Below w.heap.size w (w.alloc (.cells (dtc x) 34)) := ba_alloc (Below.refl _ _) _
 go_enter Tryz.func28, Tryz.ntmps28
 go_upto_region 1 with fail
 generalize (w.alloc (.cells (dtc x) 34)) = W1 at *
 have HDB := lh hDB
 clear hDB
 go_upto_region 2 with (first
  | ((with_reducible refine at_load 34 3 ?_); refine wpList_load_mid rfl 34 (.tmp 3) rfl _ _ rfl _ _ (HDB.out.via belr).range Tryz.underlying34 rfl (by kernel_rfl) ?_)
  | (go_at_call 56; (with_reducible refine (HAT.out _ belr).mono ?_); rintro e w2 ⟨A1, c1, rs, A2, c2, cs, b2, rfl, hrl, hok, hb1, hb2, hRC, hRL, hOW, hcl, hsch, hcc, hbw2⟩; have HRL := lh hrl; have HOK := lh hok; have HOW := lh hOW; have HCL := lh hcl; have HSC := lh hsch; clear hrl hok hRC hRL hOW hcl hsch hcc))
 have hfl := List.length_filter_le (S.supAt z p rs) cs
 have hfl2 : (cs.filter (S.supAt z p rs)).length <= 2000 := by rw [HCL.out] at hfl; omega
 have HV := lh (fun (W : World) (hw : Below w2.heap.size w2 W) => value_any (cs.filter (S.supAt z p rs)) A2 (cs.filter (S.supAt z p rs)).length c2 p w2.heap.size W hw.size rfl hfl2 ((own_cells HOW.out (by unfold maxLen; omega)).1.below hw) (fun c hc => by
  obtain ⟨i, hi, rfl⟩ := List.getElem_of_mem (List.mem_filter.1 hc).1
  exact HAR.out rs _ _ HOK.out HRL.out (List.getElem_mem _) (HSC.out i hi (by rw [<- HCL.out]; exact hi))))
 clear hfl HDB HAT
 go_wp2_with (go_at_call 57; (with_reducible refine (HV.out _ belr).mono ?_); rintro e w3 ⟨rfl, hbw3⟩)
 go_ret2
 exact ⟨rs, cs, rfl, HRL.out, HOK.out, HCL.out, HSC.out, bel⟩
theorem rod_same {x : Dt} {i : Nat} {r r' : Rod} (h : RodOk x i r) (h' : RodOk x i r') : r.bar = r'.bar /\ r.legs = r'.legs /\ r.main = r'.main := by
 obtain ⟨k, j, k0, hL, he⟩ := h.ex
 obtain ⟨k', j', k0', hL', he'⟩ := h'.ex
 obtain ⟨e1, e2, e3, e4⟩ := lies_unique hL hL'
 have hl : r.legs = r'.legs := by
  rw [he, he']
  subst e1 e2
  exact congrArg (fun b => S.legsL (S.laidPath b (x.rs[k]'hL.st.lt) j)) (congrArg BarR.b e4)
 exact ⟨e4, hl, by rw [h.main, h'.main, hl]⟩
structure RodsOf (x : Dt) (n : Nat) (rs : List Rod) : Prop where
 len : rs.length = n
 ok : ∀ (i : Nat) (hi : i < rs.length), RodOk x i rs[i]
theorem rods_ex {x : Dt} (h : S.laid (bars x.bs) x.rs = true) : ∃ rs, RodsOf x (S.mains (bars x.bs) x.rs).length rs := by
 have key : ∀ m, m <= (S.mains (bars x.bs) x.rs).length -> ∃ rs, RodsOf x m rs := by
  intro m
  induction m with
  | zero => intro _; exact ⟨[], rfl, fun i hi => absurd hi (by simp)⟩
  | succ m ih =>
   intro hm
   obtain ⟨rs, hr⟩ := ih (by omega)
   obtain ⟨k, j, k0, r, hL⟩ := lies_of h (show m < _ by omega)
   refine ⟨rs ++ [⟨r, S.legsL (S.laidPath r.b (x.rs[k]'hL.st.lt) j), none, 0, idxf (S.legsL (S.laidPath r.b (x.rs[k]'hL.st.lt) j)) S.isMainB⟩], by simp [hr.len], fun i hi => ?_⟩
   by_cases hi2 : i < rs.length
   ·rw [List.getElem_append_left hi2]
    exact hr.ok i hi2
   ·have hi3 : i = rs.length := by simp at hi; omega
    subst hi3
    rw [List.getElem_append_right (Nat.le_refl _)]
    simp only [Nat.sub_self, List.getElem_cons_zero]
    exact ⟨⟨k, j, k0, by rw [hr.len]; exact hL, rfl⟩, rfl⟩
 exact key _ (Nat.le_refl _)
theorem rods_at {x : Dt} {n : Nat} {rs rs' : List Rod} (h : RodsOf x n rs) (h' : RodsOf x n rs') (k : Nat) : (rs[k]? = none /\ rs'[k]? = none) ∨ ∃ r r', rs[k]? = some r /\ rs'[k]? = some r' /\ r.bar = r'.bar /\ r.legs = r'.legs /\ r.main = r'.main := by
 by_cases hk : k < n
 ·have h1 : k < rs.length := by rw [h.len]; exact hk
  have h2 : k < rs'.length := by rw [h'.len]; exact hk
  exact .inr ⟨rs[k], rs'[k], List.getElem?_eq_getElem h1, List.getElem?_eq_getElem h2, rod_same (h.ok k h1) (h'.ok k h2)⟩
 ·exact .inl ⟨List.getElem?_eq_none (by rw [h.len]; omega), List.getElem?_eq_none (by rw [h'.len]; omega)⟩
theorem sizeI_same {x : Dt} {n : Nat} {rs rs' : List Rod} (h : RodsOf x n rs) (h' : RodsOf x n rs') : S.sizeI rs = S.sizeI rs' := by
 funext i
 unfold S.sizeI
 rcases rods_at h h' i.toNat with ⟨e1, e2⟩ | ⟨r, r', e1, e2, e3, _⟩
 ·rw [e1, e2]
 ·rw [e1, e2]
  show r.bar.b.size = r'.bar.b.size
  rw [e3]
theorem outI_same {x : Dt} {n : Nat} {rs rs' : List Rod} (h : RodsOf x n rs) (h' : RodsOf x n rs') (z : Bx) : S.outI rs z = S.outI rs' z := by
 funext i
 unfold S.outI
 rcases rods_at h h' i.toNat with ⟨e1, e2⟩ | ⟨r, r', e1, e2, e3, e4, e5⟩
 ·rw [e1, e2]
 ·rw [e1, e2]
  show S.outside r z = S.outside r' z
  unfold S.outside
  rw [e4, e5]
theorem spanOf_same {x : Dt} {a a' b b' : Rod} (h1 : a.bar = a'.bar) (h2 : a.legs = a'.legs) (h3 : a.main = a'.main) (h4 : b.bar = b'.bar) (h5 : b.legs = b'.legs) (h6 : b.main = b'.main) : S.spanOf x a b = S.spanOf x a' b' := by
 unfold S.spanOf S.lowOf S.upOf S.legOf
 rw [h1, h2, h3, h4, h5, h6]
def S.spanL (x : Dt) (rs : List Rod) (l : List Int) : Int × Int × Bool :=
 match rs[(l.headD 0).toNat]?, rs[(l.getLastD 0).toNat]? with
 | some a, some b => S.spanOf x a b
 | _, _ => (0, 0, false)
def S.schOf (x : Dt) (rs : List Rod) (l : List Int) : SCh := ⟨none, 0, l, (S.spanL x rs l).1, (S.spanL x rs l).2.1, (S.spanL x rs l).2.2, S.steelArea (S.sizeI rs (minBy (S.sizeI rs) l))⟩
def SCh.bare (c : SCh) : SCh := ⟨none, 0, c.l, c.lo, c.hi, c.is, c.area⟩
theorem sch_bare {x : Dt} {n : Nat} {rs rs0 : List Rod} {l : List Int} {c : SCh} (h : RodsOf x n rs) (h0 : RodsOf x n rs0) (hc : SchOk x rs l c) : c.bare = S.schOf x rs0 l := by
 obtain ⟨a, b, h1, h2, h3⟩ := hc.span
 have hsp : S.spanL x rs0 l = (c.lo, c.hi, c.is) := by
  unfold S.spanL
  rcases rods_at h h0 (l.headD 0).toNat with ⟨e1, _⟩ | ⟨r, r', e1, e2, e3, e4, e5⟩
  ·rw [h1] at e1; cases e1
  ·rcases rods_at h h0 (l.getLastD 0).toNat with ⟨f1, _⟩ | ⟨s, s', f1, f2, f3, f4, f5⟩
   ·rw [h2] at f1; cases f1
   ·rw [h1] at e1
    rw [h2] at f1
    injection e1 with e1
    injection f1 with f1
    subst e1 f1
    rw [e2, f2, h3]
    exact (spanOf_same e3 e4 e5 f3 f4 f5).symm
 unfold SCh.bare S.schOf
 rw [hsp, hc.bars, hc.area, sizeI_same h h0]
theorem chs_bare {x : Dt} {n : Nat} {rs rs0 : List Rod} {C : List (List Int)} {cs : List SCh} (h : RodsOf x n rs) (h0 : RodsOf x n rs0) (hl : cs.length = C.length) (hc : ∀ (i : Nat) (hi : i < cs.length) (hj : i < C.length), SchOk x rs C[i] cs[i]) : cs.map SCh.bare = C.map (S.schOf x rs0) := by
 apply List.ext_getElem
 ·simp [hl]
 ·intro i h1 h2
  rw [List.getElem_map, List.getElem_map]
  rw [List.length_map] at h1 h2
  exact sch_bare h h0 (hc i h1 h2)
theorem filter_bare (p q : SCh -> Bool) (h : ∀ c, p c = q c.bare) (cs : List SCh) : (cs.filter p).map SCh.bare = (cs.map SCh.bare).filter q := by
 induction cs with
 | nil => rfl
 | cons c t ih =>
  rw [List.filter_cons, List.map_cons, List.filter_cons, <- h c]
  split
  ·rw [List.map_cons, ih]
  ·exact ih
theorem value_bare (p : Int) (cs : List SCh) : S.valueAt p (cs.map SCh.bare) = S.valueAt p cs := by
 unfold S.valueAt
 rw [List.foldl_map]
 rfl
theorem sup_bare {x : Dt} {n : Nat} {rs rs0 : List Rod} (h : RodsOf x n rs) (h0 : RodsOf x n rs0) (z : Bx) (c : SCh) : S.sup rs z c = S.sup rs0 z c.bare := by
 unfold S.sup SCh.bare
 rw [outI_same h h0]
theorem supAt_bare {x : Dt} {n : Nat} {rs rs0 : List Rod} (h : RodsOf x n rs) (h0 : RodsOf x n rs0) (z : Bx) (p : Int) (c : SCh) : S.supAt z p rs c = S.supAt z p rs0 c.bare := by
 unfold S.supAt
 rw [sup_bare h h0]
 rfl
def S.supplyAt (x : Dt) (rs : List Rod) (C : List (List Int)) (z : Bx) (p : Int) : Int := S.valueAt p ((C.map (S.schOf x rs)).filter (S.supAt z p rs))
theorem supplyAt_same {x : Dt} {n : Nat} {rs rs0 : List Rod} {C : List (List Int)} {cs : List SCh} (h : RodsOf x n rs) (h0 : RodsOf x n rs0) (hl : cs.length = C.length) (hc : ∀ (i : Nat) (hi : i < cs.length) (hj : i < C.length), SchOk x rs C[i] cs[i]) (z : Bx) (p : Int) :
 S.valueAt p (cs.filter (S.supAt z p rs)) = S.supplyAt x rs0 C z p := by
 unfold S.supplyAt
 rw [<- value_bare, filter_bare _ _ (supAt_bare h h0 z p), chs_bare h h0 hl hc]
theorem ends2_bare (cs : List SCh) : S.ends2 (cs.map SCh.bare) = S.ends2 cs := by
 unfold S.ends2
 rw [List.flatMap_map]
 rfl
theorem ofL_bare (cs : List SCh) : S.ofL (cs.map SCh.bare) = S.ofL cs := by
 unfold S.ofL S.places
 rw [ends2_bare]
 unfold S.ofF
 simp only [value_bare]
def S.supplyOf (x : Dt) (rs : List Rod) (C : List (List Int)) (z : Bx) : List Stp := S.shortSt (S.ofL ((C.map (S.schOf x rs)).filter (S.sup rs z)))
theorem supplyOf_same {x : Dt} {n : Nat} {rs rs0 : List Rod} {C : List (List Int)} {cs : List SCh} (h : RodsOf x n rs) (h0 : RodsOf x n rs0) (hl : cs.length = C.length) (hc : ∀ (i : Nat) (hi : i < cs.length) (hj : i < C.length), SchOk x rs C[i] cs[i]) (z : Bx) :
 S.shortSt (S.ofL (cs.filter (S.sup rs z))) = S.supplyOf x rs0 C z := by
 unfold S.supplyOf
 rw [<- ofL_bare, filter_bare _ _ (sup_bare h h0 z), chs_bare h h0 hl hc]
def ChIn (C : List (List Int)) (n : Nat) : Prop := ∀ l, l ∈ C -> 0 < l.length /\ l.length <= 2001 /\ ∀ i, i ∈ l -> 0 <= i /\ i < (n : Int)
theorem sizeI_at {rs : List Rod} {i : Int} (hk : i.toNat < rs.length) : S.sizeI rs i = rs[i.toNat].bar.b.size := by
 unfold S.sizeI
 rw [List.getElem?_eq_getElem hk]
theorem area_bd {x : Dt} {n : Nat} {C : List (List Int)} (hI : ChIn C n) (hla : S.laid (bars x.bs) x.rs = true) (rs : List Rod) (l : List Int) (c : SCh) (h : RodsOf x n rs) (hl : l ∈ C) (hc : SchOk x rs l c) : 0 <= c.area /\ c.area <= 1000000 := by
 obtain ⟨h0, _, h1⟩ := hI l hl
 have hm := minBy_mem (S.sizeI rs) (xs := l) (k := l.length) h0 (Nat.le_refl _)
 rw [List.take_length] at hm
 obtain ⟨h2, h3⟩ := h1 _ hm
 have hk : (minBy (S.sizeI rs) l).toNat < rs.length := by rw [h.len]; omega
 have hs : S.sizeI rs (minBy (S.sizeI rs) l) = rs[(minBy (S.sizeI rs) l).toNat].bar.b.size := sizeI_at hk
 rw [hc.area, hs]
 have hb := bar_size (rod_fit (h.ok _ hk) hla).bar
 generalize rs[(minBy (S.sizeI rs) l).toNat].bar.b.size = d at hb
 rcases size_cases hb with h | h | h | h | h | h | h | h | h <;> (subst h; decide)
theorem compactUpTo_inv (d : Array Int) (hs : ∀ i j, i < j -> j < d.size -> d[i]! <= d[j]!) : ∀ m, m <= d.size -> (Go.Lib.compactUpTo d m).Pairwise (· < ·) /\ (∀ x, x ∈ Go.Lib.compactUpTo d m -> ∃ j, j < m /\ x = d[j]!) /\ (∀ j, j < m -> d[j]! ∈ Go.Lib.compactUpTo d m) := by
 intro m
 induction m with
 | zero => intro _; exact ⟨by simp [Go.Lib.compactUpTo], fun x hx => by simp [Go.Lib.compactUpTo] at hx, fun j hj => by omega⟩
 | succ m ih =>
  intro hm
  obtain ⟨h1, h2, h3⟩ := ih (by omega)
  rw [Go.Lib.compactUpTo_succ]
  cases hk : Go.Lib.keeps d m
  ·simp only [Bool.false_eq_true, if_false, List.append_nil]
   have hk2 : m ≠ 0 /\ d[m]! = d[m - 1]! := by
    unfold Go.Lib.keeps at hk
    rw [decide_eq_false_iff_not] at hk
    refine ⟨fun h => hk (.inl h), Classical.byContradiction fun h => hk (.inr h)⟩
   refine ⟨h1, fun x hx => ?_, fun j hj => ?_⟩
   ·obtain ⟨j, hj, rfl⟩ := h2 x hx
    exact ⟨j, by omega, rfl⟩
   ·by_cases hjm : j = m
    ·subst hjm
     rw [hk2.2]
     exact h3 _ (by omega)
    ·exact h3 j (by omega)
  ·simp only [if_true]
   have hlt : ∀ j, j < m -> d[j]! < d[m]! := fun j hj => by
    unfold Go.Lib.keeps at hk
    rw [decide_eq_true_eq] at hk
    rcases hk with h | h
    ·omega
    ·have h4 := hs (m - 1) m (by omega) (by omega)
     by_cases hjm : j = m - 1
     ·subst hjm
      have : d[m - 1]! ≠ d[m]! := fun he => h he.symm
      omega
     ·have h5 := hs j (m - 1) (by omega) (by omega)
      have : d[m - 1]! ≠ d[m]! := fun he => h he.symm
      omega
   refine ⟨List.pairwise_append.2 ⟨h1, by simp, fun x hx y hy => ?_⟩, fun x hx => ?_, fun j hj => ?_⟩
   ·rw [List.mem_singleton] at hy
    subst hy
    obtain ⟨j, hj, rfl⟩ := h2 x hx
    exact hlt j hj
   ·rcases List.mem_append.1 hx with hx | hx
    ·obtain ⟨j, hj, rfl⟩ := h2 x hx
     exact ⟨j, by omega, rfl⟩
    ·rw [List.mem_singleton] at hx
     exact ⟨m, by omega, hx⟩
   ·by_cases hjm : j = m
    ·subst hjm; simp
    ·exact List.mem_append_left _ (h3 j (by omega))
theorem sortI_mem {zs : List Int} {x : Int} : x ∈ S.sortI zs ↔ x ∈ zs := by unfold S.sortI; exact List.mem_mergeSort
theorem sortI_sorted (zs : List Int) : (S.sortI zs).Pairwise (· <= ·) := by
 have := List.pairwise_mergeSort (le := fun x y : Int => decide (x <= y)) (fun a b c h1 h2 => by simp only [decide_eq_true_eq] at *; omega) (fun a b => by simp only [Bool.or_eq_true, decide_eq_true_eq]; omega) zs
 unfold S.sortI
 exact this.imp (fun h => by simpa using h)
theorem places_inv (l : List SCh) : (S.places l).Pairwise (· < ·) /\ ∀ x, x ∈ S.places l ↔ x ∈ S.ends2 l := by
 have hs : ∀ i j, i < j -> j < (S.sortI (S.ends2 l)).toArray.size -> (S.sortI (S.ends2 l)).toArray[i]! <= (S.sortI (S.ends2 l)).toArray[j]! := fun i j hij hj => by
  rw [getElem!_pos _ i (by omega), getElem!_pos _ j hj]
  simp only [List.getElem_toArray]
  exact List.pairwise_iff_getElem.1 (sortI_sorted (S.ends2 l)) i j _ _ hij
 obtain ⟨h1, h2, h3⟩ := compactUpTo_inv _ hs (S.sortI (S.ends2 l)).length (by simp)
 refine ⟨h1, fun x => ⟨fun hx => ?_, fun hx => ?_⟩⟩
 ·obtain ⟨j, hj, rfl⟩ := h2 x hx
  rw [getElem!_pos _ j (by simpa using hj)]
  simp only [List.getElem_toArray]
  exact sortI_mem.1 (List.getElem_mem _)
 ·obtain ⟨j, hj, rfl⟩ := List.getElem_of_mem (sortI_mem.2 hx)
  have := h3 j hj
  rw [getElem!_pos _ j (by simpa using hj)] at this
  unfold S.places Go.Lib.compact
  simpa using this
theorem ofF_inv (l : List SCh) (ps : List Int) : ((S.ofF l ps).2.map (·.fro)).Sublist ps /\ ∀ s, s ∈ (S.ofF l ps).2 -> s.val = S.valueAt s.fro l := by
 suffices hs : ∀ (ps : List Int) (x : Int × List Stp), (((ps.foldl (fun x p => if S.valueAt p l = x.1 then x else (S.valueAt p l, x.2 ++ [⟨p, S.valueAt p l⟩])) x).2.map (·.fro)).Sublist (x.2.map (·.fro) ++ ps)) /\ ((∀ s, s ∈ x.2 -> s.val = S.valueAt s.fro l) -> ∀ s, s ∈ (ps.foldl (fun x p => if S.valueAt p l = x.1 then x else (S.valueAt p l, x.2 ++ [⟨p, S.valueAt p l⟩])) x).2 -> s.val = S.valueAt s.fro l) by
  have := hs ps (0, [])
  exact ⟨by simpa [S.ofF] using this.1, this.2 (fun s hs => by cases hs)⟩
 intro ps
 induction ps with
 | nil => intro x; exact ⟨by simp, fun h => h⟩
 | cons a t ih =>
  intro x
  rw [List.foldl_cons]
  obtain ⟨h1, h2⟩ := ih (if S.valueAt a l = x.1 then x else (S.valueAt a l, x.2 ++ [⟨a, S.valueAt a l⟩]))
  refine ⟨h1.trans ?_, fun h => h2 ?_⟩
  ·split
   ·exact List.Sublist.append (List.Sublist.refl _) (List.sublist_cons_self _ _)
   ·simp
  ·split
   ·exact h
   ·intro s hs
    rcases List.mem_append.1 hs with hs | hs
    ·exact h s hs
    ·rw [List.mem_singleton] at hs
     subst hs
     rfl
theorem steps_ok (l : List SCh) (hlen : l.length <= 100) (har : ∀ c, c ∈ l -> 0 <= c.area /\ c.area <= 1000000) (hpl : ∀ c, c ∈ l -> S.place c.lo = true /\ S.place c.hi = true) : S.steps (S.ofL l) = true := by
 obtain ⟨h1, h2⟩ := ofF_inv l (S.places l)
 obtain ⟨h3, h4⟩ := places_inv l
 have hl : (S.ofL l).length <= 200 := by
  have a := ofF_len l (S.places l)
  have b := places_len l
  unfold S.ofL
  omega
 refine rng_yes (p := S.stepAt (S.ofL l)) (by simpa using hl) (fun j hj => ?_)
 have hpw : ((S.ofL l).map (·.fro)).Pairwise (· < ·) := h3.sublist h1
 have hm := List.getElem_mem hj
 have hv := h2 _ hm
 have hp : (S.ofL l)[j].fro ∈ S.places l := h1.subset (List.mem_map.2 ⟨_, hm, rfl⟩)
 have hpp : S.place (S.ofL l)[j].fro = true := by
  have := (h4 _).1 hp
  unfold S.ends2 at this
  obtain ⟨c, hc, hx⟩ := List.mem_flatMap.1 this
  obtain ⟨e1, e2⟩ := hpl c hc
  simp only [List.mem_cons, List.not_mem_nil, or_false] at hx
  rcases hx with hx | hx
  ·rw [hx]; exact e1
  ·rw [hx]; exact e2
 have hvb := value_bd (S.ofL l)[j].fro har
 unfold S.stepAt
 rw [List.getElem?_eq_getElem hj]
 simp only [Bool.and_eq_true, decide_eq_true_eq]
 refine ⟨⟨⟨hpp, by rw [hv]; omega⟩, by rw [hv]; omega⟩, ?_⟩
 cases j with
 | zero => rfl
 | succ i =>
  simp only []
  rw [List.getElem?_eq_getElem (show i < (S.ofL l).length by omega)]
  simp only [decide_eq_true_eq]
  have := List.pairwise_iff_getElem.1 hpw i (i + 1) (by simp; omega) (by simp; omega) (by omega)
  simpa using this
theorem span_in {x : Dt} {a b : Rod} {lo hi : Int} (hr : S.rule x.rule = true) (ha : RodFit x a) (hb : RodFit x b) (h : (lo, hi, true) = S.spanOf x a b) : -1048576 <= lo /\ lo < hi /\ hi <= 1048576 := by
 unfold S.spanOf at h
 split at h
 ·cases h
 ·rename_i h1
  split at h
  ·cases h
  ·rename_i h2
   split at h
   ·rename_i h3
    simp only [Prod.mk.injEq, and_true] at h
    obtain ⟨rfl, rfl⟩ := h
    obtain ⟨ja, hja, hjae, _⟩ := idxf_some (xs := a.legs) (p := S.isMainB) (by rw [<- ha.main]; omega)
    obtain ⟨jb, hjb, hjbe, _⟩ := idxf_some (xs := b.legs) (p := S.isMainB) (by rw [<- hb.main]; omega)
    have hLa : S.legOf a = a.legs[ja] := by unfold S.legOf; rw [ha.main, hjae]; simp [List.getD_eq_getElem?_getD, hja]
    have hLb : S.legOf b = b.legs[jb] := by unfold S.legOf; rw [hb.main, hjbe]; simp [List.getD_eq_getElem?_getD, hjb]
    have e1 := boxOk_x (ha.legs _ (List.getElem_mem hja))
    have e2 := boxOk_x (hb.legs _ (List.getElem_mem hjb))
    rw [<- hLa] at e1
    rw [<- hLb] at e2
    have e3 := endLen_bd x a hr ha (S.legOf a).lo
    have e4 := endLen_bd x b hr hb (S.legOf b).hi
    change 0 <= S.lowOf x a /\ _ at e3
    change 0 <= S.upOf x b /\ _ at e4
    omega
   ·cases h
theorem sch_in {x : Dt} {n : Nat} {rs : List Rod} {l : List Int} {c : SCh} (hla : S.laid (bars x.bs) x.rs = true) (hr : S.rule x.rule = true) (h : RodsOf x n rs) (hc : SchOk x rs l c) (hi : c.is = true) : -1048576 <= c.lo /\ c.lo < c.hi /\ c.hi <= 1048576 := by
 obtain ⟨a, b, h1, h2, h3⟩ := hc.span
 rw [hi] at h3
 obtain ⟨k1, e1⟩ := List.getElem?_eq_some_iff.1 h1
 obtain ⟨k2, e2⟩ := List.getElem?_eq_some_iff.1 h2
 exact span_in hr (e1 ▸ rod_fit (h.ok _ k1) hla) (e2 ▸ rod_fit (h.ok _ k2) hla) h3
theorem of_steps {x : Dt} {n : Nat} {C : List (List Int)} (hC : C.length <= 100) (hI : ChIn C n) (hla : S.laid (bars x.bs) x.rs = true) (hr : S.rule x.rule = true) (z : Bx) (rs : List Rod) (cs : List SCh) (h : RodsOf x n rs) (hl : cs.length = C.length) (hc : ∀ (i : Nat) (hi : i < cs.length) (hj : i < C.length), SchOk x rs C[i] cs[i]) :
 S.steps (S.ofL (cs.filter (S.sup rs z))) = true := by
 have hm : ∀ c, c ∈ cs -> ∃ l, l ∈ C /\ SchOk x rs l c := fun c hc' => by
  obtain ⟨i, hi, rfl⟩ := List.getElem_of_mem hc'
  exact ⟨_, List.getElem_mem _, hc i hi (by rw [<- hl]; exact hi)⟩
 refine steps_ok _ ?_ (fun c hc' => ?_) (fun c hc' => ?_)
 ·have := List.length_filter_le (S.sup rs z) cs
  omega
 ·obtain ⟨l, h1, h2⟩ := hm c (List.mem_filter.1 hc').1
  exact area_bd hI hla rs l c h h1 h2
 ·obtain ⟨h0, h5⟩ := List.mem_filter.1 hc'
  obtain ⟨l, h1, h2⟩ := hm c h0
  have his : c.is = true := by
   unfold S.sup at h5
   rw [Bool.and_eq_true] at h5
   exact h5.1
  obtain ⟨a1, a2, a3⟩ := sch_in hla hr h h2 his
  unfold S.place
  simp only [Bool.and_eq_true, decide_eq_true_eq]
  omega
def S.sh (f : Int -> Int) : Int -> List Int -> List Stp
 | _, [] => []
 | v, p :: t => if f p = v then S.sh f v t else ⟨p, f p⟩ :: S.sh f (f p) t
theorem sh_idem (f : Int -> Int) : ∀ (P : List Int) (v : Int) (out : List Stp), ((S.sh f v P).foldl (fun x s => (s.val, if s.val = x.1 then x.2 else x.2 ++ [s])) (v, out)).2 = out ++ S.sh f v P := by
 intro P
 induction P with
 | nil => intro v out; simp [S.sh]
 | cons p t ih =>
  intro v out
  rw [S.sh]
  by_cases h : f p = v
  ·rw [if_pos h]
   exact ih v out
  ·rw [if_neg h, List.foldl_cons]
   show (List.foldl _ (f p, if f p = v then out else out ++ [⟨p, f p⟩]) _).2 = _
   rw [if_neg h, ih]
   simp
theorem sh_ofF (l : List SCh) : ∀ (P : List Int) (v : Int) (out : List Stp), (P.foldl (fun x p => if S.valueAt p l = x.1 then x else (S.valueAt p l, x.2 ++ [⟨p, S.valueAt p l⟩])) (v, out)).2 = out ++ S.sh (fun p => S.valueAt p l) v P := by
 intro P
 induction P with
 | nil => intro v out; simp [S.sh]
 | cons p t ih =>
  intro v out
  rw [List.foldl_cons, S.sh]
  by_cases h : S.valueAt p l = v
  ·show (List.foldl _ (if S.valueAt p l = v then (v, out) else _) t).2 = _
   rw [if_pos h, if_pos h]
   exact ih v out
  ·show (List.foldl _ (if S.valueAt p l = v then (v, out) else _) t).2 = _
   rw [if_neg h, if_neg h, ih]
   simp
theorem ofL_sh (l : List SCh) : S.ofL l = S.sh (fun p => S.valueAt p l) 0 (S.places l) := by
 have := sh_ofF l (S.places l) 0 []
 unfold S.ofL S.ofF
 rw [this]
 rfl
theorem short_ofL (l : List SCh) : S.shortSt (S.ofL l) = S.sh (fun p => S.valueAt p l) 0 (S.places l) := by
 rw [ofL_sh]
 have := sh_idem (fun p => S.valueAt p l) (S.places l) 0 []
 unfold S.shortSt S.shortStF
 rw [this]
 rfl
theorem valueAt_congr {l : List SCh} {a b : Int} (h : ∀ c, c ∈ l -> S.atPl a c = S.atPl b c) : S.valueAt a l = S.valueAt b l := by
 unfold S.valueAt
 suffices hs : ∀ (l : List SCh) (n : Int), (∀ c, c ∈ l -> S.atPl a c = S.atPl b c) -> l.foldl (fun n r => if S.atPl a r then n + r.area else n) n = l.foldl (fun n r => if S.atPl b r then n + r.area else n) n from hs l 0 h
 intro l
 induction l with
 | nil => intro n _; rfl
 | cons c t ih =>
  intro n h
  rw [List.foldl_cons, List.foldl_cons, h c (by simp)]
  exact ih _ (fun c hc => h c (by simp [hc]))
theorem valueAt_const (l : List SCh) : ∀ a b, a <= b -> (∀ q, q ∈ S.ends2 l -> ¬ (a < q /\ q <= b)) -> S.valueAt a l = S.valueAt b l := fun a b hab h => valueAt_congr fun c hc => by
 have h1 := h c.lo (by unfold S.ends2; rw [List.mem_flatMap]; exact ⟨c, hc, by simp⟩)
 have h2 := h c.hi (by unfold S.ends2; rw [List.mem_flatMap]; exact ⟨c, hc, by simp⟩)
 unfold S.atPl
 rw [show (decide (c.lo <= a)) = decide (c.lo <= b) from decide_eq_decide.2 (by omega), show (decide (a < c.hi)) = decide (b < c.hi) from decide_eq_decide.2 (by omega)]
theorem valueAt_none {l : List SCh} {a : Int} (h : ∀ c, c ∈ l -> a < c.lo) : S.valueAt a l = 0 := by
 unfold S.valueAt
 induction l with
 | nil => rfl
 | cons c t ih =>
  have h1 := h c (by simp)
  rw [List.foldl_cons, if_neg (by unfold S.atPl; simp; omega)]
  exact ih (fun c hc => h c (by simp [hc]))
theorem valueAt_kept (z : Bx) (p : Int) (rs : List Rod) (cs : List SCh) : S.valueAt p (cs.filter (S.supAt z p rs)) = S.valueAt p (cs.filter (S.sup rs z)) := by
 unfold S.valueAt
 suffices hs : ∀ (cs : List SCh) (n : Int), (cs.filter (S.supAt z p rs)).foldl (fun n r => if S.atPl p r then n + r.area else n) n = (cs.filter (S.sup rs z)).foldl (fun n r => if S.atPl p r then n + r.area else n) n from hs cs 0
 intro cs
 induction cs with
 | nil => intro n; rfl
 | cons c t ih =>
  intro n
  rw [List.filter_cons, List.filter_cons]
  by_cases h1 : S.atPl p c = true
  ·have : S.supAt z p rs c = S.sup rs z c := by unfold S.supAt; rw [h1]; rfl
   rw [this]
   split
   ·rw [List.foldl_cons, List.foldl_cons]
    exact ih _
   ·exact ih _
  ·have h2 : S.supAt z p rs c = false := by unfold S.supAt; simp [h1]
   rw [h2, if_neg (by simp)]
   split
   ·rw [List.foldl_cons, if_neg h1]
    exact ih _
   ·exact ih _
theorem supplyAt_sup (x : Dt) (rs : List Rod) (C : List (List Int)) (z : Bx) (p : Int) : S.supplyAt x rs C z p = S.valueAt p ((C.map (S.schOf x rs)).filter (S.sup rs z)) := valueAt_kept z p rs _
theorem ends2_mem {l : List SCh} {e : Int} : e ∈ S.ends2 l ↔ ∃ c, c ∈ l /\ (e = c.lo ∨ e = c.hi) := by
 unfold S.ends2
 rw [List.mem_flatMap]
 simp
end Go.Proofs.YtmfpbafpnoomeaaGreat
