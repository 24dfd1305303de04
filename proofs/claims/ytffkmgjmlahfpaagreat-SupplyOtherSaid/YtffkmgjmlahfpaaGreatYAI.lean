/- The library's sort and Compact at this program, laid by the kit's command in plain words (lay-plain.mjs). Contract: slices.IndexFunc over chains; plain facts for DeleteFunc. Contracts: steps.short, st -/
import Derived.Shelf.Sort.Plain
import Derived.Shelf.Slices.CompactI
import Derived.Shelf.Slices.In.SortNone
import Derived.Sort.OwnSortedInts
import Derived.Lib.RowBridge
import Derived.Ground.NamesProg
import Derived.Ground.Names2Prog
import Derived.Test.YtffkmgjmlahfpaaGreatYAC
import Derived.Test.YtffkmgjmlahfpaaGreatYAH
import Derived.Test.YtffkmgjmlahfpaaGreatYY
set_option linter.unusedVariables false
set_option linter.unusedSimpArgs false
namespace Go.Proofs
open Go.Shelf
def Tryz.lays189_ren : Go.Shelf.Ren := ⟨fun | 189 => 84 | 125 => 142 | 257 => 141 | 128 => 209 | 129 => 210 | 294 => 200 | 295 => 201 | 296 => 202 | 297 => 203 | 298 => 204 | 299 => 205 | 216 => 206 | 300 => 207 | 301 => 208 | 328 => 252 | 329 => 253 | 330 => 254 | 331 => 255 | 332 => 256 | 215 => 214 | 343 => 273 | n => n, fun | 28 => 58 | 3 => 3 | 46 => 210 | 0 => 0 | 51 => 260 | 53 => 141 | 4 => 4 | 183 => 253 | 182 => 252 | 131 => 195 | 5 => 5 | 9 => 9 | 218 => 291 | 222 => 295 | 228 => 304 | 229 => 62 | n => n, fun | n => n⟩
theorem Tryz.lays189 : Go.Proofs.Lays.n189 Tryz.prog Tryz.lays189_ren := {
  mixed := by kernel_rfl
  f125 := Tryz.func142.trans (congrArg some (by kernel_rfl))
  f128 := Tryz.func209.trans (congrArg some (by kernel_rfl))
  f129 := Tryz.func210.trans (congrArg some (by kernel_rfl))
  f189 := Tryz.func84.trans (congrArg some (by kernel_rfl))
  f215 := Tryz.func214.trans (congrArg some (by kernel_rfl))
  f216 := Tryz.func206.trans (congrArg some (by kernel_rfl))
  f257 := Tryz.func141.trans (congrArg some (by kernel_rfl))
  f294 := Tryz.func200.trans (congrArg some (by kernel_rfl))
  f295 := Tryz.func201.trans (congrArg some (by kernel_rfl))
  f296 := Tryz.func202.trans (congrArg some (by kernel_rfl))
  f297 := Tryz.func203.trans (congrArg some (by kernel_rfl))
  f298 := Tryz.func204.trans (congrArg some (by kernel_rfl))
  f299 := Tryz.func205.trans (congrArg some (by kernel_rfl))
  f300 := Tryz.func207.trans (congrArg some (by kernel_rfl))
  f301 := Tryz.func208.trans (congrArg some (by kernel_rfl))
  f328 := Tryz.func252.trans (congrArg some (by kernel_rfl))
  f329 := Tryz.func253.trans (congrArg some (by kernel_rfl))
  f330 := Tryz.func254.trans (congrArg some (by kernel_rfl))
  f331 := Tryz.func255.trans (congrArg some (by kernel_rfl))
  f332 := Tryz.func256.trans (congrArg some (by kernel_rfl))
  f343 := Tryz.func273.trans (congrArg some (by kernel_rfl))
  t0 := Tryz.underlying0
  a0 := Tryz.isAgg0
  z0 := Tryz.sizeOf0
  v0 := Tryz.zeroValue0
  t3 := Tryz.underlying3
  a3 := Tryz.isAgg3
  z3 := Tryz.sizeOf3
  v3 := Tryz.zeroValue3
  t4 := Tryz.underlying4
  a4 := Tryz.isAgg4
  z4 := Tryz.sizeOf4
  v4 := Tryz.zeroValue4
  t5 := Tryz.underlying5
  a5 := Tryz.isAgg5
  z5 := Tryz.sizeOf5
  v5 := Tryz.zeroValue5
  t9 := Tryz.underlying9
  a9 := Tryz.isAgg9
  z9 := Tryz.sizeOf9
  v9 := Tryz.zeroValue9
  t28 := Tryz.underlying58
  a28 := Tryz.isAgg58
  z28 := Tryz.sizeOf58
  v28 := Tryz.zeroValue58
  t46 := Tryz.underlying210
  a46 := Tryz.isAgg210
  z46 := Tryz.sizeOf210
  v46 := Tryz.zeroValue210
  t51 := Tryz.underlying260
  a51 := Tryz.isAgg260
  z51 := Tryz.sizeOf260
  v51 := Tryz.zeroValue260
  t53 := Tryz.underlying141
  a53 := Tryz.isAgg141
  z53 := Tryz.sizeOf141
  v53 := Tryz.zeroValue141
  t131 := Tryz.underlying195
  a131 := Tryz.isAgg195
  z131 := Tryz.sizeOf195
  v131 := Tryz.zeroValue195
  t182 := Tryz.underlying252
  a182 := Tryz.isAgg252
  z182 := Tryz.sizeOf252
  v182 := Tryz.zeroValue252
  t183 := Tryz.underlying253
  a183 := Tryz.isAgg253
  z183 := Tryz.sizeOf253
  v183 := Tryz.zeroValue253
  t218 := Tryz.underlying291
  a218 := Tryz.isAgg291
  z218 := Tryz.sizeOf291
  v218 := Tryz.zeroValue291
  t222 := Tryz.underlying295
  a222 := Tryz.isAgg295
  z222 := Tryz.sizeOf295
  v222 := Tryz.zeroValue295
  t228 := Tryz.underlying304
  a228 := Tryz.isAgg304
  z228 := Tryz.sizeOf304
  v228 := Tryz.zeroValue304
  t229 := Tryz.underlying62
  a229 := Tryz.isAgg62
  z229 := Tryz.sizeOf62
  v229 := Tryz.zeroValue62 }
def Tryz.lays220_ren : Go.Shelf.Ren := ⟨fun | 20 => 85 | n => n, fun | 22 => 58 | 3 => 3 | 4 => 4 | 0 => 0 | n => n, fun | n => n⟩
theorem Tryz.lays220 : Go.Proofs.Lays2.n20 Tryz.prog Tryz.lays220_ren := {
  mixed := by kernel_rfl
  f20 := Tryz.func85.trans (congrArg some (by kernel_rfl))
  t0 := Tryz.underlying0
  a0 := Tryz.isAgg0
  z0 := Tryz.sizeOf0
  v0 := Tryz.zeroValue0
  t3 := Tryz.underlying3
  a3 := Tryz.isAgg3
  z3 := Tryz.sizeOf3
  v3 := Tryz.zeroValue3
  t4 := Tryz.underlying4
  a4 := Tryz.isAgg4
  z4 := Tryz.sizeOf4
  v4 := Tryz.zeroValue4
  t22 := Tryz.underlying58
  a22 := Tryz.isAgg58
  z22 := Tryz.sizeOf58
  v22 := Tryz.zeroValue58
  i3 := by kernel_rfl }
open Go.Sort Go.RowKit in
theorem Tryz.slices_Sort_int (blk off cap : Nat) (zs : List Int) (w : World) (hH : Holds (Value.int .i64) w blk off zs.toArray) (hblk : blk < w.heap.size) (hsz : zs.length < 4611686018427387904) :
    Calls Tryz.prog 84 #[.slice (some ⟨blk, off, none⟩) zs.length cap] w fun e w' =>
      e = .returned (.tuple #[]) ∧ ∃ n os, w' = grow (putRow (Value.int .i64) (Sort.ahead w n) blk off (zs.mergeSort fun x y => decide (x ≤ y)).toArray) os := Any.slices_Sort_int Tryz.lays189 blk off cap zs w hH hblk hsz
end Go.Proofs
namespace Go.Proofs.YtffkmgjmlahfpaaGreat
open Go.RowKit Go.Sort
def S.sortI (zs : List Int) : List Int := zs.mergeSort fun x y => decide (x ≤ y)
theorem sortI_len (zs : List Int) : (S.sortI zs).length = zs.length := by simp [S.sortI]
theorem sort_own (zs : List Int) (v : Value) (n base : Nat) (w : World) (ho : w.ownsRow base 3 1 v n (i64s zs)) (hm : n ≤ 1000000) :
    Calls Tryz.prog 84 #[v] w fun e w' => e = .returned (.tuple #[]) ∧ w'.ownsRow base 3 1 v n (i64s (S.sortI zs)) ∧ Exc v.ownBlock.toList w w' := by
  have hl : zs.length = n := by have := ho.1; simpa using this
  rcases ho.2 with ⟨rfl, rfl⟩ | ⟨g, cap, cur, rfl, hg, hb, hn, hcap, hsz, htk⟩
  · have hz : zs = [] := List.eq_nil_of_length_eq_zero hl
    subst hz
    refine (Any.slices_Sort_int_none Tryz.lays189 none 0 w).mono ?_
    rintro e w' ⟨rfl, rfl⟩
    exact ⟨rfl, by simpa [S.sortI] using ho, Exc.refl _ _⟩
  · have hblk : g < w.heap.size := (Array.getElem?_eq_some_iff.1 hb).1
    have h := Tryz.slices_Sort_int g 0 cap zs w (holds_of_blockI hb (by rw [hl]; simpa using htk)) hblk (by omega)
    rw [hl] at h
    refine h.mono ?_
    rintro e w' ⟨rfl, k, os, rfl⟩
    refine ⟨rfl, ?_, Exc.grown (Exc.refl _ _) (grownBy_sortedI _) (fun k hk => .inl (by cases hk; simp [Value.ownBlock]))⟩
    have := ownsRow_sortedI (n := k) (os := os) (ss := zs) (ts := S.sortI zs) (sortI_len zs) hg hb (by omega) hcap hsz
    rw [hl] at this
    exact this
theorem own_cut {w : World} {base E size : Nat} {A : Option Addr} {n c m : Nat} {xs : List Value} (h : w.ownsRow base E size (.slice A n c) n xs) (hm : m ≤ n) : w.ownsRow base E size (.slice A m c) m (xs.take (m * size)) := by
  refine ⟨by rw [List.length_take, h.1]; exact Nat.min_eq_left (Nat.mul_le_mul_right _ hm), ?_⟩
  rcases h.2 with ⟨hv, rfl⟩ | ⟨g, cap, cur, hv, hg, hb, hn, hcap, hsz, htk⟩
  · obtain rfl : m = 0 := by omega
    injection hv with h1 h2 h3
    subst h1 h3
    exact .inl ⟨rfl, rfl⟩
  · injection hv with h1 h2 h3
    subst h1 h3
    exact .inr ⟨g, c, cur, rfl, hg, hb, by omega, hcap, hsz, by rw [← htk, List.take_take, Nat.min_eq_left (Nat.mul_le_mul_right _ hm)]⟩
theorem grow_none (w : World) : Go.Sort.grow w #[] = w := by simp [Go.Sort.grow]
theorem compact_own (zs : List Int) (A : Option Addr) (c : Nat) (n base : Nat) (w : World) (ho : w.ownsRow base 3 1 (.slice A n c) n (i64s zs)) (hm : n ≤ 1000000) :
    Calls Tryz.prog 85 #[.slice A n c] w fun e w' => e = .returned (.slice A (Go.Lib.compact zs).length c) ∧ w'.ownsRow base 3 1 (.slice A (Go.Lib.compact zs).length c) (Go.Lib.compact zs).length (i64s (Go.Lib.compact zs)) ∧ Exc (Value.slice A n c).ownBlock.toList w w' := by
  have hl : zs.length = n := by have := ho.1; simpa using this
  rcases ho.2 with ⟨hv, rfl⟩ | ⟨g, cap, cur, hv, hg, hb, hn, hcap, hsz, htk⟩
  · injection hv with h1 h2 h3
    subst h1 h3
    have hz : zs = [] := List.eq_nil_of_length_eq_zero hl
    subst hz
    refine (Any.slices_Compact_int_empty Tryz.lays220 none 0 w).mono ?_
    rintro e w' ⟨rfl, rfl⟩
    exact ⟨rfl, ho, Exc.refl _ _⟩
  · injection hv with h1 h2 h3
    subst h1 h3
    have h := Any.slices_Compact_int Tryz.lays220 g 0 c zs w (holds_of_blockI hb (by rw [hl]; simpa using htk)) (by omega) (by omega)
    rw [hl] at h
    refine h.mono ?_
    rintro e w' ⟨rfl, q, rfl⟩
    have hle := Go.Lib.compact_length_le zs
    have hgr := grownBy_sortedI (w := w) (g := g) (n := q) (os := #[]) (Go.Lib.compact zs ++ List.replicate (n - (Go.Lib.compact zs).length) 0).toArray
    have hown := ownsRow_sortedI (n := q) (os := #[]) (ss := zs) (ts := Go.Lib.compact zs ++ List.replicate (n - (Go.Lib.compact zs).length) 0) (by simp; omega) hg hb (by omega) hcap hsz
    rw [grow_none] at hgr hown
    refine ⟨rfl, ?_, Exc.grown (Exc.refl _ _) hgr (fun k hk => .inl (by cases hk; simp [Value.ownBlock]))⟩
    rw [hl] at hown
    have h2 := own_cut hown (m := (Go.Lib.compact zs).length) (by omega)
    rw [Nat.mul_one, List.map_append, List.take_left' (by simp)] at h2
    exact h2
end Go.Proofs.YtffkmgjmlahfpaaGreat
namespace Go.Proofs.YtffkmgjmlahfpaaGreat
open Go.RowKit
theorem at_store {P : Program} {ops : Array Oper} {Q : Exit → Act → World → Prop} {rest : List Oper} {a : Act} {w : World} (ty : TypeId) (s r : Nat) {dst : Option Nat} {t : TypeId} {pos : String} {after : Array Edge}
    (h : wpList P ops Q ({ dst := dst, op := .store ty (.tmp s) (.tmp r), type := t, pos := pos, after := after, guard := none } :: rest) a w) : wpList P ops Q ({ dst := dst, op := .store ty (.tmp s) (.tmp r), type := t, pos := pos, after := after, guard := none } :: rest) a w := h
theorem filter_next {α : Type} (p : α → Bool) {l : List α} {k : Nat} (h : k < l.length) : (l.take (k + 1)).filter p = (l.take k).filter p ++ (if p l[k] then [l[k]] else []) := by
  have e : l.take (k + 1) = l.take k ++ [l[k]] := by rw [List.take_add_one, List.getElem?_eq_getElem h]; rfl
  rw [e, List.filter_append]
  congr 1
  cases hp : p l[k] <;> simp [hp]
theorem flat5_get {l : List SCh} {k : Nat} (h : k < l.length) {q : Nat} (hq : q < 5) : (l.flatMap schC)[k * 5 + q]? = (schC l[k])[q]? := by
  induction l generalizing k with
  | nil => simp at h
  | cons a t ih =>
    rw [List.flatMap_cons]
    cases k with
    | zero => rw [Nat.zero_mul, Nat.zero_add, List.getElem?_append_left (by rw [schC_len]; exact hq)]; rfl
    | succ k =>
      rw [List.getElem?_append_right (by rw [schC_len]; omega), schC_len, show (k + 1) * 5 + q - 5 = k * 5 + q by omega]
      exact ih (by simpa using h)
theorem flat5_len (l : List SCh) : (l.flatMap schC).length = l.length * 5 := by rw [flat_len schC 5 schC_len]
theorem idxf_cases {α : Type} (xs : List α) (p : α → Bool) : (idxf xs p = -1 ∧ ∀ j (h : j < xs.length), p xs[j] = false) ∨ ∃ k : Nat, ∃ hk : k < xs.length, idxf xs p = k ∧ p xs[k] = true ∧ ∀ j (h : j < xs.length), j < k → p xs[j] = false := by
  cases hf : xs.findIdx? p with
  | none =>
    rw [List.findIdx?_eq_none_iff] at hf
    have hno : ∀ j (h : j < xs.length), p xs[j] = false := fun j h => hf _ (List.getElem_mem h)
    exact .inl ⟨idxf_miss hno, hno⟩
  | some k =>
    rw [List.findIdx?_eq_some_iff_getElem] at hf
    obtain ⟨hk, hx, hno⟩ := hf
    have hno' : ∀ j (h : j < xs.length), j < k → p xs[j] = false := fun j h hj => by simpa using hno j hj
    exact .inr ⟨k, hk, idxf_hit hk hx hno', hx, hno'⟩
theorem Exc.trans5 {M : List Nat} {W w w' : World} (h : Exc M W w) (h' : Exc M w w') : Exc M W w' :=
  ⟨h'.os.trans h.os, h'.tape.trans h.tape, h'.output.trans h.output, Nat.le_trans h.size h'.size, fun k hk hm => (h'.block k (Nat.lt_of_lt_of_le hk h.size) hm).trans (h.block k hk hm)⟩
theorem exc_put (g o : Nat) (vs : List Value) (w : World) : Exc [g] w (w.setCells g o vs) := by
  induction vs generalizing o w with
  | nil => exact Exc.refl _ _
  | cons v r ih => exact Exc.trans5 ((Exc.refl [g] w).set (p := ⟨g, o, none⟩) (.inl (by simp)) v) (ih (o + 1) _)
theorem Exc.into {M M' : List Nat} {W w : World} (h : Exc M W w) (hM : ∀ k, k ∈ M → k ∈ M') : Exc M' W w := ⟨h.os, h.tape, h.output, h.size, fun k hk hm => h.block k hk fun hm' => hm (hM k hm')⟩
theorem indexSch_any (p : Int) (gp : Nat) (A : Option Addr) (n c : Nat) (xs : List SCh) (B : Nat) (w : World) (hn : xs.length = n) (hm : n ≤ 2000) (hB : B ≤ w.heap.size)
    (hs : Cells w B A (xs.flatMap schC)) (hc : w.cell? ⟨gp, 0, none⟩ = some (.int .i64 p)) (hg : gp < w.heap.size) :
    Calls Tryz.prog 198 #[.slice A n c, .func (.func 138) #[] #[.pointer (some ⟨gp, 0, none⟩)]] w fun e w' => e = .returned (.int .i64 (idxf xs fun r => !S.atPl p r)) ∧ Below w.heap.size w w' := by
  have HN := Lib.hid hn
  have HK := Lib.hid (fun (r : SCh) (W : World) (hw : Below w.heap.size w W) => notat_any r p gp W ((hw.cell (p := ⟨gp, 0, none⟩) hg).trans hc) (Nat.lt_of_lt_of_le hg hw.size))
  clear hn hc
  go_enter Tryz.func198, Tryz.ntmps198
  go_wp2
  go_loopw [8] (fun i wr => ∃ k : Nat, k ≤ n ∧ i = .int .i64 k ∧ (∀ j (h : j < xs.length), j < k → (!S.atPl p xs[j]) = false) ∧ Below w.heap.size w wr) (fun i _ => n - (intOf i).toNat)
  case atStart => exact ⟨0, Nat.zero_le _, rfl, fun j _ hj => absurd hj (by omega), Below.refl _ _⟩
  case round =>
    obtain ⟨k, hk, rfl, hno, hbr⟩ := hrel
    have HNO := Lib.hid hno
    clear hno
    by_cases hlt : k < n
    · have hkx : k < xs.length := by have := HN.out; omega
      have hs' := hs.below (hbr.mono hB)
      obtain ⟨b, o, rfl, hb, hxx⟩ := hs'.at_ (by rw [flat5_len]; omega)
      clear hxx
      have c0 := hs'.row0 schC_len hkx rfl
      have c1 := hs'.rowj schC_len hkx 1 rfl
      have c2 := hs'.rowj schC_len hkx 2 rfl
      have c3 := hs'.rowj schC_len hkx 3 rfl
      have c4 := hs'.rowj schC_len hkx 4 rfl
      have hbl : b < wr.heap.size := by have := hbr.size; omega
      clear hs'
      have HX := Lib.hid (fun (h : (!S.atPl p xs[k]) = true) => idxf_hit (p := fun r => !S.atPl p r) hkx h HNO.out)
      have HKK := Lib.hid (HK.out xs[k])
      have HY := Lib.hid (fun (h : (!S.atPl p xs[k]) = false) => show ∀ j (hj : j < xs.length), j < k + 1 → (!S.atPl p xs[j]) = false from fun j hj hjk => by
        by_cases hjk' : j = k
        · subst hjk'; exact h
        · exact HNO.out j hj (by omega))
      generalize (!S.atPl p xs[k]) = t at *
      generalize xs[k] = r at *
      cases t
      · go_wp2_with (go_at_call 138; refine (HKK.out _ hbr).mono ?_; rintro e w1 ⟨rfl, hb1⟩)
        go_roundw
        case rel => exact ⟨k + 1, by omega, by go_num, HY.out trivial, hbr.trans (hb1.mono hbr.size)⟩
        case measure => simp [intOf]; omega
      · go_wp2_with (go_at_call 138; refine (HKK.out _ hbr).mono ?_; rintro e w1 ⟨rfl, hb1⟩)
        go_ret
        exact ⟨ret_i (HX.out trivial).symm, hbr.trans (hb1.mono hbr.size)⟩
    · go_wp2
      go_ret
      exact ⟨ret_i (idxf_miss (fun j hj => HNO.out j hj (by have := HN.out; omega))).symm, hbr⟩
def zeroSch : Array Value := #[.slice none 0 0, .int .i64 0, .int .i64 0, .bool false, .int .i64 0]
theorem zeroSch_one (n : Nat) : ∀ v, v ∈ (Builtin.zeroCells zeroSch n).toList → v.oneCell' = true := by
  intro v hv
  simp only [Builtin.zeroCells, Array.toList_map, List.mem_map] at hv
  obtain ⟨i, _, rfl⟩ := hv
  have hi : i % zeroSch.size < 5 := Nat.mod_lt _ (by decide)
  generalize i % zeroSch.size = k at hi
  match k, hi with
  | 0, _ => rfl
  | 1, _ => rfl
  | 2, _ => rfl
  | 3, _ => rfl
  | 4, _ => rfl
  | k + 5, h => omega
theorem zeroSch_len (n : Nat) : (Builtin.zeroCells zeroSch n).toList.length = n * 5 := by simp [Builtin.zeroCells, zeroSch]
theorem clear5_run (b o n c : Nat) (hn : 0 < n) (w : World) (ht : w.there b o (n * 5)) (ty : TypeId) :
    (Builtin.clear_ #[146] ty #[.slice (some ⟨b, o, none⟩) n c]).run Tryz.prog w = .ok (.tuple #[]) (w.setCells b o (Builtin.zeroCells zeroSch n).toList) := by
  have hz : ∀ w, (zeroValue 152).run Tryz.prog w = .ok (.agg zeroSch) w := fun w => by
    have h := elemSch.info
    cases hi : Tryz.prog.info? 152 with
    | none => rw [hi] at h; cases h
    | some i =>
      rw [hi] at h
      simp only [Option.map_some, Option.some.injEq, Prod.mk.injEq] at h
      simp [zeroValue, typeInfo, Sem.run, hi, h.1, zeroSch]
  have hst := run_storeCells_cells (P := Tryz.prog) b o (Builtin.zeroCells zeroSch n).toList 0 w (fun j hj => by rw [zeroSch_len] at hj; rw [Nat.add_zero]; exact (ht j hj).1) (fun j hj => by rw [zeroSch_len] at hj; rw [Nat.add_zero]; exact (ht j hj).2) (zeroSch_one n)
  simp only [Nat.add_zero] at hst
  obtain ⟨m, rfl⟩ : ∃ m, n = m + 1 := ⟨n - 1, by omega⟩
  have hcs : (Value.agg zeroSch).cells = zeroSch := rfl
  simp [Builtin.clear_, run_underlying elemSch.slice, hz, hcs, hst]
structure Kept (cs : List SCh) (p : Int) (cur cur' : Array Value) (i j : Nat) : Prop where
  size : cur'.size = cur.size
  len : ((cs.take j).filter (S.atPl p)).length = i
  lt : i < j
  le : j ≤ cs.length
  done : ∀ q, q < i * 5 → cur'[q]? = (((cs.take j).filter (S.atPl p)).flatMap schC)[q]?
  rest : ∀ q, j * 5 ≤ q → cur'[q]? = cur[q]?
theorem Kept.skip {cs : List SCh} {p : Int} {cur cur' : Array Value} {i j : Nat} (h : Kept cs p cur cur' i j) (hj : j < cs.length) (hp : S.atPl p cs[j] = false) : Kept cs p cur cur' i (j + 1) := by
  have e : (cs.take (j + 1)).filter (S.atPl p) = (cs.take j).filter (S.atPl p) := by rw [filter_next (S.atPl p) hj, hp]; simp
  exact ⟨h.size, by rw [e]; exact h.len, by have := h.lt; omega, hj, by rw [e]; exact h.done, fun q hq => h.rest q (by omega)⟩
theorem Kept.keep {cs : List SCh} {p : Int} {cur cur' cur2 : Array Value} {i j : Nat} (h : Kept cs p cur cur' i j) (hj : j < cs.length) (hp : S.atPl p cs[j] = true) (hs : cur2.size = cur'.size)
    (hc : ∀ q, cur2[q]? = if i * 5 ≤ q ∧ q < i * 5 + (schC cs[j]).length then (schC cs[j])[q - i * 5]? else cur'[q]?) : Kept cs p cur cur2 (i + 1) (j + 1) := by
  have e : (cs.take (j + 1)).filter (S.atPl p) = (cs.take j).filter (S.atPl p) ++ [cs[j]] := by rw [filter_next (S.atPl p) hj, hp]; simp
  have hl := h.lt
  rw [schC_len] at hc
  have hfl : (((cs.take j).filter (S.atPl p)).flatMap schC).length = i * 5 := by rw [flat5_len, h.len]
  refine ⟨hs.trans h.size, by rw [e, List.length_append, h.len]; rfl, by omega, hj, fun q hq => ?_, fun q hq => ?_⟩
  · rw [e, List.flatMap_append, hc q]
    by_cases hqi : q < i * 5
    · rw [if_neg (by omega), List.getElem?_append_left (by rw [hfl]; exact hqi)]
      exact h.done q hqi
    · rw [if_pos ⟨by omega, by omega⟩, List.getElem?_append_right (by rw [hfl]; omega), hfl, List.flatMap_cons, List.flatMap_nil, List.append_nil]
  · rw [hc q, if_neg (by omega)]
    exact h.rest q (by omega)
theorem Kept.first {cs : List SCh} {p : Int} {cur : Array Value} {i : Nat} (hi : i < cs.length) (hcur : ∀ q, q < cs.length * 5 → cur[q]? = (cs.flatMap schC)[q]?) (hp : S.atPl p cs[i] = false) (hno : ∀ j (h : j < cs.length), j < i → S.atPl p cs[j] = true) : Kept cs p cur cur i (i + 1) := by
  have e0 : (cs.take i).filter (S.atPl p) = cs.take i := List.filter_eq_self.2 fun r hr => by
    obtain ⟨j, hj, rfl⟩ := List.getElem_of_mem hr
    rw [List.length_take] at hj
    rw [List.getElem_take]
    exact hno j (by omega) (by omega)
  have e : (cs.take (i + 1)).filter (S.atPl p) = cs.take i := by rw [filter_next (S.atPl p) hi, hp, e0]; simp
  refine ⟨rfl, by rw [e, List.length_take]; omega, by omega, hi, fun q hq => ?_, fun q _ => rfl⟩
  rw [e, hcur q (by omega)]
  have e2 : cs.flatMap schC = (cs.take i).flatMap schC ++ (cs.drop i).flatMap schC := by rw [← List.flatMap_append, List.take_append_drop]
  rw [e2, List.getElem?_append_left (by rw [flat5_len, List.length_take, Nat.min_eq_left (by omega)]; exact hq)]
theorem Blk.thereAt5 {w : World} {g : Nat} {t : TypeId} {cs : Array Value} (h : Blk w g t cs) (o : Nat) {n : Nat} (hn : o + n ≤ cs.size) : w.there g o n := fun j hj => ⟨by rw [h.cell]; simp; omega, h.frozen _⟩
end Go.Proofs.YtffkmgjmlahfpaaGreat
namespace Go.Proofs.YtffkmgjmlahfpaaGreat
open Go.RowKit
theorem elemSt : Elem Tryz.prog 70 81 (.agg #[.int .i64 0, .int .i64 0]) 2 16 := ⟨Tryz.underlying70, by kernel_rfl, rfl, by decide⟩
def S.shortStF (l : List Stp) : Int × List Stp := l.foldl (fun x s => (s.val, if s.val = x.1 then x.2 else x.2 ++ [s])) (0, [])
def S.shortSt (l : List Stp) : List Stp := (S.shortStF l).2
theorem shortStF_next {l : List Stp} {k : Nat} (h : k < l.length) : S.shortStF (l.take (k + 1)) = (l[k].val, if l[k].val = (S.shortStF (l.take k)).1 then (S.shortStF (l.take k)).2 else (S.shortStF (l.take k)).2 ++ [l[k]]) := by
  have e : l.take (k + 1) = l.take k ++ [l[k]] := by rw [List.take_add_one, List.getElem?_eq_getElem h]; rfl
  unfold S.shortStF
  rw [e, List.foldl_append]
  rfl
theorem shortStF_len (l : List Stp) : (S.shortStF l).2.length ≤ l.length := by
  suffices hs : ∀ (l : List Stp) (x : Int × List Stp), (l.foldl (fun x s => (s.val, if s.val = x.1 then x.2 else x.2 ++ [s])) x).2.length ≤ x.2.length + l.length by
    have := hs l (0, [])
    unfold S.shortStF
    simpa using this
  intro l
  induction l with
  | nil => intro x; simp
  | cons s t ih =>
    intro x
    simp only [List.foldl_cons, List.length_cons]
    have h1 := ih (s.val, if s.val = x.1 then x.2 else x.2 ++ [s])
    have h2 : (if s.val = x.1 then x.2 else x.2 ++ [s]).length ≤ x.2.length + 1 := by split <;> simp
    simp only [] at h1
    generalize (if s.val = x.1 then x.2 else x.2 ++ [s]) = y at *
    generalize (List.foldl (fun x s => (s.val, if s.val = x.1 then x.2 else x.2 ++ [s])) (s.val, y) t).2.length = z at *
    omega
set_option maxHeartbeats 2000000 in
theorem short_any' (l : List Stp) (A : Option Addr) (n c : Nat) (B : Nat) (w : World) (hB : B ≤ w.heap.size) (hA : StepsAt w B A n l) (hm : n ≤ 10000) :
    Calls Tryz.prog 143 #[.slice A n c] w fun e w' => ∃ (A' : Option Addr) (c' : Nat), e = .returned (.slice A' (S.shortSt l).length c') ∧ w'.ownsRow w.heap.size 81 2 (.slice A' (S.shortSt l).length c') (S.shortSt l).length ((S.shortSt l).flatMap stC) ∧ Below w.heap.size w w' := by
  have HN := Lib.hid hA.len
  have hs := hA.cells
  clear hA
  go_enter Tryz.func143, Tryz.ntmps143
  go_wp2
  go_loopw [3, 4, 9] (fun v u i wr => ∃ k : Nat, k ≤ n ∧ i = .int .i64 k ∧ ∃ (la : Int) (out : List Stp), u = .int .i64 la ∧ Hid ((la, out) = S.shortStF (l.take k)) ∧ Row w wr none w.heap.size 81 2 v out.length (out.flatMap stC) ∧ Exc [] w wr) (fun _ _ i _ => n - (intOf i).toNat)
  case atStart => exact ⟨0, Nat.zero_le _, rfl, 0, [], rfl, Lib.hid rfl, Row.none_ _ _ _ _, Exc.refl _ _⟩
  case round =>
    obtain ⟨k, hk, rfl, la, out, rfl, hu, hR, hX⟩ := hrel
    have hbr : Below w.heap.size w wr := hX.below (Nat.le_refl _) (by simp)
    by_cases hlt : k < n
    · have hkx : k < l.length := by have := HN.out; omega
      have hs' := hs.below (hbr.mono hB)
      obtain ⟨b, o, rfl, hbB, hx⟩ := hs'.at_ (by rw [flat_len stC 2 stC_len]; omega)
      clear hx
      have c0 := hs'.row0 stC_len hkx rfl
      have c1 := hs'.rowj stC_len hkx 1 rfl
      clear hs'
      have hbl : b < wr.heap.size := by have := hbr.size; omega
      have hki : (k : Int) < n := by omega
      have HV := Lib.hid (shortStF_next hkx)
      have hol : out.length ≤ 10000 := by
        have h1 := shortStF_len (l.take k)
        rw [← hu.out, List.length_take] at h1
        simp only [] at h1
        omega
      rw [← hu.out] at HV
      generalize l[k] = r at *
      by_cases h1 : r.val = la
      · have hb1 : (r.val != la) = false := by simp [h1]
        have HV2 := Lib.hid (HV.out.trans (by rw [if_pos h1]))
        clear h1
        go_wp2
        go_roundw
        case rel => exact ⟨k + 1, by omega, by go_num, r.val, out, rfl, Lib.hid HV2.out.symm, Row.alloc hR _, hX.alloc _⟩
        case measure => simp [intOf]; omega
      · have hb1 : (r.val != la) = true := by simp [h1]
        have HV2 := Lib.hid (HV.out.trans (by rw [if_neg h1]))
        clear h1
        go_upto_region 6 with fail
        have hS := Blk.new wr 81 #[.int .i64 r.fro, .int .i64 r.val]
        have hR1 := hR.alloc (.cells #[.int .i64 r.fro, .int .i64 r.val] 81)
        have hX1 := hX.alloc (.cells #[.int .i64 r.fro, .int .i64 r.val] 81)
        generalize (wr.alloc (.cells #[.int .i64 r.fro, .int .i64 r.val] 81)) = W1 at *
        have x0 := hS.cell 0
        have x1 := hS.cell 1
        have xl := hS.lt
        simp only [List.getElem?_toArray, List.getElem?_cons_zero, List.getElem?_cons_succ] at x0 x1
        have HR1 := Lib.hid hR1
        have HS := Lib.hid hS
        have HX1 := Lib.hid hX1
        have hss := hX.size
        have HLT := Lib.hid hR.own.lt
        generalize wr.heap.size = gs at *
        have hbE : w.heap.size ≤ W1.heap.size := by omega
        clear hR hX hR1 hX1 hbr c0 c1 hbl
        go_wp2_with (at_builtin; refine wpList_push rfl (.tmp 17) (.tmp 19) _ rfl elemSt (HR1.out.alloc _) (HX1.out.alloc _) (by simp) (Nat.le_refl _) rfl W1.heap.size 1 1 [.int .i64 r.fro, .int .i64 r.val] rfl rfl ?_ (by simp [Value.oneCell']) (by unfold maxLen; omega) (by omega) ?_; (· intro j u hu; have := (Cells.newRow W1 #[.int .i64 r.fro, .int .i64 r.val] 81 (0, 0)).get (k := j) (v := u) hu; simpa using this); intro v2 wE hRE hXE hOE; have y1 := (hOE gs (by simp; omega) (fun he => by have := (HLT.out gs he).2; omega)).trans (Below.heap_alloc _ _ gs xl); have hSE : Blk wE gs 81 #[.int .i64 r.fro, .int .i64 r.val] := y1.trans HS.out; have x1E := hSE.cell 1; have xlE := hSE.lt; simp only [List.getElem?_toArray, List.getElem?_cons_zero, List.getElem?_cons_succ] at x1E; clear hSE y1)
        go_roundw
        case rel => exact ⟨k + 1, by omega, by go_num, r.val, out ++ [r], rfl, Lib.hid HV2.out.symm, by simpa using hRE, hXE⟩
        case measure => simp [intOf]; omega
    · have hr2 := hR.own
      have HE := Lib.hid (show out = S.shortSt l by have := hu.out; rw [List.take_of_length_le (by have := HN.out; omega)] at this; unfold S.shortSt; rw [← this])
      clear hu
      have hol : out.length ≤ 10000 := by
        rw [HE.out]
        have h1 := shortStF_len l
        have := HN.out
        unfold S.shortSt
        omega
      obtain ⟨A5, c5, rfl, _, _, _⟩ := own_form hr2 (by unfold maxLen; omega)
      go_wp2
      go_ret
      rw [← HE.out]
      exact ⟨A5, c5, rfl, hr2, hbr⟩
theorem Short_any (l : List Stp) (A : Option Addr) (n c : Nat) (B : Nat) (w : World) (hB : B ≤ w.heap.size) (hA : StepsAt w B A n l) (hm : n ≤ 10000) (h : S.steps l = true) :
    Calls Tryz.prog 86 #[.slice A n c] w fun e w' => ∃ (A' : Option Addr) (c' : Nat), e = .returned (.tuple #[.slice A' (S.shortSt l).length c', .int .i64 0]) ∧ w'.ownsRow w.heap.size 81 2 (.slice A' (S.shortSt l).length c') (S.shortSt l).length ((S.shortSt l).flatMap stC) ∧ Below w.heap.size w w' := by
  have HV := Lib.hid (fun (W : World) (hw : Below w.heap.size w W) => h ▸ steps_any l A n c B W (dsize hB hw) (hA.below (hw.mono hB)))
  have HT := Lib.hid (fun (W : World) (hw : Below w.heap.size w W) => short_any' l A n c B W (dsize hB hw) (hA.below (hw.mono hB)) hm)
  clear hA h
  go_enter Tryz.func86, Tryz.ntmps86
  go_wp2_with (first
    | (go_at_call 104; (with_reducible refine (HV.out _ belr).mono ?_); rintro e w1 ⟨rfl, hbw1⟩; obtain ⟨hcw1, hfw1⟩ := bcell hbw1)
    | (go_at_call 143; (with_reducible refine (HT.out _ belr).mono ?_); rintro e w2 ⟨A2, c2, rfl, ho2, hbw2⟩))
  go_ret2
  exact ⟨A2, c2, rfl, own_mono ho2 hbw1.size, bel⟩
end Go.Proofs.YtffkmgjmlahfpaaGreat
