/- Contracts: slices.IndexFunc, ContainsFunc over ints, of a function that answers for the members alone; the reference's In. The library's sort and Compact at this program, laid by the kit's command in plain words (lay-plain.mjs). A region that draws: 'e, h := x, x': two variables of our own get what lies in one block. Contract: slices.IndexFunc over chains; plain facts for DeleteFunc. Contract: supply.suppliers. -/
import Derived.Test.YtffkmgjmlahfpaaGreatQR
import Derived.Shelf.Sort.Plain
import Derived.Shelf.Slices.CompactI
import Derived.Shelf.Slices.In.SortNone
import Derived.Sort.OwnSortedInts
import Derived.Lib.RowBridge
import Derived.Ground.NamesProg
import Derived.Ground.Names2Prog
import Derived.Test.YtffkmgjmlahfpaaGreatQQ
import Derived.Test.YtffkmgjmlahfpaaGreatQL
import Derived.Test.YtffkmgjmlahfpaaGreatQM
import Derived.Test.YtffkmgjmlahfpaaGreatQT
import Derived.OrdersHeld
set_option linter.unusedVariables false
set_option linter.unusedSimpArgs false
namespace Go.Proofs.YtffkmgjmlahfpaaGreat
open Go.RowKit
/-- What a function value of one integer answers at the members of a list. -/
def AsksM (w : World) (F : Nat) (fst cap : Array Value) (xs : List Int) (p : Int → Bool) : Prop :=
  ∀ (x : Int), x ∈ xs → ∀ (w' : World), Below w.heap.size w w' → Calls Tryz.prog F (fst.push (.int .i64 x) ++ cap) w' fun e w'' => e = .returned (.bool (p x)) ∧ Below w'.heap.size w' w''
theorem indexfM_any (F : Nat) (fst cap : Array Value) (p : Int → Bool) (A : Option Addr) (n c : Nat) (xs : List Int) (B : Nat) (w : World) (hn : xs.length = n) (hm : n ≤ 9223372036854775807) (hB : B ≤ w.heap.size)
    (hs : Cells w B A (i64s xs)) (hF : ∀ args w, Sem.run Tryz.prog (callFunc F args) w = .ok (.enter F args) w) (hf : AsksM w F fst cap xs p) :
    Calls Tryz.prog 199 #[.slice A n c, .func (.func F) fst cap] w fun e w' => e = .returned (.int .i64 (idxf xs p)) ∧ Below w.heap.size w w' := by
  have HN := Lib.hid hn
  clear hn
  go_enter Tryz.func199, Tryz.ntmps199
  go_wp2
  go_loopw [8] (fun i wr => ∃ k : Nat, k ≤ n ∧ i = .int .i64 k ∧ (∀ j (h : j < xs.length), j < k → p xs[j] = false) ∧ Below w.heap.size w wr) (fun i _ => n - (intOf i).toNat)
  case atStart => exact ⟨0, Nat.zero_le _, rfl, fun j _ hj => absurd hj (by omega), Below.refl _ _⟩
  case round =>
    obtain ⟨k, hk, rfl, hno, hbr⟩ := hrel
    have HNO := Lib.hid hno
    clear hno
    by_cases hlt : k < n
    · have hkx : k < xs.length := by have := HN.out; omega
      have hs' := hs.below (hbr.mono hB)
      obtain ⟨b, o, rfl, _, hc⟩ := hs'.at_ (by simp; omega)
      have hck := hc k _ (i64s_get hkx)
      clear hc
      by_cases hx : p xs[k] = true
      · go_wp2_with (refine (hf _ (List.getElem_mem hkx) _ hbr).mono ?_; rintro e w1 ⟨rfl, hb1⟩)
        go_ret
        exact ⟨ret_i (idxf_hit hkx hx HNO.out).symm, hbr.trans (hb1.mono hbr.size)⟩
      · have hx' : p xs[k] = false := by simpa using hx
        clear hx
        go_wp2_with (refine (hf _ (List.getElem_mem hkx) _ hbr).mono ?_; rintro e w1 ⟨rfl, hb1⟩)
        go_roundw
        case rel =>
          refine ⟨k + 1, by omega, by go_num, fun j hj hjk => ?_, hbr.trans (hb1.mono hbr.size)⟩
          by_cases hjk' : j = k
          · subst hjk'; exact hx'
          · exact HNO.out j hj (by omega)
        case measure => simp [intOf]; omega
    · go_wp2
      go_ret
      exact ⟨ret_i (idxf_miss (fun j hj => HNO.out j hj (by have := HN.out; omega))).symm, hbr⟩
theorem containsfM_any (F : Nat) (fst cap : Array Value) (p : Int → Bool) (A : Option Addr) (n c : Nat) (xs : List Int) (B : Nat) (w : World) (hn : xs.length = n) (hm : n ≤ 9223372036854775807) (hB : B ≤ w.heap.size)
    (hs : Cells w B A (i64s xs)) (hF : ∀ args w, Sem.run Tryz.prog (callFunc F args) w = .ok (.enter F args) w) (hf : AsksM w F fst cap xs p) :
    Calls Tryz.prog 139 #[.slice A n c, .func (.func F) fst cap] w fun e w' => e = .returned (.bool (anyb xs p)) ∧ Below w.heap.size w w' := by
  have HN := Lib.hid hn
  have HF := Lib.hid hF
  have he : decide (0 ≤ idxf xs p) = anyb xs p := idxf_ge xs p
  clear hn hF
  go_enter Tryz.func139, Tryz.ntmps139
  go_wp2_with (go_at_call 199; refine (indexfM_any F fst cap p _ _ _ xs B _ HN.out hm hB hs HF.out hf).mono ?_; rintro e w1 ⟨rfl, hb1⟩)
  go_ret
  exact ⟨rfl, (by repeat (first | exact Below.refl _ _ | assumption | refine ba_alloc ?_ _ | refine ba_drew ?_ | refine ba_drewN ?_ _ | refine ba_via (by assumption) ?_ | (refine ba_set ?_ ?_ _; rotate_left; (first | omega | (simp; omega) | simp))))⟩
end Go.Proofs.YtffkmgjmlahfpaaGreat
namespace Go.Proofs
open Go.Shelf
def Tryz.lays189_ren : Go.Shelf.Ren := ⟨fun | 189 => 84 | 125 => 142 | 257 => 141 | 128 => 209 | 129 => 210 | 294 => 200 | 295 => 201 | 296 => 202 | 297 => 203 | 298 => 204 | 299 => 205 | 216 => 206 | 300 => 207 | 301 => 208 | 328 => 252 | 329 => 253 | 330 => 254 | 331 => 255 | 332 => 256 | 215 => 214 | 343 => 273 | n => n, fun | 28 => 58 | 3 => 3 | 46 => 210 | 0 => 0 | 51 => 260 | 53 => 141 | 4 => 4 | 183 => 253 | 182 => 252 | 131 => 195 | 5 => 5 | 9 => 9 | 218 => 291 | 222 => 295 | 228 => 304 | 229 => 62 | n => n, fun | n => n⟩
theorem Tryz.lays189 : Go.Proofs.Lays.n189 Tryz.prog Tryz.lays189_ren := {
  mixed := by kernel_rfl
  f125 := Tryz.func142.trans (congrArg some (by kernel_rfl))
  f128 := Tryz.func209.trans (congrArg some (by kernel_rfl))
  f129 := Tryz.func210.trans (congrArg some (by kernel_rfl))
  f189 := Tryz.func84.trans (congrArg some (by kernel_rfl))
  f215 := Tryz.func214.trans (congrArg some (by kernel_rfl))
  f216 := Tryz.func206.trans (congrArg some (by kernel_rfl))
  f257 := Tryz.func141.trans (congrArg some (by kernel_rfl))
  f294 := Tryz.func200.trans (congrArg some (by kernel_rfl))
  f295 := Tryz.func201.trans (congrArg some (by kernel_rfl))
  f296 := Tryz.func202.trans (congrArg some (by kernel_rfl))
  f297 := Tryz.func203.trans (congrArg some (by kernel_rfl))
  f298 := Tryz.func204.trans (congrArg some (by kernel_rfl))
  f299 := Tryz.func205.trans (congrArg some (by kernel_rfl))
  f300 := Tryz.func207.trans (congrArg some (by kernel_rfl))
  f301 := Tryz.func208.trans (congrArg some (by kernel_rfl))
  f328 := Tryz.func252.trans (congrArg some (by kernel_rfl))
  f329 := Tryz.func253.trans (congrArg some (by kernel_rfl))
  f330 := Tryz.func254.trans (congrArg some (by kernel_rfl))
  f331 := Tryz.func255.trans (congrArg some (by kernel_rfl))
  f332 := Tryz.func256.trans (congrArg some (by kernel_rfl))
  f343 := Tryz.func273.trans (congrArg some (by kernel_rfl))
  t0 := Tryz.underlying0
  a0 := Tryz.isAgg0
  z0 := Tryz.sizeOf0
  v0 := Tryz.zeroValue0
  t3 := Tryz.underlying3
  a3 := Tryz.isAgg3
  z3 := Tryz.sizeOf3
  v3 := Tryz.zeroValue3
  t4 := Tryz.underlying4
  a4 := Tryz.isAgg4
  z4 := Tryz.sizeOf4
  v4 := Tryz.zeroValue4
  t5 := Tryz.underlying5
  a5 := Tryz.isAgg5
  z5 := Tryz.sizeOf5
  v5 := Tryz.zeroValue5
  t9 := Tryz.underlying9
  a9 := Tryz.isAgg9
  z9 := Tryz.sizeOf9
  v9 := Tryz.zeroValue9
  t28 := Tryz.underlying58
  a28 := Tryz.isAgg58
  z28 := Tryz.sizeOf58
  v28 := Tryz.zeroValue58
  t46 := Tryz.underlying210
  a46 := Tryz.isAgg210
  z46 := Tryz.sizeOf210
  v46 := Tryz.zeroValue210
  t51 := Tryz.underlying260
  a51 := Tryz.isAgg260
  z51 := Tryz.sizeOf260
  v51 := Tryz.zeroValue260
  t53 := Tryz.underlying141
  a53 := Tryz.isAgg141
  z53 := Tryz.sizeOf141
  v53 := Tryz.zeroValue141
  t131 := Tryz.underlying195
  a131 := Tryz.isAgg195
  z131 := Tryz.sizeOf195
  v131 := Tryz.zeroValue195
  t182 := Tryz.underlying252
  a182 := Tryz.isAgg252
  z182 := Tryz.sizeOf252
  v182 := Tryz.zeroValue252
  t183 := Tryz.underlying253
  a183 := Tryz.isAgg253
  z183 := Tryz.sizeOf253
  v183 := Tryz.zeroValue253
  t218 := Tryz.underlying291
  a218 := Tryz.isAgg291
  z218 := Tryz.sizeOf291
  v218 := Tryz.zeroValue291
  t222 := Tryz.underlying295
  a222 := Tryz.isAgg295
  z222 := Tryz.sizeOf295
  v222 := Tryz.zeroValue295
  t228 := Tryz.underlying304
  a228 := Tryz.isAgg304
  z228 := Tryz.sizeOf304
  v228 := Tryz.zeroValue304
  t229 := Tryz.underlying62
  a229 := Tryz.isAgg62
  z229 := Tryz.sizeOf62
  v229 := Tryz.zeroValue62 }
def Tryz.lays220_ren : Go.Shelf.Ren := ⟨fun | 20 => 85 | n => n, fun | 22 => 58 | 3 => 3 | 4 => 4 | 0 => 0 | n => n, fun | n => n⟩
theorem Tryz.lays220 : Go.Proofs.Lays2.n20 Tryz.prog Tryz.lays220_ren := {
  mixed := by kernel_rfl
  f20 := Tryz.func85.trans (congrArg some (by kernel_rfl))
  t0 := Tryz.underlying0
  a0 := Tryz.isAgg0
  z0 := Tryz.sizeOf0
  v0 := Tryz.zeroValue0
  t3 := Tryz.underlying3
  a3 := Tryz.isAgg3
  z3 := Tryz.sizeOf3
  v3 := Tryz.zeroValue3
  t4 := Tryz.underlying4
  a4 := Tryz.isAgg4
  z4 := Tryz.sizeOf4
  v4 := Tryz.zeroValue4
  t22 := Tryz.underlying58
  a22 := Tryz.isAgg58
  z22 := Tryz.sizeOf58
  v22 := Tryz.zeroValue58
  i3 := by kernel_rfl }
open Go.Sort Go.RowKit in
theorem Tryz.slices_Sort_int (blk off cap : Nat) (zs : List Int) (w : World) (hH : Holds (Value.int .i64) w blk off zs.toArray) (hblk : blk < w.heap.size) (hsz : zs.length < 4611686018427387904) :
    Calls Tryz.prog 84 #[.slice (some ⟨blk, off, none⟩) zs.length cap] w fun e w' =>
      e = .returned (.tuple #[]) ∧ ∃ n os, w' = grow (putRow (Value.int .i64) (Sort.ahead w n) blk off (zs.mergeSort fun x y => decide (x ≤ y)).toArray) os := Any.slices_Sort_int Tryz.lays189 blk off cap zs w hH hblk hsz
end Go.Proofs
namespace Go.Proofs.YtffkmgjmlahfpaaGreat
open Go.RowKit Go.Sort
set_option linter.unusedVariables false
set_option linter.unusedSimpArgs false
def S.sortI (zs : List Int) : List Int := zs.mergeSort fun x y => decide (x ≤ y)
theorem sortI_len (zs : List Int) : (S.sortI zs).length = zs.length := by simp [S.sortI]
theorem sort_own (zs : List Int) (v : Value) (n base : Nat) (w : World) (ho : w.ownsRow base 3 1 v n (i64s zs)) (hm : n ≤ 1000000) :
    Calls Tryz.prog 84 #[v] w fun e w' => e = .returned (.tuple #[]) ∧ w'.ownsRow base 3 1 v n (i64s (S.sortI zs)) ∧ Exc v.ownBlock.toList w w' := by
  have hl : zs.length = n := by have := ho.1; simpa using this
  rcases ho.2 with ⟨rfl, rfl⟩ | ⟨g, cap, cur, rfl, hg, hb, hn, hcap, hsz, htk⟩
  · have hz : zs = [] := List.eq_nil_of_length_eq_zero hl
    subst hz
    refine (Any.slices_Sort_int_none Tryz.lays189 none 0 w).mono ?_
    rintro e w' ⟨rfl, rfl⟩
    exact ⟨rfl, by simpa [S.sortI] using ho, Exc.refl _ _⟩
  · have hblk : g < w.heap.size := (Array.getElem?_eq_some_iff.1 hb).1
    have h := Tryz.slices_Sort_int g 0 cap zs w (holds_of_blockI hb (by rw [hl]; simpa using htk)) hblk (by omega)
    rw [hl] at h
    refine h.mono ?_
    rintro e w' ⟨rfl, k, os, rfl⟩
    refine ⟨rfl, ?_, Exc.grown (Exc.refl _ _) (grownBy_sortedI _) (fun k hk => .inl (by cases hk; simp [Value.ownBlock]))⟩
    have := ownsRow_sortedI (n := k) (os := os) (ss := zs) (ts := S.sortI zs) (sortI_len zs) hg hb (by omega) hcap hsz
    rw [hl] at this
    exact this
theorem own_cut {w : World} {base E size : Nat} {A : Option Addr} {n c m : Nat} {xs : List Value} (h : w.ownsRow base E size (.slice A n c) n xs) (hm : m ≤ n) : w.ownsRow base E size (.slice A m c) m (xs.take (m * size)) := by
  refine ⟨by rw [List.length_take, h.1]; exact Nat.min_eq_left (Nat.mul_le_mul_right _ hm), ?_⟩
  rcases h.2 with ⟨hv, rfl⟩ | ⟨g, cap, cur, hv, hg, hb, hn, hcap, hsz, htk⟩
  · obtain rfl : m = 0 := by omega
    injection hv with h1 h2 h3
    subst h1 h3
    exact .inl ⟨rfl, rfl⟩
  · injection hv with h1 h2 h3
    subst h1 h3
    exact .inr ⟨g, c, cur, rfl, hg, hb, by omega, hcap, hsz, by rw [← htk, List.take_take, Nat.min_eq_left (Nat.mul_le_mul_right _ hm)]⟩
theorem grow_none (w : World) : Go.Sort.grow w #[] = w := by simp [Go.Sort.grow]
theorem compact_own (zs : List Int) (A : Option Addr) (c : Nat) (n base : Nat) (w : World) (ho : w.ownsRow base 3 1 (.slice A n c) n (i64s zs)) (hm : n ≤ 1000000) :
    Calls Tryz.prog 85 #[.slice A n c] w fun e w' => e = .returned (.slice A (Go.Lib.compact zs).length c) ∧ w'.ownsRow base 3 1 (.slice A (Go.Lib.compact zs).length c) (Go.Lib.compact zs).length (i64s (Go.Lib.compact zs)) ∧ Exc (Value.slice A n c).ownBlock.toList w w' := by
  have hl : zs.length = n := by have := ho.1; simpa using this
  rcases ho.2 with ⟨hv, rfl⟩ | ⟨g, cap, cur, hv, hg, hb, hn, hcap, hsz, htk⟩
  · injection hv with h1 h2 h3
    subst h1 h3
    have hz : zs = [] := List.eq_nil_of_length_eq_zero hl
    subst hz
    refine (Any.slices_Compact_int_empty Tryz.lays220 none 0 w).mono ?_
    rintro e w' ⟨rfl, rfl⟩
    exact ⟨rfl, ho, Exc.refl _ _⟩
  · injection hv with h1 h2 h3
    subst h1 h3
    have h := Any.slices_Compact_int Tryz.lays220 g 0 c zs w (holds_of_blockI hb (by rw [hl]; simpa using htk)) (by omega) (by omega)
    rw [hl] at h
    refine h.mono ?_
    rintro e w' ⟨rfl, q, rfl⟩
    have hle := Go.Lib.compact_length_le zs
    have hgr := grownBy_sortedI (w := w) (g := g) (n := q) (os := #[]) (Go.Lib.compact zs ++ List.replicate (n - (Go.Lib.compact zs).length) 0).toArray
    have hown := ownsRow_sortedI (n := q) (os := #[]) (ss := zs) (ts := Go.Lib.compact zs ++ List.replicate (n - (Go.Lib.compact zs).length) 0) (by simp; omega) hg hb (by omega) hcap hsz
    rw [grow_none] at hgr hown
    refine ⟨rfl, ?_, Exc.grown (Exc.refl _ _) hgr (fun k hk => .inl (by cases hk; simp [Value.ownBlock]))⟩
    rw [hl] at hown
    have h2 := own_cut hown (m := (Go.Lib.compact zs).length) (by omega)
    rw [Nat.mul_one, List.map_append, List.take_left' (by simp)] at h2
    exact h2
end Go.Proofs.YtffkmgjmlahfpaaGreat
set_option linter.unusedVariables false
set_option linter.unusedSimpArgs false
namespace Go.Proofs.YtffkmgjmlahfpaaGreat
open Go.RowKit
theorem Blk.there {w : World} {g : Nat} {t : TypeId} {cs : Array Value} (h : Blk w g t cs) {n : Nat} (hn : n ≤ cs.size) : w.there g 0 n := fun j hj => ⟨by rw [Nat.zero_add, h.cell]; simp; omega, h.frozen _⟩
theorem Blk.put {t : TypeId} {g : Nat} : ∀ (vs : List Value) (o : Nat) (w : World) (cs : Array Value), Blk w g t cs → o + vs.length ≤ cs.size →
    ∃ cs', Blk (w.setCells g o vs) g t cs' ∧ cs'.size = cs.size ∧ ∀ j, cs'[j]? = if o ≤ j ∧ j < o + vs.length then vs[j - o]? else cs[j]? := by
  intro vs
  induction vs with
  | nil => intro o w cs h _; exact ⟨cs, h, rfl, fun j => by rw [if_neg (by simp)]⟩
  | cons v r ih =>
    intro o w cs h hl
    simp only [List.length_cons] at hl
    obtain ⟨cs', h1, h2, h3⟩ := ih (o + 1) _ _ (h.set o v) (by simp; omega)
    refine ⟨cs', h1, by simpa using h2, fun j => ?_⟩
    rw [h3 j, Array.getElem?_setIfInBounds]
    simp only [List.length_cons]
    by_cases e : o = j
    · subst e
      rw [if_neg (by omega), if_pos rfl, if_pos (by omega), if_pos (by omega), Nat.sub_self]
      rfl
    · by_cases e2 : o + 1 ≤ j ∧ j < o + 1 + r.length
      · rw [if_pos e2, if_pos (by omega)]
        obtain ⟨m, rfl⟩ : ∃ m, j = o + 1 + m := ⟨j - (o + 1), by omega⟩
        rw [show o + 1 + m - (o + 1) = m by omega, show o + 1 + m - o = m + 1 by omega]
        rfl
      · rw [if_neg e2, if_neg e, if_neg (by omega)]
theorem Blk.put0 {t : TypeId} {g : Nat} {w : World} {cs : Array Value} (h : Blk w g t cs) (vs : Array Value) (hl : vs.size = cs.size) : Blk (w.setCells g 0 vs.toList) g t vs := by
  obtain ⟨cs', h1, h2, h3⟩ := Blk.put vs.toList 0 w cs h (by simp; omega)
  have : cs' = vs := by
    apply Array.ext_getElem?
    intro j
    rw [h3 j]
    by_cases hj : j < vs.size
    · rw [if_pos ⟨by omega, by simpa using hj⟩]
      simp
    · rw [if_neg (by simp; omega), Array.getElem?_eq_none (by omega), Array.getElem?_eq_none (by omega)]
  rw [this] at h1
  exact h1
end Go.Proofs.YtffkmgjmlahfpaaGreat
set_option linter.unusedVariables false
set_option linter.unusedSimpArgs false
namespace Go.Proofs.YtffkmgjmlahfpaaGreat
open Go.RowKit
/-- A guard: the operation at hand is a store of this type by these slots. -/
theorem at_store {P : Program} {ops : Array Oper} {Q : Exit → Act → World → Prop} {rest : List Oper} {a : Act} {w : World} (ty : TypeId) (s r : Nat) {dst : Option Nat} {t : TypeId} {pos : String} {after : Array Edge}
    (h : wpList P ops Q ({ dst := dst, op := .store ty (.tmp s) (.tmp r), type := t, pos := pos, after := after, guard := none } :: rest) a w) : wpList P ops Q ({ dst := dst, op := .store ty (.tmp s) (.tmp r), type := t, pos := pos, after := after, guard := none } :: rest) a w := h
theorem filter_next {α : Type} (p : α → Bool) {l : List α} {k : Nat} (h : k < l.length) : (l.take (k + 1)).filter p = (l.take k).filter p ++ (if p l[k] then [l[k]] else []) := by
  have e : l.take (k + 1) = l.take k ++ [l[k]] := by rw [List.take_add_one, List.getElem?_eq_getElem h]; rfl
  rw [e, List.filter_append]
  congr 1
  cases hp : p l[k] <;> simp [hp]
theorem flat5_get {l : List SCh} {k : Nat} (h : k < l.length) {q : Nat} (hq : q < 5) : (l.flatMap schC)[k * 5 + q]? = (schC l[k])[q]? := by
  induction l generalizing k with
  | nil => simp at h
  | cons a t ih =>
    rw [List.flatMap_cons]
    cases k with
    | zero => rw [Nat.zero_mul, Nat.zero_add, List.getElem?_append_left (by rw [schC_len]; exact hq)]; rfl
    | succ k =>
      rw [List.getElem?_append_right (by rw [schC_len]; omega), schC_len, show (k + 1) * 5 + q - 5 = k * 5 + q by omega]
      exact ih (by simpa using h)
theorem flat5_len (l : List SCh) : (l.flatMap schC).length = l.length * 5 := by rw [flat_len schC 5 schC_len]
theorem idxf_cases {α : Type} (xs : List α) (p : α → Bool) : (idxf xs p = -1 ∧ ∀ j (h : j < xs.length), p xs[j] = false) ∨ ∃ k : Nat, ∃ hk : k < xs.length, idxf xs p = k ∧ p xs[k] = true ∧ ∀ j (h : j < xs.length), j < k → p xs[j] = false := by
  cases hf : xs.findIdx? p with
  | none =>
    rw [List.findIdx?_eq_none_iff] at hf
    have hno : ∀ j (h : j < xs.length), p xs[j] = false := fun j h => hf _ (List.getElem_mem h)
    exact .inl ⟨idxf_miss hno, hno⟩
  | some k =>
    rw [List.findIdx?_eq_some_iff_getElem] at hf
    obtain ⟨hk, hx, hno⟩ := hf
    have hno' : ∀ j (h : j < xs.length), j < k → p xs[j] = false := fun j h hj => by simpa using hno j hj
    exact .inr ⟨k, hk, idxf_hit hk hx hno', hx, hno'⟩
theorem Exc.trans5 {M : List Nat} {W w w' : World} (h : Exc M W w) (h' : Exc M w w') : Exc M W w' :=
  ⟨h'.os.trans h.os, h'.tape.trans h.tape, h'.output.trans h.output, Nat.le_trans h.size h'.size, fun k hk hm => (h'.block k (Nat.lt_of_lt_of_le hk h.size) hm).trans (h.block k hk hm)⟩
theorem exc_put (g o : Nat) (vs : List Value) (w : World) : Exc [g] w (w.setCells g o vs) := by
  induction vs generalizing o w with
  | nil => exact Exc.refl _ _
  | cons v r ih => exact Exc.trans5 ((Exc.refl [g] w).set (p := ⟨g, o, none⟩) (.inl (by simp)) v) (ih (o + 1) _)
theorem Exc.into {M M' : List Nat} {W w : World} (h : Exc M W w) (hM : ∀ k, k ∈ M → k ∈ M') : Exc M' W w := ⟨h.os, h.tape, h.output, h.size, fun k hk hm => h.block k hk fun hm' => hm (hM k hm')⟩
theorem indexSch_any (p : Int) (gp : Nat) (A : Option Addr) (n c : Nat) (xs : List SCh) (B : Nat) (w : World) (hn : xs.length = n) (hm : n ≤ 2000) (hB : B ≤ w.heap.size)
    (hs : Cells w B A (xs.flatMap schC)) (hc : w.cell? ⟨gp, 0, none⟩ = some (.int .i64 p)) (hg : gp < w.heap.size) :
    Calls Tryz.prog 198 #[.slice A n c, .func (.func 138) #[] #[.pointer (some ⟨gp, 0, none⟩)]] w fun e w' => e = .returned (.int .i64 (idxf xs fun r => !S.atPl p r)) ∧ Below w.heap.size w w' := by
  have HN := Lib.hid hn
  have HK := Lib.hid (fun (r : SCh) (W : World) (hw : Below w.heap.size w W) => notat_any r p gp W ((hw.cell (p := ⟨gp, 0, none⟩) hg).trans hc) (Nat.lt_of_lt_of_le hg hw.size))
  clear hn hc
  go_enter Tryz.func198, Tryz.ntmps198
  go_wp2
  go_loopw [8] (fun i wr => ∃ k : Nat, k ≤ n ∧ i = .int .i64 k ∧ (∀ j (h : j < xs.length), j < k → (!S.atPl p xs[j]) = false) ∧ Below w.heap.size w wr) (fun i _ => n - (intOf i).toNat)
  case atStart => exact ⟨0, Nat.zero_le _, rfl, fun j _ hj => absurd hj (by omega), Below.refl _ _⟩
  case round =>
    obtain ⟨k, hk, rfl, hno, hbr⟩ := hrel
    have HNO := Lib.hid hno
    clear hno
    by_cases hlt : k < n
    · have hkx : k < xs.length := by have := HN.out; omega
      have hs' := hs.below (hbr.mono hB)
      obtain ⟨b, o, rfl, hb, hxx⟩ := hs'.at_ (by rw [flat5_len]; omega)
      clear hxx
      have c0 := hs'.row0 schC_len hkx rfl
      have c1 := hs'.rowj schC_len hkx 1 rfl
      have c2 := hs'.rowj schC_len hkx 2 rfl
      have c3 := hs'.rowj schC_len hkx 3 rfl
      have c4 := hs'.rowj schC_len hkx 4 rfl
      have hbl : b < wr.heap.size := by have := hbr.size; omega
      clear hs'
      have HX := Lib.hid (fun (h : (!S.atPl p xs[k]) = true) => idxf_hit (p := fun r => !S.atPl p r) hkx h HNO.out)
      have HKK := Lib.hid (HK.out xs[k])
      have HY := Lib.hid (fun (h : (!S.atPl p xs[k]) = false) => show ∀ j (hj : j < xs.length), j < k + 1 → (!S.atPl p xs[j]) = false from fun j hj hjk => by
        by_cases hjk' : j = k
        · subst hjk'; exact h
        · exact HNO.out j hj (by omega))
      generalize (!S.atPl p xs[k]) = t at *
      generalize xs[k] = r at *
      cases t
      · go_wp2_with (go_at_call 138; refine (HKK.out _ hbr).mono ?_; rintro e w1 ⟨rfl, hb1⟩)
        go_roundw
        case rel => exact ⟨k + 1, by omega, by go_num, HY.out trivial, hbr.trans (hb1.mono hbr.size)⟩
        case measure => simp [intOf]; omega
      · go_wp2_with (go_at_call 138; refine (HKK.out _ hbr).mono ?_; rintro e w1 ⟨rfl, hb1⟩)
        go_ret
        exact ⟨ret_i (HX.out trivial).symm, hbr.trans (hb1.mono hbr.size)⟩
    · go_wp2
      go_ret
      exact ⟨ret_i (idxf_miss (fun j hj => HNO.out j hj (by have := HN.out; omega))).symm, hbr⟩
def zeroSch : Array Value := #[.slice none 0 0, .int .i64 0, .int .i64 0, .bool false, .int .i64 0]
theorem zeroSch_one (n : Nat) : ∀ v, v ∈ (Builtin.zeroCells zeroSch n).toList → v.oneCell' = true := by
  intro v hv
  simp only [Builtin.zeroCells, Array.toList_map, List.mem_map] at hv
  obtain ⟨i, _, rfl⟩ := hv
  have hi : i % zeroSch.size < 5 := Nat.mod_lt _ (by decide)
  generalize i % zeroSch.size = k at hi
  match k, hi with
  | 0, _ => rfl
  | 1, _ => rfl
  | 2, _ => rfl
  | 3, _ => rfl
  | 4, _ => rfl
  | k + 5, h => omega
theorem zeroSch_len (n : Nat) : (Builtin.zeroCells zeroSch n).toList.length = n * 5 := by simp [Builtin.zeroCells, zeroSch]
theorem clear5_run (b o n c : Nat) (hn : 0 < n) (w : World) (ht : w.there b o (n * 5)) (ty : TypeId) :
    (Builtin.clear_ #[146] ty #[.slice (some ⟨b, o, none⟩) n c]).run Tryz.prog w = .ok (.tuple #[]) (w.setCells b o (Builtin.zeroCells zeroSch n).toList) := by
  have hz : ∀ w, (zeroValue 152).run Tryz.prog w = .ok (.agg zeroSch) w := fun w => by
    have h := elemSch.info
    cases hi : Tryz.prog.info? 152 with
    | none => rw [hi] at h; cases h
    | some i =>
      rw [hi] at h
      simp only [Option.map_some, Option.some.injEq, Prod.mk.injEq] at h
      simp [zeroValue, typeInfo, Sem.run, hi, h.1, zeroSch]
  have hst := run_storeCells_cells (P := Tryz.prog) b o (Builtin.zeroCells zeroSch n).toList 0 w (fun j hj => by rw [zeroSch_len] at hj; rw [Nat.add_zero]; exact (ht j hj).1) (fun j hj => by rw [zeroSch_len] at hj; rw [Nat.add_zero]; exact (ht j hj).2) (zeroSch_one n)
  simp only [Nat.add_zero] at hst
  obtain ⟨m, rfl⟩ : ∃ m, n = m + 1 := ⟨n - 1, by omega⟩
  have hcs : (Value.agg zeroSch).cells = zeroSch := rfl
  simp [Builtin.clear_, run_underlying elemSch.slice, hz, hcs, hst]
/-- What the loop of DeleteFunc keeps: i elements are kept of the first j; those from j on are as they were. -/
structure Kept (cs : List SCh) (p : Int) (cur cur' : Array Value) (i j : Nat) : Prop where
  size : cur'.size = cur.size
  len : ((cs.take j).filter (S.atPl p)).length = i
  lt : i < j
  le : j ≤ cs.length
  done : ∀ q, q < i * 5 → cur'[q]? = (((cs.take j).filter (S.atPl p)).flatMap schC)[q]?
  rest : ∀ q, j * 5 ≤ q → cur'[q]? = cur[q]?
theorem Kept.skip {cs : List SCh} {p : Int} {cur cur' : Array Value} {i j : Nat} (h : Kept cs p cur cur' i j) (hj : j < cs.length) (hp : S.atPl p cs[j] = false) : Kept cs p cur cur' i (j + 1) := by
  have e : (cs.take (j + 1)).filter (S.atPl p) = (cs.take j).filter (S.atPl p) := by rw [filter_next (S.atPl p) hj, hp]; simp
  exact ⟨h.size, by rw [e]; exact h.len, by have := h.lt; omega, hj, by rw [e]; exact h.done, fun q hq => h.rest q (by omega)⟩
theorem Kept.keep {cs : List SCh} {p : Int} {cur cur' cur2 : Array Value} {i j : Nat} (h : Kept cs p cur cur' i j) (hj : j < cs.length) (hp : S.atPl p cs[j] = true) (hs : cur2.size = cur'.size)
    (hc : ∀ q, cur2[q]? = if i * 5 ≤ q ∧ q < i * 5 + (schC cs[j]).length then (schC cs[j])[q - i * 5]? else cur'[q]?) : Kept cs p cur cur2 (i + 1) (j + 1) := by
  have e : (cs.take (j + 1)).filter (S.atPl p) = (cs.take j).filter (S.atPl p) ++ [cs[j]] := by rw [filter_next (S.atPl p) hj, hp]; simp
  have hl := h.lt
  rw [schC_len] at hc
  have hfl : (((cs.take j).filter (S.atPl p)).flatMap schC).length = i * 5 := by rw [flat5_len, h.len]
  refine ⟨hs.trans h.size, by rw [e, List.length_append, h.len]; rfl, by omega, hj, fun q hq => ?_, fun q hq => ?_⟩
  · rw [e, List.flatMap_append, hc q]
    by_cases hqi : q < i * 5
    · rw [if_neg (by omega), List.getElem?_append_left (by rw [hfl]; exact hqi)]
      exact h.done q hqi
    · rw [if_pos ⟨by omega, by omega⟩, List.getElem?_append_right (by rw [hfl]; omega), hfl, List.flatMap_cons, List.flatMap_nil, List.append_nil]
  · rw [hc q, if_neg (by omega)]
    exact h.rest q (by omega)
theorem Kept.first {cs : List SCh} {p : Int} {cur : Array Value} {i : Nat} (hi : i < cs.length) (hcur : ∀ q, q < cs.length * 5 → cur[q]? = (cs.flatMap schC)[q]?) (hp : S.atPl p cs[i] = false) (hno : ∀ j (h : j < cs.length), j < i → S.atPl p cs[j] = true) : Kept cs p cur cur i (i + 1) := by
  have e0 : (cs.take i).filter (S.atPl p) = cs.take i := List.filter_eq_self.2 fun r hr => by
    obtain ⟨j, hj, rfl⟩ := List.getElem_of_mem hr
    rw [List.length_take] at hj
    rw [List.getElem_take]
    exact hno j (by omega) (by omega)
  have e : (cs.take (i + 1)).filter (S.atPl p) = cs.take i := by rw [filter_next (S.atPl p) hi, hp, e0]; simp
  refine ⟨rfl, by rw [e, List.length_take]; omega, by omega, hi, fun q hq => ?_, fun q _ => rfl⟩
  rw [e, hcur q (by omega)]
  have e2 : cs.flatMap schC = (cs.take i).flatMap schC ++ (cs.drop i).flatMap schC := by rw [← List.flatMap_append, List.take_append_drop]
  rw [e2, List.getElem?_append_left (by rw [flat5_len, List.length_take, Nat.min_eq_left (by omega)]; exact hq)]
theorem Blk.thereAt5 {w : World} {g : Nat} {t : TypeId} {cs : Array Value} (h : Blk w g t cs) (o : Nat) {n : Nat} (hn : o + n ≤ cs.size) : w.there g o n := fun j hj => ⟨by rw [h.cell]; simp; omega, h.frozen _⟩
end Go.Proofs.YtffkmgjmlahfpaaGreat
set_option linter.unusedVariables false
set_option linter.unusedSimpArgs false
namespace Go.Proofs.YtffkmgjmlahfpaaGreat
open Go.RowKit
def S.outI (rs : List Rod) (z : Bx) (i : Int) : Bool := match rs[i.toNat]? with | some r => S.outside r z | none => false
def S.sup (rs : List Rod) (z : Bx) (c : SCh) : Bool := c.is && !(anyb c.l (S.outI rs z))
/-- The laid bars, and those of the chains that are kept: the bars below b2, the chains' own list from b2 on. -/
def GivesSups (x : Dt) (C : List (List Int)) (n : Nat) (keep : List Rod → SCh → Bool) (w : World) (e : Ending) (w' : World) : Prop :=
  ∃ (A1 : Option Addr) (c1 : Nat) (rs : List Rod) (A2 : Option Addr) (c2 : Nat) (cs : List SCh) (b2 : Nat), e = .returned (.tuple #[.slice A1 rs.length c1, .slice A2 (cs.filter (keep rs)).length c2, .int .i64 0]) ∧ rs.length = n ∧ (∀ (i : Nat) (hi : i < rs.length), RodOk x i rs[i]) ∧ w.heap.size ≤ b2 ∧ b2 ≤ w'.heap.size ∧
    Cells w' b2 A1 (rs.flatMap rodC) ∧ (∀ r, r ∈ rs → Cells w' b2 r.A (r.legs.flatMap boxC)) ∧ w'.ownsRow b2 152 5 (.slice A2 (cs.filter (keep rs)).length c2) (cs.filter (keep rs)).length ((cs.filter (keep rs)).flatMap schC) ∧
    cs.length = C.length ∧ (∀ (i : Nat) (hi : i < cs.length) (hj : i < C.length), SchOk x rs C[i] cs[i]) ∧ (∀ c, c ∈ cs → Cells w' b2 c.A (i64s c.l)) ∧ Below w.heap.size w w'
theorem DemsAt.wide {w : World} {B B' : Nat} {A : Option Addr} {n : Nat} {ds : List Dm} (h : DemsAt w B A n ds) (hB : B ≤ B') : DemsAt w B' A n ds :=
  ⟨h.len, h.max, h.cells.mono hB, fun d hd => ⟨(h.each d hd).len, (h.each d hd).max, (h.each d hd).cells.mono hB⟩, h.name⟩
set_option maxRecDepth 20000 in
set_option maxHeartbeats 8000000 in
theorem sups_any (x : Dt) (C : List (List Int)) (n : Nat) (ds : List Dm) (k : Nat) (d : Dm) (B : Nat) (w : World) (hB : B ≤ w.heap.size) (hA : DtAt w B x) (hD : DemsAt w B x.dA x.dn ds) (hk : ds[k]? = some d) (hrt : S.demRight d = true) (hl : S.laid (bars x.bs) x.rs = true) (hn : n ≤ 2000) (hC : C.length ≤ 2000)
    (hCI : ∀ l, l ∈ C → 0 < l.length ∧ l.length ≤ 2001 ∧ ∀ i, i ∈ l → 0 ≤ i ∧ i < (n : Int))
    (hCH : ∀ W, Below w.heap.size w W → Calls Tryz.prog 93 #[dtV x] W (GivesSup x C n W)) :
    Calls Tryz.prog 83 #[dtV x, .int .i64 k] w (GivesSups x C n (fun rs => S.sup rs d.zone) w) := by
  have HCH := Lib.hid hCH
  have HD := Lib.hid hD
  have HCI := Lib.hid hCI
  have hkx : k < ds.length := (List.getElem?_eq_some_iff.1 hk).1
  have hkd : (k : Int) < x.dn := by have := hD.len; omega
  clear hCH hD hCI
  unfold dtV at HCH
  unfold dtV
  have hDB := (Blk.new w 34 #[.string x.m.name, .slice x.mA x.mn x.mc, .slice x.hA x.hn x.hc, .int .i64 x.m.cover, .int .i64 x.m.aggr, .int .i64 x.m.poker, .slice x.bA x.bn x.bc, .slice x.rA x.rn x.rc, .slice x.jA x.jn x.jc, .slice x.dA x.dn x.dc, .int .i64 x.rule.num, .int .i64 x.rule.den, .int .i64 x.rule.pnum, .int .i64 x.rule.pden, .int .i64 x.rule.bnum, .int .i64 x.rule.bden, .int .i64 x.rule.lnum, .int .i64 x.rule.lden, .int .i64 x.rule.least]).alloc (.cells #[.int .i64 k] 3)
  have hKB := Blk.new (w.alloc (.cells #[.string x.m.name, .slice x.mA x.mn x.mc, .slice x.hA x.hn x.hc, .int .i64 x.m.cover, .int .i64 x.m.aggr, .int .i64 x.m.poker, .slice x.bA x.bn x.bc, .slice x.rA x.rn x.rc, .slice x.jA x.jn x.jc, .slice x.dA x.dn x.dc, .int .i64 x.rule.num, .int .i64 x.rule.den, .int .i64 x.rule.pnum, .int .i64 x.rule.pden, .int .i64 x.rule.bnum, .int .i64 x.rule.bden, .int .i64 x.rule.lnum, .int .i64 x.rule.lden, .int .i64 x.rule.least] 34)) 3 #[.int .i64 k]
  have hW1 : Below w.heap.size w ((w.alloc (.cells #[.string x.m.name, .slice x.mA x.mn x.mc, .slice x.hA x.hn x.hc, .int .i64 x.m.cover, .int .i64 x.m.aggr, .int .i64 x.m.poker, .slice x.bA x.bn x.bc, .slice x.rA x.rn x.rc, .slice x.jA x.jn x.jc, .slice x.dA x.dn x.dc, .int .i64 x.rule.num, .int .i64 x.rule.den, .int .i64 x.rule.pnum, .int .i64 x.rule.pden, .int .i64 x.rule.bnum, .int .i64 x.rule.bden, .int .i64 x.rule.lnum, .int .i64 x.rule.lden, .int .i64 x.rule.least] 34)).alloc (.cells #[.int .i64 k] 3)) := ba_alloc (ba_alloc (Below.refl _ _) _) _
  go_enter Tryz.func83, Tryz.ntmps83
  go_upto_region 1 with fail
  rw [show (w.alloc (.cells #[.string x.m.name, .slice x.mA x.mn x.mc, .slice x.hA x.hn x.hc, .int .i64 x.m.cover, .int .i64 x.m.aggr, .int .i64 x.m.poker, .slice x.bA x.bn x.bc, .slice x.rA x.rn x.rc, .slice x.jA x.jn x.jc, .slice x.dA x.dn x.dc, .int .i64 x.rule.num, .int .i64 x.rule.den, .int .i64 x.rule.pnum, .int .i64 x.rule.pden, .int .i64 x.rule.bnum, .int .i64 x.rule.bden, .int .i64 x.rule.lnum, .int .i64 x.rule.lden, .int .i64 x.rule.least] 34)).heap.size = w.heap.size + 1 by simp] at hKB
  generalize ((w.alloc (.cells #[.string x.m.name, .slice x.mA x.mn x.mc, .slice x.hA x.hn x.hc, .int .i64 x.m.cover, .int .i64 x.m.aggr, .int .i64 x.m.poker, .slice x.bA x.bn x.bc, .slice x.rA x.rn x.rc, .slice x.jA x.jn x.jc, .slice x.dA x.dn x.dc, .int .i64 x.rule.num, .int .i64 x.rule.den, .int .i64 x.rule.pnum, .int .i64 x.rule.pden, .int .i64 x.rule.bnum, .int .i64 x.rule.bden, .int .i64 x.rule.lnum, .int .i64 x.rule.lden, .int .i64 x.rule.least] 34)).alloc (.cells #[.int .i64 k] 3)) = W1 at *
  have HDB := Lib.hid hDB
  have HKB := Lib.hid hKB
  clear hDB hKB
  go_upto_region 2 with (first
    | ((with_reducible refine at_load 34 2 ?_); refine wpList_load_mid rfl 34 (.tmp 2) rfl _ _ rfl _ _ (HDB.out.via (by repeat (with_reducible first | exact Below.refl _ _ | assumption | refine ba_alloc ?_ _ | refine ba_drew ?_ | refine ba_drewN ?_ _ | refine ba_via (by assumption) ?_ | (refine ba_set ?_ ?_ _; rotate_left; (first | omega | (simp; omega) | simp))))).range Tryz.underlying34 rfl (by kernel_rfl) ?_)
    | (go_at_call 93; (with_reducible refine (HCH.out _ (by repeat (with_reducible first | exact Below.refl _ _ | assumption | refine ba_alloc ?_ _ | refine ba_drew ?_ | refine ba_drewN ?_ _ | refine ba_via (by assumption) ?_ | (refine ba_set ?_ ?_ _; rotate_left; (first | omega | (simp; omega) | simp))))).mono ?_); rintro e w2 ⟨A1, c1, rs, A2, c2, cs, rfl, hrl, hok, hRA, hOW, hcl, hsch, hcc, hbw2⟩; have HRL := Lib.hid hrl; have HOK := Lib.hid hok; have HRA := Lib.hid hRA; have HOW := Lib.hid hOW; have HCL := Lib.hid hcl; have HSC := Lib.hid hsch; have HCC := Lib.hid hcc; clear hrl hok hRA hOW hcl hsch hcc))
  have hL2 := Blk.new w2 145 #[.slice A1 rs.length c1]
  have hb2 : Below w2.heap.size w2 (w2.alloc (.cells #[.slice A1 rs.length c1] 145)) := ba_alloc (Below.refl _ _) _
  have hs12 := hbw2.size
  have hsw1 := hW1.size
  have hwl : w.heap.size < W1.heap.size := HDB.out.lt
  have hwl1 : w.heap.size + 1 < W1.heap.size := HKB.out.lt
  have hw2 : Below w.heap.size w w2 := ba_via hbw2 hW1
  have HD3 := Lib.hid ((HDB.out.via hbw2).via hb2)
  have HK3 := Lib.hid ((HKB.out.via hbw2).via hb2)
  have HR3 := Lib.hid (HRA.out.kept hb2)
  have HO3 := Lib.hid (own_kept HOW.out (fun k hk => hb2.block k (HOW.out.lt k hk).2))
  have HC3 := Lib.hid (fun (c : SCh) (hc : c ∈ cs) => ((HCC.out c hc).below hb2).mono hb2.size)
  have hw3 : Below w.heap.size w (w2.alloc (.cells #[.slice A1 rs.length c1] 145)) := hw2.trans (hb2.mono hw2.size)
  have h23 : w2.heap.size < (w2.alloc (.cells #[.slice A1 rs.length c1] 145)).heap.size := by simp
  generalize (w2.alloc (.cells #[.slice A1 rs.length c1] 145)) = W3 at *
  generalize w2.heap.size = g7 at *
  clear HDB HKB HRA HOW HCC hbw2 hb2 hW1 HCH hw2
  obtain ⟨nc, hnc⟩ : ∃ nc, nc = cs.length := ⟨_, rfl⟩
  have HNC := Lib.hid hnc
  have hnc2 : nc ≤ 2000 := by rw [hnc, HCL.out]; exact hC
  rw [← hnc]
  clear hnc
  have d9 := HD3.out.cell 9
  have k0 := HK3.out.cell 0
  have dl := HD3.out.lt
  have kl := HK3.out.lt
  simp only [List.getElem?_toArray, List.getElem?_cons_zero, List.getElem?_cons_succ] at d9 k0
  have hk0 : ¬ ((k : Int) < 0) := by omega
  have hk1 : ¬ ((x.dn : Int) ≤ k) := by omega
  have HL3 := Lib.hid hL2
  clear hL2
  go_wp2
  go_loopw [10, 36] (fun v i wr => ∃ q : Nat, q ≤ nc ∧ i = .int .i64 q ∧ wr.ownsRow W3.heap.size 152 5 v ((cs.take q).filter (S.sup rs d.zone)).length (((cs.take q).filter (S.sup rs d.zone)).flatMap schC) ∧ Below W3.heap.size W3 wr) (fun _ i _ => nc - (intOf i).toNat)
  case atStart => exact ⟨0, Nat.zero_le _, rfl, World.ownsRow_nil _ _ _ _, Below.refl _ _⟩
  case round =>
    obtain ⟨q, hq, rfl, hO, hbr⟩ := hrel
    have HO := Lib.hid hO
    clear hO d9 k0
    by_cases hlt : q < nc
    · have hqx : q < cs.length := by have := HNC.out; omega
      have hqi : (q : Int) < nc := by omega
      have hCS := (own_cells HO3.out (by have := HNC.out; unfold maxLen; omega)).1.below hbr
      obtain ⟨b2, o2, hA2, hbb2, hxx⟩ := hCS.at_ (by rw [flat_len schC 5 schC_len]; omega)
      clear hxx
      subst hA2
      have c0 := hCS.row0 schC_len hqx rfl
      have c1' := hCS.rowj schC_len hqx 1 rfl
      have c2' := hCS.rowj schC_len hqx 2 rfl
      have c3' := hCS.rowj schC_len hqx 3 rfl
      have c4' := hCS.rowj schC_len hqx 4 rfl
      have hsr := hbr.size
      have hb2l : b2 < wr.heap.size := by omega
      have HCM := Lib.hid (show cs[q] ∈ cs from List.getElem_mem hqx)
      have HFN := Lib.hid (filter_next (S.sup rs d.zone) hqx)
      have hqC : q < C.length := by rw [← HCL.out]; exact hqx
      have hce := HCI.out C[q] (List.getElem_mem hqC)
      rw [← (HSC.out q hqx hqC).bars] at hce
      clear hCS
      generalize cs[q] = c at *
      have HCE := Lib.hid hce.2.2
      have hll := hce.2.1
      have HSP := Lib.hid (show S.sup rs d.zone c = (c.is && !(anyb c.l (S.outI rs d.zone))) from rfl)
      have HCL3 := Lib.hid ((HC3.out c HCM.out).below hbr)
      clear hce
      go_upto_region 10 with fail
      have hC12 := Blk.new wr 152 #[.slice c.A c.l.length c.c, .int .i64 c.lo, .int .i64 c.hi, .bool c.is, .int .i64 c.area]
      have hb12 : Below wr.heap.size wr (wr.alloc (.cells #[.slice c.A c.l.length c.c, .int .i64 c.lo, .int .i64 c.hi, .bool c.is, .int .i64 c.area] 152)) := ba_alloc (Below.refl _ _) _
      generalize (wr.alloc (.cells #[.slice c.A c.l.length c.c, .int .i64 c.lo, .int .i64 c.hi, .bool c.is, .int .i64 c.area] 152)) = W12 at *
      clear c0 c1' c2' c3' c4'
      have h12s := hb12.size
      have h312 : Below W3.heap.size W3 W12 := hbr.trans (hb12.mono hsr)
      have hw12 : Below w.heap.size w W12 := hw3.trans (h312.mono hw3.size)
      have HD12 := Lib.hid (HD3.out.via h312)
      have HK12 := Lib.hid (HK3.out.via h312)
      have HL12 := Lib.hid (HL3.out.via h312)
      have HR12 := Lib.hid (HR3.out.kept h312)
      have HRC := Lib.hid (own_cells HR12.out.own (by have := HRL.out; unfold maxLen; omega)).1
      have HDE := Lib.hid (DemsAt.wide (HD.out.at_ hB hw12) (size_via hB hw12))
      have h312s := h312.size
      have HCF := Lib.hid (fun (W : World) (hw : Below W12.heap.size W12 W) => containsfM_any 140 #[] #[.pointer (some ⟨g7, 0, none⟩), .pointer (some ⟨w.heap.size, 0, none⟩), .pointer (some ⟨w.heap.size + 1, 0, none⟩)] (S.outI rs d.zone) c.A c.l.length c.c c.l W12.heap.size W rfl (by omega) hw.size
        (((HCL3.out.below (hb12.mono hsr)).mono h312s).below hw) Tryz.call140 (fun i hi W' hw' => by
          have hww := hw.trans (hw'.mono hw.size)
          obtain ⟨hi0, hi1⟩ := HCE.out i hi
          obtain ⟨m, rfl⟩ := Int.eq_ofNat_of_zero_le hi0
          have hir : m < rs.length := by have := HRL.out; omega
          have hO := HOK.out m hir
          have hF := rod_fit hO hl
          have he : S.outI rs d.zone (m : Int) = S.outside rs[m] d.zone := by unfold S.outI; rw [Int.toNat_natCast, List.getElem?_eq_getElem hir]
          rw [he]
          exact outside_any rs ds m k rs[m] d g7 w.heap.size (w.heap.size + 1) A1 rs.length c1 x.dA x.dn x.dc W12.heap.size W' hww.size rfl (List.getElem?_eq_getElem hir) hk ((HL12.out.via hww).cell 0) ((HD12.out.via hww).cell 9) ((HK12.out.via hww).cell 0) (HL12.out.via hww).lt (HD12.out.via hww).lt (HK12.out.via hww).lt
            (HRC.out.below hww) (HDE.out.below hww) ((HR12.out.each _ (List.getElem_mem hir)).cells.below hww) hrt hF.main hF.legs))
      have t0 := hC12.cell 0
      have tl := hC12.lt
      simp only [List.getElem?_toArray, List.getElem?_cons_zero, List.getElem?_cons_succ] at t0
      have HC12 := Lib.hid hC12
      clear hC12
      generalize anyb c.l (S.outI rs d.zone) = ab at *
      go_upto_region 11 with (go_at_call 139; (with_reducible refine (HCF.out _ (by repeat (with_reducible first | exact Below.refl _ _ | assumption | refine ba_alloc ?_ _ | refine ba_drew ?_ | refine ba_drewN ?_ _ | refine ba_via (by assumption) ?_ | (refine ba_set ?_ ?_ _; rotate_left; (first | omega | (simp; omega) | simp))))).mono ?_); rintro e w5 ⟨rfl, hbw5⟩)
      have hC5 := HC12.out.via hbw5
      have hb5 : Below wr.heap.size wr w5 := ba_via hbw5 hb12
      have HO5 := Lib.hid (own_kept HO.out (fun k hk => hb5.block k (HO.out.lt k hk).2))
      have h5s := hb5.size
      have hb35 : Below W3.heap.size W3 w5 := hbr.trans (hb5.mono hsr)
      have s0 := hC5.cell 0
      have s1 := hC5.cell 1
      have s2 := hC5.cell 2
      have s3 := hC5.cell 3
      have s4 := hC5.cell 4
      have sl := hC5.lt
      simp only [List.getElem?_toArray, List.getElem?_cons_zero, List.getElem?_cons_succ] at s0 s1 s2 s3 s4
      clear HCF hbw5 hb12 t0 tl hC5 HC12 HR12 HRC HDE HD12 HK12 HL12 HCL3 hw12 h312 hb5
      have HB35 := Lib.hid hb35
      cases his : c.is
      · rw [his] at s3 HSP
        have HFE := Lib.hid (show (cs.take (q + 1)).filter (S.sup rs d.zone) = (cs.take q).filter (S.sup rs d.zone) by rw [HFN.out, HSP.out]; simp)
        go_wp2
        go_roundw
        case rel => exact ⟨q + 1, by omega, by go_num, by rw [HFE.out]; exact HO5.out, HB35.out⟩
        case measure => simp [intOf]; omega
      · rw [his] at s3 HSP
        cases ab
        · have HFE := Lib.hid (show (cs.take (q + 1)).filter (S.sup rs d.zone) = (cs.take q).filter (S.sup rs d.zone) ++ [c] by rw [HFN.out, HSP.out]; simp)
          have hfl := List.length_filter_le (S.sup rs d.zone) (cs.take q)
          rw [List.length_take] at hfl
          have hfl2 : ((cs.take q).filter (S.sup rs d.zone)).length ≤ 2000 := by omega
          clear hfl
          have hbE1 : W3.heap.size ≤ w5.heap.size := by omega
          go_wp2_with (at_builtin; refine wpList_push rfl (.tmp 50) (.tmp 52) _ rfl elemSch ((show Row w5 w5 u10.ownBlock W3.heap.size 152 5 u10 ((cs.take q).filter (S.sup rs d.zone)).length (((cs.take q).filter (S.sup rs d.zone)).flatMap schC) from ⟨HO5.out, fun k hk => .inl hk.symm⟩).alloc _) ((Exc.refl u10.ownBlock.toList w5).alloc _) (by intro k hk; simp [hk]) hbE1 rfl w5.heap.size 1 1 [.slice c.A c.l.length c.c, .int .i64 c.lo, .int .i64 c.hi, .bool true, .int .i64 c.area] rfl rfl ?_ (by simp [Value.oneCell']) (by unfold maxLen; omega) (by omega) ?_; (· intro j u hu; have := (Cells.newRow w5 #[.slice c.A c.l.length c.c, .int .i64 c.lo, .int .i64 c.hi, .bool true, .int .i64 c.area] 152 (0, 0)).get (k := j) (v := u) hu; simpa using this); intro v2 wE hRE hXE hOE)
          have hown := hRE.own
          rw [show ([.slice c.A c.l.length c.c, .int .i64 c.lo, .int .i64 c.hi, .bool true, .int .i64 c.area] : List Value) = schC c from by rw [← his]] at hown
          have hbE : Below W3.heap.size W3 wE := HB35.out.trans (hXE.below (by omega) (fun g hg => (HO5.out.lt g (by simpa using hg)).1))
          go_roundw
          case rel => exact ⟨q + 1, by omega, by go_num, by rw [HFE.out]; simpa using hown, hbE⟩
          case measure => simp [intOf]; omega
        · have HFE := Lib.hid (show (cs.take (q + 1)).filter (S.sup rs d.zone) = (cs.take q).filter (S.sup rs d.zone) by rw [HFN.out, HSP.out]; simp)
          go_wp2
          go_roundw
          case rel => exact ⟨q + 1, by omega, by go_num, by rw [HFE.out]; exact HO5.out, HB35.out⟩
          case measure => simp [intOf]; omega
    · have hqn : q = nc := by omega
      have HFE := Lib.hid (show (cs.take q).filter (S.sup rs d.zone) = cs.filter (S.sup rs d.zone) by rw [List.take_of_length_le (by have := HNC.out; omega)])
      have hO := HO.out
      rw [HFE.out] at hO
      have hfl := List.length_filter_le (S.sup rs d.zone) cs
      obtain ⟨A5, c5, rfl, _, _, _⟩ := own_form hO (by have := HNC.out; unfold maxLen; omega)
      have hL := HL3.out.via hbr
      have l0 := hL.cell 0
      have ll := hL.lt
      simp only [List.getElem?_toArray, List.getElem?_cons_zero, List.getElem?_cons_succ] at l0
      have HO9 := Lib.hid hO
      have hqi : ¬ ((q : Int) < nc) := by omega
      clear hO hL hqn hfl
      go_wp2
      go_returns
      have hRc := (own_cells HR3.out.own (by have := HRL.out; unfold maxLen; omega)).1
      exact ⟨A1, c1, rs, A5, c5, cs, W3.heap.size, rfl, HRL.out, HOK.out, hw3.size, hbr.size, hRc.below hbr, fun r hr => (HR3.out.each r hr).cells.below hbr, HO9.out, HCL.out, HSC.out, fun c hc => (HC3.out c hc).below hbr, hw3.trans (hbr.mono hw3.size)⟩
end Go.Proofs.YtffkmgjmlahfpaaGreat
