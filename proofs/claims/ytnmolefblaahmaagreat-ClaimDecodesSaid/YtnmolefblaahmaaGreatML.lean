/- How the legs of a path turn, and how long they are together (no program in sight). Spans; contracts: lap.place, up, Stagger. Lists of bars in memory; contracts: slices.IndexFunc over bars, schedule.in -/
import Derived.Maps.OwnOps
import Derived.Maps.OwnSet
import Derived.Test.YtnmolefblaahmaaGreatMI
set_option linter.unusedVariables false
set_option linter.unusedSimpArgs false
namespace Go.Proofs.YtnmolefblaahmaaGreat
namespace S
def axis (way : Nat) : Int := if way = 120 then 1 else if way = 88 then 1 else if way = 121 then 2 else if way = 89 then 2 else if way = 122 then 3 else 0
end S
theorem dimsOf_codes {c : Int} (h : S.dimsOf c ≠ 0) : c = 0 ∨ c = 11 ∨ c = 21 ∨ c = 26 ∨ c = 31 ∨ c = 41 ∨ c = 51 ∨ c = 98 := by
 unfold S.dimsOf at h
 repeat' (split at h <;> try omega)
theorem lst1 {α : Type} {l : List α} (h : l.length = 1) : ∃ a, l = [a] := by match l, h with | [a], _ => exact ⟨a, rfl⟩
theorem lst2 {α : Type} {l : List α} (h : l.length = 2) : ∃ a b, l = [a, b] := by match l, h with | [a, b], _ => exact ⟨a, b, rfl⟩
theorem lst3 {α : Type} {l : List α} (h : l.length = 3) : ∃ a b c, l = [a, b, c] := by match l, h with | [a, b, c], _ => exact ⟨a, b, c, rfl⟩
theorem lst5 {α : Type} {l : List α} (h : l.length = 5) : ∃ a b c d e, l = [a, b, c, d, e] := by match l, h with | [a, b, c, d, e], _ => exact ⟨a, b, c, d, e, rfl⟩
theorem bar_codes {b : Bar} (h : S.bar b = true) :
 (b.code = 0 ∧ ∃ a, b.dims = [a] ∧ 1 ≤ a ∧ a ≤ 262144) ∨ (b.code = 11 ∧ ∃ a c, b.dims = [a, c] ∧ 1 ≤ a ∧ 1 ≤ c ∧ a + c ≤ 262144) ∨
 ((b.code = 21 ∨ b.code = 26 ∨ b.code = 31 ∨ b.code = 51 ∨ b.code = 98) ∧ ∃ a c d, b.dims = [a, c, d] ∧ 1 ≤ a ∧ 1 ≤ c ∧ 1 ≤ d ∧ a + c + d ≤ 262144) ∨
 (b.code = 41 ∧ ∃ a c d e f, b.dims = [a, c, d, e, f] ∧ 1 ≤ a ∧ 1 ≤ c ∧ 1 ≤ d ∧ 1 ≤ e ∧ 1 ≤ f ∧ a + c + d + e + f ≤ 262144) := by
 have hl := bar_head h
 have h0 : S.dimsOf b.code ≠ 0 := by
  intro h1
  simp [S.bar, S.barHead, h1] at h
 have hd : S.dimsOk b.dims = true := by simp only [S.bar, Bool.and_eq_true] at h; exact h.2
 obtain ⟨h1, h2⟩ := dimsOk_iff.1 hd
 rcases dimsOf_codes h0 with c | c | c | c | c | c | c | c
 ·rw [c, show S.dimsOf 0 = 1 from rfl] at hl
  obtain ⟨a, e⟩ := lst1 (show b.dims.length = 1 by omega)
  rw [e] at h1 h2
  have := h1 a (by simp)
  simp [S.sum] at h2
  exact .inl ⟨c, a, e, by omega, by omega⟩
 ·rw [c, show S.dimsOf 11 = 2 from rfl] at hl
  obtain ⟨a, a2, e⟩ := lst2 (show b.dims.length = 2 by omega)
  rw [e] at h1 h2
  have g1 := h1 a (by simp)
  have g2 := h1 a2 (by simp)
  simp [S.sum] at h2
  exact .inr (.inl ⟨c, a, a2, e, by omega, by omega, by omega⟩)
 case' inr.inr.inr.inr.inr.inl =>
  rw [c, show S.dimsOf 41 = 5 from rfl] at hl
  obtain ⟨a, a2, a3, a4, a5, e⟩ := lst5 (show b.dims.length = 5 by omega)
  rw [e] at h1 h2
  have g1 := h1 a (by simp)
  have g2 := h1 a2 (by simp)
  have g3 := h1 a3 (by simp)
  have g4 := h1 a4 (by simp)
  have g5 := h1 a5 (by simp)
  simp [S.sum] at h2
  exact .inr (.inr (.inr ⟨c, a, a2, a3, a4, a5, e, by omega, by omega, by omega, by omega, by omega, by omega⟩))
 all_goals
  have hl3 : S.dimsOf b.code = 3 := by rw [c]; rfl
  obtain ⟨a, a2, a3, e⟩ := lst3 (show b.dims.length = 3 by omega)
  rw [e] at h1 h2
  have g1 := h1 a (by simp)
  have g2 := h1 a2 (by simp)
  have g3 := h1 a3 (by simp)
  simp [S.sum] at h2
  exact .inr (.inr (.inl ⟨by omega, a, a2, a3, e, by omega, by omega, by omega, by omega⟩))
theorem legs_sum {b : Bar} (h : S.bar b = true) : S.sum (S.legLens b) ≤ 524288 ∧ 1 ≤ (S.legsOf b.code).length := by
 rcases bar_codes h with ⟨c, a, e, h1, h2⟩ | ⟨c, a, a2, e, h1, h2, h3⟩ | ⟨c, a, a2, a3, e, h1, h2, h3, h4⟩ | ⟨c, a, a2, a3, a4, a5, e, h1, h2, h3, h4, h5, h6⟩
 ·simp [S.legLens, c, e, S.legsOf, S.sum]; omega
 ·simp [S.legLens, c, e, S.legsOf, S.sum]; omega
 ·rcases c with c | c | c | c | c <;> (simp [S.legLens, c, e, S.legsOf, S.sum]; omega)
 ·simp [S.legLens, c, e, S.legsOf, S.sum]; omega
theorem lens_pos {b : Bar} (h : S.bar b = true) : ∀ x, x ∈ S.legLens b → 1 ≤ x := by
 intro x hx
 have hd : S.dimsOk b.dims = true := by simp only [S.bar, Bool.and_eq_true] at h; exact h.2
 have hl := bar_head h
 simp only [S.legLens, List.mem_map] at hx
 obtain ⟨l, hm, rfl⟩ := hx
 obtain ⟨j, hj, rfl⟩ := List.mem_iff_getElem.1 hm
 have h1 := legs_dim b.code hj
 have h2 : (S.legsOf b.code)[j].1 < b.dims.length := by omega
 rw [List.getD_eq_getElem?_getD, List.getElem?_eq_getElem h2]
 exact (dim_bd hd h2).1
end Go.Proofs.YtnmolefblaahmaaGreat
namespace Go.Proofs.YtnmolefblaahmaaGreat
open Go.RowKit
structure Sp where
 lo : Int
 hi : Int
namespace S
def place (n : Int) : Bool := decide (-1048576 ≤ n) && decide (n ≤ 1048576)
def wide (a b : Sp) : Int := if a.hi - a.lo < b.hi - b.lo then b.hi - b.lo else a.hi - a.lo
end S
structure BarR where
 b : Bar
 A : Option Addr
 n : Nat
 c : Nat
abbrev barC (r : BarR) : List Value := [.string r.b.mark, .int .i64 r.b.size, .int .i64 r.b.count, .int .i64 r.b.code, .slice r.A r.n r.c]
theorem barC_len (r : BarR) : (barC r).length = 5 := rfl
abbrev bars (l : List BarR) : List Bar := l.map BarR.b
structure BarsAt (w : World) (B : Nat) (A : Option Addr) (n : Nat) (l : List BarR) : Prop where
 len : l.length = n
 max : n ≤ 9223372036854775807
 cells : Cells w B A (l.flatMap barC)
 each : ∀ r, r ∈ l → BarAt w B r.A r.n r.b
theorem BarsAt.below {w w' : World} {B : Nat} {A : Option Addr} {n : Nat} {l : List BarR} (h : BarsAt w B A n l) (hb : Below B w w') : BarsAt w' B A n l := ⟨h.len, h.max, h.cells.below hb, fun r hr => (h.each r hr).below hb⟩
theorem BarsAt.at_ {w w' : World} {B : Nat} {A : Option Addr} {n : Nat} {l : List BarR} (h : BarsAt w B A n l) (hB : B ≤ w.heap.size) (hb : Below w.heap.size w w') : BarsAt w' B A n l := h.below (hb.mono hB)
def AsksR (w : World) (F : Nat) (fst cap : Array Value) (p : BarR → Bool) : Prop :=
 ∀ (x : BarR) (w' : World), Below w.heap.size w w' → Calls Tryz.prog F (fst.push (barV x.b x.A x.n x.c) ++ cap) w' fun e w'' => e = .returned (.bool (p x)) ∧ Below w'.heap.size w' w''
theorem indexfR_any (F : Nat) (fst cap : Array Value) (p : BarR → Bool) (A : Option Addr) (n c : Nat) (xs : List BarR) (B : Nat) (w : World) (hn : xs.length = n) (hm : n ≤ 9223372036854775807) (hB : B ≤ w.heap.size)
 (hs : Cells w B A (xs.flatMap barC)) (hF : ∀ args w, Sem.run Tryz.prog (callFunc F args) w = .ok (.enter F args) w) (hf : AsksR w F fst cap p) :
 Calls Tryz.prog 202 #[.slice A n c, .func (.func F) fst cap] w fun e w' => e = .returned (.int .i64 (idxf xs p)) ∧ Below w.heap.size w w' := by
 have HN := Lib.hid hn
 clear hn
 go_enter Tryz.func202, Tryz.ntmps202
 go_wp2
 go_loopw [8] (fun i wr => ∃ k : Nat, k ≤ n ∧ i = .int .i64 k ∧ (∀ j (h : j < xs.length), j < k → p xs[j] = false) ∧ Below w.heap.size w wr) (fun i _ => n - (intOf i).toNat)
 case atStart => exact ⟨0, Nat.zero_le _, rfl, fun j _ hj => absurd hj (by omega), Below.refl _ _⟩
 case round =>
  obtain ⟨k, hk, rfl, hno, hbr⟩ := hrel
  have HNO := Lib.hid hno
  clear hno
  by_cases hlt : k < n
  ·have hkx : k < xs.length := by have := HN.out; omega
   have hs' := hs.below (hbr.mono hB)
   obtain ⟨b, o, rfl, _, _⟩ := hs'.at_ (by rw [flat_len barC 5 barC_len]; omega)
   have c0 := hs'.row0 barC_len hkx rfl
   have c1 := hs'.rowj barC_len hkx 1 rfl
   have c2 := hs'.rowj barC_len hkx 2 rfl
   have c3 := hs'.rowj barC_len hkx 3 rfl
   have c4 := hs'.rowj barC_len hkx 4 rfl
   by_cases hx : p xs[k] = true
   ·go_wp2_with (refine (hf _ _ hbr).mono ?_; rintro e w1 ⟨rfl, hb1⟩)
    go_ret
    exact ⟨ret_i (idxf_hit hkx hx HNO.out).symm, hbr.trans (hb1.mono hbr.size)⟩
   ·have hx' : p xs[k] = false := by simpa using hx
    clear hx
    go_wp2_with (refine (hf _ _ hbr).mono ?_; rintro e w1 ⟨rfl, hb1⟩)
    go_roundw
    case rel =>
     refine ⟨k + 1, by omega, by go_num, fun j hj hjk => ?_, hbr.trans (hb1.mono hbr.size)⟩
     by_cases hjk' : j = k
     ·subst hjk'; exact hx'
     ·exact HNO.out j hj (by omega)
    case measure => simp [intOf]; omega
  ·go_wp2
   go_ret
   exact ⟨ret_i (idxf_miss (fun j hj => HNO.out j hj (by have := HN.out; omega))).symm, hbr⟩
def S.isMark (m : ByteArray) (b : Bar) : Bool := b.mark.toList == m.toList
def S.index (l : List Bar) (m : ByteArray) : Int := idxf l (S.isMark m)
theorem idxf_map {α β : Type} (f : α → β) (p : β → Bool) (l : List α) : idxf (l.map f) p = idxf l (fun x => p (f x)) := by
 unfold idxf
 rw [List.findIdx?_map]
 rfl
theorem smark_any (m : ByteArray) (r : BarR) (g : Nat) (w : World) (hc : w.cell? ⟨g, 0, none⟩ = some (.string m)) (hg : g < w.heap.size) :
 Calls Tryz.prog 203 #[barV r.b r.A r.n r.c, .pointer (some ⟨g, 0, none⟩)] w fun e w' => e = .returned (.bool (S.isMark m r.b)) ∧ Below w.heap.size w w' := by
 unfold barV
 go_enter Tryz.func203, Tryz.ntmps203
 go_wp2
 go_ret
 exact ⟨rfl, bel⟩
theorem lmark_any (m : ByteArray) (r : BarR) (g : Nat) (w : World) (hc : w.cell? ⟨g, 0, none⟩ = some (.string m)) (hg : g < w.heap.size) :
 Calls Tryz.prog 204 #[barV r.b r.A r.n r.c, .pointer (some ⟨g, 0, none⟩)] w fun e w' => e = .returned (.bool (S.isMark m r.b)) ∧ Below w.heap.size w w' := by
 unfold barV
 go_enter Tryz.func204, Tryz.ntmps204
 go_wp2
 go_ret
 exact ⟨rfl, bel⟩
theorem sindex_any (l : List BarR) (m : ByteArray) (A : Option Addr) (n c : Nat) (B : Nat) (w : World) (hB : B ≤ w.heap.size) (hA : BarsAt w B A n l) :
 Calls Tryz.prog 137 #[.slice A n c, .string m] w fun e w' => e = .returned (.int .i64 (S.index (bars l) m)) ∧ Below w.heap.size w w' := by
 have HA := Lib.hid hA
 have HI := Lib.hid (show S.index (bars l) m = idxf l (fun x => S.isMark m x.b) from idxf_map _ _ _)
 have hf : AsksR (w.alloc (.cells #[.string m] 9)) 203 #[] #[.pointer (some ⟨w.heap.size, 0, none⟩)] (fun x => S.isMark m x.b) := fun x w' hb => smark_any m x w.heap.size w' ((hb.cell (p := ⟨w.heap.size, 0, none⟩) (by simp)).trans (by simp)) (Nat.lt_of_lt_of_le (by simp) hb.size)
 have HF := Lib.hid Tryz.call203
 have HX := Lib.hid (indexfR_any 203 #[] #[.pointer (some ⟨w.heap.size, 0, none⟩)] (fun x => S.isMark m x.b) A n c l B (w.alloc (.cells #[.string m] 9)) HA.out.len HA.out.max (by simp; omega) (HA.out.cells.alloc hB _) HF.out hf)
 clear hA hf
 go_enter Tryz.func137, Tryz.ntmps137
 go_wp2_with (go_at_call 202; (with_reducible refine (HX.out).mono ?_); rintro e w1 ⟨rfl, hbw1⟩; obtain ⟨hcw1, hfw1⟩ := bcell hbw1)
 go_ret
 exact ⟨ret_i HI.out.symm, bel⟩
theorem lfind_any (l : List BarR) (m : ByteArray) (A : Option Addr) (n c : Nat) (B : Nat) (w : World) (hB : B ≤ w.heap.size) (hA : BarsAt w B A n l) :
 Calls Tryz.prog 138 #[.slice A n c, .string m] w fun e w' => e = .returned (.int .i64 (S.index (bars l) m)) ∧ Below w.heap.size w w' := by
 have HA := Lib.hid hA
 have HI := Lib.hid (show S.index (bars l) m = idxf l (fun x => S.isMark m x.b) from idxf_map _ _ _)
 have hf : AsksR (w.alloc (.cells #[.string m] 9)) 204 #[] #[.pointer (some ⟨w.heap.size, 0, none⟩)] (fun x => S.isMark m x.b) := fun x w' hb => lmark_any m x w.heap.size w' ((hb.cell (p := ⟨w.heap.size, 0, none⟩) (by simp)).trans (by simp)) (Nat.lt_of_lt_of_le (by simp) hb.size)
 have HF := Lib.hid Tryz.call204
 have HX := Lib.hid (indexfR_any 204 #[] #[.pointer (some ⟨w.heap.size, 0, none⟩)] (fun x => S.isMark m x.b) A n c l B (w.alloc (.cells #[.string m] 9)) HA.out.len HA.out.max (by simp; omega) (HA.out.cells.alloc hB _) HF.out hf)
 clear hA hf
 go_enter Tryz.func138, Tryz.ntmps138
 go_wp2_with (go_at_call 202; (with_reducible refine (HX.out).mono ?_); rintro e w1 ⟨rfl, hbw1⟩; obtain ⟨hcw1, hfw1⟩ := bcell hbw1)
 go_ret
 exact ⟨ret_i HI.out.symm, bel⟩
def S.schedAt (l : List Bar) (i : Nat) : Bool := match l[i]? with | some b => S.bar b && decide (S.index l b.mark = (i : Int)) | none => true
def S.sched (l : List Bar) : Bool := decide (l.length ≤ 60) && (List.range l.length).all (S.schedAt l)
theorem sched_no {l : List Bar} {k : Nat} (hk : k < l.length) (h : S.schedAt l k = false) : S.sched l = false := by
 unfold S.sched
 rw [Bool.and_eq_false_iff]
 right
 rw [List.all_eq_false]
 exact ⟨k, by simpa using hk, by simp [h]⟩
theorem sched_yes {l : List Bar} (hl : l.length ≤ 60) (h : ∀ j, j < l.length → S.schedAt l j = true) : S.sched l = true := by
 unfold S.sched
 rw [Bool.and_eq_true, List.all_eq_true]
 exact ⟨by simpa using hl, fun x hx => h x (by simpa using hx)⟩
theorem schedAt_eq {l : List Bar} {k : Nat} {b : Bar} (hb : l[k]? = some b) : S.schedAt l k = (S.bar b && decide (S.index l b.mark = (k : Int))) := by
 unfold S.schedAt; rw [hb]
theorem sched_bar {l : List Bar} (h : S.sched l = true) {k : Nat} {b : Bar} (hb : l[k]? = some b) : S.bar b = true ∧ S.index l b.mark = (k : Int) := by
 simp only [S.sched, Bool.and_eq_true, List.all_eq_true] at h
 have := h.2 k (by simpa using (List.getElem?_eq_some_iff.1 hb).1)
 rw [schedAt_eq hb, Bool.and_eq_true, decide_eq_true_eq] at this
 exact this
theorem index_bd (l : List Bar) (m : ByteArray) : -1 ≤ S.index l m ∧ S.index l m < l.length := by
 unfold S.index idxf
 split
 ·rename_i k hk
  obtain ⟨h1, _⟩ := List.findIdx?_eq_some_iff_getElem.1 hk
  omega
 ·omega
set_option maxHeartbeats 1000000 in
theorem sched_any (l : List BarR) (A : Option Addr) (n c : Nat) (B : Nat) (w : World) (hB : B ≤ w.heap.size) (hA : BarsAt w B A n l) :
 Calls Tryz.prog 93 #[.slice A n c] w fun e w' => e = .returned (.bool (S.sched (bars l))) ∧ Below w.heap.size w w' := by
 have HA := Lib.hid hA
 have hL : (bars l).length = n := by simpa using hA.len
 have HL := Lib.hid hL
 clear hA
 by_cases h60 : 60 < n
 ·have HS := Lib.hid (show S.sched (bars l) = false from by unfold S.sched; rw [hL]; simp; omega)
  clear hL
  go_enter Tryz.func93, Tryz.ntmps93
  go_wp2
  go_ret
  exact ⟨ret_b HS.out.symm, bel⟩
 clear hL
 go_enter Tryz.func93, Tryz.ntmps93
 go_wp2
 go_loopw [10] (fun i wr => ∃ k : Nat, k ≤ n ∧ i = .int .i64 k ∧ (∀ j, j < k → S.schedAt (bars l) j = true) ∧ Below w.heap.size w wr) (fun i _ => n - (intOf i).toNat)
 case atStart => exact ⟨0, Nat.zero_le _, rfl, fun j hj => absurd hj (by omega), Below.refl _ _⟩
 case round =>
  obtain ⟨k, hk, rfl, hno, hbr⟩ := hrel
  have HNO := Lib.hid hno
  clear hno
  by_cases hlt : k < n
  ·have hkx : k < l.length := by have := HA.out.len; omega
   have hkb : k < (bars l).length := by have := HL.out; omega
   have hwr : B ≤ wr.heap.size := by have := hbr.size; omega
   have hA' := HA.out.at_ hB hbr
   have HA' := Lib.hid hA'
   have hs' := hA'.cells
   have HE := Lib.hid (hA'.each l[k] (List.getElem_mem hkx))
   obtain ⟨b, o, hAe, _, _⟩ := hs'.at_ (by rw [flat_len barC 5 barC_len]; omega)
   subst hAe
   have c0 := hs'.row0 barC_len hkx rfl
   have c1 := hs'.rowj barC_len hkx 1 rfl
   have c2 := hs'.rowj barC_len hkx 2 rfl
   have c3 := hs'.rowj barC_len hkx 3 rfl
   have c4 := hs'.rowj barC_len hkx 4 rfl
   have HAT := Lib.hid (schedAt_eq (l := bars l) (k := k) (b := l[k].b) (by simp [hkx]))
   have HNS := Lib.hid (fun h => sched_no (l := bars l) hkb h)
   have HIX := Lib.hid (fun (W : World) (hw : B ≤ W.heap.size) (hh : BarsAt W B (some ⟨b, o, none⟩) n l) => sindex_any l l[k].b.mark (some ⟨b, o, none⟩) n c B W hw hh)
   have HVX := Lib.hid (fun (W : World) (hw : B ≤ W.heap.size) (hh : BarAt W B l[k].A l[k].n l[k].b) => valid_any l[k].b l[k].A l[k].n l[k].c B W hw hh)
   have hb2 := index_bd (bars l) l[k].b.mark
   clear hA' hs'
   unfold barV at HVX
   generalize S.index (bars l) l[k].b.mark = j at *
   generalize S.bar l[k].b = t at *
   generalize l[k] = r at *
   cases t
   ·go_wp2_with (first
     | (go_at_call 136; (with_reducible refine (HVX.out _ (by simp; omega) (HE.out.below ((Below.refl B wr).alloc hwr _))).mono ?_); rintro e w1 ⟨rfl, hbw1⟩; obtain ⟨hcw1, hfw1⟩ := bcell hbw1; have hyw1_0 : wr.heap.size < w1.heap.size := lt_via hbw1 sz))
    go_ret
    exact ⟨ret_b (HNS.out (by rw [HAT.out]; simp)).symm, bel⟩
   ·by_cases hj : j = (k : Int)
    ·go_wp2_with (first
      | (go_at_call 136; (with_reducible refine (HVX.out _ (by simp; omega) (HE.out.below ((Below.refl B wr).alloc hwr _))).mono ?_); rintro e w1 ⟨rfl, hbw1⟩; obtain ⟨hcw1, hfw1⟩ := bcell hbw1; have hyw1_0 : wr.heap.size < w1.heap.size := lt_via hbw1 sz)
      | (go_at_call 137; (with_reducible refine (HIX.out _ (by omega) (HA'.out.below (((Below.refl B wr).alloc hwr _).trans (hbw1.mono (by simp; omega))))).mono ?_); rintro e w2 ⟨rfl, hbw2⟩; obtain ⟨hcw2, hfw2⟩ := bcell hbw2; have hyw2_0 : wr.heap.size < w2.heap.size := lt_via hbw2 sz))
     go_roundw
     case rel =>
      refine ⟨k + 1, by omega, by go_num, fun j' hj' => ?_, bel⟩
      by_cases hjk : j' = k
      ·subst hjk; rw [HAT.out]; simp [hj]
      ·exact HNO.out j' (by omega)
     case measure => simp [intOf]; omega
    ·go_wp2_with (first
      | (go_at_call 136; (with_reducible refine (HVX.out _ (by simp; omega) (HE.out.below ((Below.refl B wr).alloc hwr _))).mono ?_); rintro e w1 ⟨rfl, hbw1⟩; obtain ⟨hcw1, hfw1⟩ := bcell hbw1; have hyw1_0 : wr.heap.size < w1.heap.size := lt_via hbw1 sz)
      | (go_at_call 137; (with_reducible refine (HIX.out _ (by omega) (HA'.out.below (((Below.refl B wr).alloc hwr _).trans (hbw1.mono (by simp; omega))))).mono ?_); rintro e w2 ⟨rfl, hbw2⟩; obtain ⟨hcw2, hfw2⟩ := bcell hbw2; have hyw2_0 : wr.heap.size < w2.heap.size := lt_via hbw2 sz))
     go_ret
     exact ⟨ret_b (HNS.out (by rw [HAT.out]; simp [hj])).symm, bel⟩
  ·go_wp2
   go_ret
   exact ⟨ret_b (sched_yes (by have := HL.out; omega) (fun j hj => HNO.out j (by have := HL.out; omega))).symm, hbr⟩
def S.findErr (l : List Bar) (m : ByteArray) : Int := if S.sched l = false then 1 else if S.index l m < 0 then 9 else 0
def S.findIx (l : List Bar) (m : ByteArray) : Int := if S.findErr l m = 0 then S.index l m else 0
theorem sfind_any (l : List BarR) (m : ByteArray) (A : Option Addr) (n c : Nat) (B : Nat) (w : World) (hB : B ≤ w.heap.size) (hA : BarsAt w B A n l) :
 Calls Tryz.prog 163 #[.slice A n c, .string m] w fun e w' => e = .returned (.tuple #[.int .i64 (S.findIx (bars l) m), .int .i64 (S.findErr (bars l) m)]) ∧ Below w.heap.size w w' := by
 have HA := Lib.hid hA
 have HE := Lib.hid (show S.findErr (bars l) m = if S.sched (bars l) = false then 1 else if S.index (bars l) m < 0 then 9 else 0 from rfl)
 have HF := Lib.hid (show S.findIx (bars l) m = if S.findErr (bars l) m = 0 then S.index (bars l) m else 0 from rfl)
 have HV := Lib.hid (sched_any l A n c B w hB hA)
 have HI := Lib.hid (fun (W : World) (hw : B ≤ W.heap.size) (hh : BarsAt W B A n l) => sindex_any l m A n c B W hw hh)
 clear hA
 generalize S.sched (bars l) = t at *
 generalize S.index (bars l) m = j at *
 cases t
 ·go_enter Tryz.func163, Tryz.ntmps163
  go_wp2_with (first
   | (go_at_call 93; (with_reducible refine (HV.out).mono ?_); rintro e w1 ⟨rfl, hbw1⟩; obtain ⟨hcw1, hfw1⟩ := bcell hbw1))
  go_ret2
  exact ⟨by rw [HF.out, HE.out]; rfl, bel⟩
 ·by_cases hj : j < 0
  ·go_enter Tryz.func163, Tryz.ntmps163
   go_wp2_with (first
    | (go_at_call 93; (with_reducible refine (HV.out).mono ?_); rintro e w1 ⟨rfl, hbw1⟩; obtain ⟨hcw1, hfw1⟩ := bcell hbw1)
    | (go_at_call 137; (with_reducible refine (HI.out _ (by have := hbw1.size; omega) (HA.out.at_ hB hbw1)).mono ?_); rintro e w2 ⟨rfl, hbw2⟩; obtain ⟨hcw2, hfw2⟩ := bcell hbw2))
   go_ret2
   exact ⟨by rw [HF.out, HE.out]; simp [hj], bel⟩
  ·go_enter Tryz.func163, Tryz.ntmps163
   go_wp2_with (first
    | (go_at_call 93; (with_reducible refine (HV.out).mono ?_); rintro e w1 ⟨rfl, hbw1⟩; obtain ⟨hcw1, hfw1⟩ := bcell hbw1)
    | (go_at_call 137; (with_reducible refine (HI.out _ (by have := hbw1.size; omega) (HA.out.at_ hB hbw1)).mono ?_); rintro e w2 ⟨rfl, hbw2⟩; obtain ⟨hcw2, hfw2⟩ := bcell hbw2))
   go_ret2
   exact ⟨by rw [HF.out, HE.out]; simp [hj], bel⟩
open Go.Maps (Keyed int_keyed keyOf_int_mk)
def Wf64 (k : Int) : Prop := -9223372036854775808 ≤ k ∧ k ≤ 9223372036854775807
theorem Wf64.lit {k : Int} (h : Wf64 k) : (Lit.int .i64 k).wf = true := by
 have h1 := h.1
 have h2 := h.2
 simp [Lit.wf, IntKind.min, IntKind.max, IntKind.bits, IntKind.signed]
 omega
theorem keyInt : Keyed Tryz.prog 3 := int_keyed Tryz.underlying3
theorem keyLit {k : Int} (h : Wf64 k) : keyOf Tryz.prog 3 (.int .i64 k) = some (.int .i64 k) := keyOf_int_mk Tryz.underlying3 h.lit
theorem zeroBool (w : World) : (zeroValue 4).run Tryz.prog w = .ok (.bool false) w := by kernel_rfl
theorem plainElem_bool_inv {H : Type} {P : Program} {e : TypeId} (he : P.underlying e = some .bool) {v : Value} {z : DataW H × List MemPlace} (h : plainElem P e v = some z) : ∃ x, v = .bool x ∧ z = (.lit (.bool x), []) := by
 unfold plainElem at h
 rw [he] at h
 cases v <;> simp at h
 exact ⟨_, rfl, h.symm⟩
def SetAt (w : World) (b n : Nat) (p : Int → Bool) : Prop := ∃ D : DataW Unit, w.ownsMap Tryz.prog 3 (plainElem Tryz.prog 4) b n D ∧ ∀ k, D.atKey (.int .i64 k) (.lit (.bool false)) = .lit (.bool (p k))
theorem SetAt.new (w : World) : SetAt (w.alloc (.map #[] 0)) w.heap.size 0 (fun _ => false) := ⟨.map [], World.ownsMap_made w _ _ _, fun k => rfl⟩
theorem SetAt.lt {w : World} {b n : Nat} {p : Int → Bool} (h : SetAt w b n p) : b < w.heap.size := by obtain ⟨D, h1, _⟩ := h; exact h1.lt
theorem SetAt.kept {w w' : World} {b n : Nat} {p : Int → Bool} (h : SetAt w b n p) (hb : w'.heap[b]? = w.heap[b]?) : SetAt w' b n p := by
 obtain ⟨D, ⟨es, clock, h1, h2⟩, h3⟩ := h
 exact ⟨D, ⟨es, clock, hb.trans h1, h2⟩, h3⟩
theorem SetAt.alloc {w : World} {b n : Nat} {p : Int → Bool} (h : SetAt w b n p) (o : Obj) : SetAt (w.alloc o) b n p := h.kept (Below.heap_alloc w o b h.lt)
theorem SetAt.via {w w' : World} {b n : Nat} {p : Int → Bool} (h : SetAt w b n p) (hb : Below w.heap.size w w') : SetAt w' b n p := h.kept (hb.block b h.lt)
theorem SetAt.look {w : World} {b n : Nat} {p : Int → Bool} (h : SetAt w b n p) {k : Int} (hk : Wf64 k) : (Instr.lookup 180 (.map (some b)) (.int .i64 k) false).run Tryz.prog w = .ok (.bool (p k)) w := by
 obtain ⟨D, h1, h2⟩ := h
 obtain ⟨v, ps, hrun, hv⟩ := h1.lookup keyInt Tryz.underlying180 (zeroBool w) (plainElem_bool Tryz.underlying4 false) (keyLit hk)
 obtain ⟨x, rfl, hx⟩ := plainElem_bool_inv Tryz.underlying4 hv
 rw [h2 k] at hx
 simp only [Prod.mk.injEq, DataW.lit.injEq, Lit.bool.injEq] at hx
 rw [hrun, hx.1]
theorem SetAt.put {w : World} {b n : Nat} {p : Int → Bool} (h : SetAt w b n p) (hn : n < maxLen) {k : Int} (hk : Wf64 k) :
 ∃ w', (Instr.mapUpdate 180 (.map (some b)) (.int .i64 k) (.bool true)).run Tryz.prog w = .ok () w' ∧ SetAt w' b (n + 1) (fun j => j == k || p j) ∧ w.grownBy w' (some b) := by
 obtain ⟨D, h1, h2⟩ := h
 obtain ⟨w', hrun, hown, hg⟩ := h1.update keyInt Tryz.underlying180 hn (keyLit hk) (plainElem_bool Tryz.underlying4 true)
 refine ⟨w', hrun, ⟨_, hown, fun j => ?_⟩, hg⟩
 by_cases hj : j = k
 ·subst hj
  rw [Maps.atKey_put_same h1.isMap (by simp [WideAt.IsKeyLit])]
  simp
 ·rw [Maps.atKey_put_other (by simpa using hj), h2 j]
  simp [hj]
def NextAt (w : World) (b n : Nat) (f : Int → Option Int) : Prop := ∃ D : DataW Unit, w.ownsMap Tryz.prog 3 (plainElem Tryz.prog 3) b n D ∧ ∀ k, Maps.has D (.int .i64 k) = (f k).isSome ∧ D.atKey (.int .i64 k) (.lit (.int .i64 0)) = .lit (.int .i64 ((f k).getD 0))
theorem NextAt.new (w : World) : NextAt (w.alloc (.map #[] 0)) w.heap.size 0 (fun _ => none) := ⟨.map [], World.ownsMap_made w _ _ _, fun k => ⟨rfl, rfl⟩⟩
theorem NextAt.lt {w : World} {b n : Nat} {p : Int → Option Int} (h : NextAt w b n p) : b < w.heap.size := by obtain ⟨D, h1, _⟩ := h; exact h1.lt
theorem NextAt.kept {w w' : World} {b n : Nat} {p : Int → Option Int} (h : NextAt w b n p) (hb : w'.heap[b]? = w.heap[b]?) : NextAt w' b n p := by
 obtain ⟨D, ⟨es, clock, h1, h2⟩, h3⟩ := h
 exact ⟨D, ⟨es, clock, hb.trans h1, h2⟩, h3⟩
theorem NextAt.alloc {w : World} {b n : Nat} {p : Int → Option Int} (h : NextAt w b n p) (o : Obj) : NextAt (w.alloc o) b n p := h.kept (Below.heap_alloc w o b h.lt)
theorem NextAt.via {w w' : World} {b n : Nat} {p : Int → Option Int} (h : NextAt w b n p) (hb : Below w.heap.size w w') : NextAt w' b n p := h.kept (hb.block b h.lt)
theorem NextAt.put {w : World} {b n : Nat} {f : Int → Option Int} (h : NextAt w b n f) (hn : n < maxLen) {k v : Int} (hk : Wf64 k) (hv : Wf64 v) :
 ∃ w', (Instr.mapUpdate 308 (.map (some b)) (.int .i64 k) (.int .i64 v)).run Tryz.prog w = .ok () w' ∧ NextAt w' b (n + 1) (fun j => if j = k then some v else f j) ∧ w.grownBy w' (some b) := by
 obtain ⟨D, h1, h2⟩ := h
 obtain ⟨w', hrun, hown, hg⟩ := h1.update keyInt Tryz.underlying308 hn (keyLit hk) (plainElem_int Tryz.underlying3 hv.lit)
 refine ⟨w', hrun, ⟨_, hown, fun j => ?_⟩, hg⟩
 by_cases hj : j = k
 ·subst hj
  rw [Maps.atKey_put_same h1.isMap (by simp [WideAt.IsKeyLit]), Maps.has_put_same h1.isMap (by simp [WideAt.IsKeyLit])]
  simp
 ·rw [Maps.atKey_put_other (by simpa using hj), Maps.has_put_other (by simpa using hj), (h2 j).1, (h2 j).2]
  simp [hj]
theorem Cells.fore {w : World} {B : Nat} {A : Option Addr} {xs ys : List Value} (h : Cells w B A (xs ++ ys)) : Cells w B A xs := by
 rcases Nat.eq_zero_or_pos xs.length with h0 | h0
 ·exact .inl (List.length_eq_zero_iff.1 h0)
 ·obtain ⟨b, o, he, hb, hc⟩ := h.at_ (by simp; omega)
  exact .inr ⟨b, o, he, hb, fun j v hv => hc j v (by
   obtain ⟨hj, _⟩ := List.getElem?_eq_some_iff.1 hv
   rw [List.getElem?_append_left hj]; exact hv)⟩
theorem Cells.upto {α : Type} {w : World} {B : Nat} {A : Option Addr} {enc : α → List Value} {l : List α} (h : Cells w B A (l.flatMap enc)) (k : Nat) : Cells w B A ((l.take k).flatMap enc) := by
 rw [← List.take_append_drop k l, List.flatMap_append] at h
 exact h.fore
end Go.Proofs.YtnmolefblaahmaaGreat
