/- Lists of bars in memory; contracts: slices.IndexFunc over bars, schedule.index, laid.find. -/
import Derived.Test.YtnjflafaflalfaaRI
import Derived.Test.YtnjflafaflalfaaRH
import Derived.Test.YtnjflafaflalfaaRJ
set_option linter.unusedVariables false
set_option linter.unusedSimpArgs false
namespace Go.Proofs.Ytnjflafaflalfaa
open Go.RowKit
structure BarR where
  b : Bar
  A : Option Addr
  n : Nat
  c : Nat
abbrev barC (r : BarR) : List Value := [.string r.b.mark, .int .i64 r.b.size, .int .i64 r.b.count, .int .i64 r.b.code, .slice r.A r.n r.c]
theorem barC_len (r : BarR) : (barC r).length = 5 := rfl
abbrev bars (l : List BarR) : List Bar := l.map BarR.b
structure BarsAt (w : World) (B : Nat) (A : Option Addr) (n : Nat) (l : List BarR) : Prop where
  len : l.length = n
  max : n ≤ 9223372036854775807
  cells : Cells w B A (l.flatMap barC)
  each : ∀ r, r ∈ l → BarAt w B r.A r.n r.b
theorem BarsAt.below {w w' : World} {B : Nat} {A : Option Addr} {n : Nat} {l : List BarR} (h : BarsAt w B A n l) (hb : Below B w w') : BarsAt w' B A n l := ⟨h.len, h.max, h.cells.below hb, fun r hr => (h.each r hr).below hb⟩
theorem BarsAt.at_ {w w' : World} {B : Nat} {A : Option Addr} {n : Nat} {l : List BarR} (h : BarsAt w B A n l) (hB : B ≤ w.heap.size) (hb : Below w.heap.size w w') : BarsAt w' B A n l := h.below (hb.mono hB)
def AsksR (w : World) (F : Nat) (fst cap : Array Value) (p : BarR → Bool) : Prop :=
  ∀ (x : BarR) (w' : World), Below w.heap.size w w' → Calls Try.prog F (fst.push (barV x.b x.A x.n x.c) ++ cap) w' fun e w'' => e = .returned (.bool (p x)) ∧ Below w'.heap.size w' w''
theorem indexfR_any (F : Nat) (fst cap : Array Value) (p : BarR → Bool) (A : Option Addr) (n c : Nat) (xs : List BarR) (B : Nat) (w : World) (hn : xs.length = n) (hm : n ≤ 9223372036854775807) (hB : B ≤ w.heap.size)
    (hs : Cells w B A (xs.flatMap barC)) (hF : ∀ args w, Sem.run Try.prog (callFunc F args) w = .ok (.enter F args) w) (hf : AsksR w F fst cap p) :
    Calls Try.prog 74 #[.slice A n c, .func (.func F) fst cap] w fun e w' => e = .returned (.int .i64 (idxf xs p)) ∧ Below w.heap.size w w' := by
  have HN := Lib.hid hn
  clear hn
  go_enter Try.func74, Try.ntmps74
  go_wp2
  go_loopw [8] (fun i wr => ∃ k : Nat, k ≤ n ∧ i = .int .i64 k ∧ (∀ j (h : j < xs.length), j < k → p xs[j] = false) ∧ Below w.heap.size w wr) (fun i _ => n - (intOf i).toNat)
  case atStart => exact ⟨0, Nat.zero_le _, rfl, fun j _ hj => absurd hj (by omega), Below.refl _ _⟩
  case round =>
    obtain ⟨k, hk, rfl, hno, hbr⟩ := hrel
    have HNO := Lib.hid hno
    clear hno
    by_cases hlt : k < n
    · have hkx : k < xs.length := by have := HN.out; omega
      have hs' := hs.below (hbr.mono hB)
      obtain ⟨b, o, rfl, _, _⟩ := hs'.at_ (by rw [flat_len barC 5 barC_len]; omega)
      have c0 := hs'.row0 barC_len hkx rfl
      have c1 := hs'.rowj barC_len hkx 1 rfl
      have c2 := hs'.rowj barC_len hkx 2 rfl
      have c3 := hs'.rowj barC_len hkx 3 rfl
      have c4 := hs'.rowj barC_len hkx 4 rfl
      by_cases hx : p xs[k] = true
      · go_wp2_with (refine (hf _ _ hbr).mono ?_; rintro e w1 ⟨rfl, hb1⟩)
        go_ret
        exact ⟨ret_i (idxf_hit hkx hx HNO.out).symm, hbr.trans (hb1.mono hbr.size)⟩
      · have hx' : p xs[k] = false := by simpa using hx
        clear hx
        go_wp2_with (refine (hf _ _ hbr).mono ?_; rintro e w1 ⟨rfl, hb1⟩)
        go_roundw
        case rel =>
          refine ⟨k + 1, by omega, by go_num, fun j hj hjk => ?_, hbr.trans (hb1.mono hbr.size)⟩
          by_cases hjk' : j = k
          · subst hjk'; exact hx'
          · exact HNO.out j hj (by omega)
        case measure => simp [intOf]; omega
    · go_wp2
      go_ret
      exact ⟨ret_i (idxf_miss (fun j hj => HNO.out j hj (by have := HN.out; omega))).symm, hbr⟩
def S.isMark (m : ByteArray) (b : Bar) : Bool := b.mark.toList == m.toList
def S.index (l : List Bar) (m : ByteArray) : Int := idxf l (S.isMark m)
theorem idxf_map {α β : Type} (f : α → β) (p : β → Bool) (l : List α) : idxf (l.map f) p = idxf l (fun x => p (f x)) := by
  unfold idxf
  rw [List.findIdx?_map]
  rfl
theorem smark_any (m : ByteArray) (r : BarR) (g : Nat) (w : World) (hc : w.cell? ⟨g, 0, none⟩ = some (.string m)) (hg : g < w.heap.size) :
    Calls Try.prog 75 #[barV r.b r.A r.n r.c, .pointer (some ⟨g, 0, none⟩)] w fun e w' => e = .returned (.bool (S.isMark m r.b)) ∧ Below w.heap.size w w' := by
  unfold barV
  go_enter Try.func75, Try.ntmps75
  go_wp2
  go_ret
  exact ⟨rfl, bel⟩
theorem lmark_any (m : ByteArray) (r : BarR) (g : Nat) (w : World) (hc : w.cell? ⟨g, 0, none⟩ = some (.string m)) (hg : g < w.heap.size) :
    Calls Try.prog 76 #[barV r.b r.A r.n r.c, .pointer (some ⟨g, 0, none⟩)] w fun e w' => e = .returned (.bool (S.isMark m r.b)) ∧ Below w.heap.size w w' := by
  unfold barV
  go_enter Try.func76, Try.ntmps76
  go_wp2
  go_ret
  exact ⟨rfl, bel⟩
theorem sindex_any (l : List BarR) (m : ByteArray) (A : Option Addr) (n c : Nat) (B : Nat) (w : World) (hB : B ≤ w.heap.size) (hA : BarsAt w B A n l) :
    Calls Try.prog 56 #[.slice A n c, .string m] w fun e w' => e = .returned (.int .i64 (S.index (bars l) m)) ∧ Below w.heap.size w w' := by
  have HA := Lib.hid hA
  have HI := Lib.hid (show S.index (bars l) m = idxf l (fun x => S.isMark m x.b) from idxf_map _ _ _)
  have hf : AsksR (w.alloc (.cells #[.string m] 9)) 75 #[] #[.pointer (some ⟨w.heap.size, 0, none⟩)] (fun x => S.isMark m x.b) := fun x w' hb => smark_any m x w.heap.size w' ((hb.cell (p := ⟨w.heap.size, 0, none⟩) (by simp)).trans (by simp)) (Nat.lt_of_lt_of_le (by simp) hb.size)
  have HF := Lib.hid Try.call75
  have HX := Lib.hid (indexfR_any 75 #[] #[.pointer (some ⟨w.heap.size, 0, none⟩)] (fun x => S.isMark m x.b) A n c l B (w.alloc (.cells #[.string m] 9)) HA.out.len HA.out.max (by simp; omega) (HA.out.cells.alloc hB _) HF.out hf)
  clear hA hf
  go_enter Try.func56, Try.ntmps56
  go_wp2_with (go_at_call 74; (with_reducible refine (HX.out).mono ?_); rintro e w1 ⟨rfl, hbw1⟩; obtain ⟨hcw1, hfw1⟩ := bcell hbw1)
  go_ret
  exact ⟨ret_i HI.out.symm, bel⟩
theorem lfind_any (l : List BarR) (m : ByteArray) (A : Option Addr) (n c : Nat) (B : Nat) (w : World) (hB : B ≤ w.heap.size) (hA : BarsAt w B A n l) :
    Calls Try.prog 57 #[.slice A n c, .string m] w fun e w' => e = .returned (.int .i64 (S.index (bars l) m)) ∧ Below w.heap.size w w' := by
  have HA := Lib.hid hA
  have HI := Lib.hid (show S.index (bars l) m = idxf l (fun x => S.isMark m x.b) from idxf_map _ _ _)
  have hf : AsksR (w.alloc (.cells #[.string m] 9)) 76 #[] #[.pointer (some ⟨w.heap.size, 0, none⟩)] (fun x => S.isMark m x.b) := fun x w' hb => lmark_any m x w.heap.size w' ((hb.cell (p := ⟨w.heap.size, 0, none⟩) (by simp)).trans (by simp)) (Nat.lt_of_lt_of_le (by simp) hb.size)
  have HF := Lib.hid Try.call76
  have HX := Lib.hid (indexfR_any 76 #[] #[.pointer (some ⟨w.heap.size, 0, none⟩)] (fun x => S.isMark m x.b) A n c l B (w.alloc (.cells #[.string m] 9)) HA.out.len HA.out.max (by simp; omega) (HA.out.cells.alloc hB _) HF.out hf)
  clear hA hf
  go_enter Try.func57, Try.ntmps57
  go_wp2_with (go_at_call 74; (with_reducible refine (HX.out).mono ?_); rintro e w1 ⟨rfl, hbw1⟩; obtain ⟨hcw1, hfw1⟩ := bcell hbw1)
  go_ret
  exact ⟨ret_i HI.out.symm, bel⟩
end Go.Proofs.Ytnjflafaflalfaa
