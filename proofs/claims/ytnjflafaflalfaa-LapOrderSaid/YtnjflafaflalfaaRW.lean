/- Contracts: slices.IndexFunc and ContainsFunc over boxes, box.all, box.Hull. -/
import Derived.Test.YtnjflafaflalfaaRV
set_option linter.unusedVariables false
set_option linter.unusedSimpArgs false
namespace Go.Proofs.Ytnjflafaflalfaa
open Go.RowKit
def AsksB (w : World) (F : Nat) (fst cap : Array Value) (p : Bx → Bool) : Prop :=
  ∀ (x : Bx) (w' : World), Below w.heap.size w w' → Calls Try.prog F (fst.push (boxV x) ++ cap) w' fun e w'' => e = .returned (.bool (p x)) ∧ Below w'.heap.size w' w''
theorem Cells.boxes {w : World} {B bb o : Nat} {l : List Bx} (h : Cells w B (some ⟨bb, o, none⟩) (l.flatMap boxC)) {k : Nat} {p : Bx} (hk : l[k]? = some p) :
    w.cell? ⟨bb, o + k * 6, none⟩ = some (.int .i64 p.lo.x) ∧ w.cell? ⟨bb, o + k * 6 + 1, none⟩ = some (.int .i64 p.lo.y) ∧ w.cell? ⟨bb, o + k * 6 + 2, none⟩ = some (.int .i64 p.lo.z) ∧
    w.cell? ⟨bb, o + k * 6 + 3, none⟩ = some (.int .i64 p.hi.x) ∧ w.cell? ⟨bb, o + k * 6 + 4, none⟩ = some (.int .i64 p.hi.y) ∧ w.cell? ⟨bb, o + k * 6 + 5, none⟩ = some (.int .i64 p.hi.z) := by
  obtain ⟨hk', rfl⟩ := List.getElem?_eq_some_iff.1 hk
  exact ⟨h.row0 boxC_len hk' rfl, h.rowj boxC_len hk' 1 rfl, h.rowj boxC_len hk' 2 rfl, h.rowj boxC_len hk' 3 rfl, h.rowj boxC_len hk' 4 rfl, h.rowj boxC_len hk' 5 rfl⟩
theorem indexfB_any (F : Nat) (fst cap : Array Value) (p : Bx → Bool) (A : Option Addr) (n c : Nat) (xs : List Bx) (B : Nat) (w : World) (hn : xs.length = n) (hm : n ≤ 9223372036854775807) (hB : B ≤ w.heap.size)
    (hs : Cells w B A (xs.flatMap boxC)) (hF : ∀ args w, Sem.run Try.prog (callFunc F args) w = .ok (.enter F args) w) (hf : AsksB w F fst cap p) :
    Calls Try.prog 72 #[.slice A n c, .func (.func F) fst cap] w fun e w' => e = .returned (.int .i64 (idxf xs p)) ∧ Below w.heap.size w w' := by
  have HN := Lib.hid hn
  clear hn
  go_enter Try.func72, Try.ntmps72
  go_wp2
  go_loopw [8] (fun i wr => ∃ k : Nat, k ≤ n ∧ i = .int .i64 k ∧ (∀ j (h : j < xs.length), j < k → p xs[j] = false) ∧ Below w.heap.size w wr) (fun i _ => n - (intOf i).toNat)
  case atStart => exact ⟨0, Nat.zero_le _, rfl, fun j _ hj => absurd hj (by omega), Below.refl _ _⟩
  case round =>
    obtain ⟨k, hk, rfl, hno, hbr⟩ := hrel
    have HNO := Lib.hid hno
    clear hno
    by_cases hlt : k < n
    · have hkx : k < xs.length := by have := HN.out; omega
      have hs' := hs.below (hbr.mono hB)
      obtain ⟨b, o, rfl, _, _⟩ := hs'.at_ (by rw [flat_len boxC 6 boxC_len]; omega)
      obtain ⟨c0, c1, c2, c3, c4, c5⟩ := hs'.boxes (List.getElem?_eq_getElem hkx)
      by_cases hx : p xs[k] = true
      · go_wp2_with (refine (hf _ _ hbr).mono ?_; rintro e w1 ⟨rfl, hb1⟩)
        go_ret
        exact ⟨ret_i (idxf_hit hkx hx HNO.out).symm, hbr.trans (hb1.mono hbr.size)⟩
      · have hx' : p xs[k] = false := by simpa using hx
        clear hx
        go_wp2_with (refine (hf _ _ hbr).mono ?_; rintro e w1 ⟨rfl, hb1⟩)
        go_roundw
        case rel =>
          refine ⟨k + 1, by omega, by go_num, fun j hj hjk => ?_, hbr.trans (hb1.mono hbr.size)⟩
          by_cases hjk' : j = k
          · subst hjk'; exact hx'
          · exact HNO.out j hj (by omega)
        case measure => simp [intOf]; omega
    · go_wp2
      go_ret
      exact ⟨ret_i (idxf_miss (fun j hj => HNO.out j hj (by have := HN.out; omega))).symm, hbr⟩
theorem containsfB_any (F : Nat) (fst cap : Array Value) (p : Bx → Bool) (A : Option Addr) (n c : Nat) (xs : List Bx) (B : Nat) (w : World) (hn : xs.length = n) (hm : n ≤ 9223372036854775807) (hB : B ≤ w.heap.size)
    (hs : Cells w B A (xs.flatMap boxC)) (hF : ∀ args w, Sem.run Try.prog (callFunc F args) w = .ok (.enter F args) w) (hf : AsksB w F fst cap p) :
    Calls Try.prog 54 #[.slice A n c, .func (.func F) fst cap] w fun e w' => e = .returned (.bool (anyb xs p)) ∧ Below w.heap.size w w' := by
  have HN := Lib.hid hn
  have HF := Lib.hid hF
  have he : decide (0 ≤ idxf xs p) = anyb xs p := idxf_ge xs p
  clear hn hF
  go_enter Try.func54, Try.ntmps54
  go_wp2_with (go_at_call 72; (with_reducible refine (indexfB_any F fst cap p _ _ _ xs B _ HN.out hm hB hs HF.out hf).mono ?_); rintro e w1 ⟨rfl, hbw1⟩; obtain ⟨hcw1, hfw1⟩ := bcell hbw1)
  go_ret
  exact ⟨rfl, bel⟩
def S.join (a b : Bx) : Bx := ⟨⟨if b.lo.x < a.lo.x then b.lo.x else a.lo.x, if b.lo.y < a.lo.y then b.lo.y else a.lo.y, if b.lo.z < a.lo.z then b.lo.z else a.lo.z⟩, ⟨if a.hi.x < b.hi.x then b.hi.x else a.hi.x, if a.hi.y < b.hi.y then b.hi.y else a.hi.y, if a.hi.z < b.hi.z then b.hi.z else a.hi.z⟩⟩
end Go.Proofs.Ytnjflafaflalfaa
