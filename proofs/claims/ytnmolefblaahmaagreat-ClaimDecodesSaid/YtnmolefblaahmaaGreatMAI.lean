/- Own lists of own lists of steps. -/
import Derived.Test.YtnmolefblaahmaaGreatMAD
import Derived.Test.YtnmolefblaahmaaGreatMAF
set_option linter.unusedVariables false
set_option linter.unusedSimpArgs false
namespace Go.Proofs.YtnmolefblaahmaaGreat
open Go.RowKit
theorem elemSk : Elem Tryz.prog 37 66 (.slice none 0 0) 1 24 := ⟨Tryz.underlying37, by kernel_rfl, rfl, by decide⟩
theorem elemS7 : Elem Tryz.prog 66 69 (.agg #[.int .i64 0, .int .i64 0]) 2 16 := ⟨Tryz.underlying66, by kernel_rfl, rfl, by decide⟩
theorem own_mono7 {w : World} {base base' E size : Nat} {v : Value} {n : Nat} {xs : List Value} (h : w.ownsRow base' E size v n xs) (hb : base ≤ base') : w.ownsRow base E size v n xs := own_mono h hb
structure SksAt (w : World) (base : Nat) (v : Value) (rs : List Sk) : Prop where
 own : w.ownsRow base 66 1 v rs.length (rs.map skV)
 each : ∀ r, r ∈ rs → r.n = r.l.length ∧ (∀ g, (skV r).ownBlock = some g → v.ownBlock ≠ some g) ∧ w.ownsRow base 69 2 (skV r) r.l.length (r.l.flatMap stC)
theorem SksAt.nil (w : World) (base : Nat) : SksAt w base (.slice none 0 0) [] := ⟨World.ownsRow_nil _ _ _ _, fun r hr => by cases hr⟩
theorem SksAt.push {w w2 : World} {base : Nat} {v v2 : Value} {rs : List Sk} {r : Sk} (h : SksAt w base v rs) (hr : r.n = r.l.length ∧ (∀ g, (skV r).ownBlock = some g → v.ownBlock ≠ some g) ∧ w.ownsRow base 69 2 (skV r) r.l.length (r.l.flatMap stC))
 (hown : w2.ownsRow base 66 1 v2 (rs.length + 1) (rs.map skV ++ [skV r])) (hg : Grows w w2 v v2) : SksAt w2 base v2 (rs ++ [r]) := by
 refine ⟨by simpa using hown, fun q hq => ?_⟩
 have hq2 : q.n = q.l.length ∧ (∀ g, (skV q).ownBlock = some g → v.ownBlock ≠ some g) ∧ w.ownsRow base 69 2 (skV q) q.l.length (q.l.flatMap stC) := by
  rcases List.mem_append.1 hq with hq | hq
  ·exact h.each q hq
  ·rw [List.mem_singleton] at hq
   subst hq
   exact hr
 obtain ⟨h0, h3, h4⟩ := hq2
 refine ⟨h0, fun g hgq he => ?_, own_kept h4 (fun k hkk => ?_)⟩
 ·have hlt := (h4.lt g hgq).2
  rcases hg.2.2 g he with h5 | h5
  ·exact h3 g hgq h5
  ·omega
 ·exact hg.2.1 k (h4.lt k hkk).2 (h3 k hkk)
theorem SksAt.kept {w w2 : World} {base : Nat} {v : Value} {rs : List Sk} (h : SksAt w base v rs) (hb : ∀ k, base ≤ k → k < w.heap.size → w2.heap[k]? = w.heap[k]?) : SksAt w2 base v rs :=
 ⟨own_kept h.own (fun k hk => hb k (h.own.lt k hk).1 (h.own.lt k hk).2), fun r hr => ⟨(h.each r hr).1, (h.each r hr).2.1, own_kept (h.each r hr).2.2 (fun k hk => hb k ((h.each r hr).2.2.lt k hk).1 ((h.each r hr).2.2.lt k hk).2)⟩⟩
theorem SksAt.areas {w : World} {base : Nat} {A : Option Addr} {n c : Nat} {rs : List Sk} (h : SksAt w base (.slice A n c) rs) (hn : rs.length = n) (hm : n ≤ 1000000) (hl : ∀ r, r ∈ rs → r.l.length ≤ 1000000) : AreasAt w w.heap.size A n rs := by
 subst hn
 refine ⟨rfl, by omega, (own_cells h.own (by unfold maxLen; omega)).1, fun r hr => ?_⟩
 have h1 := h.each r hr
 have h2 := hl r hr
 have h3 := h1.2.2
 unfold skV at h3
 rw [h1.1] at h3
 exact ⟨h1.1.symm, by omega, (own_cells h3 (by unfold maxLen; omega)).1⟩
end Go.Proofs.YtnmolefblaahmaaGreat
