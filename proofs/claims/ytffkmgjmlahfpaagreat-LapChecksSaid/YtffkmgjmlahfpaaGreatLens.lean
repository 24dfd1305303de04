/- Legs of a bar: where they lie, their lengths. -/
import Derived.Test.YtffkmgjmlahfpaaGreatSpecWalks
import Derived.Test.YtffkmgjmlahfpaaGreatFrameA
set_option linter.unusedVariables false
set_option linter.unusedSimpArgs false
namespace Go.Proofs.YtffkmgjmlahfpaaGreat
open Go.RowKit
theorem BarAt.at_ {w w' : World} {B : Nat} {A : Option Addr} {n : Nat} {b : Bar} (h : BarAt w B A n b) (hB : B ≤ w.heap.size) (hb : Below w.heap.size w w') : BarAt w' B A n b := h.below (hb.mono hB)
theorem lens_get (b : Bar) (h : S.bar b = true) {k : Nat} (hk : k < (S.legsOf b.code).length) : ∃ n, (i64s (S.legLens b))[k]? = some (.int .i64 n) ∧ (S.legLens b)[k]? = some n ∧ 1 ≤ n ∧ n ≤ 262144 ∧ S.ptAt b (k + 1) = S.step (S.ptAt b k) (S.legsOf b.code)[k].2 n := by
  have hd : S.dimsOk b.dims = true := by simp only [S.bar, Bool.and_eq_true] at h; exact h.2
  have hl := bar_head h
  have h1 := legs_dim b.code hk
  have h2 : (S.legsOf b.code)[k].1 < b.dims.length := by omega
  have h3 := dim_bd hd h2
  have e : (S.legLens b)[k]? = some b.dims[(S.legsOf b.code)[k].1] := by
    simp [S.legLens, List.getElem?_eq_getElem hk, List.getD_eq_getElem?_getD, List.getElem?_eq_getElem h2]
  exact ⟨_, by simp [e], e, h3.1, h3.2, ptAt_succ b hk h2⟩
theorem Cells.pts {w : World} {B bb o : Nat} {l : List Pt} (h : Cells w B (some ⟨bb, o, none⟩) (l.flatMap ptC)) {k : Nat} {p : Pt} (hk : l[k]? = some p) :
    w.cell? ⟨bb, o + k * 3, none⟩ = some (.int .i64 p.x) ∧ w.cell? ⟨bb, o + k * 3 + 1, none⟩ = some (.int .i64 p.y) ∧ w.cell? ⟨bb, o + k * 3 + 2, none⟩ = some (.int .i64 p.z) := by
  obtain ⟨hk', rfl⟩ := List.getElem?_eq_some_iff.1 hk
  exact ⟨h.row0 ptC_len hk' rfl, h.rowj ptC_len hk' 1 rfl, h.rowj ptC_len hk' 2 rfl⟩
end Go.Proofs.YtffkmgjmlahfpaaGreat
