/- Bars as arguments: where they lie; contract of Short. -/
import Derived.Test.YtffkmgjmlahfpaaGreatYF
import Derived.Test.YtffkmgjmlahfpaaGreatYC
set_option linter.unusedVariables false
set_option linter.unusedSimpArgs false
namespace Go.Proofs.YtffkmgjmlahfpaaGreat
open Go.RowKit
abbrev barV (b : Bar) (A : Option Addr) (n c : Nat) : Value := .agg #[.string b.mark, .int .i64 b.size, .int .i64 b.count, .int .i64 b.code, .slice A n c]
structure BarAt (w : World) (B : Nat) (A : Option Addr) (n : Nat) (b : Bar) : Prop where
  len : b.dims.length = n
  max : n ≤ 9223372036854775807
  mark : b.mark.size ≤ 9223372036854775807
  cells : Cells w B A (i64s b.dims)
theorem BarAt.below {w w' : World} {B : Nat} {A : Option Addr} {n : Nat} {b : Bar} (h : BarAt w B A n b) (hb : Below B w w') : BarAt w' B A n b := ⟨h.len, h.max, h.mark, h.cells.below hb⟩
theorem BarAt.mono {w : World} {B B' : Nat} {A : Option Addr} {n : Nat} {b : Bar} (h : BarAt w B A n b) (hb : B ≤ B') : BarAt w B' A n b := ⟨h.len, h.max, h.mark, h.cells.mono hb⟩
def S.short (b : Bar) : Bool := decide (b.dims.length ≤ 8) && decide (b.mark.size ≤ 60)
theorem short_any (b : Bar) (A : Option Addr) (n c : Nat) (w : World) (hn : b.dims.length = n) (hm : n ≤ 9223372036854775807) (hk : b.mark.size ≤ 9223372036854775807) :
    Calls Tryz.prog 111 #[barV b A n c] w fun e w' => e = .returned (.bool (S.short b)) ∧ Below w.heap.size w w' := by
  have H := Lib.hid (show S.short b = (decide (n ≤ 8) && decide (b.mark.size ≤ 60)) by simp [S.short, hn])
  clear hn
  unfold barV
  go_enter Tryz.func111, Tryz.ntmps111
  go_wp2
  all_goals (go_ret; exact ⟨ret_b (by rw [H.out, Bool.eq_iff_iff]; simp; omega), bel⟩)
end Go.Proofs.YtffkmgjmlahfpaaGreat
