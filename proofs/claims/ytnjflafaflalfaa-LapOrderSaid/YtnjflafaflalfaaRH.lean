/- Bars as arguments: where they lie; contract of Short. -/
import Derived.Test.YtnjflafaflalfaaRD
import Derived.Test.YtnjflafaflalfaaRE
set_option linter.unusedVariables false
set_option linter.unusedSimpArgs false
namespace Go.Proofs.Ytnjflafaflalfaa
open Go.RowKit
abbrev barV (b : Bar) (A : Option Addr) (n c : Nat) : Value := .agg #[.string b.mark, .int .i64 b.size, .int .i64 b.count, .int .i64 b.code, .slice A n c]
structure BarAt (w : World) (B : Nat) (A : Option Addr) (n : Nat) (b : Bar) : Prop where
  len : b.dims.length = n
  max : n ≤ 9223372036854775807
  mark : b.mark.size ≤ 9223372036854775807
  cells : Cells w B A (i64s b.dims)
theorem BarAt.below {w w' : World} {B : Nat} {A : Option Addr} {n : Nat} {b : Bar} (h : BarAt w B A n b) (hb : Below B w w') : BarAt w' B A n b := ⟨h.len, h.max, h.mark, h.cells.below hb⟩
theorem BarAt.mono {w : World} {B B' : Nat} {A : Option Addr} {n : Nat} {b : Bar} (h : BarAt w B A n b) (hb : B ≤ B') : BarAt w B' A n b := ⟨h.len, h.max, h.mark, h.cells.mono hb⟩
end Go.Proofs.Ytnjflafaflalfaa
