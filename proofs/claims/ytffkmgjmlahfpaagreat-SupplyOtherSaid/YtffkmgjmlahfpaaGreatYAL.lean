/- Lemmas. -/
import Derived.Test.YtffkmgjmlahfpaaGreatRows
import Derived.WalkKit
import Derived.ProofKit
import Derived.Lib.Hide
import Derived.BigQuiet
import Derived.Handy
import Derived.StillTail
import Derived.Maps.AppendAt
import Derived.BigRegion
import Derived.Deep.CutRange
import Derived.Deep.RegionHeld3
import Derived.Maps.OwnOps
import Derived.Maps.OwnSet
import Derived.Deep.MidRow
import Derived.Deep.Cut
import Derived.Test.YtffkmgjmlahfpaaGreatYX
import Derived.Test.YtffkmgjmlahfpaaGreatYW
import Derived.Test.YtffkmgjmlahfpaaGreatYQ
import Derived.Test.YtffkmgjmlahfpaaGreatYM
import Derived.Test.YtffkmgjmlahfpaaGreatYL
import Derived.Test.YtffkmgjmlahfpaaGreatYI
import Derived.Test.YtffkmgjmlahfpaaGreatYG
import Derived.Test.YtffkmgjmlahfpaaGreatYF
import Derived.Test.YtffkmgjmlahfpaaGreatYB
import Derived.Test.YtffkmgjmlahfpaaGreatYA
import Derived.Test.YtffkmgjmlahfpaaGreatYC
import Derived.Test.YtffkmgjmlahfpaaGreatYH
import Derived.Test.YtffkmgjmlahfpaaGreatYD
import Derived.Test.YtffkmgjmlahfpaaGreatYE
import Derived.Test.YtffkmgjmlahfpaaGreatYJ
import Derived.Test.YtffkmgjmlahfpaaGreatYK
import Derived.Test.YtffkmgjmlahfpaaGreatYP
import Derived.Test.YtffkmgjmlahfpaaGreatYO
import Derived.Test.YtffkmgjmlahfpaaGreatYN
import Derived.Test.YtffkmgjmlahfpaaGreatYAC
set_option linter.unusedVariables false
set_option linter.unusedSimpArgs false
namespace Go.Proofs.YtffkmgjmlahfpaaGreat
open Go.RowKit
namespace S
end S
variable {js : List Jn} {n : Nat} {rank : Int → Nat}
structure ChainsGood (js : List Jn) (n : Nat) (c : List (List Int)) : Prop where
  len : c.length + js.length = n
  head : ∀ (k : Nat) (l : List Int), c[k]? = some l → ∃ i t, l = i :: t ∧ 0 ≤ i
  up : ∀ (k k' : Nat) (i i' : Int) (t t' : List Int), k' < k → c[k]? = some (i :: t) → c[k']? = some (i' :: t') → i' < i
  range : ∀ l, l ∈ c → ∀ b, b ∈ l → 0 ≤ b ∧ b < n
  nodup : c.flatten.Nodup
  all : ∀ b : Int, 0 ≤ b → b < n → b ∈ c.flatten
  link : ∀ l, l ∈ c → ∀ (i : Nat) (a b : Int), l[i]? = some a → l[i + 1]? = some b → (⟨a, b⟩ : Jn) ∈ js
namespace S
end S
namespace S
end S
end Go.Proofs.YtffkmgjmlahfpaaGreat
