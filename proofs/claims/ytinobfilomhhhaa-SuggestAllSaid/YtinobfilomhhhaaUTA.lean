/- Numbers as facts; small functions of layer 3. -/
import Derived.Test.YtinobfilomhhhaaCGE
set_option linter.unusedSimpArgs false
set_option linter.unusedVariables false
set_option maxRecDepth 100000
set_option maxHeartbeats 1000000
namespace Go.Proofs.Ytinobfilomhhhaa
open Go GoV


/-- A sign's number. -/
def isSign (r : Int) : Bool := decide (0 ≤ r ∧ r ≤ 1114111 ∧ (r < 55296 ∨ 57343 < r))
/-! ### The shape that a byte begins -/
/-! ### The bytes of a sign -/
def bytesOf (r : Int) : List Int :=
  if isSign r = false then [] else if r ≤ 127 then [r] else if r ≤ 2047 then [192 + r / 64, 128 + r % 64] else if r ≤ 65535 then [224 + r / 4096, 128 + r / 64 % 64, 128 + r % 64] else [240 + r / 262144, 128 + r / 4096 % 64, 128 + r / 64 % 64, 128 + r % 64]
end Go.Proofs.Ytinobfilomhhhaa
