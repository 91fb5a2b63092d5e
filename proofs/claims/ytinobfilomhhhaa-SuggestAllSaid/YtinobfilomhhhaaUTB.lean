/- The sign that begins at a place: of both packages, the same. -/
import Derived.Test.YtinobfilomhhhaaUTA
set_option linter.unusedSimpArgs false
set_option linter.unusedVariables false
set_option maxRecDepth 100000
set_option maxHeartbeats 4000000
namespace Go.Proofs.Ytinobfilomhhhaa
open Go GoV

/-! ### What the next sign is -/
/-- What four bytes give, of which n are there. -/
def nx (n : Nat) (a b c d : Int) : Int × Int :=
  if a < 128 then (a, 1)
  else if a < 192 then (-1, 1)
  else if a < 224 then (if n < 2 ∨ b / 64 ≠ 2 ∨ a % 32 * 64 + b % 64 < 128 then (-1, 1) else (a % 32 * 64 + b % 64, 2))
  else if a < 240 then (if n < 3 ∨ b / 64 ≠ 2 ∨ c / 64 ≠ 2 ∨ (a % 16 * 64 + b % 64) * 64 + c % 64 < 2048 ∨ isSign ((a % 16 * 64 + b % 64) * 64 + c % 64) = false then (-1, 1) else ((a % 16 * 64 + b % 64) * 64 + c % 64, 3))
  else if a < 248 then (if n < 4 ∨ b / 64 ≠ 2 ∨ c / 64 ≠ 2 ∨ d / 64 ≠ 2 ∨ ((a % 8 * 64 + b % 64) * 64 + c % 64) * 64 + d % 64 < 65536 ∨ isSign (((a % 8 * 64 + b % 64) * 64 + c % 64) * 64 + d % 64) = false then (-1, 1) else (((a % 8 * 64 + b % 64) * 64 + c % 64) * 64 + d % 64, 4))
  else (-1, 1)
end Go.Proofs.Ytinobfilomhhhaa
