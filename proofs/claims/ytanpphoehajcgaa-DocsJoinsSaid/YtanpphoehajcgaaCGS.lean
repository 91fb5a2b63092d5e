/- Numbers that rise, and a vector, behind bytes: gone through. -/
import Derived.Test.YtanpphoehajcgaaCGR
set_option linter.unusedSimpArgs false
set_option linter.unusedVariables false
set_option maxRecDepth 100000
set_option maxHeartbeats 1000000
set_option cbv.maxSteps 10000000
namespace Go.Proofs.Ytanpphoehajcgaa
open Go GoV

abbrev rd (es : List (List IV)) (o n : Nat) (f : Bool) : List Blk := [.var false [.slo 1 o n, .iv (.int .i64 0), .iv (.bool true)], .arr f false 1 es]
/-- Numbers, one behind the other. -/
def es2 (f : Nat → Nat) : Nat → List Nat
  | 0 => []
  | i + 1 => es2 f i ++ enc (f i)
end Go.Proofs.Ytanpphoehajcgaa
