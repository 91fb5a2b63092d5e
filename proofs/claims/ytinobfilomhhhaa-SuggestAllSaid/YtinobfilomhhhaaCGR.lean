/- The reference's numbers that rise, and a vector, behind bytes: gone through. -/
import Derived.Test.YtinobfilomhhhaaCGH
set_option linter.unusedSimpArgs false
set_option linter.unusedVariables false
set_option maxRecDepth 100000
set_option maxHeartbeats 1000000
set_option cbv.maxSteps 10000000
namespace Go.Proofs.Ytinobfilomhhhaa
open Go GoV

def ints (l : List Nat) : List (List IV) := l.map fun (b : Nat) => [.int .i64 (b : Int)]
/-- What is ahead of the i-th, and one. -/
def pv (l : List Nat) (i : Nat) : Nat := if i = 0 then 0 else l.getD (i - 1) 0 + 1
def gap (l : List Nat) (i : Nat) : Nat := l.getD i 0 - pv l i
def gs (l : List Nat) : Nat → List Nat
  | 0 => []
  | i + 1 => gs l i ++ enc (gap l i)
end Go.Proofs.Ytinobfilomhhhaa
