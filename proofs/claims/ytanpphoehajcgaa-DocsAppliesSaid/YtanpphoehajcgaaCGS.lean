/- Numbers that rise, and a vector, behind bytes: gone through. -/
import Derived.Test.YtanpphoehajcgaaCGR
set_option linter.unusedSimpArgs false
set_option linter.unusedVariables false
set_option maxRecDepth 100000
set_option maxHeartbeats 1000000
set_option cbv.maxSteps 10000000
namespace Go.Proofs.Ytanpphoehajcgaa
open Go GoV

abbrev rd (es : List (List IV)) (o n : Nat) (f : Bool) : List Blk := [.var false [.slo 1 o n, .iv (.int .i64 0), .iv (.bool true)], .arr f false 1 es]
theorem goodB_get {v : List Int} (h : goodB v = true) {i : Nat} (hi : i < 64) : 0 ≤ v.getD i 0 ∧ v.getD i 0 ≤ 1073741824 := by
  unfold goodB at h
  have := List.all_eq_true.1 h i (List.mem_range.2 hi)
  simp only [badB, Bool.not_eq_true', Bool.or_eq_false_iff, decide_eq_false_iff_not] at this
  omega
/-- Numbers, one behind the other. -/
def es2 (f : Nat → Nat) : Nat → List Nat
  | 0 => []
  | i + 1 => es2 f i ++ enc (f i)
end Go.Proofs.Ytanpphoehajcgaa
