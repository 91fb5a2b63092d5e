/- Numbers that rise, and a vector, behind bytes: gone through. -/
import Derived.Test.YtinobfilomhhhaaCGR
set_option linter.unusedSimpArgs false
set_option linter.unusedVariables false
set_option maxRecDepth 100000
set_option maxHeartbeats 1000000
set_option cbv.maxSteps 10000000
namespace Go.Proofs.Ytinobfilomhhhaa
open Go GoV

abbrev rd (es : List (List IV)) (o n : Nat) (f : Bool) : List Blk := [.var false [.slo 1 o n, .iv (.int .i64 0), .iv (.bool true)], .arr f false 1 es]
theorem appn {A : Ar} (hA : A = real) (ys : List (List IV)) (h : ys.length ≤ 211106232532992) : A .app 1 [] ys = some (false, ys) := by
  rw [hA, real_app]
  unfold rApp room
  rw [if_neg (by simp), if_pos (by simpa using h)]
  rfl
theorem n73 (es : List (List IV)) (t : Bool) (z : Nat) (hz : z = 0 ∨ z = 1) (h : es.length ≤ 211106232532992) : Pn 1 73 [.one (.iv (.sl t z es))] [] rp (rd es 0 es.length false) := by
  refine playN 0 rfl rfl fun A call hA hcall => ?_
  have a1 := appn hA es h
  have l1 : A .ln es = es.length := by rw [hA]; rfl
  generalize es.length = n at *
  rcases hz with rfl | rfl
  all_goals
    refine wpV_of (by ((conv => lhs; cbv); (repeat ((first | rewrite [a1] | rewrite [l1]); (try (conv => lhs; cbv)))); (try (with_reducible rfl)))) ?_
    (show finV _ _ _ = some _; ((conv => lhs; cbv); (repeat ((first | rewrite [a1] | rewrite [l1]); (try (conv => lhs; cbv)))); (try (with_reducible rfl))); (try rfl))
/-- Numbers, one behind the other. -/
def es2 (f : Nat → Nat) : Nat → List Nat
  | 0 => []
  | i + 1 => es2 f i ++ enc (f i)
end Go.Proofs.Ytinobfilomhhhaa
