/- A number behind bytes, gone through. -/
import Derived.Test.YtanpphoehajcgaaCGD
set_option linter.unusedSimpArgs false
set_option linter.unusedVariables false
set_option maxRecDepth 100000
set_option maxHeartbeats 1000000
set_option cbv.maxSteps 10000000
namespace Go.Proofs.Ytanpphoehajcgaa
open Go GoV

def by8 (l : List Nat) : List (List IV) := l.map fun (b : Nat) => [.int .u8 (b : Int)]
/-- The first bytes of a number, so many. -/
def pre (x n : Nat) : List Nat := (enc x).take n
theorem app1 {A : Ar} (hA : A = real) {es : List (List IV)} (y : List IV) (h : es.length + 1 ≤ 211106232532992) : A .app 1 es [y] = some (false, es ++ [y]) := by
  rw [hA, real_app]
  unfold rApp room
  rw [if_neg (by simp), if_pos (by simpa using h)]
theorem cut3 {A : Ar} (hA : A = real) {es : List (List IV)} {n : Int} (hn : n = es.length) : A .sub3 es none (some n) (some n) = some es := by
  rw [hA, real_sub3, hn]
  unfold rSub3 rSub rCut rBound
  simp
end Go.Proofs.Ytanpphoehajcgaa
