/- The reference's lists of writes: is one in it, and one put in; and what is left of a state: gone through. -/
import Derived.Test.YtanpphoehajcgaaDJL
import Derived.Test.YtanpphoehajcgaaDAE
import Derived.Test.YtanpphoehajcgaaDZA
set_option linter.unusedSimpArgs false
set_option linter.unusedVariables false
set_option maxRecDepth 100000
set_option maxHeartbeats 4000000
set_option cbv.maxSteps 10000000
namespace Go.Proofs.Ytanpphoehajcgaa
open Go GoV

theorem apoW {A : Ar} (hA : A = real) (es ys : List (List IV)) (h : es.length + ys.length ≤ 100000) : A .apo 64 0 es.length es ys = some (true, es ++ ys) := by
  rw [hA, real_apo]; unfold rApo room
  rw [if_pos (by omega), if_pos ⟨by omega, .inl rfl⟩, List.drop_zero]
end Go.Proofs.Ytanpphoehajcgaa
