/- What a reader makes of a state's bytes, and that what was written is read: in plain Lean. -/
import Derived.Test.YtlljgefgbglmbaaDAB
import Derived.Test.YtlljgefgbglmbaaCGL
set_option linter.unusedSimpArgs false
set_option linter.unusedVariables false
set_option maxRecDepth 100000
set_option maxHeartbeats 1000000
namespace Go.Proofs.Ytlljgefgbglmbaa
open Go GoV
/-! ### What a reader makes of bytes -/
theorem es2_flat (f : Nat → Nat) : ∀ n, es2 f n = (List.range n).flatMap fun j => enc (f j)
  | 0 => rfl
  | n + 1 => by rw [es2, es2_flat f n, List.range_succ, List.flatMap_append]; simp
theorem gs_flat (l : List Nat) : ∀ n, gs l n = (List.range n).flatMap fun j => enc (gap l j)
  | 0 => rfl
  | n + 1 => by rw [gs, gs_flat l n, List.range_succ, List.flatMap_append]; simp
def wsL (l : List Wr) : List Nat := l.flatMap wrB
theorem wsB_wsL (l : List Wr) : ∀ i, i ≤ l.length → wsB l i = wsL (l.take i)
  | 0, _ => by simp [wsB, wsL]
  | i + 1, h => by
    rw [wsB, wsB_wsL l i (by omega), List.take_succ_eq_append_getElem (by omega)]
    unfold wsL
    rw [List.flatMap_append, List.getD_eq_getElem?_getD, List.getElem?_eq_getElem (by omega)]
    simp
end Go.Proofs.Ytlljgefgbglmbaa
