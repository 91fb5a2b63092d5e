/- The reference's numbers that rise, and a vector, behind bytes: gone through. -/
import Derived.Test.YtlljgefgbglmbaaCGN
set_option linter.unusedSimpArgs false
set_option linter.unusedVariables false
set_option maxRecDepth 100000
set_option maxHeartbeats 1000000
set_option cbv.maxSteps 10000000
namespace Go.Proofs.Ytlljgefgbglmbaa
open Go GoV

def ints (l : List Nat) : List (List IV) := l.map fun (b : Nat) => [.int .i64 (b : Int)]
theorem ints_len (l : List Nat) : (ints l).length = l.length := by simp [ints]
/-- What is ahead of the i-th, and one. -/
def pv (l : List Nat) (i : Nat) : Nat := if i = 0 then 0 else l.getD (i - 1) 0 + 1
def gap (l : List Nat) (i : Nat) : Nat := l.getD i 0 - pv l i
def gs (l : List Nat) : Nat → List Nat
  | 0 => []
  | i + 1 => gs l i ++ enc (gap l i)
theorem gs_len (l : List Nat) (i : Nat) : (gs l i).length ≤ 9 * i := by
  induction i with
  | zero => simp [gs]
  | succ i ih => simp only [gs, List.length_append, enc_len]; have := nd_le (gap l i); omega
theorem pv_le {l : List Nat} (hp : l.Pairwise (· < ·)) {i : Nat} (hi : i < l.length) : pv l i ≤ l.getD i 0 := by
  unfold pv
  split
  · omega
  · rw [List.getD_eq_getElem?_getD, List.getD_eq_getElem?_getD, List.getElem?_eq_getElem hi, List.getElem?_eq_getElem (show i - 1 < l.length by omega)]
    have := List.pairwise_iff_getElem.1 hp (i - 1) i (by omega) hi (by omega)
    exact this
end Go.Proofs.Ytlljgefgbglmbaa
