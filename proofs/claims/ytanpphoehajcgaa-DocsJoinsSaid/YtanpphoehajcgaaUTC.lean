/- utf.Next, gone through. -/
import Derived.Test.YtanpphoehajcgaaUTB
set_option linter.unusedSimpArgs false
set_option linter.unusedVariables false
set_option maxRecDepth 100000
set_option maxHeartbeats 4000000
namespace Go.Proofs.Ytanpphoehajcgaa
open Go GoV

theorem nx_1 {n : Nat} {a b c d : Int} (h : a < 128) : nx n a b c d = (a, 1) := by simp [nx, h]
theorem nx_2 {n : Nat} {a b c d : Int} (h : 192 ≤ a) (h' : a < 224) : nx n a b c d = if n < 2 ∨ b / 64 ≠ 2 ∨ a % 32 * 64 + b % 64 < 128 then (-1, 1) else (a % 32 * 64 + b % 64, 2) := by
  unfold nx; rw [if_neg (by omega), if_neg (by omega), if_pos (by omega)]
theorem nx_3 {n : Nat} {a b c d : Int} (h : 224 ≤ a) (h' : a < 240) : nx n a b c d = if n < 3 ∨ b / 64 ≠ 2 ∨ c / 64 ≠ 2 ∨ (a % 16 * 64 + b % 64) * 64 + c % 64 < 2048 ∨ isSign ((a % 16 * 64 + b % 64) * 64 + c % 64) = false then (-1, 1) else ((a % 16 * 64 + b % 64) * 64 + c % 64, 3) := by
  unfold nx; rw [if_neg (by omega), if_neg (by omega), if_neg (by omega), if_pos (by omega)]
theorem nx_4 {n : Nat} {a b c d : Int} (h : 240 ≤ a) (h' : a < 248) : nx n a b c d = if n < 4 ∨ b / 64 ≠ 2 ∨ c / 64 ≠ 2 ∨ d / 64 ≠ 2 ∨ ((a % 8 * 64 + b % 64) * 64 + c % 64) * 64 + d % 64 < 65536 ∨ isSign (((a % 8 * 64 + b % 64) * 64 + c % 64) * 64 + d % 64) = false then (-1, 1) else (((a % 8 * 64 + b % 64) * 64 + c % 64) * 64 + d % 64, 4) := by
  unfold nx; rw [if_neg (by omega), if_neg (by omega), if_neg (by omega), if_neg (by omega), if_pos (by omega)]
theorem nx_0 {n : Nat} {a b c d : Int} (h : 128 ≤ a ∧ a < 192 ∨ 248 ≤ a) : nx n a b c d = (-1, 1) := by
  unfold nx
  rw [if_neg (by omega)]
  by_cases h2 : a < 192
  · rw [if_pos h2]
  · rw [if_neg h2, if_neg (by omega), if_neg (by omega), if_neg (by omega)]
theorem fS_cases {a : Int} (h0 : 0 ≤ a) : (fS a = 0 ∧ (128 ≤ a ∧ a < 192 ∨ 248 ≤ a)) ∨ (fS a = 1 ∧ 0 ≤ a ∧ a < 128) ∨ (fS a = 2 ∧ 192 ≤ a ∧ a < 224) ∨ (fS a = 3 ∧ 224 ≤ a ∧ a < 240) ∨ (fS a = 4 ∧ 240 ≤ a ∧ a < 248) := by
  unfold fS
  split
  · omega
  split
  · omega
  split
  · omega
  split
  · omega
  split <;> omega
end Go.Proofs.Ytanpphoehajcgaa
