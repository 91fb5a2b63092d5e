/- Numbers as bytes, in plain Lean. -/
import Derived.Test.YtanpphoehajcgaaCGA
set_option linter.unusedSimpArgs false
set_option linter.unusedVariables false
set_option maxRecDepth 100000
set_option maxHeartbeats 1000000
namespace Go.Proofs.Ytanpphoehajcgaa
open Go GoV

/-- So many bytes stand behind the first one. -/
def nd (x : Nat) : Nat := if x < 2 ^ 7 then 0 else if x < 2 ^ 14 then 1 else if x < 2 ^ 21 then 2 else if x < 2 ^ 28 then 3 else if x < 2 ^ 35 then 4 else if x < 2 ^ 42 then 5 else if x < 2 ^ 49 then 6 else if x < 2 ^ 56 then 7 else 8
/-- x has L binary places. -/
def IsLen (x L : Nat) : Prop := (x = 0 ∧ L = 0) ∨ (0 < L ∧ 2 ^ (L - 1) ≤ x ∧ x < 2 ^ L)
theorem IsLen.up {x L k : Nat} (h : IsLen (x / 2 ^ k) L) (hx : 2 ^ k ≤ x) : IsLen x (L + k) := by
  have hp : 0 < 2 ^ k := Nat.two_pow_pos k
  have h1 : 1 ≤ x / 2 ^ k := (Nat.le_div_iff_mul_le hp).2 (by omega)
  rcases h with ⟨h0, _⟩ | ⟨hL, a, b⟩
  · omega
  · refine .inr ⟨by omega, ?_, ?_⟩
    · rw [show L + k - 1 = (L - 1) + k by omega, Nat.pow_add]
      exact (Nat.le_div_iff_mul_le hp).1 a
    · rw [Nat.pow_add]
      exact (Nat.div_lt_iff_lt_mul hp).1 b
/-- The bytes behind the first one: k of them. -/
def tl (x : Nat) : Nat → List Nat
  | 0 => []
  | k + 1 => (x / 256 ^ k % 256) :: tl x k
/-- The first byte. -/
def fst8 (x : Nat) : Nat := (256 - 2 ^ (8 - nd x)) + x / 256 ^ nd x
def enc (x : Nat) : List Nat := fst8 x :: tl x (nd x)
end Go.Proofs.Ytanpphoehajcgaa
