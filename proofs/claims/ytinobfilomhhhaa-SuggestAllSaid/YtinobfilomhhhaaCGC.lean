/- Operations on bytes and on numbers without a sign, as they are. -/
import Derived.Test.YtinobfilomhhhaaCGB
set_option linter.unusedSimpArgs false
set_option linter.unusedVariables false
set_option maxRecDepth 100000
set_option maxHeartbeats 1000000
set_option cbv.maxSteps 10000000
namespace Go.Proofs.Ytinobfilomhhhaa
open Go GoV

theorem wrapU64 {a : Int} (h0 : 0 ≤ a) (h : a < 18446744073709551616) : IntKind.u64.wrap a = a := by
  simp [IntKind.wrap, IntKind.min, IntKind.max, IntKind.signed, IntKind.bits]; omega
theorem wrapU8 (a : Nat) : IntKind.u8.wrap (a : Int) = ((a % 256 : Nat) : Int) := by
  simp [IntKind.wrap, IntKind.min, IntKind.max, IntKind.signed, IntKind.bits]
section nums
variable {A : Ar} (hA : A = real)
include hA
theorem ckU64 {a : Nat} (h : a < 2 ^ 64) : A .ck .u64 (a : Int) = (a : Int) := by
  rw [hA]; exact wrapU64 (by omega) (by omega)
theorem ckU8 (a : Nat) : A .ck .u8 (a : Int) = ((a % 256 : Nat) : Int) := by
  rw [hA]; exact wrapU8 a
theorem ckI64 {a : Nat} (h : a < 2 ^ 63) : A .ck .i64 (a : Int) = (a : Int) := by
  rw [hA]; exact wrap_in (by unfold inI; omega)
theorem shrN {k : IntKind} {a j : Nat} {b : Int} (hb : b = j) (hj : j ≤ k.bits) : A .ar .shr k (a : Int) b = ((a / 2 ^ j : Nat) : Int) := by
  rw [hA, hb]
  show Int.fdiv (a : Int) (2 ^ (min (j : Int).toNat k.bits)) = _
  rw [Int.toNat_natCast, Nat.min_eq_left hj]
  rw [Int.fdiv_eq_ediv_of_nonneg _ (by exact Int.le_of_lt (Int.pow_pos (by omega)))]
  norm_cast
theorem shlU {a : Nat} (h : a * 256 < 2 ^ 64) : A .ar .shl .u64 (a : Int) 8 = ((a * 256 : Nat) : Int) := by
  rw [hA]
  show IntKind.u64.wrap ((a : Int) * 2 ^ (min (8 : Int).toNat IntKind.u64.bits)) = _
  rw [show (2 : Int) ^ (min (8 : Int).toNat IntKind.u64.bits) = 256 from by decide]
  rw [wrapU64 (by omega) (by omega)]
  omega
theorem orU {a b : Nat} (h : a * 256 + b < 2 ^ 64) (hb : b < 256) : A .ar .or .u64 ((a * 256 : Nat) : Int) (b : Int) = ((a * 256 + b : Nat) : Int) := by
  rw [hA]
  show IntKind.u64.wrap (((BitVec.ofInt 64 ((a * 256 : Nat) : Int) ||| BitVec.ofInt 64 (b : Int)).toNat : Nat) : Int) = _
  rw [BitVec.toNat_or, BitVec.ofInt_natCast, BitVec.ofInt_natCast, BitVec.toNat_ofNat, BitVec.toNat_ofNat, Nat.mod_eq_of_lt (by omega), Nat.mod_eq_of_lt (by omega)]
  have : (a * 256) ||| b = a * 256 + b := by
    have := Nat.two_pow_add_eq_or_of_lt (i := 8) (b := b) (by omega) a
    rw [Nat.mul_comm a 256]; simp only [Nat.reducePow] at this; omega
  rw [this]
  exact wrapU64 (by omega) (by omega)
theorem not8 {b : Nat} (h : b < 256) : A .un .xor .u8 (b : Int) = ((255 - b : Nat) : Int) := by
  rw [hA]
  revert h; revert b
  have : ∀ b : Fin 256, real .un .xor .u8 ((b.val : Nat) : Int) = ((255 - b.val : Nat) : Int) := by decide +kernel
  exact fun {b} h => this ⟨b, h⟩
theorem or8 {j y : Nat} (hj : j < 8) (hy : y < 2 ^ (7 - j)) : A .ar .or .u8 ((256 - 2 ^ (8 - j) : Nat) : Int) (y : Int) = ((256 - 2 ^ (8 - j) + y : Nat) : Int) := by
  rw [hA]
  have : ∀ j : Fin 8, ∀ y : Fin 128, y.val < 2 ^ (7 - j.val) → real .ar .or .u8 ((256 - 2 ^ (8 - j.val) : Nat) : Int) ((y.val : Nat) : Int) = ((256 - 2 ^ (8 - j.val) + y.val : Nat) : Int) := by decide +kernel
  exact this ⟨j, hj⟩ ⟨y, Nat.lt_of_lt_of_le hy (Nat.pow_le_pow_right (by omega) (by omega : 7 - j ≤ 7))⟩ hy
end nums
theorem first8 {j : Nat} (hj : j ≤ 8) : 65280 / 2 ^ j % 256 = 256 - 2 ^ (8 - j) := by
  have : ∀ j : Fin 9, 65280 / 2 ^ j.val % 256 = 256 - 2 ^ (8 - j.val) := by decide
  exact this ⟨j, by omega⟩
theorem fst8_lt {x : Nat} (hx : x < 2 ^ 64) : fst8 x < 256 := by
  have h8 := nd_le x
  unfold fst8
  by_cases h : nd x < 8
  · have a := top_lt h
    have : 2 ^ (8 - nd x) = 2 * 2 ^ (7 - nd x) := by rw [show 8 - nd x = (7 - nd x) + 1 by omega, Nat.pow_succ]; omega
    have : 2 ^ (8 - nd x) ≤ 2 ^ 8 := Nat.pow_le_pow_right (by omega) (by omega)
    omega
  · have e : nd x = 8 := by omega
    rw [top_0 e hx, e]
    omega
end Go.Proofs.Ytinobfilomhhhaa
