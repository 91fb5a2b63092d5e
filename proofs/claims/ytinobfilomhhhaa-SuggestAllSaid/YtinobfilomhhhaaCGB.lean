/- Numbers as bytes, in plain Lean. -/
import Derived.Test.YtinobfilomhhhaaCGA
set_option linter.unusedSimpArgs false
set_option linter.unusedVariables false
set_option maxRecDepth 100000
set_option maxHeartbeats 1000000
namespace Go.Proofs.Ytinobfilomhhhaa
open Go GoV

/-- So many bytes stand behind the first one. -/
def nd (x : Nat) : Nat := if x < 2 ^ 7 then 0 else if x < 2 ^ 14 then 1 else if x < 2 ^ 21 then 2 else if x < 2 ^ 28 then 3 else if x < 2 ^ 35 then 4 else if x < 2 ^ 42 then 5 else if x < 2 ^ 49 then 6 else if x < 2 ^ 56 then 7 else 8
theorem nd_le (x : Nat) : nd x ≤ 8 := by
  unfold nd
  repeat' split
  all_goals omega
theorem nd_lt {x k : Nat} (h : nd x = k) (hk : k < 8) : x < 2 ^ (7 * k + 7) := by
  unfold nd at h
  repeat' split at h
  all_goals (subst h; first | omega | (simp only [Nat.reduceMul, Nat.reduceAdd] at *; assumption))
theorem nd_ge {x k : Nat} (h : nd x = k) (hk : 0 < k) : 2 ^ (7 * k) ≤ x := by
  unfold nd at h
  repeat' split at h
  all_goals (subst h; first | omega | (simp only [Nat.reduceMul, Nat.reduceAdd] at *; omega))
/-- x has L binary places. -/
def IsLen (x L : Nat) : Prop := (x = 0 ∧ L = 0) ∨ (0 < L ∧ 2 ^ (L - 1) ≤ x ∧ x < 2 ^ L)
theorem IsLen.up {x L k : Nat} (h : IsLen (x / 2 ^ k) L) (hx : 2 ^ k ≤ x) : IsLen x (L + k) := by
  have hp : 0 < 2 ^ k := Nat.two_pow_pos k
  have h1 : 1 ≤ x / 2 ^ k := (Nat.le_div_iff_mul_le hp).2 (by omega)
  rcases h with ⟨h0, _⟩ | ⟨hL, a, b⟩
  · omega
  · refine .inr ⟨by omega, ?_, ?_⟩
    · rw [show L + k - 1 = (L - 1) + k by omega, Nat.pow_add]
      exact (Nat.le_div_iff_mul_le hp).1 a
    · rw [Nat.pow_add]
      exact (Nat.div_lt_iff_lt_mul hp).1 b
theorem pw {a b : Nat} (h : 2 ^ a < 2 ^ b) : a < b := (Nat.pow_lt_pow_iff_right (by omega)).1 h
theorem isLen_nd {x L : Nat} (h : IsLen x L) (hx : x < 2 ^ 64) : (if L > 56 then 8 else (L - 1) / 7) = nd x := by
  have h8 := nd_le x
  obtain ⟨k, hk⟩ : ∃ k, nd x = k := ⟨_, rfl⟩
  rw [hk] at h8 ⊢
  have lo : 0 < k → 7 * k < L := by
    intro h0
    have := nd_ge hk h0
    rcases h with ⟨rfl, _⟩ | ⟨_, a, b⟩
    · have := Nat.two_pow_pos (7 * k); omega
    · exact pw (by omega)
  have hi : k < 8 → L ≤ 7 * k + 7 := by
    intro h0
    have := nd_lt hk h0
    rcases h with ⟨_, rfl⟩ | ⟨_, a, b⟩
    · omega
    · have := pw (a := L - 1) (b := 7 * k + 7) (by omega); omega
  have hi8 : L ≤ 64 := by
    rcases h with ⟨_, rfl⟩ | ⟨_, a, b⟩
    · omega
    · have := pw (a := L - 1) (b := 64) (by omega); omega
  split <;> omega
/-- The bytes behind the first one: k of them. -/
def tl (x : Nat) : Nat → List Nat
  | 0 => []
  | k + 1 => (x / 256 ^ k % 256) :: tl x k
theorem tl_len (x k : Nat) : (tl x k).length = k := by induction k with
  | zero => rfl
  | succ k ih => simp [tl, ih]
/-- The first byte. -/
def fst8 (x : Nat) : Nat := (256 - 2 ^ (8 - nd x)) + x / 256 ^ nd x
def enc (x : Nat) : List Nat := fst8 x :: tl x (nd x)
theorem enc_len (x : Nat) : (enc x).length = nd x + 1 := by simp [enc, tl_len]
theorem top_lt {x : Nat} (h : nd x < 8) : x / 256 ^ nd x < 2 ^ (7 - nd x) := by
  have := nd_lt rfl h
  rw [Nat.div_lt_iff_lt_mul (Nat.pow_pos (by omega)), show (256 : Nat) = 2 ^ 8 from rfl, ← Nat.pow_mul, ← Nat.pow_add]
  rwa [show 7 - nd x + 8 * nd x = 7 * nd x + 7 by omega]
theorem top_0 {x : Nat} (h : nd x = 8) (hx : x < 2 ^ 64) : x / 256 ^ nd x = 0 := by
  rw [h]; apply Nat.div_eq_of_lt; omega
theorem tl_lt (x k : Nat) : ∀ b, b ∈ tl x k → b < 256 := by
  induction k with
  | zero => simp [tl]
  | succ k ih =>
    intro b hb
    simp only [tl, List.mem_cons] at hb
    rcases hb with rfl | hb
    · omega
    · exact ih b hb
theorem tl_get (x : Nat) : ∀ (k j : Nat) (h : j < (tl x k).length), (tl x k)[j] = x / 256 ^ (k - 1 - j) % 256
  | 0, j, h => by simp [tl] at h
  | k + 1, 0, h => by simp [tl]
  | k + 1, j + 1, h => by
    have hj : j < (tl x k).length := by rw [tl_len] at *; omega
    simp only [tl, List.getElem_cons_succ]
    rw [tl_get x k j hj]
    congr 3
    omega
theorem down (x j : Nat) : x / 256 ^ (j + 1) * 256 + x / 256 ^ j % 256 = x / 256 ^ j := by
  rw [Nat.pow_succ, ← Nat.div_div_eq_div_mul]
  omega
end Go.Proofs.Ytinobfilomhhhaa
