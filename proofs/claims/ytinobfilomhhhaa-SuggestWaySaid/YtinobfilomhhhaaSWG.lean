/- How far two lists are: the table, and what is so of it. -/
import Derived.Test.YtinobfilomhhhaaSWF
set_option linter.unusedSimpArgs false
set_option linter.unusedVariables false
namespace Go.Proofs.Ytinobfilomhhhaa
open Go GoV

/-- Do two neighbours stand the other way round? -/
def sw (a b : Nat → Int) (i k : Nat) : Bool := decide (1 ≤ i ∧ 1 ≤ k ∧ a i = b (k - 1) ∧ a (i - 1) = b k)
/-- The row behind two others. -/
def nxRow (a b : Nat → Int) (i : Nat) (p q : Nat → Int) : Nat → Int
  | 0 => i + 1
  | k + 1 => let n := min (min (p (k + 1)) (nxRow a b i p q k) + 1) (if a i = b k then p k else p k + 1)
             if sw a b i k = true then min n (q (k - 1) + 1) else n
def rows (a b : Nat → Int) : Nat → (Nat → Int) × (Nat → Int)
  | 0 => (fun k => k, fun _ => 0)
  | i + 1 => (nxRow a b i (rows a b i).1 (rows a b i).2, (rows a b i).1)
def tb (a b : Nat → Int) (i k : Nat) : Int := (rows a b i).1 k
theorem tb_0 (a b : Nat → Int) (k : Nat) : tb a b 0 k = k := rfl
theorem tb_k0 (a b : Nat → Int) (i : Nat) : tb a b i 0 = i := by
  cases i with
  | zero => rfl
  | succ i => show ((i : Int) + 1) = _; omega
theorem tb_s (a b : Nat → Int) (i k : Nat) : tb a b (i + 1) (k + 1) =
    if sw a b i k = true then min (min (min (tb a b i (k + 1)) (tb a b (i + 1) k) + 1) (if a i = b k then tb a b i k else tb a b i k + 1)) (tb a b (i - 1) (k - 1) + 1)
    else min (min (tb a b i (k + 1)) (tb a b (i + 1) k) + 1) (if a i = b k then tb a b i k else tb a b i k + 1) := by
  show nxRow a b i (rows a b i).1 (rows a b i).2 (k + 1) = _
  simp only [nxRow]
  cases h : sw a b i k with
  | false => rfl
  | true =>
    simp only [sw, decide_eq_true_eq] at h
    obtain ⟨j, rfl⟩ : ∃ j, i = j + 1 := ⟨i - 1, by omega⟩
    rfl
theorem tb_nn (a b : Nat → Int) : ∀ i k, 0 ≤ tb a b i k
  | 0, k => by rw [tb_0]; omega
  | i + 1, 0 => by rw [tb_k0]; omega
  | i + 1, k + 1 => by
    have h1 := tb_nn a b i (k + 1)
    have h2 := tb_nn a b (i + 1) k
    have h3 := tb_nn a b i k
    have h4 := tb_nn a b (i - 1) (k - 1)
    rw [tb_s]
    split <;> split <;> omega
termination_by i k => i + k
theorem tb_low (a b : Nat → Int) : ∀ (i k : Nat), (i : Int) - k ≤ tb a b i k ∧ (k : Int) - i ≤ tb a b i k
  | 0, k => by rw [tb_0]; omega
  | i + 1, 0 => by rw [tb_k0]; omega
  | i + 1, k + 1 => by
    have h1 := tb_low a b i (k + 1)
    have h2 := tb_low a b (i + 1) k
    have h3 := tb_low a b i k
    have h4 := tb_low a b (i - 1) (k - 1)
    rw [tb_s]
    split
    · rename_i h
      simp only [sw, decide_eq_true_eq] at h
      split <;> omega
    · split <;> omega
termination_by i k => i + k
theorem tb_high (a b : Nat → Int) : ∀ (i k : Nat), tb a b i k ≤ max (i : Int) k
  | 0, k => by rw [tb_0]; omega
  | i + 1, 0 => by rw [tb_k0]; omega
  | i + 1, k + 1 => by
    have h3 := tb_high a b i k
    rw [tb_s]
    split <;> split <;> omega
termination_by i k => i + k
theorem sw_symm (a b : Nat → Int) (i k : Nat) : sw a b i k = sw b a k i := by
  simp only [sw, decide_eq_decide]
  constructor
  · rintro ⟨h1, h2, h3, h4⟩; exact ⟨h2, h1, h4.symm, h3.symm⟩
  · rintro ⟨h1, h2, h3, h4⟩; exact ⟨h2, h1, h4.symm, h3.symm⟩
theorem tb_symm (a b : Nat → Int) : ∀ i k, tb a b i k = tb b a k i
  | 0, k => by rw [tb_0, tb_k0]
  | i + 1, 0 => by rw [tb_k0, tb_0]
  | i + 1, k + 1 => by
    rw [tb_s, tb_s, tb_symm a b i (k + 1), tb_symm a b (i + 1) k, tb_symm a b i k, tb_symm a b (i - 1) (k - 1), sw_symm a b i k, Int.min_comm (tb b a (k + 1) i)]
    by_cases h : a i = b k
    · simp only [h, if_true]
    · have h' : ¬ b k = a i := fun e => h e.symm
      simp only [h, h', if_false]
termination_by i k => i + k
theorem tb_zero (a b : Nat → Int) : ∀ i k, tb a b i k = 0 ↔ i = k ∧ ∀ j, j < i → a j = b j
  | 0, k => by
    rw [tb_0]
    constructor
    · intro h; exact ⟨by omega, fun j hj => by omega⟩
    · rintro ⟨rfl, _⟩; rfl
  | i + 1, 0 => by
    rw [tb_k0]
    constructor
    · intro h; omega
    · rintro ⟨h, _⟩; omega
  | i + 1, k + 1 => by
    have h1 := tb_nn a b i (k + 1)
    have h2 := tb_nn a b (i + 1) k
    have h3 := tb_nn a b i k
    have h4 := tb_nn a b (i - 1) (k - 1)
    have ih := tb_zero a b i k
    have hn := tb_nn a b (i + 1) (k + 1)
    constructor
    · intro h
      rw [tb_s] at h
      by_cases e : a i = b k
      · simp only [e, if_true] at h
        have h0 : tb a b i k = 0 := by split at h <;> omega
        obtain ⟨rfl, g⟩ := ih.1 h0
        exact ⟨rfl, fun j hj => by
          by_cases c : j = i
          · rw [c]; exact e
          · exact g j (by omega)⟩
      · simp only [e, if_false] at h
        split at h <;> omega
    · rintro ⟨h, g⟩
      obtain rfl : i = k := by omega
      have h0 := ih.2 ⟨rfl, fun j hj => g j (by omega)⟩
      have e := g i (by omega)
      rw [tb_s] at hn ⊢
      simp only [e, if_true] at hn ⊢
      split at hn <;> split <;> omega
termination_by i k => i + k
end Go.Proofs.Ytinobfilomhhhaa
