/- A state's bytes behind others: gone through. -/
import Derived.Test.YtanpphoehajcgaaDAA
set_option linter.unusedSimpArgs false
set_option linter.unusedVariables false
set_option maxRecDepth 100000
set_option maxHeartbeats 1000000
set_option cbv.maxSteps 10000000
namespace Go.Proofs.Ytanpphoehajcgaa
open Go GoV

theorem cnGo_0 {v : List Int} {l : List Wr} : ∀ k i, cnGo v l k i = true → ∀ j, i ≤ j → j < i + k → goodW v (l.getD j zeroWr) = true := by
  intro k
  induction k with
  | zero => intro i h j h1 h2; omega
  | succ k ih =>
    intro i h j h1 h2
    rw [cnGo] at h
    split at h
    · cases h
    · rename_i hn
      by_cases hj : j = i
      · subst hj
        cases hh : goodW v (l.getD j zeroWr) with
        | true => rfl
        | false => exact absurd (.inl hh) hn
      · exact ih (i + 1) h j (by omega) (by omega)
theorem canB_0 {v : List Int} {l : List Wr} (h : canB v l = true) : goodB v = true ∧ l.length ≤ 4096 ∧ ∀ w, w ∈ l → goodW v w = true := by
  unfold canB at h
  simp only [Bool.and_eq_true, decide_eq_true_eq] at h
  refine ⟨h.1.1, h.1.2, fun w hw => ?_⟩
  obtain ⟨i, hi, rfl⟩ := List.getElem_of_mem hw
  have := cnGo_0 _ 0 h.2 i (by omega) (by omega)
  rw [List.getD_eq_getElem?_getD, List.getElem?_eq_getElem hi] at this
  exact this
end Go.Proofs.Ytanpphoehajcgaa
