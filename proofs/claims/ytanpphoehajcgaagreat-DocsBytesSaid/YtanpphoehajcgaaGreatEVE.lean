/- An event's bytes behind others: gone through. -/
import Derived.Test.YtanpphoehajcgaaGreatEVD
set_option linter.unusedSimpArgs false
set_option linter.unusedVariables false
set_option maxRecDepth 100000
set_option maxHeartbeats 1000000
set_option cbv.maxSteps 10000000
namespace Go.Proofs.YtanpphoehajcgaaGreat
open Go GoV

theorem name_size {s : ByteArray} (h : nameB s = true) : 1 ≤ s.size ∧ s.size ≤ 12 := by
  unfold nameB at h
  simp only [Bool.and_eq_true, decide_eq_true_eq] at h
  exact ⟨h.1, h.2.1⟩
theorem seg8 {A : Ar} (hA : A = real) (l : List Nat) : A .seg (by8 l) 0 l.length = by8 l := seg0 hA (by rw [by8_len])
end Go.Proofs.YtanpphoehajcgaaGreat
