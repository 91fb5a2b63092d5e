/- A reader reads numbers that rise: gone through. -/
import Derived.Test.YtomchclmnmhjaaaCGJ
set_option linter.unusedSimpArgs false
set_option linter.unusedVariables false
set_option maxRecDepth 100000
set_option maxHeartbeats 1000000
set_option cbv.maxSteps 10000000
namespace Go.Proofs.Ytomchclmnmhjaaa
open Go GoV

def intsI (l : List Int) : List (List IV) := l.map fun z => [.int .i64 z]
theorem numS_er {bs : List Nat} {most : Int} {s : RS} (h : (numS bs most s).2.err ≠ 0) : (numS bs most s).1 = 0 := by
  unfold numS at h ⊢
  split
  · rfl
  · rename_i heq
    rw [heq] at h
    dsimp only at h
    split
    · rfl
    · rename_i hc
      rw [if_neg hc] at h
      cases s with
      | er f e => simp [rawS] at heq
      | ok f o n =>
        simp only [rawS] at heq
        split at heq
        · cases heq
        · split at heq
          · cases heq
          · split at heq
            · simp only [Prod.mk.injEq, Option.some.injEq] at heq
              obtain ⟨rfl, rfl⟩ := heq
              exact absurd rfl h
            · cases heq
end Go.Proofs.Ytomchclmnmhjaaa
