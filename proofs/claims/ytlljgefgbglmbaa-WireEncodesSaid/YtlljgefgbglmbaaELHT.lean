/- Bytes compared: gone through. -/
import Derived.Test.YtlljgefgbglmbaaCGS
set_option linter.unusedSimpArgs false
set_option linter.unusedVariables false
set_option maxRecDepth 100000
set_option maxHeartbeats 1000000
set_option cbv.maxSteps 10000000
namespace Go.Proofs.Ytlljgefgbglmbaa
open Go GoV

theorem rNums_by8 : ∀ a : List Nat, rNums (by8 a) = some (a.map fun (n : Nat) => (n : Int))
  | [] => rfl
  | x :: r => by
    have := rNums_by8 r
    simp only [by8] at this
    simp only [by8, List.map_cons, rNums, this, Option.bind_some]
theorem n11 (a : List Nat) (t t2 : Bool) (z z2 : Nat) (hz : z = 0 ∨ z = 1) (hz2 : z2 = 0 ∨ z2 = 1) :
    Pn 1 11 [.one (.iv (.sl t z (by8 a))), .one (.iv (.sl t2 z2 (by8 a)))] [] (bl true) [] := by
  refine playN 0 rfl rfl fun A call hA hcall => ?_
  obtain ⟨s, hs⟩ : ∃ s, A .b2s (by8 a) = some s := by
    rw [hA, real_b2s]; unfold rB2s; rw [rNums_by8]; exact ⟨_, rfl⟩
  have c1 : A .scmp .eql s s = true := by rw [hA, real_scmp]; simp [rScmp]
  generalize by8 a = es at *
  rcases hz with rfl | rfl <;> rcases hz2 with rfl | rfl
  all_goals
    refine wpV_of (by ((conv => lhs; cbv); (repeat ((first | rewrite [hs] | rewrite [c1]); (try (conv => lhs; cbv)))); (try (with_reducible rfl)))) ?_
    (show finV _ _ _ = some _; ((conv => lhs; cbv); (repeat ((first | rewrite [c1]); (try (conv => lhs; cbv)))); (try (with_reducible rfl))); (try rfl))
end Go.Proofs.Ytlljgefgbglmbaa
