/- Bytes compared and copied: gone through. -/
import Derived.Test.YtanpphoehajcgaaGreatCGS
set_option linter.unusedSimpArgs false
set_option linter.unusedVariables false
set_option maxRecDepth 100000
set_option maxHeartbeats 1000000
set_option cbv.maxSteps 10000000
namespace Go.Proofs.YtanpphoehajcgaaGreat
open Go GoV

theorem rNums_by8 : ∀ a : List Nat, rNums (by8 a) = some (a.map fun (n : Nat) => (n : Int))
  | [] => rfl
  | x :: r => by
    have := rNums_by8 r
    simp only [by8] at this
    simp only [by8, List.map_cons, rNums, this, Option.bind_some]
theorem n9 (a : List Nat) (t t2 : Bool) (z z2 : Nat) (hz : z = 0 ∨ z = 1) (hz2 : z2 = 0 ∨ z2 = 1) :
    Pn 1 9 [.one (.iv (.sl t z (by8 a))), .one (.iv (.sl t2 z2 (by8 a)))] [] (bl true) [] := by
  refine playN 0 rfl rfl fun A call hA hcall => ?_
  obtain ⟨s, hs⟩ : ∃ s, A .b2s (by8 a) = some s := by
    rw [hA, real_b2s]; unfold rB2s; rw [rNums_by8]; exact ⟨_, rfl⟩
  have c1 : A .scmp .eql s s = true := by rw [hA, real_scmp]; simp [rScmp]
  generalize by8 a = es at *
  rcases hz with rfl | rfl <;> rcases hz2 with rfl | rfl
  all_goals
    refine wpV_of (by ((conv => lhs; cbv); (repeat ((first | rewrite [hs] | rewrite [c1]); (try (conv => lhs; cbv)))); (try (with_reducible rfl)))) ?_
    (show finV _ _ _ = some _; ((conv => lhs; cbv); (repeat ((first | rewrite [c1]); (try (conv => lhs; cbv)))); (try (with_reducible rfl))); (try rfl))
theorem n7 (a : List Nat) (t : Bool) (z : Nat) (hz : z = 0 ∨ z = 1) (h : a.length ≤ 211106232532992) : Pn 1 7 [.one (.iv (.sl t z (by8 a)))] [] (.one (.slo 0 0 a.length)) [.arr false false 1 (by8 a)] := by
  intro m hm
  obtain ⟨m, rfl⟩ : ∃ k, m = k + 1 := ⟨m - 1, by omega⟩
  have e1 : real .app 1 [] (by8 a) = some (false, by8 a) := appn rfl _ (by rw [by8_len]; exact h)
  have e2 : real .ln (by8 a) = a.length := by8_len a
  have hk : okE z 1 = true := by rcases hz with rfl | rfl <;> rfl
  have hT : lookT tab 7 = none := rfl
  simp only [play, hT]
  have hc : ∀ vs bs, clonePr clones 7 vs bs = cloneV 1 1 vs bs := fun vs bs => by simp only [clones, clonePr]; rfl
  rw [hc]
  simp only [cloneV, hk, cond_true, e1, e2]
end Go.Proofs.YtanpphoehajcgaaGreat
