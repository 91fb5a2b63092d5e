/- What is in a list; lists that are the same; the plain law of the best ones. -/
import Derived.Test.YtlbmknejhmmjnaaSHM
set_option linter.unusedSimpArgs false
set_option linter.unusedVariables false
set_option maxRecDepth 100000
set_option maxHeartbeats 1000000
set_option cbv.maxSteps 10000000
namespace Go.Proofs.Ytlbmknejhmmjnaa
open Go GoV

theorem p10 (f g : Bool) (l : List Int) (hl : l.length ≤ 1000) : Pn 1301 10 [slE f l, slE g l] [] (bl true) [] := by
  refine playN 1300 rfl rfl fun A call hA hcall => ?_
  obtain ⟨es, hes⟩ : ∃ es, es = l.map e1 := ⟨_, rfl⟩
  obtain ⟨N, hN⟩ : ∃ v : Int, v = l.length := ⟨_, rfl⟩
  have l1 := lenE hA hes hN
  obtain ⟨I, hI⟩ : ∃ I : Nat → Int, ∀ i, I i = i := ⟨_, fun _ => rfl⟩
  have i0 : I 0 = 0 := hI 0
  have ne := neF hA (a := N) (b := N) rfl
  dsimp only [slE]
  rw [← hes]
  apply wpV_seq; refine wpV_of (by ((conv => lhs; cbv); (try (with_reducible rfl)))) ?_
  apply wpV_seq; refine wpV_of (by ((conv => lhs; cbv); (repeat ((first | rewrite [l1] | rewrite [ne]); (try (conv => lhs; cbv)))); (try (with_reducible rfl)))) ?_
  apply wpV_seq; apply wpV_seq; refine wpV_of (by ((conv => lhs; cbv); (try (with_reducible rfl)))) ?_
  apply wpV_block
  refine wpV_loop l.length (fun j st => st = ⟨0, [.one (.iv (.sl f 1 es)), .one (.iv (.sl g 1 es)), u, u, u, u, u, u, u, u, u, u, i64 N, i64 (I j), u, u, u, u, u, u, u, u, u, u, u, u], []⟩) (by omega) (by ((conv => lhs; cbv); (repeat ((first | rewrite [l1]); (try (conv => lhs; cbv)))); (try (with_reducible rfl)))) (by rw [l1, i0]) ?_
  rintro j hj st rfl
  by_cases hjl : j < l.length
  · have c1 := ltT hA (a := I j) (b := N) (by rw [hI]; omega)
    have g1 := getE hA hes (hI j) hjl
    have t1 := neF hA (a := l[j]) (b := l[j]) rfl
    have inc := addR hA (a := I j) (b := 1) (c := I (j + 1)) (by rw [hI, hI]; omega) (by rw [hI]; omega)
    generalize l[j] = y at *
    dsimp only [e1] at g1
    refine wpV_of (by ((conv => lhs; cbv); (repeat ((first | rewrite [c1] | rewrite [g1] | rewrite [t1]); (try (conv => lhs; cbv)))); (try (with_reducible rfl)))) ?_
    refine headQ_of (by ((conv => lhs; cbv); (try (with_reducible rfl)))) ?_
    exact ⟨hjl, by rw [inc]⟩
  · obtain rfl : j = l.length := by omega
    have c1 := ltF hA (a := I l.length) (b := N) (by rw [hI]; omega)
    refine wpV_of (by ((conv => lhs; cbv); (repeat ((first | rewrite [c1]); (try (conv => lhs; cbv)))); (try (with_reducible rfl)))) ?_
    show wpV _ _ _ _ _ _
    (refine wpV_of (by ((conv => lhs; cbv); (try (with_reducible rfl)))) ?_; (show finV _ _ _ = some _; ((conv => lhs; cbv); (try (with_reducible rfl))); (try rfl)))
/-! ### The plain law -/
theorem ky_range (x : Int) : 0 ≤ ky x ∧ ky x < 10 := by unfold ky; omega
theorem srt_perm (l : List Int) : ∀ k, (srt l k).Perm (l.filter fun x => decide (ky x < (k : Int)))
  | 0 => by
    have : (l.filter fun x => decide (ky x < ((0 : Nat) : Int))) = [] := by
      rw [List.filter_eq_nil_iff]
      intro x _
      have := ky_range x
      simp; omega
    rw [this]; exact List.Perm.refl _
  | k + 1 => by
    rw [srt_succ]
    refine ((srt_perm l k).append_right _).trans ?_
    clear srt_perm
    induction l with
    | nil => exact List.Perm.refl _
    | cons a r ih =>
      by_cases h1 : ky a < (k : Int)
      · have h2 : ky a < ((k + 1 : Nat) : Int) := by omega
        have h3 : ¬ ky a = (k : Int) := by omega
        simp only [List.filter_cons, h1, h2, h3, decide_true, decide_false, if_true, Bool.false_eq_true, if_false, List.cons_append]
        exact ih.cons a
      · by_cases h3 : ky a = (k : Int)
        · have h2 : ky a < ((k + 1 : Nat) : Int) := by omega
          simp only [List.filter_cons, h1, h2, h3, decide_true, decide_false, if_true, Bool.false_eq_true, if_false]
          have h4 : decide ((k : Int) < ((k + 1 : Nat) : Int)) = true := by simp; omega
          have h5 : decide ((k : Int) < (k : Int)) = false := by simp
          simp only [h4, h5, if_true, Bool.false_eq_true, if_false]
          exact List.perm_middle.trans (ih.cons a)
        · have h2 : ¬ ky a < ((k + 1 : Nat) : Int) := by omega
          simp only [List.filter_cons, h1, h2, h3, decide_false, Bool.false_eq_true, if_false]
          exact ih
theorem srt_all (l : List Int) : (srt l 10).Perm l := by
  have h := srt_perm l 10
  have : (l.filter fun x => decide (ky x < ((10 : Nat) : Int))) = l := by
    rw [List.filter_eq_self]
    intro x _
    have := ky_range x
    simp; omega
  rwa [this] at h
end Go.Proofs.Ytlbmknejhmmjnaa
