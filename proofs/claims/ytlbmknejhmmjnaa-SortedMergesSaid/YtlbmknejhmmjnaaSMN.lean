/- What is in a list; lists that are the same; the plain law of the best ones. -/
import Derived.Test.YtlbmknejhmmjnaaSMM
set_option linter.unusedSimpArgs false
set_option linter.unusedVariables false
set_option maxRecDepth 100000
set_option maxHeartbeats 1000000
set_option cbv.maxSteps 10000000
namespace Go.Proofs.Ytlbmknejhmmjnaa
open Go GoV

theorem p41 (f : Bool) (l : List Int) (hl : l.length ≤ 1000) (x : Int) (hx : x ∈ l) : ∃ m : Nat, Pn 1301 41 [slE f l, i64 x] [] (i64 m) [] := by
  obtain ⟨m, hm1, hm2, hm3⟩ := first_fail (p := fun i => l.getD i 0 ≠ x) l.length
  have hml : m < l.length := by
    rcases Nat.lt_or_ge m l.length with h | h
    · exact h
    · exfalso
      obtain ⟨i, hi, e⟩ := List.getElem_of_mem hx
      exact hm2 i (by omega) (by simp [hi, e])
  have hmx : l[m] = x := by
    rcases hm3 with h | h
    · omega
    · simpa [hml] using h
  refine ⟨m, playN 1300 rfl rfl fun A call hA hcall => ?_⟩
  obtain ⟨es, hes⟩ : ∃ es, es = l.map e1 := ⟨_, rfl⟩
  obtain ⟨N, hN⟩ : ∃ v : Int, v = l.length := ⟨_, rfl⟩
  have l1 := lenE hA hes hN
  obtain ⟨I, hI⟩ : ∃ I : Nat → Int, ∀ i, I i = i := ⟨_, fun _ => rfl⟩
  have i0 : I 0 = 0 := hI 0
  dsimp only [slE]
  rw [← hes, ← hI m]
  apply wpV_seq; refine wpV_of (by ((conv => lhs; cbv); (try (with_reducible rfl)))) ?_
  apply wpV_seq; apply wpV_seq; refine wpV_of (by ((conv => lhs; cbv); (repeat ((first | rewrite [l1]); (try (conv => lhs; cbv)))); (try (with_reducible rfl)))) ?_
  apply wpV_block
  refine wpV_loop m (fun j st => st = ⟨0, [.one (.iv (.sl f 1 es)), i64 x, u, u, u, u, u, i64 N, i64 (I j), u, u, u, u, u, u, u, u, u, u], []⟩) (by omega) (by ((conv => lhs; cbv); (repeat ((first | rewrite [l1]); (try (conv => lhs; cbv)))); (try (with_reducible rfl)))) (by rw [l1, i0]) ?_
  rintro j hj st rfl
  have hjl : j < l.length := by omega
  have c1 := ltT hA (a := I j) (b := N) (by rw [hI]; omega)
  have g1 := getE hA hes (hI j) hjl
  by_cases hjm : j < m
  · have hne := hm2 j hjm
    have t1 := eqF hA (a := x) (b := l[j]) (fun h => hne (by simp [hjl, h]))
    have inc := addR hA (a := I j) (b := 1) (c := I (j + 1)) (by rw [hI, hI]; omega) (by rw [hI]; omega)
    generalize l[j] = y at *
    dsimp only [e1] at g1
    refine wpV_of (by ((conv => lhs; cbv); (repeat ((first | rewrite [c1] | rewrite [g1] | rewrite [t1]); (try (conv => lhs; cbv)))); (try (with_reducible rfl)))) ?_
    refine headQ_of (by ((conv => lhs; cbv); (try (with_reducible rfl)))) ?_
    exact ⟨hjm, by rw [inc]⟩
  · obtain rfl : j = m := by omega
    have t1 := eqT hA (a := x) (b := l[j]) hmx.symm
    generalize l[j] = y at *
    dsimp only [e1] at g1
    (refine wpV_of (by ((conv => lhs; cbv); (repeat ((first | rewrite [c1] | rewrite [g1] | rewrite [t1]); (try (conv => lhs; cbv)))); (try (with_reducible rfl)))) ?_; (show finV _ _ _ = some _; ((conv => lhs; cbv); (repeat ((first | rewrite [c1] | rewrite [g1] | rewrite [t1]); (try (conv => lhs; cbv)))); (try (with_reducible rfl))); (try rfl)))
theorem p18 (f : Bool) (l : List Int) (hl : l.length ≤ 1000) (x : Int) (hx : x ∈ l) : Pn 1303 18 [slE f l, i64 x] [] (bl true) [] := by
  obtain ⟨m, hm⟩ := p41 f l hl x hx
  refine playN 1302 rfl rfl fun A call hA hcall => ?_
  have k := hm 1302 (by omega)
  rw [← hcall] at k
  obtain ⟨M, hM⟩ : ∃ M : Int, M = m := ⟨_, rfl⟩
  rw [← hM] at k
  have g := geT hA (a := M) (b := 0) (by omega)
  dsimp only [slE] at k ⊢
  generalize l.map e1 = es at *
  apply wpV_seq; refine wpV_of (by ((conv => lhs; cbv); (try (with_reducible rfl)))) ?_
  (refine wpV_of (by ((conv => lhs; cbv); (repeat ((first | rewrite [k] | rewrite [g]); (try (conv => lhs; cbv)))); (try (with_reducible rfl)))) ?_; (show finV _ _ _ = some _; ((conv => lhs; cbv); (repeat ((first | rewrite [k] | rewrite [g]); (try (conv => lhs; cbv)))); (try (with_reducible rfl))); (try rfl)))
/-- Equal, of lists that are. -/
theorem p10 (f g : Bool) (l : List Int) (hl : l.length ≤ 1000) : Pn 1301 10 [slE f l, slE g l] [] (bl true) [] := by
  refine playN 1300 rfl rfl fun A call hA hcall => ?_
  obtain ⟨es, hes⟩ : ∃ es, es = l.map e1 := ⟨_, rfl⟩
  obtain ⟨N, hN⟩ : ∃ v : Int, v = l.length := ⟨_, rfl⟩
  have l1 := lenE hA hes hN
  obtain ⟨I, hI⟩ : ∃ I : Nat → Int, ∀ i, I i = i := ⟨_, fun _ => rfl⟩
  have i0 : I 0 = 0 := hI 0
  have ne := neF hA (a := N) (b := N) rfl
  dsimp only [slE]
  rw [← hes]
  apply wpV_seq; refine wpV_of (by ((conv => lhs; cbv); (try (with_reducible rfl)))) ?_
  apply wpV_seq; refine wpV_of (by ((conv => lhs; cbv); (repeat ((first | rewrite [l1] | rewrite [ne]); (try (conv => lhs; cbv)))); (try (with_reducible rfl)))) ?_
  apply wpV_seq; apply wpV_seq; refine wpV_of (by ((conv => lhs; cbv); (try (with_reducible rfl)))) ?_
  apply wpV_block
  refine wpV_loop l.length (fun j st => st = ⟨0, [.one (.iv (.sl f 1 es)), .one (.iv (.sl g 1 es)), u, u, u, u, u, u, u, u, u, u, i64 N, i64 (I j), u, u, u, u, u, u, u, u, u, u, u, u], []⟩) (by omega) (by ((conv => lhs; cbv); (repeat ((first | rewrite [l1]); (try (conv => lhs; cbv)))); (try (with_reducible rfl)))) (by rw [l1, i0]) ?_
  rintro j hj st rfl
  by_cases hjl : j < l.length
  · have c1 := ltT hA (a := I j) (b := N) (by rw [hI]; omega)
    have g1 := getE hA hes (hI j) hjl
    have t1 := neF hA (a := l[j]) (b := l[j]) rfl
    have inc := addR hA (a := I j) (b := 1) (c := I (j + 1)) (by rw [hI, hI]; omega) (by rw [hI]; omega)
    generalize l[j] = y at *
    dsimp only [e1] at g1
    refine wpV_of (by ((conv => lhs; cbv); (repeat ((first | rewrite [c1] | rewrite [g1] | rewrite [t1]); (try (conv => lhs; cbv)))); (try (with_reducible rfl)))) ?_
    refine headQ_of (by ((conv => lhs; cbv); (try (with_reducible rfl)))) ?_
    exact ⟨hjl, by rw [inc]⟩
  · obtain rfl : j = l.length := by omega
    have c1 := ltF hA (a := I l.length) (b := N) (by rw [hI]; omega)
    refine wpV_of (by ((conv => lhs; cbv); (repeat ((first | rewrite [c1]); (try (conv => lhs; cbv)))); (try (with_reducible rfl)))) ?_
    show wpV _ _ _ _ _ _
    (refine wpV_of (by ((conv => lhs; cbv); (try (with_reducible rfl)))) ?_; (show finV _ _ _ = some _; ((conv => lhs; cbv); (try (with_reducible rfl))); (try rfl)))
/-! ### The plain law -/
theorem ky_range (x : Int) : 0 ≤ ky x ∧ ky x < 10 := by unfold ky; omega
theorem srt_perm (l : List Int) : ∀ k, (srt l k).Perm (l.filter fun x => decide (ky x < (k : Int)))
  | 0 => by
    have : (l.filter fun x => decide (ky x < ((0 : Nat) : Int))) = [] := by
      rw [List.filter_eq_nil_iff]
      intro x _
      have := ky_range x
      simp; omega
    rw [this]; exact List.Perm.refl _
  | k + 1 => by
    rw [srt_succ]
    refine ((srt_perm l k).append_right _).trans ?_
    clear srt_perm
    induction l with
    | nil => exact List.Perm.refl _
    | cons a r ih =>
      by_cases h1 : ky a < (k : Int)
      · have h2 : ky a < ((k + 1 : Nat) : Int) := by omega
        have h3 : ¬ ky a = (k : Int) := by omega
        simp only [List.filter_cons, h1, h2, h3, decide_true, decide_false, if_true, Bool.false_eq_true, if_false, List.cons_append]
        exact ih.cons a
      · by_cases h3 : ky a = (k : Int)
        · have h2 : ky a < ((k + 1 : Nat) : Int) := by omega
          simp only [List.filter_cons, h1, h2, h3, decide_true, decide_false, if_true, Bool.false_eq_true, if_false]
          have h4 : decide ((k : Int) < ((k + 1 : Nat) : Int)) = true := by simp; omega
          have h5 : decide ((k : Int) < (k : Int)) = false := by simp
          simp only [h4, h5, if_true, Bool.false_eq_true, if_false]
          exact List.perm_middle.trans (ih.cons a)
        · have h2 : ¬ ky a < ((k + 1 : Nat) : Int) := by omega
          simp only [List.filter_cons, h1, h2, h3, decide_false, Bool.false_eq_true, if_false]
          exact ih
theorem srt_all (l : List Int) : (srt l 10).Perm l := by
  have h := srt_perm l 10
  have : (l.filter fun x => decide (ky x < ((10 : Nat) : Int))) = l := by
    rw [List.filter_eq_self]
    intro x _
    have := ky_range x
    simp; omega
  rwa [this] at h
theorem srt_mem {l : List Int} {k : Nat} {x : Int} (h : x ∈ srt l k) : ky x < (k : Int) := by
  have := (srt_perm l k).mem_iff.1 h
  simp only [List.mem_filter, decide_eq_true_eq] at this
  exact this.2
theorem srt_sorted (l : List Int) : ∀ k, (srt l k).Pairwise fun a b => ky a ≤ ky b
  | 0 => by simp [srt]
  | k + 1 => by
    rw [srt_succ, List.pairwise_append]
    refine ⟨srt_sorted l k, ?_, fun a ha b hb => ?_⟩
    · rw [List.pairwise_iff_forall_sublist]
      intro a b h
      have h1 : a ∈ l.filter fun x => decide (ky x = (k : Int)) := h.subset (by simp)
      have h2 : b ∈ l.filter fun x => decide (ky x = (k : Int)) := h.subset (by simp)
      simp only [List.mem_filter, decide_eq_true_eq] at h1 h2
      omega
    · have h1 := srt_mem ha
      simp only [List.mem_filter, decide_eq_true_eq] at hb
      omega
/-- The remainders of the best ones are the first ones of all. -/
theorem best_law {K : Nat} {L c o : List Int} (h : Off K L c) (ho : o.Perm c) (hs : o.Pairwise fun a b => ky a ≤ ky b) {l : List Int} (hl : L.Perm l) : o.map ky = ((srt l 10).take (min K l.length)).map ky ∧ ∀ x, x ∈ o → x ∈ l := by
  obtain ⟨h1, d, h2, h3⟩ := h
  have hll := hl.length_eq
  refine ⟨?_, fun x hx => hl.mem_iff.1 (h2.mem_iff.2 (List.mem_append.2 (.inl (ho.mem_iff.1 hx))))⟩
  -- the others, in order
  obtain ⟨e, he⟩ : ∃ e, e = srt d 10 := ⟨_, rfl⟩
  have he1 : e.Perm d := by rw [he]; exact srt_all d
  have he2 : e.Pairwise fun a b => ky a ≤ ky b := by rw [he]; exact srt_sorted d 10
  have hp : ((o ++ e).map ky).Perm ((srt l 10).map ky) := by
    refine List.Perm.map ky ?_
    refine ((ho.append he1).trans ?_).trans (srt_all l).symm
    exact h2.symm.trans hl
  have hs1 : ((o ++ e).map ky).Pairwise fun a b => a ≤ b := by
    rw [List.pairwise_map, List.pairwise_append]
    exact ⟨hs, he2, fun a ha b hb => h3 a (ho.mem_iff.1 ha) b (he1.mem_iff.1 hb)⟩
  have hs2 : ((srt l 10).map ky).Pairwise fun a b => a ≤ b := by
    rw [List.pairwise_map]; exact srt_sorted l 10
  have heq := List.Perm.eq_of_pairwise (le := fun a b : Int => a ≤ b) (fun a b _ _ h1 h2 => by omega) hs1 hs2 hp
  rw [List.map_take, ← heq, List.map_append]
  have hol : (o.map ky).length = min K l.length := by rw [List.length_map, ho.length_eq, h1, hll]
  rw [← hol]
  simp
end Go.Proofs.Ytlbmknejhmmjnaa
