/- The best ones, gone through: taking all out, in order. -/
import Derived.Test.YtlbmknejhmmjnaaSMK
set_option linter.unusedSimpArgs false
set_option linter.unusedVariables false
set_option maxRecDepth 100000
set_option maxHeartbeats 1000000
set_option cbv.maxSteps 10000000
namespace Go.Proofs.Ytlbmknejhmmjnaa
open Go GoV

theorem apo_e1 {A : Ar} (hA : A = real) {l : List Int} {v : Int} {j : Nat} (hj : j = l.length) (h : l.length ≤ 1000000000) : A .apo 8 0 j (l.map e1) [e1 v] = some (true, (l ++ [v]).map e1) ∧ A .ln ((l ++ [v]).map e1) = j + 1 := by
  rw [hA, real_apo, real_ln]
  have : (l.length + 1) * 8 ≤ room := by unfold room; omega
  subst hj
  simp [rApo, this]
/-- Take. -/
theorem p16 (K : Nat) (c : List Int) (zs : List (List IV)) (hc : Heap ltB c) (hl : c.length ≤ 900) (hin : ∀ y, y ∈ c → inR y) :
    ∃ r, (∃ (o : List Int) (zs' : List (List IV)), o.Perm c ∧ o.Pairwise (fun a b => ky a ≤ ky b) ∧ r = ((.one (.slo 4 0 c.length) : FV), bbk K 0 false zs' ++ [.arr false false 1 (o.map e1)])) ∧ ∀ m, 1202 ≤ m → play real (lookT tab) (fun _ => clonePr clones) m 16 [.one (.ptr 0 0)] (bbk K c.length false (c.map e1 ++ zs)) = some r := by
  refine playE 1201 (vf := v16) rfl rfl fun A call hA hcall => ?_
  have k40 : ∀ n es, call 40 [.one (.ptr 0 0)] (hbk n false es) = some (i64 n, hbk n false es) := fun n es => by rw [hcall]; exact p40 n es 1201 (by omega)
  have k39 : ∀ (c : List Int) zs, Heap ltB c → (h0 : 0 < c.length) → c.length ≤ 1000 → (∀ y, y ∈ c → inR y) → ∃ c' zs', Heap ltB c' ∧ (c[0] :: c').Perm c ∧ call 39 [.one (.ptr 0 0)] (hbk c.length false (c.map e1 ++ zs)) = some ((.tup [(false, [.iv (.int .i64 c[0])]), (false, [.iv (.bool true)])] : FV), hbk (c.length - 1) false (c'.map e1 ++ zs')) := fun c zs h1 h2 h3 h4 => by
    obtain ⟨r, ⟨c', zs', q1, q2, rfl⟩, q3⟩ := p39 c zs h1 h2 h3 h4
    exact ⟨c', zs', q1, q2, by rw [hcall]; exact q3 1201 (by omega)⟩
  have k50 : ∀ l : List Int, l.length ≤ 1000 → call 50 [.one (.slo 0 0 l.length)] [.arr false false 1 (l.map e1)] = some ((.tup [] : FV), [.arr false false 1 (l.reverse.map e1)]) := fun l h => by rw [hcall]; exact p50 l h 1201 (by omega)
  obtain ⟨ar, har⟩ : ∃ ar : List Int → List (List IV) → List (List IV), ∀ c zs, ar c zs = c.map e1 ++ zs := ⟨_, fun _ _ => rfl⟩
  obtain ⟨mp, hmp⟩ : ∃ mp : List Int → List (List IV), ∀ c, mp c = c.map e1 := ⟨_, fun _ => rfl⟩
  obtain ⟨n, hn⟩ : ∃ n, n = c.length := ⟨_, rfl⟩
  obtain ⟨KK, hKK⟩ : ∃ v : Int, v = K := ⟨_, rfl⟩
  simp only [← har] at k39 ⊢
  simp only [← hmp] at k50 ⊢
  rw [← hn, ← hKK]
  apply wpV_seq; refine wpV_of (by ((conv => lhs; cbv); (try (with_reducible rfl)))) ?_
  apply wpV_seq; refine wpV_of (by ((conv => lhs; cbv); (try (with_reducible rfl)))) ?_
  apply wpV_seq; refine wpV_of (by ((conv => lhs; cbv); (try (with_reducible rfl)))) ?_
  apply wpV_seq; apply wpV_block
  refine wpV_loop n (fun j st => ∃ (c' : List Int) (zs' : List (List IV)) (out : List Int), (Heap ltB c' ∧ (out ++ c').Perm c ∧ out.Pairwise (fun a b => ky b ≤ ky a) ∧ (∀ a, a ∈ out → ∀ b, b ∈ c' → ky b ≤ ky a) ∧ out.length = j ∧ c'.length = n - j) ∧
      st = ⟨4, [.one (.ptr 0 0), u, u, .one (.slo 4 0 j), u, u, u, u, u, u, u, u, u, u, u, u, u, u, u, u, u, u, u, u, u, u, u, u, u, u], bbk KK (n - j) false (ar c' zs') ++ [.arr false false 1 (mp out)]⟩) (by omega) (by ((conv => lhs; cbv); (try (with_reducible rfl)))) ⟨c, zs, [], ⟨hc, by simp, List.Pairwise.nil, by simp, rfl, by omega⟩, by rw [hmp]; rfl⟩ ?_
  rintro j hj st ⟨c', zs', out, ⟨hc', hpm, hpw, hle, hol, hcl⟩, rfl⟩
  have hin' : ∀ y, y ∈ c' → inR y := fun y hy => hin y (hpm.mem_iff.1 (by simp [hy]))
  obtain ⟨M, hM⟩ : ∃ v : Nat, v = n - j := ⟨_, rfl⟩
  rw [← hM] at hcl ⊢
  obtain ⟨MM, hMM⟩ : ∃ v : Int, v = M := ⟨_, rfl⟩
  have k40' := k40 M (ar c' zs')
  rw [← hMM] at k40'
  by_cases hjn : j < n
  · have g := gtT hA (a := MM) (b := 0) (by omega)
    obtain ⟨c2, zs2, h1, h2, h3⟩ := k39 c' zs' hc' (by omega) (by omega) hin'
    have hmx := heap_max hc' (by omega)
    obtain ⟨y, hy⟩ : ∃ y, y = c'[0]'(by omega) := ⟨_, rfl⟩
    rw [← hy] at h2 h3 hmx
    have hc2l : c2.length = n - (j + 1) := by have := h2.length_eq; simp only [List.length_cons] at this; omega
    rw [hcl] at h3
    obtain ⟨M1, hM1⟩ : ∃ v : Nat, v = n - (j + 1) := ⟨_, rfl⟩
    rw [show M - 1 = M1 by omega] at h3
    obtain ⟨a1, a2⟩ := apo_e1 hA (l := out) (v := y) (j := j) hol.symm (by omega)
    rw [← hmp] at a1 a2
    rw [← hmp] at a1
    have hinv : Heap ltB c2 ∧ ((out ++ [y]) ++ c2).Perm c ∧ (out ++ [y]).Pairwise (fun a b => ky b ≤ ky a) ∧ (∀ a, a ∈ out ++ [y] → ∀ b, b ∈ c2 → ky b ≤ ky a) ∧ (out ++ [y]).length = j + 1 ∧ c2.length = n - (j + 1) := by
      refine ⟨h1, ?_, ?_, fun a ha b hb => ?_, by simp [hol], hc2l⟩
      · rw [List.append_assoc]
        exact (List.Perm.append_left out h2).trans hpm
      · rw [List.pairwise_append]
        refine ⟨hpw, List.pairwise_singleton _ _, fun a ha b hb => ?_⟩
        simp only [List.mem_singleton] at hb; subst hb
        exact hle a ha _ (h2.mem_iff.1 List.mem_cons_self)
      · have hb' : b ∈ c' := h2.mem_iff.1 (List.mem_cons_of_mem _ hb)
        rcases List.mem_append.1 ha with ha | ha
        · exact hle a ha b hb'
        · simp only [List.mem_singleton] at ha; subst ha
          exact hmx b hb'
    rw [← hM1]
    generalize hE2 : ar c2 zs2 = E2 at *
    generalize hE : ar c' zs' = E at *
    generalize hO : mp (out ++ [y]) = O at *
    generalize mp out = O1 at *
    dsimp only [e1] at a1
    refine wpV_of (by ((conv => lhs; cbv); (repeat ((first | rewrite [k40'] | rewrite [g] | rewrite [h3] | rewrite [a1] | rewrite [a2]); (try (conv => lhs; cbv)))); (try (with_reducible rfl)))) ?_
    refine headQ_of (by ((conv => lhs; cbv); (try (with_reducible rfl)))) ?_
    rw [hM1]
    exact ⟨hjn, c2, zs2, out ++ [y], hinv, by rw [hE2, hO, a2, ← hM1]; rfl⟩
  · obtain rfl : j = n := by omega
    have g := gtF hA (a := MM) (b := 0) (by omega)
    obtain rfl : c' = [] := List.eq_nil_of_length_eq_zero (by omega)
    have k50' := k50 out (by omega)
    rw [hol] at k50'
    have hfin : ∃ (o : List Int) (zs'' : List (List IV)), o.Perm c ∧ o.Pairwise (fun a b => ky a ≤ ky b) ∧ ((.one (.slo 4 0 j) : FV), bbk KK 0 false (ar [] zs') ++ [.arr false false 1 (mp out.reverse)]) = ((.one (.slo 4 0 j) : FV), bbk KK 0 false zs'' ++ [.arr false false 1 (mp o)]) := by
      refine ⟨out.reverse, ar [] zs', ?_, List.pairwise_reverse.2 hpw, rfl⟩
      simp only [List.append_nil] at hpm
      exact (List.reverse_perm out).trans hpm
    have hM0 : M = 0 := by omega
    subst hM0
    generalize ar [] zs' = E at *
    generalize mp out.reverse = O at *
    generalize mp out = O1 at *
    refine wpV_of (by ((conv => lhs; cbv); (repeat ((first | rewrite [k40'] | rewrite [g]); (try (conv => lhs; cbv)))); (try (with_reducible rfl)))) ?_
    show wpV _ _ _ _ _ _
    apply wpV_seq; refine wpV_of (by ((conv => lhs; cbv); (repeat ((first | rewrite [k50']); (try (conv => lhs; cbv)))); (try (with_reducible rfl)))) ?_
    refine wpV_of (by ((conv => lhs; cbv); (try (with_reducible rfl)))) ?_
    exact ⟨_, hfin, by (show finV _ _ _ = some _; ((conv => lhs; cbv); (try (with_reducible rfl))); (try rfl))⟩
end Go.Proofs.Ytlbmknejhmmjnaa
