/- A heap of numbers, gone through: taking the first one out; the best ones. -/
import Derived.Test.YtlbmknejhmmjnaaSHI
set_option linter.unusedSimpArgs false
set_option linter.unusedVariables false
set_option maxRecDepth 100000
set_option maxHeartbeats 1000000
set_option cbv.maxSteps 10000000
namespace Go.Proofs.Ytlbmknejhmmjnaa
open Go GoV

theorem p42 (es : List (List IV)) (n : Nat) (h1 : 1 ≤ n) (h2 : n ≤ es.length) (h3 : n ≤ 100000) : Pn 2 42 [.one (.slo 0 0 n), i64 ((n - 1 : Nat) : Int), i64 n] [.arr false false 1 es] (.one (.slo 0 0 (n - 1))) [.arr false false 1 (rOver es (n - 1) [e1 0])] := by
  refine playN 1 rfl rfl fun A call hA hcall => ?_
  obtain ⟨N, hN⟩ : ∃ v : Int, v = n := ⟨_, rfl⟩
  obtain ⟨n1, hn1⟩ : ∃ v : Nat, v = n - 1 := ⟨_, rfl⟩
  obtain ⟨N1, hN1⟩ : ∃ v : Int, v = n1 := ⟨_, rfl⟩
  rw [← hn1, ← hN, ← hN1]
  have o1 := ofNR hA hN
  have o2 := ofNR hA hN1
  have e1' := eqF hA (a := N1) (b := N) (by omega)
  have hle : n1 ≤ n := by omega
  have hle2 : n1 ≤ es.length := by omega
  have hnn : n - n1 = 1 := by omega
  have c1 : A .cuts 0 n (A .ln es) (some N1) (some N) (some N) = some (n1, 1) := by
    rw [hA, hN1, hN, real_cuts, real_ln]; simp [rCuts, rBound, h2, hle, hle2, hnn]
  have c1' : A .cuts 0 n (A .ln es) (some N) (some N) (some N) = some (n, 0) := by
    rw [hA, hN, real_cuts, real_ln]; simp [rCuts, rBound, h2]
  have c1'' : A .cuts 0 n (A .ln es) (some N1) (some N) none = some (n1, 1) := by
    rw [hA, hN1, hN, real_cuts, real_ln]; simp [rCuts, rBound, h2, hle, hle2, hnn]
  have c2 : A .cuts 0 n (A .ln es) none (some N1) none = some (0, n1) := by
    rw [hA, hN1, real_cuts, real_ln]; simp [rCuts, rBound, h2, hle, hle2, hnn]
  have c3 : A .cuts 0 n (A .ln es) (some N) none none = some (n, 0) := by
    rw [hA, hN, real_cuts, real_ln]; simp [rCuts, rBound, h2]
  have c4 : A .cuts 0 n1 (A .ln es) (some N1) (some N) none = some (n1, 1) := by
    rw [hA, hN1, hN, real_cuts, real_ln]; simp [rCuts, rBound, h2, hle, hle2, hnn]
  have s1 : A .seg es n 0 = [] := by rw [hA, real_seg]; simp [rSeg]
  have a1 : A .apo 8 0 n1 es [] = some (false, es) := by
    rw [hA, real_apo]
    have h4 : ¬ (0 + n1 = es.length) := by omega
    have h5 : 0 + n1 + ([] : List (List IV)).length ≤ es.length := by simp; omega
    simp only [rApo, if_neg h4, if_pos h5, rOver]
    simp
  have l1 : A .addN n1 (A .ln []) = n1 := by rw [hA]; rfl
  have v1 : A .over es n1 (A .zeros [.int .i64 0] 1) = rOver es n1 [e1 0] := by rw [hA]; rfl
  generalize rOver es n1 [e1 0] = es2 at *
  apply wpV_seq; refine wpV_of (by ((conv => lhs; cbv); (try (with_reducible rfl)))) ?_
  apply wpV_seq; refine wpV_of (by ((conv => lhs; cbv); (repeat ((first | rewrite [o1] | rewrite [c1'] | rewrite [c1'']); (try (conv => lhs; cbv)))); (try (with_reducible rfl)))) ?_
  apply wpV_seq; refine wpV_of (by ((conv => lhs; cbv); (repeat ((first | rewrite [e1']); (try (conv => lhs; cbv)))); (try (with_reducible rfl)))) ?_
  apply wpV_seq; refine wpV_of (by ((conv => lhs; cbv); (repeat ((first | rewrite [o1]); (try (conv => lhs; cbv)))); (try (with_reducible rfl)))) ?_
  apply wpV_seq; refine wpV_of (by ((conv => lhs; cbv); (repeat ((first | rewrite [c2] | rewrite [c3] | rewrite [s1] | rewrite [a1] | rewrite [l1]); (try (conv => lhs; cbv)))); (try (with_reducible rfl)))) ?_
  apply wpV_seq; refine wpV_of (by ((conv => lhs; cbv); (repeat ((first | rewrite [l1] | rewrite [o1] | rewrite [o2] | rewrite [c4] | rewrite [v1]); (try (conv => lhs; cbv)))); (try (with_reducible rfl)))) ?_
  (refine wpV_of (by ((conv => lhs; cbv); (repeat ((first | rewrite [l1] | rewrite [v1]); (try (conv => lhs; cbv)))); (try (with_reducible rfl)))) ?_; (show finV _ _ _ = some _; ((conv => lhs; cbv); (repeat ((first | rewrite [l1] | rewrite [v1]); (try (conv => lhs; cbv)))); (try (with_reducible rfl))); (try rfl)))
theorem p39e (es : List (List IV)) : Pn 4 39 [.one (.ptr 0 0)] (hbk 0 false es) (.tup [(false, [.iv (.int .i64 0)]), (false, [.iv (.bool false)])]) (hbk 0 false es) := by
  refine playN 3 rfl rfl fun A call hA hcall => ?_
  have k40 : call 40 [.one (.ptr 0 0)] (hbk 0 false es) = some (i64 0, hbk 0 false es) := by rw [hcall]; exact p40 0 es 3 (by omega)
  have e := eqT hA (a := 0) (b := 0) rfl
  apply wpV_seq; refine wpV_of (by ((conv => lhs; cbv); (try (with_reducible rfl)))) ?_
  apply wpV_seq; refine wpV_of (by ((conv => lhs; cbv); (try (with_reducible rfl)))) ?_
  (refine wpV_of (by ((conv => lhs; cbv); (repeat ((first | rewrite [k40] | rewrite [e]); (try (conv => lhs; cbv)))); (try (with_reducible rfl)))) ?_; (show finV _ _ _ = some _; ((conv => lhs; cbv); (repeat ((first | rewrite [k40] | rewrite [e]); (try (conv => lhs; cbv)))); (try (with_reducible rfl))); (try rfl)))
/-- The first one out. -/
theorem p39 (c : List Int) (zs : List (List IV)) (hc : Heap ltB c) (h0 : 0 < c.length) (hl : c.length ≤ 1000) (hin : ∀ y, y ∈ c → inR y) :
    ∃ r, (∃ c' zs', Heap ltB c' ∧ (c[0] :: c').Perm c ∧ r = ((.tup [(false, [.iv (.int .i64 c[0])]), (false, [.iv (.bool true)])] : FV), hbk (c.length - 1) false (c'.map e1 ++ zs'))) ∧ ∀ m, 1111 ≤ m → play real (lookT tab) (fun _ => clonePr clones) m 39 [.one (.ptr 0 0)] (hbk c.length false (c.map e1 ++ zs)) = some r := by
  refine playE 1110 (vf := v39) rfl rfl fun A call hA hcall => ?_
  obtain ⟨d, hd⟩ : ∃ d, d = popL c h0 := ⟨_, rfl⟩
  have hdl : d.length = c.length - 1 := by rw [hd, popL_len]
  have hdp : (c[0] :: d).Perm c := by rw [hd]; exact popL_perm c h0
  have hdin : ∀ y, y ∈ d → inR y := fun y hy => hin y (hdp.mem_iff.1 (List.mem_cons_of_mem _ hy))
  obtain ⟨r, ⟨c', hc', hp', hr⟩, k64⟩ := p64 d ([.int .i64 0] :: zs) (by rw [hd]; exact pop_dn hc h0) (by omega) hdin
  have k64 := k64 1110 (by omega)
  have k40 := p40 c.length (c.map e1 ++ zs) 1110 (by omega)
  obtain ⟨ar, har⟩ : ∃ ar : List Int → List (List IV) → List (List IV), ∀ c zs, ar c zs = c.map e1 ++ zs := ⟨_, fun _ _ => rfl⟩
  have g1 := getNR hA (zs := zs) h0
  have g2 := getNR hA (c := c) (zs := zs) (i := c.length - 1) (by omega)
  have w1 := setR hA (zs := zs) h0 (c[c.length - 1]'(by omega))
  have k42 := p42 (ar (c.set 0 (c[c.length - 1]'(by omega))) zs) c.length (by omega) (by rw [har]; simp) (by omega) 1110 (by omega)
  have e3 : rOver (ar (c.set 0 (c[c.length - 1]'(by omega))) zs) (c.length - 1) [e1 0] = ar d ([.int .i64 0] :: zs) := by
    rw [har, har, hd]
    obtain ⟨q, hq⟩ : ∃ q, q = c.set 0 (c[c.length - 1]'(by omega)) := ⟨_, rfl⟩
    have hql : q.length = c.length := by rw [hq]; simp
    rw [show popL c h0 = q.take (c.length - 1) by rw [popL, hq], ← hq]
    have q1 : (q.map e1 ++ zs).take (c.length - 1) = (q.take (c.length - 1)).map e1 := by
      rw [List.take_append_of_le_length (by simp [hql]), List.map_take]
    have q2 : (q.map e1 ++ zs).drop (c.length - 1 + [e1 0].length) = zs := by
      rw [show c.length - 1 + [e1 0].length = (q.map e1).length by simp only [List.length_map, List.length_singleton, hql]; omega]
      exact List.drop_left
    rw [rOver, q1, q2]
    simp [e1]
  rw [e3] at k42
  rw [← har] at g1 g2 w1 k40 k64 ⊢
  rw [← har] at w1
  rw [hdl] at k64
  obtain ⟨n, hn⟩ : ∃ n, n = c.length := ⟨_, rfl⟩
  obtain ⟨n1, hn1⟩ : ∃ v : Nat, v = n - 1 := ⟨_, rfl⟩
  obtain ⟨N, hN⟩ : ∃ v : Int, v = n := ⟨_, rfl⟩
  obtain ⟨N1, hN1⟩ : ∃ v : Int, v = n1 := ⟨_, rfl⟩
  rw [hdl] at hr
  have hn1l : n1 < c.length := by omega
  simp only [← hn] at k42 k64 k40 g2 w1 hr hdl ⊢
  simp only [← hn1] at k42 k64 g2 w1 hr ⊢
  rw [← hN1, ← hN] at k42
  rw [← hN] at k40
  rw [← hcall] at k40 k42 k64
  have ea := eqF hA (a := N) (b := 0) (by omega)
  have o1 := ofNR hA hN
  have sb := subR hA (a := N) (b := 1) (c := N1) (by omega) (by omega)
  have ad := addR hA (a := N1) (b := 1) (c := N) (by omega) (by omega)
  have at0 : A .at_ 0 n = some 0 := atR hA (x := 0) (i := 0) rfl (by omega)
  have at1 := atR hA (n := n) hN1 (by omega)
  have hfin : ∃ c'' zs', Heap ltB c'' ∧ (c[0] :: c'').Perm c ∧ ((.tup [(false, [.iv (.int .i64 c[0])]), (false, [.iv (.bool true)])] : FV), hbk n1 false (ar c' ([.int .i64 0] :: zs))) = ((.tup [(false, [.iv (.int .i64 c[0])]), (false, [.iv (.bool true)])] : FV), hbk n1 false (c''.map e1 ++ zs')) :=
    ⟨c', [.int .i64 0] :: zs, hc', (hp'.cons _).trans hdp, by rw [har]⟩
  rw [← har] at hr
  subst hr
  generalize ar (c.set 0 c[n1]) zs = E1 at *
  generalize ar d ([.int .i64 0] :: zs) = E2 at *
  generalize ar c' ([.int .i64 0] :: zs) = E3 at *
  generalize ar c zs = E at *
  obtain ⟨x0, hx0⟩ : ∃ x, x = c[0] := ⟨_, rfl⟩
  obtain ⟨x1, hx1⟩ : ∃ x, x = c[n1] := ⟨_, rfl⟩
  simp only [← hx0, ← hx1] at g1 g2 w1 hfin ⊢
  dsimp only [e1] at g1 g2 w1
  apply wpV_seq; refine wpV_of (by ((conv => lhs; cbv); (try (with_reducible rfl)))) ?_
  apply wpV_seq; refine wpV_of (by ((conv => lhs; cbv); (try (with_reducible rfl)))) ?_
  apply wpV_seq; refine wpV_of (by ((conv => lhs; cbv); (repeat ((first | rewrite [k40] | rewrite [ea]); (try (conv => lhs; cbv)))); (try (with_reducible rfl)))) ?_
  apply wpV_seq; refine wpV_of (by ((conv => lhs; cbv); (repeat ((first | rewrite [at0] | rewrite [g1]); (try (conv => lhs; cbv)))); (try (with_reducible rfl)))) ?_
  apply wpV_seq; refine wpV_of (by ((conv => lhs; cbv); (repeat ((first | rewrite [o1] | rewrite [sb]); (try (conv => lhs; cbv)))); (try (with_reducible rfl)))) ?_
  apply wpV_seq; refine wpV_of (by ((conv => lhs; cbv); (repeat ((first | rewrite [o1] | rewrite [sb] | rewrite [at0] | rewrite [at1] | rewrite [g2] | rewrite [w1]); (try (conv => lhs; cbv)))); (try (with_reducible rfl)))) ?_
  apply wpV_seq; refine wpV_of (by ((conv => lhs; cbv); (repeat ((first | rewrite [o1] | rewrite [sb] | rewrite [ad] | rewrite [k42]); (try (conv => lhs; cbv)))); (try (with_reducible rfl)))) ?_
  apply wpV_seq; refine wpV_of (by ((conv => lhs; cbv); (repeat ((first | rewrite [k64]); (try (conv => lhs; cbv)))); (try (with_reducible rfl)))) ?_
  refine wpV_of (by ((conv => lhs; cbv); (try (with_reducible rfl)))) ?_
  exact ⟨_, hfin, by (show finV _ _ _ = some _; ((conv => lhs; cbv); (try (with_reducible rfl))); (try rfl))⟩
end Go.Proofs.Ytlbmknejhmmjnaa
