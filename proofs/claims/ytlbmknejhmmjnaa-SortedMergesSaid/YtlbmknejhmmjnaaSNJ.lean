/- A heap of heads of lists, gone through: taking the first one out. -/
import Derived.Test.YtlbmknejhmmjnaaSNI
set_option linter.unusedSimpArgs false
set_option linter.unusedVariables false
set_option maxRecDepth 100000
set_option maxHeartbeats 1000000
set_option cbv.maxSteps 10000000
namespace Go.Proofs.Ytlbmknejhmmjnaa
open Go GoV

abbrev eZ : List IV := [.int .i64 0, .int .i64 0, .sl true 0 []]
abbrev hL (h : Hd) : List LV := [.iv (.int .i64 h.x), .iv (.int .i64 h.i), .iv (.sl h.f 1 h.r)]
theorem q69 (es : List (List IV)) (n : Nat) (h1 : 1 ≤ n) (h2 : n ≤ es.length) (h3 : n ≤ 100000) : Pn 2 69 [.one (.slo 0 0 n), i64 ((n - 1 : Nat) : Int), i64 n] [.arr false false 3 es] (.one (.slo 0 0 (n - 1))) [.arr false false 3 (rOver es (n - 1) [eZ])] := by
  refine playN 1 rfl rfl fun A call hA hcall => ?_
  obtain ⟨N, hN⟩ : ∃ v : Int, v = n := ⟨_, rfl⟩
  obtain ⟨n1, hn1⟩ : ∃ v : Nat, v = n - 1 := ⟨_, rfl⟩
  obtain ⟨N1, hN1⟩ : ∃ v : Int, v = n1 := ⟨_, rfl⟩
  rw [← hn1, ← hN, ← hN1]
  have o1 := ofNR hA hN
  have o2 := ofNR hA hN1
  have e1' := eqF hA (a := N1) (b := N) (by omega)
  have hle : n1 ≤ n := by omega
  have hle2 : n1 ≤ es.length := by omega
  have hnn : n - n1 = 1 := by omega
  have c1 : A .cuts 0 n (A .ln es) (some N1) (some N) (some N) = some (n1, 1) := by
    rw [hA, hN1, hN, real_cuts, real_ln]; simp [rCuts, rBound, h2, hle, hle2, hnn]
  have c2 : A .cuts 0 n (A .ln es) none (some N1) none = some (0, n1) := by
    rw [hA, hN1, real_cuts, real_ln]; simp [rCuts, rBound, h2, hle, hle2, hnn]
  have c3 : A .cuts 0 n (A .ln es) (some N) none none = some (n, 0) := by
    rw [hA, hN, real_cuts, real_ln]; simp [rCuts, rBound, h2]
  have c4 : A .cuts 0 n1 (A .ln es) (some N1) (some N) none = some (n1, 1) := by
    rw [hA, hN1, hN, real_cuts, real_ln]; simp [rCuts, rBound, h2, hle, hle2, hnn]
  have s1 : A .seg es n 0 = [] := by rw [hA, real_seg]; simp [rSeg]
  have a1 : A .apo 40 0 n1 es [] = some (false, es) := by
    rw [hA, real_apo]
    have h4 : ¬ (0 + n1 = es.length) := by omega
    have h5 : 0 + n1 + ([] : List (List IV)).length ≤ es.length := by simp; omega
    simp only [rApo, if_neg h4, if_pos h5, rOver]
    simp
  have l1 : A .addN n1 (A .ln []) = n1 := by rw [hA]; rfl
  have v1 : A .over es n1 (A .zeros eZ 1) = rOver es n1 [eZ] := by rw [hA]; rfl
  generalize rOver es n1 [eZ] = es2 at *
  apply wpV_seq; refine wpV_of (by ((conv => lhs; cbv); (try (with_reducible rfl)))) ?_
  apply wpV_seq; refine wpV_of (by ((conv => lhs; cbv); (repeat ((first | rewrite [o1] | rewrite [c1]); (try (conv => lhs; cbv)))); (try (with_reducible rfl)))) ?_
  apply wpV_seq; refine wpV_of (by ((conv => lhs; cbv); (repeat ((first | rewrite [e1']); (try (conv => lhs; cbv)))); (try (with_reducible rfl)))) ?_
  apply wpV_seq; refine wpV_of (by ((conv => lhs; cbv); (repeat ((first | rewrite [o1]); (try (conv => lhs; cbv)))); (try (with_reducible rfl)))) ?_
  apply wpV_seq; refine wpV_of (by ((conv => lhs; cbv); (repeat ((first | rewrite [c2] | rewrite [c3] | rewrite [s1] | rewrite [a1] | rewrite [l1]); (try (conv => lhs; cbv)))); (try (with_reducible rfl)))) ?_
  apply wpV_seq; refine wpV_of (by ((conv => lhs; cbv); (repeat ((first | rewrite [l1] | rewrite [o1] | rewrite [o2] | rewrite [c4] | rewrite [v1]); (try (conv => lhs; cbv)))); (try (with_reducible rfl)))) ?_
  (refine wpV_of (by ((conv => lhs; cbv); (repeat ((first | rewrite [l1] | rewrite [v1]); (try (conv => lhs; cbv)))); (try (with_reducible rfl)))) ?_; (show finV _ _ _ = some _; ((conv => lhs; cbv); (repeat ((first | rewrite [l1] | rewrite [v1]); (try (conv => lhs; cbv)))); (try (with_reducible rfl))); (try rfl)))
theorem q48e (es : List (List IV)) : Pn 4 48 [.one (.ptr 0 0)] (hbh 0 false es) (.tup [(true, [.iv (.int .i64 0), .iv (.int .i64 0), .iv (.sl true 0 [])]), (false, [.iv (.bool false)])]) (hbh 0 false es) := by
  refine playN 3 rfl rfl fun A call hA hcall => ?_
  have j68 : call 68 [.one (.ptr 0 0)] (hbh 0 false es) = some (i64 0, hbh 0 false es) := by rw [hcall]; exact q68 0 es 3 (by omega)
  have e := eqT hA (a := 0) (b := 0) rfl
  apply wpV_seq; refine wpV_of (by ((conv => lhs; cbv); (try (with_reducible rfl)))) ?_
  apply wpV_seq; refine wpV_of (by ((conv => lhs; cbv); (try (with_reducible rfl)))) ?_
  (refine wpV_of (by ((conv => lhs; cbv); (repeat ((first | rewrite [j68] | rewrite [e]); (try (conv => lhs; cbv)))); (try (with_reducible rfl)))) ?_; (show finV _ _ _ = some _; ((conv => lhs; cbv); (repeat ((first | rewrite [j68] | rewrite [e]); (try (conv => lhs; cbv)))); (try (with_reducible rfl))); (try rfl)))
/-- The first one out. -/
theorem q48 (c : List Hd) (zs : List (List IV)) (hc : Heap ltH c) (h0 : 0 < c.length) (hl : c.length ≤ 1000) (hin : ∀ y, y ∈ c → inH y) :
    ∃ r, (∃ c' zs', Heap ltH c' ∧ (c[0] :: c').Perm c ∧ r = ((.tup [(true, hL c[0]), (false, [.iv (.bool true)])] : FV), hbh (c.length - 1) false (c'.map eH ++ zs'))) ∧ ∀ m, 1111 ≤ m → play real (lookT tab) (fun _ => clonePr clones) m 48 [.one (.ptr 0 0)] (hbh c.length false (c.map eH ++ zs)) = some r := by
  refine playE 1110 (vf := v48) rfl rfl fun A call hA hcall => ?_
  obtain ⟨d, hd⟩ : ∃ d, d = popL c h0 := ⟨_, rfl⟩
  have hdl : d.length = c.length - 1 := by rw [hd, popL_len]
  have hdp : (c[0] :: d).Perm c := by rw [hd]; exact popL_perm c h0
  have hdin : ∀ y, y ∈ d → inH y := fun y hy => hin y (hdp.mem_iff.1 (List.mem_cons_of_mem _ hy))
  obtain ⟨r, ⟨c', hc', hp', hr⟩, j70⟩ := q70 d (eZ :: zs) (by rw [hd]; exact pop_dn hc h0) (by omega) hdin
  have j70 := j70 1110 (by omega)
  have j68 := q68 c.length (c.map eH ++ zs) 1110 (by omega)
  obtain ⟨ar, har⟩ : ∃ ar : List Hd → List (List IV) → List (List IV), ∀ c zs, ar c zs = c.map eH ++ zs := ⟨_, fun _ _ => rfl⟩
  have g1 := getNH hA (zs := zs) h0
  have g2 := getNH hA (c := c) (zs := zs) (i := c.length - 1) (by omega)
  have w1 := setH hA (zs := zs) h0 (c[c.length - 1]'(by omega))
  have j69 := q69 (ar (c.set 0 (c[c.length - 1]'(by omega))) zs) c.length (by omega) (by rw [har]; simp) (by omega) 1110 (by omega)
  have e3 : rOver (ar (c.set 0 (c[c.length - 1]'(by omega))) zs) (c.length - 1) [eZ] = ar d (eZ :: zs) := by
    rw [har, har, hd]
    obtain ⟨q, hq⟩ : ∃ q, q = c.set 0 (c[c.length - 1]'(by omega)) := ⟨_, rfl⟩
    have hql : q.length = c.length := by rw [hq]; simp
    rw [show popL c h0 = q.take (c.length - 1) by rw [popL, hq], ← hq]
    have q1 : (q.map eH ++ zs).take (c.length - 1) = (q.take (c.length - 1)).map eH := by
      rw [List.take_append_of_le_length (by simp [hql]), List.map_take]
    have q2 : (q.map eH ++ zs).drop (c.length - 1 + [eZ].length) = zs := by
      rw [show c.length - 1 + [eZ].length = (q.map eH).length by simp only [List.length_map, List.length_singleton, hql]; omega]
      exact List.drop_left
    rw [rOver, q1, q2]
    simp
  rw [e3] at j69
  rw [← har] at g1 g2 w1 j68 j70 ⊢
  rw [← har] at w1
  rw [hdl] at j70
  obtain ⟨n, hn⟩ : ∃ n, n = c.length := ⟨_, rfl⟩
  obtain ⟨n1, hn1⟩ : ∃ v : Nat, v = n - 1 := ⟨_, rfl⟩
  obtain ⟨N, hN⟩ : ∃ v : Int, v = n := ⟨_, rfl⟩
  obtain ⟨N1, hN1⟩ : ∃ v : Int, v = n1 := ⟨_, rfl⟩
  rw [hdl] at hr
  have hn1l : n1 < c.length := by omega
  simp only [← hn] at j69 j70 j68 g2 w1 hr hdl ⊢
  simp only [← hn1] at j69 j70 g2 w1 hr ⊢
  rw [← hN1, ← hN] at j69
  rw [← hN] at j68
  rw [← hcall] at j68 j69 j70
  have ea := eqF hA (a := N) (b := 0) (by omega)
  have o1 := ofNR hA hN
  have sb := subR hA (a := N) (b := 1) (c := N1) (by omega) (by omega)
  have ad := addR hA (a := N1) (b := 1) (c := N) (by omega) (by omega)
  have at0 : A .at_ 0 n = some 0 := atR hA (x := 0) (i := 0) rfl (by omega)
  have at1 := atR hA (n := n) hN1 (by omega)
  have hfin : ∃ c'' zs', Heap ltH c'' ∧ (c[0] :: c'').Perm c ∧ ((.tup [(true, hL c[0]), (false, [.iv (.bool true)])] : FV), hbh n1 false (ar c' (eZ :: zs))) = ((.tup [(true, hL c[0]), (false, [.iv (.bool true)])] : FV), hbh n1 false (c''.map eH ++ zs')) :=
    ⟨c', eZ :: zs, hc', (hp'.cons _).trans hdp, by rw [har]⟩
  rw [← har] at hr
  subst hr
  generalize ar (c.set 0 c[n1]) zs = E1 at *
  generalize ar d (eZ :: zs) = E2 at *
  generalize ar c' (eZ :: zs) = E3 at *
  generalize ar c zs = E at *
  obtain ⟨x0, hx0⟩ : ∃ x, x = c[0] := ⟨_, rfl⟩
  obtain ⟨x1, hx1⟩ : ∃ x, x = c[n1] := ⟨_, rfl⟩
  simp only [← hx0, ← hx1] at g1 g2 w1 hfin ⊢
  obtain ⟨y0, y1, y2, y3⟩ := x0
  obtain ⟨z0, z1, z2, z3⟩ := x1
  dsimp only [eH, hL] at g1 g2 w1 hfin ⊢
  apply wpV_seq; refine wpV_of (by ((conv => lhs; cbv); (try (with_reducible rfl)))) ?_
  apply wpV_seq; refine wpV_of (by ((conv => lhs; cbv); (try (with_reducible rfl)))) ?_
  apply wpV_seq; refine wpV_of (by ((conv => lhs; cbv); (repeat ((first | rewrite [j68] | rewrite [ea]); (try (conv => lhs; cbv)))); (try (with_reducible rfl)))) ?_
  apply wpV_seq; refine wpV_of (by ((conv => lhs; cbv); (repeat ((first | rewrite [at0] | rewrite [g1]); (try (conv => lhs; cbv)))); (try (with_reducible rfl)))) ?_
  apply wpV_seq; refine wpV_of (by ((conv => lhs; cbv); (repeat ((first | rewrite [o1] | rewrite [sb]); (try (conv => lhs; cbv)))); (try (with_reducible rfl)))) ?_
  apply wpV_seq; refine wpV_of (by ((conv => lhs; cbv); (repeat ((first | rewrite [o1] | rewrite [sb] | rewrite [at0] | rewrite [at1] | rewrite [g2] | rewrite [w1]); (try (conv => lhs; cbv)))); (try (with_reducible rfl)))) ?_
  apply wpV_seq; refine wpV_of (by ((conv => lhs; cbv); (repeat ((first | rewrite [o1] | rewrite [sb] | rewrite [ad] | rewrite [j69]); (try (conv => lhs; cbv)))); (try (with_reducible rfl)))) ?_
  apply wpV_seq; refine wpV_of (by ((conv => lhs; cbv); (repeat ((first | rewrite [j70]); (try (conv => lhs; cbv)))); (try (with_reducible rfl)))) ?_
  refine wpV_of (by ((conv => lhs; cbv); (try (with_reducible rfl)))) ?_
  exact ⟨_, hfin, by (show finV _ _ _ = some _; ((conv => lhs; cbv); (try (with_reducible rfl))); (try rfl))⟩
end Go.Proofs.Ytlbmknejhmmjnaa
