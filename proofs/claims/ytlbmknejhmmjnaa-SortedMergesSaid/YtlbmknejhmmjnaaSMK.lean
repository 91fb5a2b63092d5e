/- The best ones, gone through. -/
import Derived.Test.YtlbmknejhmmjnaaSMJ
set_option linter.unusedSimpArgs false
set_option linter.unusedVariables false
set_option maxRecDepth 100000
set_option maxHeartbeats 1000000
set_option cbv.maxSteps 10000000
namespace Go.Proofs.Ytlbmknejhmmjnaa
open Go GoV

abbrev bbk (K : Int) (n : Nat) (g : Bool) (es : List (List IV)) : List Blk := [.var false [.iv (.int .i64 K), .ptr 1 0], .var false [.slo 2 0 n, .fnc 49 [(3, 0)]], .arr false g 1 es, bFn]
theorem p14 (k K : Int) (hK : K = max k 0) : Pn 10 14 [i64 k, .one (.iv (.fn 12))] [] (.one (.ptr 0 0)) (bbk K 0 false []) := by
  refine playN 9 rfl rfl fun A call hA hcall => ?_
  have k37 : call 37 [.one (.fnc 49 [(0, 0)])] [bFn] = some (.one (.ptr 1 0), [bFn, .var false [.slo 2 0 0, .fnc 49 [(0, 0)]], .arr false false 1 []]) := by
    rw [hcall]
    have h : play real (lookT tab) (fun _ => clonePr clones) 5 37 [.one (.fnc 49 [(0, 0)])] [bFn] = some (.one (.ptr 1 0), [bFn, .var false [.slo 2 0 0, .fnc 49 [(0, 0)]], .arr false false 1 []]) := by kernel_rfl
    exact play_mono pr_mono (by omega) _ _ _ _ h
  have m1 := mxR hA (a := k) (b := 0) hK
  apply wpV_seq; refine wpV_of (by ((conv => lhs; cbv); (try (with_reducible rfl)))) ?_
  apply wpV_seq; refine wpV_of (by ((conv => lhs; cbv); (try (with_reducible rfl)))) ?_
  (refine wpV_of (by ((conv => lhs; cbv); (repeat ((first | rewrite [m1] | rewrite [k37]); (try (conv => lhs; cbv)))); (try (with_reducible rfl)))) ?_; (show finV _ _ _ = some _; ((conv => lhs; cbv); (repeat ((first | rewrite [m1] | rewrite [k37]); (try (conv => lhs; cbv)))); (try (with_reducible rfl))); (try rfl)))
/-- The K first ones of L, by their remainders. -/
def Off (K : Nat) (L c : List Int) : Prop := c.length = min K L.length ∧ ∃ d, L.Perm (c ++ d) ∧ ∀ a, a ∈ c → ∀ b, b ∈ d → ky a ≤ ky b
theorem off_nil (K : Nat) : Off K [] [] := ⟨by simp, [], List.Perm.refl _, by simp⟩
theorem off_zero {L c : List Int} (h : Off 0 L c) (x : Int) : Off 0 (x :: L) c := by
  obtain ⟨h1, d, h2, h3⟩ := h
  have : c = [] := List.eq_nil_of_length_eq_zero (by omega)
  subst this
  exact ⟨by simp, x :: L, List.Perm.refl _, by simp⟩
theorem off_more {K : Nat} {L c c1 : List Int} (h : Off K L c) (x : Int) (hp : c1.Perm (x :: c)) (hk : c.length + 1 ≤ K) : Off K (x :: L) c1 := by
  obtain ⟨h1, d, h2, h3⟩ := h
  have hl := h2.length_eq
  have hc := hp.length_eq
  simp only [List.length_append, List.length_cons] at hl hc
  have : d = [] := List.eq_nil_of_length_eq_zero (by omega)
  subst this
  refine ⟨by simp only [List.length_cons]; omega, [], ?_, by simp⟩
  simp only [List.append_nil] at h2 ⊢
  exact (h2.cons x).trans hp.symm
theorem off_pop {K : Nat} {L c c1 c' : List Int} {x y : Int} (h : Off K L c) (hp : c1.Perm (x :: c)) (hq : (y :: c').Perm c1) (hk : c.length = K) (hm : ∀ a, a ∈ c1 → ky a ≤ ky y) : Off K (x :: L) c' := by
  obtain ⟨h1, d, h2, h3⟩ := h
  have hl := h2.length_eq
  have hc := hp.length_eq
  have hc' := hq.length_eq
  simp only [List.length_append, List.length_cons] at hl hc hc'
  refine ⟨by simp only [List.length_cons]; omega, y :: d, ?_, fun a ha b hb => ?_⟩
  · have e1 : (x :: L).Perm (x :: (c ++ d)) := h2.cons x
    have e2 : (x :: (c ++ d)).Perm (y :: (c' ++ d)) := by
      have := (hp.symm.trans hq.symm).append_right d
      simpa using this
    exact (e1.trans e2).trans List.perm_middle.symm
  · have ha1 : a ∈ c1 := hq.mem_iff.1 (List.mem_cons_of_mem _ ha)
    rcases List.mem_cons.1 hb with rfl | hb
    · exact hm a ha1
    · rcases List.mem_cons.1 (hp.mem_iff.1 ha1) with rfl | hac
      · have hy : y ∈ a :: c := hp.mem_iff.1 (hq.mem_iff.1 (List.mem_cons_self))
        rcases List.mem_cons.1 hy with rfl | hyc
        · have : c'.Perm c := List.Perm.cons_inv (hq.trans hp)
          exact h3 _ (this.mem_iff.1 ha) b hb
        · exact Int.le_trans (hm a ha1) (h3 y hyc b hb)
      · exact h3 a hac b hb
theorem heap_max {c : List Int} (h : Heap ltB c) (h0 : 0 < c.length) : ∀ a, a ∈ c → ky a ≤ ky c[0] := fun a ha => by
  obtain ⟨i, hi, rfl⟩ := List.getElem_of_mem ha
  have := heap_min ltB_sw h h0 i hi
  simp only [ltB, decide_eq_false_iff_not] at this
  omega
/-- Offer. -/
theorem p15 (K : Nat) (L c : List Int) (zs : List (List IV)) (x : Int) (hc : Heap ltB c) (ho : Off K L c) (hl : c.length ≤ 900) (hin : ∀ y, y ∈ c → inR y) (hx : inR x) :
    ∃ r, (∃ c' zs' g, Heap ltB c' ∧ Off K (x :: L) c' ∧ r = ((.tup [] : FV), bbk K c'.length g (c'.map e1 ++ zs'))) ∧ ∀ m, 1201 ≤ m → play real (lookT tab) (fun _ => clonePr clones) m 15 [.one (.ptr 0 0), i64 x] (bbk K c.length false (c.map e1 ++ zs)) = some r := by
  refine playE 1200 (vf := v15) rfl rfl fun A call hA hcall => ?_
  obtain ⟨r1, ⟨c1, zs1, g1, hc1, hp1, rfl⟩, k38⟩ := p38 c zs x hc (by omega) hin hx
  have k38 := k38 1200 (by omega)
  have hl1 : c1.length = c.length + 1 := by have := hp1.length_eq; simpa using this
  have k40 := p40 (c.length + 1) (c1.map e1 ++ zs1) 1200 (by omega)
  have hin1 : ∀ y, y ∈ c1 → inR y := fun y hy => by
    rcases List.mem_cons.1 (hp1.mem_iff.1 hy) with rfl | h
    · exact hx
    · exact hin y h
  obtain ⟨r2, ⟨c2, zs2, hc2, hp2, rfl⟩, k39⟩ := p39 c1 zs1 hc1 (by omega) (by omega) hin1
  have k39 := k39 1200 (by omega)
  have hmax := heap_max hc1 (by omega)
  have hl2 : c2.length = c.length := by have := hp2.length_eq; simp only [List.length_cons] at this; omega
  obtain ⟨y, hy⟩ : ∃ y, y = c1[0]'(by omega) := ⟨_, rfl⟩
  rw [← hy] at k39 hmax hp2
  rw [hl1] at k39
  have e0 : c.length + 1 - 1 = c.length := by omega
  rw [e0] at k39
  obtain ⟨ar, har⟩ : ∃ ar : List Int → List (List IV) → List (List IV), ∀ c zs, ar c zs = c.map e1 ++ zs := ⟨_, fun _ _ => rfl⟩
  simp only [← har] at k38 k39 k40 ⊢
  rw [← hcall] at k38 k39 k40
  obtain ⟨n, hn⟩ : ∃ n, n = c.length := ⟨_, rfl⟩
  obtain ⟨n1, hn1⟩ : ∃ n1, n1 = n + 1 := ⟨_, rfl⟩
  rw [← hn] at k38 k39 k40 ⊢
  rw [← hn1] at k38 k39 k40
  obtain ⟨KK, hKK⟩ : ∃ v : Int, v = K := ⟨_, rfl⟩
  obtain ⟨N1, hN1⟩ : ∃ v : Int, v = n1 := ⟨_, rfl⟩
  rw [← hN1] at k40
  simp only [← hKK]
  by_cases hK0 : K = 0
  · have z := eqT hA (a := KK) (b := 0) (by omega)
    have hfin : ∃ c' zs' g, Heap ltB c' ∧ Off K (x :: L) c' ∧ ((.tup [] : FV), bbk KK n false (ar c zs)) = ((.tup [] : FV), bbk KK c'.length g (ar c' zs')) := ⟨c, zs, false, hc, by subst hK0; exact off_zero ho x, by rw [hn]⟩
    generalize ar c zs = E at *
    apply wpV_seq; refine wpV_of (by ((conv => lhs; cbv); (repeat ((first | rewrite [z]); (try (conv => lhs; cbv)))); (try (with_reducible rfl)))) ?_
    exact ⟨_, hfin, by (show finV _ _ _ = some _; ((conv => lhs; cbv); (try (with_reducible rfl))); (try rfl))⟩
  · have z := eqF hA (a := KK) (b := 0) (by omega)
    by_cases hgt : n1 ≤ K
    · have gt := gtF hA (a := N1) (b := KK) (by omega)
      have hfin : ∀ g, ∃ c' zs' g', Heap ltB c' ∧ Off K (x :: L) c' ∧ ((.tup [] : FV), bbk KK n1 g (ar c1 zs1)) = ((.tup [] : FV), bbk KK c'.length g' (ar c' zs')) := fun g => ⟨c1, zs1, g, hc1, off_more ho x hp1 (by omega), by rw [hl1, hn1, hn]⟩
      generalize ar c zs = E at *
      generalize ar c1 zs1 = E1 at *
      apply wpV_seq; refine wpV_of (by ((conv => lhs; cbv); (repeat ((first | rewrite [z]); (try (conv => lhs; cbv)))); (try (with_reducible rfl)))) ?_
      cases g1 with
      | false =>
        apply wpV_seq; refine wpV_of (by ((conv => lhs; cbv); (repeat ((first | rewrite [k38]); (try (conv => lhs; cbv)))); (try (with_reducible rfl)))) ?_
        refine wpV_of (by ((conv => lhs; cbv); (repeat ((first | rewrite [k40] | rewrite [gt]); (try (conv => lhs; cbv)))); (try (with_reducible rfl)))) ?_
        exact ⟨_, hfin _, by (show finV _ _ _ = some _; ((conv => lhs; cbv); (try (with_reducible rfl))); (try rfl))⟩
      | true =>
        apply wpV_seq; refine wpV_of (by ((conv => lhs; cbv); (repeat ((first | rewrite [k38]); (try (conv => lhs; cbv)))); (try (with_reducible rfl)))) ?_
        refine wpV_of (by ((conv => lhs; cbv); (repeat ((first | rewrite [k40] | rewrite [gt]); (try (conv => lhs; cbv)))); (try (with_reducible rfl)))) ?_
        exact ⟨_, hfin _, by (show finV _ _ _ = some _; ((conv => lhs; cbv); (try (with_reducible rfl))); (try rfl))⟩
    · have gt := gtT hA (a := N1) (b := KK) (by omega)
      have hfin : ∀ g, ∃ c' zs' g', Heap ltB c' ∧ Off K (x :: L) c' ∧ ((.tup [] : FV), bbk KK n g (ar c2 zs2)) = ((.tup [] : FV), bbk KK c'.length g' (ar c' zs')) := fun g => ⟨c2, zs2, g, hc2, off_pop ho hp1 hp2 (by have := ho.1; omega) hmax, by rw [hl2, hn]⟩
      generalize ar c zs = E at *
      generalize ar c1 zs1 = E1 at *
      generalize ar c2 zs2 = E2 at *
      apply wpV_seq; refine wpV_of (by ((conv => lhs; cbv); (repeat ((first | rewrite [z]); (try (conv => lhs; cbv)))); (try (with_reducible rfl)))) ?_
      cases g1 with
      | false =>
        apply wpV_seq; refine wpV_of (by ((conv => lhs; cbv); (repeat ((first | rewrite [k38]); (try (conv => lhs; cbv)))); (try (with_reducible rfl)))) ?_
        refine wpV_of (by ((conv => lhs; cbv); (repeat ((first | rewrite [k40] | rewrite [gt] | rewrite [k39]); (try (conv => lhs; cbv)))); (try (with_reducible rfl)))) ?_
        exact ⟨_, hfin _, by (show finV _ _ _ = some _; ((conv => lhs; cbv); (try (with_reducible rfl))); (try rfl))⟩
      | true =>
        apply wpV_seq; refine wpV_of (by ((conv => lhs; cbv); (repeat ((first | rewrite [k38]); (try (conv => lhs; cbv)))); (try (with_reducible rfl)))) ?_
        refine wpV_of (by ((conv => lhs; cbv); (repeat ((first | rewrite [k40] | rewrite [gt] | rewrite [k39]); (try (conv => lhs; cbv)))); (try (with_reducible rfl)))) ?_
        exact ⟨_, hfin _, by (show finV _ _ _ = some _; ((conv => lhs; cbv); (try (with_reducible rfl))); (try rfl))⟩

/-! ### Turned round -/
def rvF (l : List Int) (i : Nat) (k : Nat) : Int := if k < i ∨ l.length < k + 1 + i then l.getD (l.length - 1 - k) 0 else l.getD k 0
def rvL (l : List Int) (i : Nat) : List Int := (List.range l.length).map (rvF l i)
theorem rvL_len (l : List Int) (i : Nat) : (rvL l i).length = l.length := by simp [rvL]
theorem rvL_get (l : List Int) (i k : Nat) (h : k < (rvL l i).length) : (rvL l i)[k] = rvF l i k := by simp [rvL]
theorem rvL_zero (l : List Int) : rvL l 0 = l := by
  apply List.ext_getElem (rvL_len l 0)
  intro k h1 h2
  rw [rvL_get, rvF, if_neg (by omega)]
  simp [h2]
theorem rvL_step (l : List Int) {i : Nat} (h : 2 * i + 1 < l.length) : swp (rvL l i) i (l.length - 1 - i) (by rw [rvL_len]; omega) (by rw [rvL_len]; omega) = rvL l (i + 1) := by
  apply List.ext_getElem (by rw [swp_len, rvL_len, rvL_len])
  intro k h1 h2
  rw [swp_get, rvL_get, rvL_get, rvL_get, rvL_get]
  rw [swp_len, rvL_len] at h1
  by_cases e1 : l.length - 1 - i = k
  · rw [if_pos e1, rvF, rvF, if_neg (by omega), if_pos (by omega), ← e1]
    congr 1; omega
  · rw [if_neg e1]
    by_cases e2 : i = k
    · rw [if_pos e2, rvF, rvF, if_neg (by omega), if_pos (by omega), ← e2]
    · rw [if_neg e2, rvF, rvF]
      by_cases e3 : k < i ∨ l.length < k + 1 + i
      · rw [if_pos e3, if_pos (by omega)]
      · rw [if_neg e3, if_neg (by omega)]
theorem rvL_end (l : List Int) {i : Nat} (h : l.length ≤ 2 * i + 1) : rvL l i = l.reverse := by
  apply List.ext_getElem (by rw [rvL_len]; simp)
  intro k h1 h2
  rw [rvL_get, List.getElem_reverse]
  rw [rvL_len] at h1
  rw [rvF]
  by_cases e : k < i ∨ l.length < k + 1 + i
  · rw [if_pos e]
    rw [List.getD_eq_getElem?_getD, List.getElem?_eq_getElem (by omega)]; rfl
  · rw [if_neg e, List.getD_eq_getElem?_getD, List.getElem?_eq_getElem (by omega)]
    simp only [Option.getD_some]
    congr 1; omega
theorem p50 (l : List Int) (hl : l.length ≤ 1000) : Pn 1101 50 [.one (.slo 0 0 l.length)] [.arr false false 1 (l.map e1)] (.tup []) [.arr false false 1 (l.reverse.map e1)] := by
  refine playN 1100 rfl rfl fun A call hA hcall => ?_
  obtain ⟨n, hn⟩ : ∃ n, n = l.length := ⟨_, rfl⟩
  obtain ⟨N, hN⟩ : ∃ v : Int, v = n := ⟨_, rfl⟩
  obtain ⟨I, hI⟩ : ∃ I : Nat → Int, ∀ i, I i = i := ⟨_, fun _ => rfl⟩
  obtain ⟨J, hJ⟩ : ∃ J : Nat → Int, ∀ i, J i = N - 1 - i := ⟨_, fun _ => rfl⟩
  obtain ⟨st, hst⟩ : ∃ st : Nat → List (List IV), ∀ i, st i = (rvL l i).map e1 := ⟨_, fun _ => rfl⟩
  have o1 := ofNR hA hN
  have j0 := subR hA (a := N) (b := 1) (c := J 0) (by rw [hJ]; omega) (by rw [hJ]; omega)
  have s0 : l.map e1 = st 0 := by rw [hst, rvL_zero]
  rw [s0, ← hn]
  obtain ⟨es2, hes2⟩ : ∃ es2, es2 = l.reverse.map e1 := ⟨_, rfl⟩
  rw [← hes2]
  apply wpV_seq; refine wpV_of (by ((conv => lhs; cbv); (try (with_reducible rfl)))) ?_
  apply wpV_block
  refine wpV_loop n (fun i s => 2 * i ≤ n + 1 ∧ s = ⟨1, [.one (.slo 0 0 n), u, i64 (I i), i64 (J i), u, u, u, u, u, u, u, u, u, u, u, u, u, u, u, u, u, u, u, u, u, u, u, u], [.arr false false 1 (st i)]⟩) (by omega) (by ((conv => lhs; cbv); (repeat ((first | rewrite [o1] | rewrite [j0]); (try (conv => lhs; cbv)))); (try (with_reducible rfl)))) ⟨by omega, by rw [o1, j0, hI]; rfl⟩ ?_
  rintro i hi s ⟨hin, rfl⟩
  by_cases hlt : 2 * i + 1 < n
  · have c0 := ltT hA (a := I i) (b := J i) (by rw [hI, hJ]; omega)
    have a1 := atR hA (n := n) (hI i) (by omega)
    have a2 : A .at_ (J i) n = some (n - 1 - i) := atR hA (by rw [hJ]; omega) (by omega)
    have h1 : i < (rvL l i).length := by rw [rvL_len]; omega
    have h2 : n - 1 - i < (rvL l i).length := by rw [rvL_len]; omega
    have g1 := getNR hA (zs := []) h1
    have g2 := getNR hA (zs := []) h2
    have w1 := setR hA (zs := []) h1 ((rvL l i)[n - 1 - i])
    have w2 := setR hA (c := (rvL l i).set i ((rvL l i)[n - 1 - i])) (zs := []) (i := n - 1 - i) (by simpa using h2) ((rvL l i)[i])
    have hsw : ((rvL l i).set i ((rvL l i)[n - 1 - i])).set (n - 1 - i) ((rvL l i)[i]) = rvL l (i + 1) := by
      have := rvL_step l (i := i) (by omega)
      simpa only [swp, hn] using this
    rw [hsw] at w2
    simp only [List.append_nil] at g1 g2 w1 w2
    rw [← hst] at g1 g2 w1 w2
    generalize ((rvL l i).set i ((rvL l i)[n - 1 - i])).map e1 = es3 at *
    generalize (rvL l i)[n - 1 - i] = xj at *
    generalize (rvL l i)[i] = xi at *
    generalize n - 1 - i = jj at *
    have i1 := addR hA (a := I i) (b := 1) (c := I (i + 1)) (by rw [hI, hI]; omega) (by rw [hI]; omega)
    have i2 := subR hA (a := J i) (b := 1) (c := J (i + 1)) (by rw [hJ, hJ]; omega) (by rw [hJ]; omega)
    dsimp only [e1] at g1 g2 w1 w2
    refine wpV_of (by ((conv => lhs; cbv); (repeat ((first | rewrite [c0] | rewrite [a1] | rewrite [a2] | rewrite [g1] | rewrite [g2] | rewrite [w1] | rewrite [w2]); (try (conv => lhs; cbv)))); (try (with_reducible rfl)))) ?_
    refine headQ_of (by ((conv => lhs; cbv); (try (with_reducible rfl)))) ?_
    exact ⟨by omega, by omega, by rw [i1, i2]⟩
  · have c0 := ltF hA (a := I i) (b := J i) (by rw [hI, hJ]; omega)
    have e : st i = es2 := by rw [hst, rvL_end l (by omega), hes2]
    refine wpV_of (by ((conv => lhs; cbv); (repeat ((first | rewrite [c0]); (try (conv => lhs; cbv)))); (try (with_reducible rfl)))) ?_
    show finV _ _ _ = _
    rw [e]
    (show finV _ _ _ = some _; ((conv => lhs; cbv); (try (with_reducible rfl))); (try rfl))
end Go.Proofs.Ytlbmknejhmmjnaa
