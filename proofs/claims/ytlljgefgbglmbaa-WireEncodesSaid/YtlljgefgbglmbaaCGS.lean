/- Numbers that rise, and a vector, behind bytes: gone through. -/
import Derived.Test.YtlljgefgbglmbaaCGR
set_option linter.unusedSimpArgs false
set_option linter.unusedVariables false
set_option maxRecDepth 100000
set_option maxHeartbeats 1000000
set_option cbv.maxSteps 10000000
namespace Go.Proofs.Ytlljgefgbglmbaa
open Go GoV

abbrev rd (es : List (List IV)) (o n : Nat) (f : Bool) : List Blk := [.var false [.slo 1 o n, .iv (.int .i64 0), .iv (.bool true)], .arr f false 1 es]
theorem appn {A : Ar} (hA : A = real) (ys : List (List IV)) (h : ys.length ≤ 211106232532992) : A .app 1 [] ys = some (false, ys) := by
  rw [hA, real_app]
  unfold rApp room
  rw [if_neg (by simp), if_pos (by simpa using h)]
  rfl
theorem pv_succ (l : List Nat) (i : Nat) : pv l (i + 1) = l.getD i 0 + 1 := rfl
theorem subAll {A : Ar} (hA : A = real) {es : List (List IV)} {n : Int} (hn : n = es.length) : A .sub es none (some n) = some es := by
  rw [hA, real_sub, hn]
  unfold rSub rCut rBound
  simp
theorem n60 (B l : List Nat) (t t2 : Bool) (z : Nat) (hz : z = 0 ∨ z = 1) (hp : l.Pairwise (· < ·)) (hl : l.length ≤ 1000) (hv : ∀ x, x ∈ l → x < 2 ^ 62) (hB : B.length ≤ 199999999900000) :
    Pn 1100 60 [.one (.iv (.sl t z (by8 B))), .one (.iv (.sl t2 1 (ints l)))] [] (.one (.slo 0 0 (B ++ (enc l.length ++ gs l l.length)).length)) [.arr false false 1 (by8 (B ++ (enc l.length ++ gs l l.length)))] := by
  refine playN 1099 rfl rfl fun A call hA hcall => ?_
  have hv' : ∀ i, l.getD i 0 < 2 ^ 62 := fun i => by
    by_cases h : i < l.length
    · rw [List.getD_eq_getElem?_getD, List.getElem?_eq_getElem h]; exact hv _ (List.getElem_mem h)
    · rw [List.getD_eq_getElem?_getD, List.getElem?_eq_none (by omega)]; simp
  obtain ⟨m, hm⟩ : ∃ m, m = l.length := ⟨_, rfl⟩
  obtain ⟨M, hM⟩ : ∃ v : Int, v = m := ⟨_, rfl⟩
  obtain ⟨I, hI⟩ : ∃ I : Nat → Int, ∀ t, I t = t := ⟨_, fun _ => rfl⟩
  obtain ⟨V, hV⟩ : ∃ V : Nat → Int, ∀ t, V t = l.getD t 0 := ⟨_, fun _ => rfl⟩
  obtain ⟨Z, hZ⟩ : ∃ Z : Nat → Int, ∀ t, Z t = (pv l t : Int) - 1 := ⟨_, fun _ => rfl⟩
  obtain ⟨G, hG⟩ : ∃ G : Nat → Int, ∀ t, G t = (gap l t : Int) := ⟨_, fun _ => rfl⟩
  obtain ⟨S, hS⟩ : ∃ S, S = ints l := ⟨_, rfl⟩
  obtain ⟨C, hC⟩ : ∃ C : Nat → List Nat, ∀ i, C i = B ++ (enc l.length ++ gs l i) := ⟨_, fun _ => rfl⟩
  obtain ⟨E, hE⟩ : ∃ E : Nat → List (List IV), ∀ i, E i = by8 (C i) := ⟨_, fun _ => rfl⟩
  obtain ⟨N, hN⟩ : ∃ N : Nat → Nat, ∀ i, N i = (C i).length := ⟨_, fun _ => rfl⟩
  have cl : ∀ i, i ≤ m → (C i).length ≤ 200000000000000 := fun i hi => by
    rw [hC, List.length_append, List.length_append, enc_len]; have := nd_le l.length; have := gs_len l i; omega
  have lS : A .len S = M := by rw [hA, real_len, hS, ints_len, hM, hm]
  have gS : ∀ i, i < m → A .get S (I i) = some [.int .i64 (V i)] := fun i hi => by
    rw [hA, hI]
    refine get_real _ i ?_
    rw [hS, ints, List.getElem?_map, List.getElem?_eq_getElem (by omega), hV, List.getD_eq_getElem?_getD, List.getElem?_eq_getElem (by omega)]
    rfl
  have inc : ∀ i, i < m → A .ar .add .i64 (I i) 1 = I (i + 1) := fun i hi => addR hA (by rw [hI, hI]; omega) (by rw [hI]; omega)
  have vz : ∀ i, i < m → V i = Z (i + 1) := fun i hi => by rw [hV, hZ, pv_succ]; omega
  have i0 : I 0 = 0 := hI 0
  have z0 : Z 0 = -1 := by rw [hZ]; rfl
  have sg : ∀ i, A .seg (E i) 0 (N i) = E i := fun i => by rw [hA]; show rSeg _ _ _ = _; unfold rSeg; rw [List.drop_zero, List.take_of_length_le (by rw [hE, hN, by8_len]; omega)]
  have k0 := n21 B t z hz (x := m) (by omega) (by omega) 1099 (by omega)
  have c0 : C 0 = B ++ enc m := by rw [hC, hm]; simp [gs]
  rw [← c0, ← hN, ← hE, ← hM] at k0
  have k1 : ∀ i, i < m → ∀ t, call 21 [.one (.iv (.sl t 1 (E i))), i64 (G i)] [] = some (.one (.slo 0 0 (N (i + 1))), [.arr false false 1 (E (i + 1))]) := fun i hi t => by
    have := n21 (C i) t 1 (.inr rfl) (x := gap l i) (by unfold gap; have := hv' i; omega) (cl i (by omega)) 1099 (by omega)
    have c1 : C (i + 1) = C i ++ enc (gap l i) := by rw [hC, hC]; simp [gs]
    rw [← c1, ← hN, ← hE, ← hE, ← hG, ← hcall] at this
    exact this
  rw [← hcall] at k0
  have fin : B ++ (enc l.length ++ gs l l.length) = C m := by rw [hC, hm]
  rw [fin, ← hN, ← hE, ← hS]
  have sub : A .sub S none (some M) = some S := by
    exact subAll hA (by rw [hM, hS, ints_len, hm])
  have cs : ∀ i, i < m → A .ar .sub .i64 (V i) (Z i) = G i + 1 ∧ A .ar .sub .i64 (G i + 1) 1 = G i := fun i hi => by
    have a := pv_le hp (i := i) (by omega)
    have b := hv' i
    have e : G i = V i - Z i - 1 := by rw [hG, hV, hZ]; unfold gap; omega
    have e0 : 0 ≤ G i := by rw [hG]; omega
    exact ⟨subR hA (by omega) (by rw [hG] at *; unfold gap at *; omega), subR hA (by omega) (by rw [hG] at *; unfold gap at *; omega)⟩
  have tail : ∀ (Q : Ex → St → Prop) (st0 : St), headV false [6, 7, 33, 34, 35] st0 = some ⟨0, (u :: u :: u :: u :: u :: u :: i64 (Z 0) :: .one (.slo 0 0 (N 0)) :: u :: u :: u :: u :: u :: u :: u :: u :: u :: u :: u :: u :: u :: u :: u :: u :: u :: u :: u :: u :: u :: u :: u :: u :: u :: .one (.iv (.sl false 1 S)) :: i64 M :: i64 (I 0) :: u :: u :: u :: u :: u :: u :: u :: u :: u :: u :: u :: u :: []), [.arr false false 1 (E 0)]⟩ →
      Q .normal ⟨0, (u :: u :: u :: u :: u :: u :: i64 (Z m) :: .one (.slo 0 0 (N m)) :: u :: u :: u :: u :: u :: u :: u :: u :: u :: u :: u :: u :: u :: u :: u :: u :: u :: u :: u :: u :: u :: u :: u :: u :: u :: .one (.iv (.sl false 1 S)) :: i64 M :: i64 (I m) :: bl false :: u :: u :: u :: u :: u :: u :: u :: u :: u :: u :: u :: []), [.arr false false 1 (E m)]⟩ → wpV A call (iterN 1099) (.block 2 (.loop false [6, 7, 33, 34, 35] l60_1)) st0 Q := by
    intro Q st0 hst hQ
    apply wpV_block
    refine wpV_loop m (fun i st => st = ⟨0, (u :: u :: u :: u :: u :: u :: i64 (Z i) :: .one (.slo 0 0 (N i)) :: u :: u :: u :: u :: u :: u :: u :: u :: u :: u :: u :: u :: u :: u :: u :: u :: u :: u :: u :: u :: u :: u :: u :: u :: u :: .one (.iv (.sl false 1 S)) :: i64 M :: i64 (I i) :: u :: u :: u :: u :: u :: u :: u :: u :: u :: u :: u :: u :: []), [.arr false false 1 (E i)]⟩) (by omega) hst rfl ?_
    rintro i hi st rfl
    by_cases him : i < m
    · have c := ltT hA (a := I i) (b := M) (by rw [hI, hM]; omega)
      have g := gS i him
      obtain ⟨s1, s2⟩ := cs i him
      have k := k1 i him
      have sgi := sg i
      have ii := inc i him
      have vi := vz i him
      generalize G i + 1 = G1 at *
      generalize G i = G0 at *
      generalize I (i + 1) = J1 at *
      generalize I i = J at *
      generalize Z (i + 1) = Z1 at *
      generalize Z i = Z0 at *
      generalize E (i + 1) = E1 at *
      generalize E i = E0 at *
      generalize N (i + 1) = N1 at *
      generalize N i = N0 at *
      generalize V i = X at *
      subst vi
      have k' := k (A .isE E0)
      refine wpV_of (by ((conv => lhs; cbv); (repeat ((first | rewrite [c] | rewrite [g] | rewrite [s1] | rewrite [s2] | rewrite [sgi] | rewrite [k']); (try (conv => lhs; cbv)))); (try (with_reducible rfl)))) ?_
      refine headQ_of (by ((conv => lhs; cbv); (try (with_reducible rfl)))) ?_
      exact ⟨him, (by ((repeat (first | rewrite [ii])); (try rfl)))⟩
    · obtain rfl : i = m := by omega
      have c := ltF hA (a := I i) (b := M) (by rw [hI, hM]; omega)
      generalize I i = J at *
      generalize Z i = X0 at *
      generalize E i = E0 at *
      generalize N i = N0 at *
      refine wpV_of (by ((conv => lhs; cbv); (repeat ((first | rewrite [c]); (try (conv => lhs; cbv)))); (try (with_reducible rfl)))) ?_
      exact hQ
  generalize by8 B = es0 at *
  apply wpV_seq; refine wpV_of (by ((conv => lhs; cbv); (try (with_reducible rfl)))) ?_
  apply wpV_seq; refine wpV_of (by ((conv => lhs; cbv); (try (with_reducible rfl)))) ?_
  apply wpV_seq
  apply wpV_block
  refine wpV_loop m (fun i st => st = ⟨0, (.one (.iv (.sl t z es0)) :: .one (.iv (.sl t2 1 S)) :: u :: u :: u :: i64 (I i) :: i64 (Z i) :: u :: u :: u :: u :: u :: u :: u :: u :: u :: u :: u :: u :: u :: u :: u :: u :: u :: u :: u :: u :: u :: u :: u :: u :: u :: u :: u :: u :: u :: u :: u :: u :: u :: u :: u :: u :: u :: u :: u :: u :: u :: []), []⟩) (by omega) (by ((conv => lhs; cbv); (try (with_reducible rfl)))) (by rw [i0, z0]) ?_
  rintro i hi st rfl
  by_cases him : i < m
  · have c := ltT hA (a := I i) (b := M) (by rw [hI, hM]; omega)
    have g := gS i him
    have ii := inc i him
    have vi := vz i him
    have gt := gtT hA (a := V i) (b := Z i) (by have := pv_le hp (i := i) (by omega); rw [hV, hZ]; omega)
    generalize I (i + 1) = J1 at *
    generalize I i = J at *
    generalize Z (i + 1) = Z1 at *
    generalize Z i = Z0 at *
    generalize V i = X at *
    subst vi
    refine wpV_of (by ((conv => lhs; cbv); (repeat ((first | rewrite [lS] | rewrite [c] | rewrite [g] | rewrite [gt]); (try (conv => lhs; cbv)))); (try (with_reducible rfl)))) ?_
    refine headQ_of (by ((conv => lhs; cbv); (try (with_reducible rfl)))) ?_
    exact ⟨him, (by ((repeat (first | rewrite [ii])); (try rfl)))⟩
  · obtain rfl : i = m := by omega
    have c := ltF hA (a := I i) (b := M) (by rw [hI, hM]; omega)
    have im : I i = M := by rw [hI, hM]
    rw [im] at c ⊢
    generalize hZi : Z i = X0 at *
    refine wpV_of (by ((conv => lhs; cbv); (repeat ((first | rewrite [lS] | rewrite [c]); (try (conv => lhs; cbv)))); (try (with_reducible rfl)))) ?_
    show wpV _ _ _ _ _ _
    apply wpV_seq; refine wpV_of (by ((conv => lhs; cbv); (repeat ((first | rewrite [k0]); (try (conv => lhs; cbv)))); (try (with_reducible rfl)))) ?_
    apply wpV_seq; refine wpV_of (by ((conv => lhs; cbv); (try (with_reducible rfl)))) ?_
    apply wpV_seq; apply wpV_seq; refine wpV_of (by ((conv => lhs; cbv); (repeat ((first | rewrite [sub] | rewrite [lS]); (try (conv => lhs; cbv)))); (try (with_reducible rfl)))) ?_
    refine tail _ _ (by ((conv => lhs; cbv); (repeat ((first | rewrite [sub] | rewrite [lS] | rewrite [i0] | rewrite [z0]); (try (conv => lhs; cbv)))); (try (with_reducible rfl)))) ?_
    show wpV _ _ _ _ _ _
    refine wpV_of (by ((conv => lhs; cbv); (try (with_reducible rfl)))) ?_
    (show finV _ _ _ = some _; ((conv => lhs; cbv); (try (with_reducible rfl))); (try rfl))
theorem apoN {A : Ar} (hA : A = real) {es : List (List IV)} (b : Nat) (y : List IV) {n : Nat} (hn : n = es.length) (h : (es.length + 1) * b ≤ 211106232532992) : A .apo b 0 n es [y] = some (true, es ++ [y]) := by
  rw [hA, real_apo, hn]
  unfold rApo room
  rw [if_pos (by simp), if_pos ⟨by simpa using h, .inl rfl⟩]
  rfl
theorem n32 {a : List Int} (ha : a.length = 64) : ∃ k, Pn k 32 [vecF a] [] (bl (goodB a)) [] := (p32 ha).at pr_mono
theorem goodB_get {v : List Int} (h : goodB v = true) {i : Nat} (hi : i < 64) : 0 ≤ v.getD i 0 ∧ v.getD i 0 ≤ 1073741824 := by
  unfold goodB at h
  have := List.all_eq_true.1 h i (List.mem_range.2 hi)
  simp only [badB, Bool.not_eq_true', Bool.or_eq_false_iff, decide_eq_false_iff_not] at this
  omega
/-- The places that are not 0, of the first i. -/
def ats (v : List Int) (i : Nat) : List Nat := (List.range i).filter fun j => decide (0 < v.getD j 0)
theorem ats_succ (v : List Int) (i : Nat) : ats v (i + 1) = if 0 < v.getD i 0 then ats v i ++ [i] else ats v i := by
  unfold ats
  rw [List.range_succ, List.filter_append]
  by_cases h : 0 < v.getD i 0
  · rw [if_pos h]; simp only [List.filter, decide_eq_true h]
  · rw [if_neg h]; simp only [List.filter, decide_eq_false h, List.append_nil]
theorem ats_mem {v : List Int} {i x : Nat} : x ∈ ats v i ↔ x < i ∧ 0 < v.getD x 0 := by
  unfold ats; simp
theorem ats_pw (v : List Int) (i : Nat) : (ats v i).Pairwise (· < ·) := List.Pairwise.filter _ List.pairwise_lt_range
theorem ats_len (v : List Int) (i : Nat) : (ats v i).length ≤ i := by
  have := List.length_filter_le (fun j => decide (0 < v.getD j 0)) (List.range i)
  simpa [ats] using this
/-- Numbers, one behind the other. -/
def es2 (f : Nat → Nat) : Nat → List Nat
  | 0 => []
  | i + 1 => es2 f i ++ enc (f i)
theorem es2_len (f : Nat → Nat) (i : Nat) : (es2 f i).length ≤ 9 * i := by
  induction i with
  | zero => simp [es2]
  | succ i ih => simp only [es2, List.length_append, enc_len]; have := nd_le (f i); omega
def fv (v : List Int) (i : Nat) : Nat := (v.getD ((ats v 64).getD i 0) 0 - 1).toNat
/-- A vector's bytes. -/
def putB (v : List Int) : List Nat := (enc (ats v 64).length ++ gs (ats v 64) (ats v 64).length) ++ es2 (fv v) (ats v 64).length
theorem putB_len (v : List Int) : (putB v).length ≤ 1200 := by
  have h := ats_len v 64
  have h1 := gs_len (ats v 64) (ats v 64).length
  have h2 := es2_len (fv v) (ats v 64).length
  have h3 := nd_le (ats v 64).length
  simp only [putB, List.length_append, enc_len]
  omega
theorem n59 {a : List Int} (ha : a.length = 64) : ∃ k, Pn k 59 [vecF a] [] (bl (goodB a)) [] := by
  have h := p59 ha
  exact h.at pr_mono
theorem seg0 {A : Ar} (hA : A = real) {es : List (List IV)} {n : Nat} (h : n = es.length) : A .seg es 0 n = es := by
  rw [hA]; show rSeg _ _ _ = _; unfold rSeg; rw [List.drop_zero, List.take_of_length_le (by omega)]
theorem n22 {v : List Int} (hv : v.length = 64) (hg : goodB v = true) (B : List Nat) (t : Bool) (z : Nat) (hz : z = 0 ∨ z = 1) (hB : B.length ≤ 199999999800000) :
    ∃ k, Pn k 22 [.one (.iv (.sl t z (by8 B))), vecF v] [] (.one (.slo 0 0 (B ++ putB v).length)) [.arr false false 1 (by8 (B ++ putB v))] := by
  obtain ⟨k, hk⟩ := n59 hv
  obtain ⟨n, hn⟩ : ∃ n, n = max k 1200 := ⟨_, rfl⟩
  refine ⟨n + 1, playN n rfl rfl fun A call hA hcall => ?_⟩
  have k1 := hk n (by omega)
  rw [hg] at k1
  obtain ⟨l, hl⟩ : ∃ l, l = ats v 64 := ⟨_, rfl⟩
  have lp : l.Pairwise (· < ·) := by rw [hl]; exact ats_pw _ _
  have ll : l.length ≤ 64 := by rw [hl]; exact ats_len _ _
  have lm : ∀ x, x ∈ l → x < 64 := fun x hx => by rw [hl] at hx; exact (ats_mem.1 hx).1
  obtain ⟨m, hm⟩ : ∃ m, m = l.length := ⟨_, rfl⟩
  obtain ⟨M, hM⟩ : ∃ v : Int, v = m := ⟨_, rfl⟩
  obtain ⟨I, hI⟩ : ∃ I : Nat → Int, ∀ t, I t = t := ⟨_, fun _ => rfl⟩
  obtain ⟨V, hV⟩ : ∃ V : Nat → Int, ∀ t, V t = v.getD t 0 := ⟨_, fun _ => rfl⟩
  obtain ⟨X, hX⟩ : ∃ X : Nat → Int, ∀ t, X t = l.getD t 0 := ⟨_, fun _ => rfl⟩
  obtain ⟨C, hC⟩ : ∃ C : Nat → List Nat, ∀ i, C i = B ++ ((enc m ++ gs l m) ++ es2 (fv v) i) := ⟨_, fun _ => rfl⟩
  obtain ⟨F, hF⟩ : ∃ F : Nat → List (List IV), ∀ i, F i = by8 (C i) := ⟨_, fun _ => rfl⟩
  obtain ⟨N, hN⟩ : ∃ N : Nat → Nat, ∀ i, N i = (C i).length := ⟨_, fun _ => rfl⟩
  obtain ⟨E, hE⟩ : ∃ E : Nat → List (List IV), ∀ i, E i = ints (ats v i) := ⟨_, fun _ => rfl⟩
  obtain ⟨K, hK⟩ : ∃ K : Nat → Nat, ∀ i, K i = (ats v i).length := ⟨_, fun _ => rfl⟩
  have cl : ∀ i, i ≤ m → (C i).length ≤ 200000000000000 := fun i hi => by
    rw [hC]; simp only [List.length_append, enc_len]; have := nd_le m; have := gs_len l m; have := es2_len (fv v) i; omega
  have vv : ∀ i, i < m → 0 < v.getD (l.getD i 0) 0 ∧ l.getD i 0 < 64 := fun i hi => by
    have : l.getD i 0 ∈ l := by rw [List.getD_eq_getElem?_getD, List.getElem?_eq_getElem (by omega)]; exact List.getElem_mem _
    have h2 := lm _ this
    have h3 : l.getD i 0 ∈ ats v 64 := by rw [← hl]; exact this
    exact ⟨(ats_mem.1 h3).2, h2⟩
  have k2 := n60 B l (A .isE (by8 B)) (A .isE (E 64)) 1 (.inr rfl) lp (by omega) (fun x hx => by have := lm x hx; omega) (by omega) n (by omega)
  have c0 : C 0 = B ++ (enc m ++ gs l m) := by rw [hC]; simp [es2]
  have e64 : E 64 = ints l := by rw [hE, hl]
  rw [← hm, ← c0, ← hN, ← hF, ← e64] at k2
  have k3 : ∀ i, i < m → call 21 [.one (.iv (.sl (A .isE (F i)) 1 (F i))), i64 (V (l.getD i 0) - 1)] [] = some (.one (.slo 0 0 (N (i + 1))), [.arr false false 1 (F (i + 1))]) := fun i hi => by
    have vi := vv i hi
    have vg := goodB_get hg vi.2
    have e : fv v i = (v.getD (l.getD i 0) 0 - 1).toNat := by rw [hl]; rfl
    have := n21 (C i) (A .isE (F i)) 1 (.inr rfl) (x := fv v i) (by rw [e]; omega) (cl i (by omega)) n (by omega)
    have c1 : C (i + 1) = C i ++ enc (fv v i) := by rw [hC, hC]; simp [es2]
    rw [← c1, ← hN, ← hF, ← hF, ← hcall] at this
    rw [hV, show v.getD (l.getD i 0) 0 - 1 = (fv v i : Int) by rw [e]; omega]
    exact this
  have fin : B ++ putB v = C m := by rw [hC, hm, hl]; rfl
  rw [fin, ← hN, ← hF]
  rw [← hcall] at k1 k2
  have a1 := appn hA (by8 B) (by rw [by8_len]; omega)
  have l1 : A .ln (by8 B) = B.length := by rw [hA]; exact by8_len B
  have s1 := seg0 hA (es := by8 B) (n := B.length) (by rw [by8_len])
  have s2 := seg0 hA (es := E 64) (n := K 64) (by rw [hE, hK, ints_len])
  have s3 : ∀ i, A .seg (F i) 0 (N i) = F i := fun i => seg0 hA (by rw [hF, hN, by8_len])
  have gc : ∀ i, i < 64 → A .getc (vec v) (I i) = some (.int .i64 (V i)) := fun i hi => by rw [hA, hI, hV]; exact getc_nat (by omega)
  have inc : ∀ i, i < 64 → A .ar .add .i64 (I i) 1 = I (i + 1) := fun i hi => addR hA (by rw [hI, hI]; omega) (by rw [hI]; omega)
  have st : ∀ i, i < 64 → (A .cmp .gtr (V i) 0 = true ∧ A .apo 8 0 (K i) (E i) [[.int .i64 (I i)]] = some (true, E (i + 1)) ∧ A .ln (E (i + 1)) = K (i + 1)) ∨ (A .cmp .gtr (V i) 0 = false ∧ E (i + 1) = E i ∧ K (i + 1) = K i) := fun i hi => by
    by_cases h : 0 < v.getD i 0
    · refine .inl ⟨gtT hA (by rw [hV]; exact h), ?_, by rw [hA]; show (E (i + 1)).length = _; rw [hE, hK, ints_len]⟩
      have := ats_len v i
      rw [apoN hA 8 _ (by rw [hE, hK, ints_len]) (by rw [hE, ints_len]; omega), hE, hE, ats_succ, if_pos h, hI]
      simp [ints]
    · refine .inr ⟨gtF hA (by rw [hV]; omega), ?_, ?_⟩
      · rw [hE, hE, ats_succ, if_neg h]
      · rw [hK, hK, ats_succ, if_neg h]
  have km : K 64 = m := by rw [hK, hm, hl]
  have i0 : I 0 = 0 := hI 0
  have e0 : E 0 = [] := by rw [hE]; rfl
  have q0 : K 0 = 0 := by rw [hK]; rfl
  have om := ofNR hA (x := M) (n := m) hM
  have g2 : ∀ i, i < m → A .at_ (I i) m = some i ∧ A .getN (E 64) i = some [.int .i64 (X i)] := fun i hi => by
    refine ⟨atR hA (hI i) hi, ?_⟩
    rw [hA, real_getN, e64, ints, List.getElem?_map, List.getElem?_eq_getElem (by omega), hX, List.getD_eq_getElem?_getD, List.getElem?_eq_getElem (by omega)]
    rfl
  have g3 : ∀ i, i < m → (∃ k, A .at_ (X i) 64 = some k) ∧ A .getc (vec v) (X i) = some (.int .i64 (V (l.getD i 0))) ∧ A .ar .sub .i64 (V (l.getD i 0)) 1 = V (l.getD i 0) - 1 := fun i hi => by
    have vi := vv i hi
    have vg := goodB_get hg vi.2
    refine ⟨⟨l.getD i 0, atR hA (hX i) vi.2⟩, ?_, subR hA rfl (by rw [hV]; omega)⟩
    rw [hA, hX, hV]; exact getc_nat (by omega)
  have tail : ∀ (Q : Ex → St → Prop) (st0 : St), headV false [3, 5, 32, 33, 34] st0 = some ⟨0, (u :: u :: u :: .one (.ptr 0 0) :: u :: .one (.slo 1 0 (N 0)) :: u :: u :: u :: u :: u :: u :: u :: u :: u :: u :: u :: u :: u :: u :: u :: u :: u :: u :: u :: u :: u :: u :: u :: u :: u :: u :: .one (.slo 2 0 m) :: i64 M :: i64 (I 0) :: u :: u :: u :: u :: u :: u :: u :: u :: u :: u :: u :: []), [.var false [.iv (.arr 64 (vec v))], .arr false false 1 (F 0), .arr true false 1 (E 64)]⟩ →
      Q .normal ⟨0, (u :: u :: u :: .one (.ptr 0 0) :: u :: .one (.slo 1 0 (N m)) :: u :: u :: u :: u :: u :: u :: u :: u :: u :: u :: u :: u :: u :: u :: u :: u :: u :: u :: u :: u :: u :: u :: u :: u :: u :: u :: .one (.slo 2 0 m) :: i64 M :: i64 (I m) :: bl false :: u :: u :: u :: u :: u :: u :: u :: u :: u :: u :: []), [.var false [.iv (.arr 64 (vec v))], .arr false false 1 (F m), .arr true false 1 (E 64)]⟩ → wpV A call (iterN n) (.block 2 (.loop false [3, 5, 32, 33, 34] l22_1)) st0 Q := by
    intro Q st0 hst hQ
    generalize E 64 = EL at *
    generalize vec v = xs at *
    apply wpV_block
    refine wpV_loop m (fun i st => st = ⟨0, (u :: u :: u :: .one (.ptr 0 0) :: u :: .one (.slo 1 0 (N i)) :: u :: u :: u :: u :: u :: u :: u :: u :: u :: u :: u :: u :: u :: u :: u :: u :: u :: u :: u :: u :: u :: u :: u :: u :: u :: u :: .one (.slo 2 0 m) :: i64 M :: i64 (I i) :: u :: u :: u :: u :: u :: u :: u :: u :: u :: u :: u :: []), [.var false [.iv (.arr 64 xs)], .arr false false 1 (F i), .arr true false 1 EL]⟩) (by omega) hst rfl ?_
    rintro i hi st rfl
    by_cases him : i < m
    · have c := ltT hA (a := I i) (b := M) (by rw [hI, hM]; omega)
      obtain ⟨p1, p2⟩ := g2 i him
      obtain ⟨⟨kk, p3⟩, p4, p5⟩ := g3 i him
      have k := k3 i him
      have sgi := s3 i
      have ii := inc i (by omega)
      generalize V (l.getD i 0) - 1 = U1 at *
      generalize V (l.getD i 0) = U0 at *
      generalize I (i + 1) = J1 at *
      generalize I i = J at *
      generalize X i = XX at *
      generalize F (i + 1) = F1 at *
      generalize F i = F0 at *
      generalize N (i + 1) = N1 at *
      generalize N i = N0 at *
      refine wpV_of (by ((conv => lhs; cbv); (repeat ((first | rewrite [c] | rewrite [p1] | rewrite [p2] | rewrite [p3] | rewrite [p4] | rewrite [p5] | rewrite [sgi] | rewrite [k]); (try (conv => lhs; cbv)))); (try (with_reducible rfl)))) ?_
      refine headQ_of (by ((conv => lhs; cbv); (try (with_reducible rfl)))) ?_
      exact ⟨him, (by ((repeat (first | rewrite [ii])); (try rfl)))⟩
    · obtain rfl : i = m := by omega
      have c := ltF hA (a := I i) (b := M) (by rw [hI, hM]; omega)
      generalize I i = J at *
      generalize F i = F0 at *
      generalize N i = N0 at *
      refine wpV_of (by ((conv => lhs; cbv); (repeat ((first | rewrite [c]); (try (conv => lhs; cbv)))); (try (with_reducible rfl)))) ?_
      exact hQ
  have kc := km
  dsimp only [vecF] at k1 ⊢
  rw [← km] at tail om
  clear hE hF hN hK hC k3 hV hX g2 g3 cl c0 e64 hM hg fin s3
  generalize vec v = xs at *
  generalize by8 B = es0 at *
  generalize B.length = nB at *
  rcases hz with rfl | rfl
  all_goals
    apply wpV_seq; refine wpV_of (by ((conv => lhs; cbv); (try (with_reducible rfl)))) ?_
    apply wpV_seq; refine wpV_of (by ((conv => lhs; cbv); (repeat ((first | rewrite [a1] | rewrite [l1]); (try (conv => lhs; cbv)))); (try (with_reducible rfl)))) ?_
    apply wpV_seq; refine wpV_of (by ((conv => lhs; cbv); (repeat ((first | rewrite [a1] | rewrite [l1] | rewrite [k1]); (try (conv => lhs; cbv)))); (try (with_reducible rfl)))) ?_
    apply wpV_seq; refine wpV_of (by ((conv => lhs; cbv); (try (with_reducible rfl)))) ?_
    apply wpV_seq; apply wpV_seq; refine wpV_of (by ((conv => lhs; cbv); (try (with_reducible rfl)))) ?_
    apply wpV_block
    refine wpV_loop 64 (fun i st => st = ⟨0, (u :: u :: u :: .one (.ptr 0 0) :: u :: .one (.slo 1 0 nB) :: .one (.slo 2 0 (K i)) :: u :: u :: u :: u :: u :: u :: u :: u :: u :: u :: .agg [.iv (.arr 64 xs)] :: i64 (I i) :: u :: u :: u :: u :: u :: u :: u :: u :: u :: u :: u :: u :: u :: u :: u :: u :: u :: u :: u :: u :: u :: u :: u :: u :: u :: u :: u :: []), [.var false [.iv (.arr 64 xs)], .arr false false 1 es0, .arr false false 1 (E i)]⟩) (by omega) (by ((conv => lhs; cbv); (repeat ((first | rewrite [a1] | rewrite [l1]); (try (conv => lhs; cbv)))); (try (with_reducible rfl)))) (by rw [i0, e0, q0]) ?_
    rintro i hi st rfl
    by_cases him : i < 64
    · have c := ltT hA (a := I i) (b := 64) (by rw [hI]; omega)
      have g := gc i him
      have ii := inc i him
      rcases st i him with ⟨d1, d2, d3⟩ | ⟨d1, d2, d3⟩
      · generalize hJ1 : I (i + 1) = J1 at *
        generalize hJ : I i = J at *
        generalize hE1 : E (i + 1) = E1 at *
        generalize hE0 : E i = E0 at *
        generalize hK1 : K (i + 1) = K1 at *
        generalize hK0 : K i = K0 at *
        refine wpV_of (by ((conv => lhs; cbv); (repeat ((first | rewrite [c] | rewrite [g] | rewrite [d1] | rewrite [d2] | rewrite [d3]); (try (conv => lhs; cbv)))); (try (with_reducible rfl)))) ?_
        refine headQ_of (by ((conv => lhs; cbv); (try (with_reducible rfl)))) ?_
        exact ⟨him, (by ((repeat (first | rewrite [ii] | rewrite [d3] | rewrite [hE1] | rewrite [hK1] | rewrite [hJ1])); (try rfl)))⟩
      · generalize hJ1 : I (i + 1) = J1 at *
        generalize hJ : I i = J at *
        generalize hE1 : E (i + 1) = E1 at *
        generalize hE0 : E i = E0 at *
        generalize hK1 : K (i + 1) = K1 at *
        generalize hK0 : K i = K0 at *
        subst d2
        subst d3
        refine wpV_of (by ((conv => lhs; cbv); (repeat ((first | rewrite [c] | rewrite [g] | rewrite [d1]); (try (conv => lhs; cbv)))); (try (with_reducible rfl)))) ?_
        refine headQ_of (by ((conv => lhs; cbv); (try (with_reducible rfl)))) ?_
        exact ⟨him, (by ((repeat (first | rewrite [ii] | rewrite [hE1] | rewrite [hK1] | rewrite [hJ1])); (try rfl)))⟩
    · obtain rfl : i = 64 := by omega
      have c := ltF hA (a := I 64) (b := 64) (by rw [hI]; omega)
      generalize hI64 : I 64 = J at *
      generalize hE64 : E 64 = EL at *
      generalize hK64 : K 64 = KL at *
      refine wpV_of (by ((conv => lhs; cbv); (repeat ((first | rewrite [c]); (try (conv => lhs; cbv)))); (try (with_reducible rfl)))) ?_
      show wpV _ _ _ _ _ _
      apply wpV_seq; refine wpV_of (by ((conv => lhs; cbv); (repeat ((first | rewrite [s1] | rewrite [s2] | rewrite [k2]); (try (conv => lhs; cbv)))); (try (with_reducible rfl)))) ?_
      apply wpV_seq; apply wpV_seq; refine wpV_of (by ((conv => lhs; cbv); (repeat ((first | rewrite [om]); (try (conv => lhs; cbv)))); (try (with_reducible rfl)))) ?_
      refine tail _ _ (by ((conv => lhs; cbv); (repeat ((first | rewrite [om] | rewrite [i0]); (try (conv => lhs; cbv)))); (try (with_reducible rfl)))) ?_
      show wpV _ _ _ _ _ _
      refine wpV_of (by ((conv => lhs; cbv); (try (with_reducible rfl)))) ?_
      (show finV _ _ _ = some _; ((conv => lhs; cbv); (repeat ((first | rewrite [kc]); (try (conv => lhs; cbv)))); (try (with_reducible rfl))); (try rfl))
end Go.Proofs.Ytlljgefgbglmbaa
