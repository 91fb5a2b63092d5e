/- The reference's vector behind bytes: gone through. -/
import Derived.Test.YtlljgefgbglmbaaCGS
set_option linter.unusedSimpArgs false
set_option linter.unusedVariables false
set_option maxRecDepth 100000
set_option maxHeartbeats 1000000
set_option cbv.maxSteps 10000000
namespace Go.Proofs.Ytlljgefgbglmbaa
open Go GoV

theorem n35 {v : List Int} (hv : v.length = 64) : Pn 66 35 [vecF v] [] (bl (goodB v)) [] := by
  refine playN 65 rfl rfl fun A call hA hcall => ?_
  obtain ⟨pl, mi, ml, nt, tn, ad, sb, K⟩ := kit hA
  obtain ⟨E, ix, sn, ll, cc, sg, I⟩ := lkit hA K (0 : Int) (fun z => [.int .i64 z]) 8
  obtain ⟨W, gx, st', V⟩ := rkit hA
  have hvW : vec v = W v := by rw [V.W_]; rfl
  have hgx : ∀ (J : Int) (i : Nat), J = i → gx v J = v.getD i 0 := fun J i h => by rw [V.gx_, h, Int.toNat_natCast]
  dsimp only [vecF]
  rw [hvW]
  apply wpV_seq; refine wpV_ofH (by ((try (conv => lhs; cbv)); (exact rfl))) ?_
  apply wpV_seq; apply wpV_seq; refine wpV_ofH (by ((try (conv => lhs; cbv)); (exact rfl))) ?_
  apply wpV_block
  refine wpV_loop 64 (fun i st => ∃ J : Int, st = ⟨0, [u, u, u, u, u, .agg [.iv (.arr 64 (W v))], i64 J, u, u, u, u, u, u, u, u, u], []⟩ ∧ J = i ∧ ∀ j, j < i → badB (v.getD j 0) = false) (by omega) (by ((try (conv => lhs; cbv)); (try (with_reducible rfl)))) ⟨0, rfl, rfl, fun j h => by omega⟩ ?_
  rintro i hi st ⟨J, rfl, hJ, hg⟩
  by_cases him : i < 64
  · have x0 := hgx J i hJ
    have g1 := V.getc (v := v) (J := J) (by omega)
    generalize gx v J = Y at *
    by_cases hb : badB (v.getD i 0) = true
    · have hb' := hb
      simp only [badB, Bool.or_eq_true, decide_eq_true_eq] at hb'
      have e : goodB v = false := all_f (g := fun i => badB (v.getD i 0)) him hb
      rw [e]
      by_cases c : Y < 0
      · refine wpV_ofH (by ((try (conv => lhs; cbv)); (repeat ((first | (rewrite [g1]) | (rewrite [K.ltT]; rotate_left; focus ((try simp only [K.df, I.df, V.df, true_and, and_true]) <;> omega))); (try (conv => lhs; cbv)))); (exact rfl))) ?_
        show finQ _ _ _ _ _
        (show finV _ _ _ = some _; ((try (conv => lhs; cbv)); (try (with_reducible rfl))); (try rfl))
      · refine wpV_ofH (by ((try (conv => lhs; cbv)); (repeat ((first | (rewrite [g1]) | (rewrite [K.ltT]; rotate_left; focus ((try simp only [K.df, I.df, V.df, true_and, and_true]) <;> omega)) | (rewrite [K.gtT]; rotate_left; focus ((try simp only [K.df, I.df, V.df, true_and, and_true]) <;> omega)) | (rewrite [K.ltF]; rotate_left; focus ((try simp only [K.df, I.df, V.df, true_and, and_true]) <;> omega))); (try (conv => lhs; cbv)))); (exact rfl))) ?_
        show finQ _ _ _ _ _
        (show finV _ _ _ = some _; ((try (conv => lhs; cbv)); (try (with_reducible rfl))); (try rfl))
    · have hb0 : badB (v.getD i 0) = false := by simpa using hb
      have hb' := hb0
      simp only [badB, Bool.or_eq_false_iff, decide_eq_false_iff_not] at hb'
      refine wpV_ofH (by ((try (conv => lhs; cbv)); (repeat ((first | (rewrite [g1]) | (rewrite [K.add]; rotate_left; focus ((try simp only [K.df, I.df, V.df, true_and, and_true]) <;> omega)) | (rewrite [K.ltT]; rotate_left; focus ((try simp only [K.df, I.df, V.df, true_and, and_true]) <;> omega)) | (rewrite [K.ltF]; rotate_left; focus ((try simp only [K.df, I.df, V.df, true_and, and_true]) <;> omega)) | (rewrite [K.gtF]; rotate_left; focus ((try simp only [K.df, I.df, V.df, true_and, and_true]) <;> omega))); (try (conv => lhs; cbv)))); (exact rfl))) ?_
      refine headQ_ofH (by ((try (conv => lhs; cbv)); (exact rfl))) ?_
      refine ⟨him, _, rfl, ?_, fun j hj => ?_⟩
      · rw [K.pl_]; omega
      · rcases Nat.lt_succ_iff_lt_or_eq.1 hj with h | rfl
        · exact hg j h
        · exact hb0
  · obtain rfl : i = 64 := by omega
    have e : goodB v = true := all_t (g := fun i => badB (v.getD i 0)) hg
    rw [e]
    refine wpV_ofH (by ((try (conv => lhs; cbv)); (repeat ((first | (rewrite [K.ltF]; rotate_left; focus ((try simp only [K.df, I.df, V.df, true_and, and_true]) <;> omega))); (try (conv => lhs; cbv)))); (exact rfl))) ?_
    show wpV _ _ _ _ _ _
    refine wpV_ofH (by ((try (conv => lhs; cbv)); (exact rfl))) ?_
    (show finV _ _ _ = some _; ((try (conv => lhs; cbv)); (try (with_reducible rfl))); (try rfl))
theorem n28 {v : List Int} (hv : v.length = 64) (hg : goodB v = true) (B : List Nat) (t : Bool) (z : Nat) (hz : z = 0 ∨ z = 1) (hB : B.length ≤ 199999999800000) :
    Pn 1200 28 [.one (.iv (.sl t z (by8 B))), vecF v] [] (.one (.slo 0 0 (B ++ putB v).length)) [.arr false false 1 (by8 (B ++ putB v))] := by
  refine playN 1199 rfl rfl fun A call hA hcall => ?_
  obtain ⟨pl, mi, ml, nt, tn, ad, sb, K⟩ := kit hA
  obtain ⟨E, ix, sn, ll, cc, sg, I⟩ := lkit hA K (0 : Int) (fun z => [.int .i64 z]) 8
  obtain ⟨W, gx, st', V⟩ := rkit hA
  have k1 := n35 hv 1199 (by omega)
  rw [hg] at k1
  have hvW : vec v = W v := by rw [V.W_]; rfl
  have hgx : ∀ (J : Int) (i : Nat), J = i → gx v J = v.getD i 0 := fun J i h => by rw [V.gx_, h, Int.toNat_natCast]
  obtain ⟨m, hm⟩ : ∃ m, m = (ats v 64).length := ⟨_, rfl⟩
  have ll64 := ats_len v 64
  have k2 : ∀ t2, call 67 [.one (.iv (.sl (A .isE (by8 B)) 1 (by8 B))), .one (.iv (.sl t2 1 (ints (ats v 64))))] [] = some (.one (.slo 0 0 (B ++ (enc m ++ gs (ats v 64) m)).length), [.arr false false 1 (by8 (B ++ (enc m ++ gs (ats v 64) m)))]) := fun t2 => by
    rw [hcall, hm]
    exact n67 B (ats v 64) _ t2 1 (.inr rfl) (ats_pw v 64) (by omega) (fun x hx => by have := (ats_mem.1 hx).1; omega) (by omega) 1199 (by omega)
  obtain ⟨C, hC⟩ : ∃ C : Nat → List Nat, ∀ i, C i = B ++ ((enc m ++ gs (ats v 64) m) ++ es2 (fv v) i) := ⟨_, fun _ => rfl⟩
  have c0 : B ++ (enc m ++ gs (ats v 64) m) = C 0 := by rw [hC]; simp [es2]
  have fin : B ++ putB v = C m := by rw [hC, hm]; rfl
  have cl : ∀ i, i ≤ m → (C i).length ≤ 200000000000000 := fun i hi => by
    rw [hC]; simp only [List.length_append, enc_len]; have := nd_le m; have := gs_len (ats v 64) m; have := es2_len (fv v) i; omega
  have cS : ∀ i, C (i + 1) = C i ++ enc (fv v i) := fun i => by rw [hC, hC]; simp [es2]
  have sgm : ∀ i, A .seg (by8 (C i)) 0 (C i).length = by8 (C i) := fun i => by
    rw [hA, real_seg]; unfold rSeg; rw [List.drop_zero, List.take_of_length_le (by rw [by8_len]; omega)]
  obtain ⟨F, hF⟩ : ∃ F : Nat → List (List IV), ∀ i, F i = by8 (C i) := ⟨_, fun _ => rfl⟩
  obtain ⟨N, hN⟩ : ∃ N : Nat → Nat, ∀ i, N i = (C i).length := ⟨_, fun _ => rfl⟩
  have kk : ∀ i, i < m → ∀ (t : Bool) (x : Int), x = fv v i → call 27 [.one (.iv (.sl t 1 (F i))), i64 x] [] = some (.one (.slo 0 0 (N (i + 1))), [.arr false false 1 (F (i + 1))]) := fun i hi t x hx => by
    have hfv : (fv v i : Int) < 9223372036854775808 := by
      have : (ats v 64).getD i 0 ∈ ats v 64 := by rw [List.getD_eq_getElem?_getD, List.getElem?_eq_getElem (by omega)]; exact List.getElem_mem _
      have vg := goodB_get hg (ats_mem.1 this).1
      unfold fv; omega
    have : call 27 [.one (.iv (.sl t 1 (by8 (C i)))), i64 x] [] = some (.one (.slo 0 0 (C i ++ enc x.toNat).length), [.arr false false 1 (by8 (C i ++ enc x.toNat))]) := by
      rw [hcall]; exact n27 (C i) t 1 (.inr rfl) x (by omega) (cl i (by omega)) 1199 (by omega)
    rw [hx, Int.toNat_natCast, ← cS, ← hF, ← hF, ← hN, ← hx] at this
    exact this
  rw [c0] at k2
  rw [fin, ← hN, ← hF]
  rw [← hN, ← hF] at k2
  rw [← hcall] at k1
  have a1 := appn hA (by8 B) (by rw [by8_len]; omega)
  have l1 : A .ln (by8 B) = B.length := by rw [hA]; exact by8_len B
  have s1 := seg0 hA (es := by8 B) (n := B.length) (by rw [by8_len])
  have hEI : ∀ l : List Nat, ints l = E (l.map fun (n : Nat) => (n : Int)) := fun l => by rw [I.E_]; simp [ints]
  have hE0 : E [] = [] := by rw [I.E_]; rfl
  obtain ⟨L, hL⟩ : ∃ L : List Int, L = (ats v 64).map fun (n : Nat) => (n : Int) := ⟨_, rfl⟩
  rw [hEI, ← hL] at k2
  have hLl : L.length = m := by rw [hL, hm]; simp
  have hix : ∀ (J : Int) (i : Nat), J = i → ix L J = (ats v 64).getD i 0 := fun J i h => by
    rw [I.ix_, hL, h, Int.toNat_natCast, List.getD_eq_getElem?_getD, List.getD_eq_getElem?_getD, List.getElem?_map]
    cases (ats v 64)[i]? <;> rfl
  have hz' : okE z 1 = true := by rcases hz with rfl | rfl <;> rfl
  have sgF : ∀ i, A .seg (F i) 0 (N i) = F i := fun i => by rw [hF, hN]; exact sgm i
  dsimp only [vecF] at k1 ⊢
  rw [hvW] at k1 ⊢
  obtain ⟨M, hM⟩ : ∃ M : Int, M = m := ⟨_, rfl⟩
  clear hF hN
  generalize by8 B = es at *
  generalize hBl : B.length = bn at *
  have tail : ∀ st0 : St, headV false [3, 5, 33, 34, 35] st0 = some ⟨0, (u :: u :: u :: .one (.ptr 0 0) :: u :: .one (.slo 1 0 (N 0)) :: u :: u :: u :: u :: u :: u :: u :: u :: u :: u :: u :: u :: u :: u :: u :: u :: u :: u :: u :: u :: u :: u :: u :: u :: u :: u :: u :: .one (.slo 2 0 m) :: i64 M :: i64 0 :: u :: u :: u :: u :: u :: u :: u :: u :: u :: u :: u :: []), [.var false [.iv (.arr 64 (W v))], .arr false false 1 (F 0), .arr true false 1 (E L)]⟩ →
      ∀ Q : Ex → St → Prop, (∀ J : Int, Q .normal ⟨0, (u :: u :: u :: .one (.ptr 0 0) :: u :: .one (.slo 1 0 (N m)) :: u :: u :: u :: u :: u :: u :: u :: u :: u :: u :: u :: u :: u :: u :: u :: u :: u :: u :: u :: u :: u :: u :: u :: u :: u :: u :: u :: .one (.slo 2 0 m) :: i64 M :: i64 J :: bl false :: u :: u :: u :: u :: u :: u :: u :: u :: u :: u :: []), [.var false [.iv (.arr 64 (W v))], .arr false false 1 (F m), .arr true false 1 (E L)]⟩) → wpV A call (iterN 1199) (.block 2 (.loop false [3, 5, 33, 34, 35] l28_1)) st0 Q := by
    intro st0 hst Q hQ
    apply wpV_block
    refine wpV_loop m (fun i st => ∃ J : Int, st = ⟨0, (u :: u :: u :: .one (.ptr 0 0) :: u :: .one (.slo 1 0 (N i)) :: u :: u :: u :: u :: u :: u :: u :: u :: u :: u :: u :: u :: u :: u :: u :: u :: u :: u :: u :: u :: u :: u :: u :: u :: u :: u :: u :: .one (.slo 2 0 m) :: i64 M :: i64 J :: u :: u :: u :: u :: u :: u :: u :: u :: u :: u :: u :: []), [.var false [.iv (.arr 64 (W v))], .arr false false 1 (F i), .arr true false 1 (E L)]⟩ ∧ J = i) (by omega) hst ⟨0, rfl, rfl⟩ ?_
    rintro i hi st ⟨J, rfl, hJ⟩
    by_cases him : i < m
    · have x0 := hix J i hJ
      have hin : (ats v 64).getD i 0 ∈ ats v 64 := by rw [List.getD_eq_getElem?_getD, List.getElem?_eq_getElem (by omega)]; exact List.getElem_mem _
      have hax := ats_mem.1 hin
      have vg := goodB_get hg hax.1
      have g1 := V.getc (v := v) (J := ix L J) (by omega)
      have g2 := hgx (ix L J) _ x0
      have k3 := fun t => kk i him t (mi (gx v (ix L J)) 1) (by rw [K.mi_, g2]; unfold fv; omega)
      have sgi := sgF i
      generalize gx v (ix L J) = Y at *
      generalize N (i + 1) = N1 at *
      generalize N i = N0 at *
      generalize F (i + 1) = F1 at *
      generalize F i = F0 at *
      refine wpV_ofH (by ((try (conv => lhs; cbv)); (repeat ((first | (rewrite [g1]) | (rewrite [sgi]) | (rewrite [k3]) | (rewrite [K.add]; rotate_left; focus ((try simp only [K.df, I.df, V.df, true_and, and_true]) <;> omega)) | (rewrite [K.sub]; rotate_left; focus ((try simp only [K.df, I.df, V.df, true_and, and_true]) <;> omega)) | (rewrite [K.at_]; rotate_left; focus ((try simp only [K.df, I.df, V.df, true_and, and_true]) <;> omega)) | (rewrite [I.getN]; rotate_left; focus ((try simp only [K.df, I.df, V.df, true_and, and_true]) <;> omega)) | (rewrite [K.ltT]; rotate_left; focus ((try simp only [K.df, I.df, V.df, true_and, and_true]) <;> omega))); (try (conv => lhs; cbv)))); (exact rfl))) ?_
      refine headQ_ofH (by ((try (conv => lhs; cbv)); (exact rfl))) ?_
      refine ⟨him, _, rfl, ?_⟩
      rw [K.pl_]; omega
    · obtain rfl : i = m := by omega
      generalize N i = N0 at *
      generalize F i = F0 at *
      refine wpV_ofH (by ((try (conv => lhs; cbv)); (repeat ((first | (rewrite [K.ltF]; rotate_left; focus ((try simp only [K.df, I.df, V.df, true_and, and_true]) <;> omega))); (try (conv => lhs; cbv)))); (exact rfl))) ?_
      exact hQ J
  have sgL : A .seg (E L) 0 m = E L := by
    rw [I.seg, I.sg_, List.drop_zero, List.take_of_length_le (by omega)]
  have om : A .ofN m = M := by rw [K.ofN, K.nt_, hM]
  generalize F 0 = F0 at *
  generalize N 0 = N0 at *
  have main : ∀ st0 : St, headV false [3, 5, 6, 18, 19] st0 = some ⟨0, (u :: u :: u :: .one (.ptr 0 0) :: u :: .one (.slo 1 0 bn) :: .one (.slo 2 0 0) :: u :: u :: u :: u :: u :: u :: u :: u :: u :: u :: u :: .agg [.iv (.arr 64 (W v))] :: i64 0 :: u :: u :: u :: u :: u :: u :: u :: u :: u :: u :: u :: u :: u :: u :: u :: u :: u :: u :: u :: u :: u :: u :: u :: u :: u :: u :: u :: []), [.var false [.iv (.arr 64 (W v))], .arr false false 1 es, .arr false false 1 []]⟩ →
      ∀ Q : Ex → St → Prop, (∀ J : Int, Q .normal ⟨0, (u :: u :: u :: .one (.ptr 0 0) :: u :: .one (.slo 1 0 bn) :: .one (.slo 2 0 m) :: u :: u :: u :: u :: u :: u :: u :: u :: u :: u :: u :: .agg [.iv (.arr 64 (W v))] :: i64 J :: bl false :: u :: u :: u :: u :: u :: u :: u :: u :: u :: u :: u :: u :: u :: u :: u :: u :: u :: u :: u :: u :: u :: u :: u :: u :: u :: u :: []), [.var false [.iv (.arr 64 (W v))], .arr false false 1 es, .arr false false 1 (E L)]⟩) → wpV A call (iterN 1199) (.block 0 (.loop false [3, 5, 6, 18, 19] l28_0)) st0 Q := by
    intro st0 hst Q hQ
    apply wpV_block
    refine wpV_loop 64 (fun i st => ∃ (J : Int) (l : List Int) (ln : Nat), st = ⟨0, (u :: u :: u :: .one (.ptr 0 0) :: u :: .one (.slo 1 0 bn) :: .one (.slo 2 0 ln) :: u :: u :: u :: u :: u :: u :: u :: u :: u :: u :: u :: .agg [.iv (.arr 64 (W v))] :: i64 J :: u :: u :: u :: u :: u :: u :: u :: u :: u :: u :: u :: u :: u :: u :: u :: u :: u :: u :: u :: u :: u :: u :: u :: u :: u :: u :: u :: []), [.var false [.iv (.arr 64 (W v))], .arr false false 1 es, .arr false false 1 (E l)]⟩ ∧ J = i ∧ l = ((ats v i).map fun (n : Nat) => (n : Int)) ∧ ln = l.length) (by omega) hst ⟨0, [], 0, by rw [hE0], rfl, rfl, rfl⟩ ?_
    rintro i hi st ⟨J, l, ln, rfl, hJ, hl, hln⟩
    by_cases him : i < 64
    · have x0 := hgx J i hJ
      have g1 := V.getc (v := v) (J := J) (by omega)
      have vg := goodB_get hg him
      have la := ats_len v i
      have hll : l.length = (ats v i).length := by rw [hl]; simp
      have hs := ats_succ v i
      generalize gx v J = Y at *
      by_cases hc : 0 < v.getD i 0
      · rw [if_pos hc] at hs
        refine wpV_ofH (by ((try (conv => lhs; cbv)); (repeat ((first | (rewrite [g1]) | (rewrite [K.addN]) | (rewrite [K.add]; rotate_left; focus ((try simp only [K.df, I.df, V.df, true_and, and_true]) <;> omega)) | (rewrite [I.ln]) | (rewrite [I.apo]; rotate_left; focus ((try simp only [K.df, I.df, V.df, true_and, and_true]) <;> omega)) | (rewrite [K.ltT]; rotate_left; focus ((try simp only [K.df, I.df, V.df, true_and, and_true]) <;> omega)) | (rewrite [K.neT]; rotate_left; focus ((try simp only [K.df, I.df, V.df, true_and, and_true]) <;> omega))); (try (conv => lhs; cbv)))); (exact rfl))) ?_
        refine headQ_ofH (by ((try (conv => lhs; cbv)); (exact rfl))) ?_
        refine ⟨him, _, _, _, rfl, ?_, ?_, ?_⟩
        · rw [K.pl_]; omega
        · rw [I.sn_, hs, hl, hJ]; simp
        · rw [I.ll_]
      · rw [if_neg hc] at hs
        refine wpV_ofH (by ((try (conv => lhs; cbv)); (repeat ((first | (rewrite [g1]) | (rewrite [K.addN]) | (rewrite [K.add]; rotate_left; focus ((try simp only [K.df, I.df, V.df, true_and, and_true]) <;> omega)) | (rewrite [I.apo]; rotate_left; focus ((try simp only [K.df, I.df, V.df, true_and, and_true]) <;> omega)) | (rewrite [K.ltT]; rotate_left; focus ((try simp only [K.df, I.df, V.df, true_and, and_true]) <;> omega)) | (rewrite [K.neF]; rotate_left; focus ((try simp only [K.df, I.df, V.df, true_and, and_true]) <;> omega))); (try (conv => lhs; cbv)))); (exact rfl))) ?_
        refine headQ_ofH (by ((try (conv => lhs; cbv)); (exact rfl))) ?_
        refine ⟨him, _, _, _, rfl, ?_, ?_, hln⟩
        · rw [K.pl_]; omega
        · rw [hs, hl]
    · obtain rfl : i = 64 := by omega
      have hlL : l = L := by rw [hl, hL]
      have : ln = m := by rw [hln, hlL, hLl]
      subst hlL this
      refine wpV_ofH (by ((try (conv => lhs; cbv)); (repeat ((first | (rewrite [K.ltF]; rotate_left; focus ((try simp only [K.df, I.df, V.df, true_and, and_true]) <;> omega))); (try (conv => lhs; cbv)))); (exact rfl))) ?_
      exact hQ J
  rcases hz with rfl | rfl
  all_goals
    apply wpV_seq; refine wpV_ofH (by ((try (conv => lhs; cbv)); (exact rfl))) ?_
    apply wpV_seq; refine wpV_ofH (by ((try (conv => lhs; cbv)); (exact rfl))) ?_
    apply wpV_seq; refine wpV_ofH (by ((try (conv => lhs; cbv)); (repeat ((first | (rewrite [a1]) | (rewrite [l1])); (try (conv => lhs; cbv)))); (exact rfl))) ?_
    apply wpV_seq; refine wpV_ofH (by ((try (conv => lhs; cbv)); (repeat ((first | (rewrite [k1])); (try (conv => lhs; cbv)))); (exact rfl))) ?_
    apply wpV_seq; refine wpV_ofH (by ((try (conv => lhs; cbv)); (exact rfl))) ?_
    apply wpV_seq; apply wpV_seq; refine wpV_ofH (by ((try (conv => lhs; cbv)); (exact rfl))) ?_
    refine main _ (by ((try (conv => lhs; cbv)); (try (with_reducible rfl)))) _ ?_
    intro J
    show wpV _ _ _ _ _ _
    apply wpV_seq; refine wpV_ofH (by ((try (conv => lhs; cbv)); (repeat ((first | (rewrite [s1]) | (rewrite [sgL]) | (rewrite [k2])); (try (conv => lhs; cbv)))); (exact rfl))) ?_
    apply wpV_seq; apply wpV_seq; refine wpV_ofH (by ((try (conv => lhs; cbv)); (repeat ((first | (rewrite [om])); (try (conv => lhs; cbv)))); (exact rfl))) ?_
    refine tail _ (by ((try (conv => lhs; cbv)); (try (with_reducible rfl)))) _ ?_
    intro J
    show wpV _ _ _ _ _ _
    refine wpV_ofH (by ((try (conv => lhs; cbv)); (exact rfl))) ?_
    (show finV _ _ _ = some _; ((try (conv => lhs; cbv)); (try (with_reducible rfl))); (try rfl))
end Go.Proofs.Ytlljgefgbglmbaa
