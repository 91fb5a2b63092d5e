/- Lists of dots behind each other, and held against each other: gone through. -/
import Derived.Test.YtomchclmnmhjaaaDUA
set_option linter.unusedSimpArgs false
set_option linter.unusedVariables false
set_option maxRecDepth 100000
set_option maxHeartbeats 1000000
set_option cbv.maxSteps 10000000
namespace Go.Proofs.Ytomchclmnmhjaaa
open Go GoV

theorem apo_in {es ys : List (List IV)} {m : Nat} (h : m + ys.length ≤ es.length) (hb : es.length ≤ 100000) : ∃ z, real .apo 16 0 m es ys = some (z, es.take m ++ ys ++ es.drop (m + ys.length)) ∧ (z = true → ys = [] ∧ m = es.length) := by
  rw [real_apo]
  unfold rApo rOver room
  by_cases e : 0 + m = es.length
  · have hy : ys = [] := List.length_eq_zero_iff.1 (by omega)
    subst hy
    rw [List.length_nil] at h
    refine ⟨true, ?_, fun _ => ⟨rfl, by omega⟩⟩
    rw [if_pos e, if_pos ⟨by rw [List.length_nil]; omega, .inl rfl⟩, List.drop_zero, List.take_of_length_le (by omega), List.drop_of_length_le (by rw [List.length_nil]; omega), List.append_nil, List.append_nil]
  · refine ⟨false, ?_, fun h => by cases h⟩
    rw [if_neg e, if_pos (by omega), Nat.zero_add]
theorem h87 (a b : List Dt) (t t2 : Bool) (ha : a.length ≤ 400) (hb : b.length ≤ 400) : Qn 12 87 [.one (.iv (.sl true 1 [[.sl t 2 (eDs a)], [.sl t2 2 (eDs b)]]))] [] (.one (.slo 0 0 (a ++ b).length)) [.arr false false 2 (eDs (a ++ b))] := by
  refine playQ 11 rfl rfl fun A call hA hcall => ?_
  obtain ⟨pl, mi, ml, nt, tn, ad, sb, K⟩ := kit hA
  obtain ⟨E, ix, sn, ll, cc, sg, D⟩ := lkit hA K ((0, 0) : Int × Int) (fun p => [.int .i64 p.1, .int .i64 p.2]) 16
  obtain ⟨W, gx, st', V⟩ := rkit hA
  have hE : ∀ l, eDs l = E l := fun l => by rw [D.E_]; rfl
  have hEl : ∀ x : List Dt, (eDs x).length = x.length := fun x => by simp [eDs]
  obtain ⟨N, hN⟩ : ∃ N, N = a.length + b.length := ⟨_, rfl⟩
  obtain ⟨p, hp⟩ : ∃ p, p = a.length := ⟨_, rfl⟩
  obtain ⟨Z0, hZ0⟩ : ∃ Z0 : List Dt, Z0 = List.replicate N (0, 0) := ⟨_, rfl⟩
  obtain ⟨Z1, hZ1⟩ : ∃ Z1 : List Dt, Z1 = a ++ List.replicate b.length (0, 0) := ⟨_, rfl⟩
  obtain ⟨Z2, hZ2⟩ : ∃ Z2 : List Dt, Z2 = a ++ b := ⟨_, rfl⟩
  have k120 := q120 N (by omega) 11 (by omega)
  rw [← hcall, ← hZ0] at k120
  obtain ⟨z1, a1, c1⟩ := apo_in (es := eDs Z0) (ys := eDs a) (m := 0) (by rw [hEl, hEl, hZ0, List.length_replicate]; omega) (by rw [hEl, hZ0, List.length_replicate]; omega)
  have e1 : (eDs Z0).take 0 ++ eDs a ++ (eDs Z0).drop (0 + (eDs a).length) = eDs Z1 := by
    rw [hZ0, hZ1, hEl]; unfold eDs
    rw [List.take_zero, List.nil_append, List.map_append, ← List.map_drop, List.drop_replicate]
    congr 3; omega
  rw [e1] at a1
  obtain ⟨z2, a2, c2⟩ := apo_in (es := eDs Z1) (ys := eDs b) (m := p) (by rw [hEl, hEl, hZ1, List.length_append, List.length_replicate]; omega) (by rw [hEl, hZ1, List.length_append, List.length_replicate]; omega)
  have e2 : (eDs Z1).take p ++ eDs b ++ (eDs Z1).drop (p + (eDs b).length) = eDs Z2 := by
    rw [hZ1, hZ2, hEl, hp]; unfold eDs
    rw [← List.map_take, ← List.map_drop, List.take_left, List.drop_of_length_le (by rw [List.length_append, List.length_replicate]; omega), List.map_append]
    simp
  rw [e2] at a2
  rw [← hA] at a1 a2
  have la : A .len (eDs a) = (a.length : Int) := by rw [hA, real_len, hEl]
  have lb : A .len (eDs b) = (b.length : Int) := by rw [hA, real_len, hEl]
  have na : A .ln (eDs a) = p := by rw [hA, real_ln, hEl, hp]
  have nb : A .ln (eDs b) = b.length := by rw [hA, real_ln, hEl]
  have n1 : A .ln (eDs Z1) = N := by rw [hA, real_ln, hEl, hZ1, List.length_append, List.length_replicate, hN]
  have n2 : A .ln (eDs Z2) = N := by rw [hA, real_ln, hEl, hZ2, List.length_append, hN]
  have l2 : A .len [[IV.sl t 2 (eDs a)], [IV.sl t2 2 (eDs b)]] = 2 := by rw [hA]; rfl
  have g0 : A .get [[IV.sl t 2 (eDs a)], [IV.sl t2 2 (eDs b)]] 0 = some [.sl t 2 (eDs a)] := by rw [hA]; rfl
  have g1 : A .get [[IV.sl t 2 (eDs a)], [IV.sl t2 2 (eDs b)]] 1 = some [.sl t2 2 (eDs b)] := by rw [hA]; rfl
  have hl2 : (a ++ b).length = N := by rw [List.length_append, hN]
  have ad0 : A .addN 0 p = p := by rw [hA, real_addN]; omega
  have ad1 : A .addN p b.length = N := by rw [hA, real_addN]; omega
  have p01 : pl 0 1 = 1 := by rw [K.pl_]; rfl
  have p11 : pl 1 1 = 2 := by rw [K.pl_]; rfl
  rw [hl2, ← hZ2]
  obtain ⟨AI, hAI⟩ : ∃ AI : Int, AI = a.length := ⟨_, rfl⟩
  obtain ⟨BI, hBI⟩ : ∃ BI : Int, BI = b.length := ⟨_, rfl⟩
  obtain ⟨NI, hNI⟩ : ∃ NI : Int, NI = N := ⟨_, rfl⟩
  have s0 : pl 0 AI = AI := by rw [K.pl_]; omega
  have s1 : pl AI BI = NI := by rw [K.pl_]; omega
  rw [← hAI] at la
  rw [← hBI] at lb
  rw [← hNI] at k120
  have c1' : z1 = true → p = N := fun h => by
    obtain ⟨q1, q2⟩ := c1 h
    have := congrArg List.length q1
    rw [hEl] at this
    rw [hEl, hZ0, List.length_replicate] at q2
    simp at this
    omega
  have c2' : z2 = true → b.length = 0 := fun h => by
    have := congrArg List.length (c2 h).1
    rw [hEl] at this
    simpa using this
  generalize b.length = bn at *
  generalize eDs a = ea at *
  generalize eDs b = eb at *
  generalize eDs Z0 = e0 at *
  generalize eDs Z1 = ez1 at *
  generalize eDs Z2 = ez2 at *
  apply wpV_seq; refine wpV_ofH (by ((try (conv => lhs; cbv)); (exact rfl))) ?_
  apply wpV_seq; refine wpV_ofH (by ((try (conv => lhs; cbv)); (exact rfl))) ?_
  apply wpV_seq; apply wpV_seq; refine wpV_ofH (by ((try (conv => lhs; cbv)); (repeat ((first | (rewrite [l2])); (try (conv => lhs; cbv)))); (exact rfl))) ?_
  apply wpV_block
  refine wpV_loop 2 (fun i st => ∃ J S : Int, st = ⟨0, [.one (.iv (.sl true 1 [[.sl t 2 ea], [.sl t2 2 eb]])), u, u, i64 S, u, u, u, u, u, .one (.iv (.sl true 1 [[.sl t 2 ea], [.sl t2 2 eb]])), i64 2, i64 J, u, u, u, u, u, u, u, u, u, u, u, u, u, u, u, u, u, u, u, u, u, u, u, u], []⟩ ∧ (i = 0 ∧ J = 0 ∧ S = 0 ∨ i = 1 ∧ J = 1 ∧ S = AI ∨ i = 2 ∧ J = 2 ∧ S = NI)) (by omega) (by ((try (conv => lhs; cbv)); (try (with_reducible rfl)))) ⟨0, 0, rfl, .inl ⟨rfl, rfl, rfl⟩⟩ ?_
  rintro i hi st ⟨J, S, rfl, ⟨rfl, rfl, rfl⟩ | ⟨rfl, rfl, rfl⟩ | ⟨rfl, rfl, rfl⟩⟩
  · refine wpV_ofH (by ((try (conv => lhs; cbv)); (repeat ((first | (rewrite [g0]) | (rewrite [la]) | (rewrite [K.add]; rotate_left; focus ((try simp only [K.df, D.df, V.df, true_and, and_true]) <;> omega)) | (rewrite [K.ltT]; rotate_left; focus ((try simp only [K.df, D.df, V.df, true_and, and_true]) <;> omega)) | (rewrite [K.ltF]; rotate_left; focus ((try simp only [K.df, D.df, V.df, true_and, and_true]) <;> omega))); (try (conv => lhs; cbv)))); (exact rfl))) ?_
    refine headQ_ofH (by ((try (conv => lhs; cbv)); (repeat ((first | (rewrite [s0]) | (rewrite [p01])); (try (conv => lhs; cbv)))); (exact rfl))) ?_
    exact ⟨by omega, _, _, rfl, .inr (.inl ⟨rfl, rfl, rfl⟩)⟩
  · refine wpV_ofH (by ((try (conv => lhs; cbv)); (repeat ((first | (rewrite [g1]) | (rewrite [lb]) | (rewrite [K.add]; rotate_left; focus ((try simp only [K.df, D.df, V.df, true_and, and_true]) <;> omega)) | (rewrite [K.ltT]; rotate_left; focus ((try simp only [K.df, D.df, V.df, true_and, and_true]) <;> omega)) | (rewrite [K.ltF]; rotate_left; focus ((try simp only [K.df, D.df, V.df, true_and, and_true]) <;> omega))); (try (conv => lhs; cbv)))); (exact rfl))) ?_
    refine headQ_ofH (by ((try (conv => lhs; cbv)); (repeat ((first | (rewrite [s1]) | (rewrite [p11])); (try (conv => lhs; cbv)))); (exact rfl))) ?_
    exact ⟨by omega, _, _, rfl, .inr (.inr ⟨rfl, rfl, rfl⟩)⟩
  · refine wpV_ofH (by ((try (conv => lhs; cbv)); (repeat ((first | (rewrite [K.ltF]; rotate_left; focus ((try simp only [K.df, D.df, V.df, true_and, and_true]) <;> omega))); (try (conv => lhs; cbv)))); (exact rfl))) ?_
    show wpV _ _ _ _ _ _
    apply wpV_seq; refine wpV_ofH (by ((try (conv => lhs; cbv)); (repeat ((first | (rewrite [k120])); (try (conv => lhs; cbv)))); (exact rfl))) ?_
    apply wpV_seq; apply wpV_seq; refine wpV_ofH (by ((try (conv => lhs; cbv)); (repeat ((first | (rewrite [l2])); (try (conv => lhs; cbv)))); (exact rfl))) ?_
    apply wpV_block
    refine wpV_loop 2 (fun i st => ∃ (J : Int) (m : Nat) (es : List (List IV)), st = ⟨0, [u, u, u, u, u, u, .one (.slo 0 0 m), u, u, u, u, u, u, u, u, u, u, u, u, u, u, u, u, u, u, .one (.iv (.sl true 1 [[.sl t 2 ea], [.sl t2 2 eb]])), i64 2, i64 J, u, u, u, u, u, u, u, u], [.arr false false 2 es]⟩ ∧ (i = 0 ∧ J = 0 ∧ m = 0 ∧ es = e0 ∨ i = 1 ∧ J = 1 ∧ m = p ∧ es = ez1 ∨ i = 2 ∧ J = 2 ∧ m = N ∧ es = ez2)) (by omega) (by ((try (conv => lhs; cbv)); (try (with_reducible rfl)))) ⟨0, 0, e0, rfl, .inl ⟨rfl, rfl, rfl, rfl⟩⟩ ?_
    rintro i hi st ⟨J, m, es, rfl, ⟨rfl, rfl, rfl, rfl⟩ | ⟨rfl, rfl, rfl, rfl⟩ | ⟨rfl, rfl, rfl, rfl⟩⟩
    · cases z1 with
      | true =>
        have hpN := c1' rfl
        refine wpV_ofH (by ((try (conv => lhs; cbv)); (repeat ((first | (rewrite [g0]) | (rewrite [a1]) | (rewrite [n1]) | (rewrite [K.add]; rotate_left; focus ((try simp only [K.df, D.df, V.df, true_and, and_true]) <;> omega)) | (rewrite [K.ltT]; rotate_left; focus ((try simp only [K.df, D.df, V.df, true_and, and_true]) <;> omega))); (try (conv => lhs; cbv)))); (exact rfl))) ?_
        refine headQ_ofH (by ((try (conv => lhs; cbv)); (repeat ((first | (rewrite [p01])); (try (conv => lhs; cbv)))); (exact rfl))) ?_
        exact ⟨by omega, _, _, _, rfl, .inr (.inl ⟨rfl, rfl, hpN.symm, rfl⟩)⟩
      | false =>
        refine wpV_ofH (by ((try (conv => lhs; cbv)); (repeat ((first | (rewrite [g0]) | (rewrite [a1]) | (rewrite [na]) | (rewrite [ad0]) | (rewrite [K.add]; rotate_left; focus ((try simp only [K.df, D.df, V.df, true_and, and_true]) <;> omega)) | (rewrite [K.ltT]; rotate_left; focus ((try simp only [K.df, D.df, V.df, true_and, and_true]) <;> omega))); (try (conv => lhs; cbv)))); (exact rfl))) ?_
        refine headQ_ofH (by ((try (conv => lhs; cbv)); (repeat ((first | (rewrite [p01])); (try (conv => lhs; cbv)))); (exact rfl))) ?_
        exact ⟨by omega, _, _, _, rfl, .inr (.inl ⟨rfl, rfl, rfl, rfl⟩)⟩
    · cases z2 with
      | true =>
        refine wpV_ofH (by ((try (conv => lhs; cbv)); (repeat ((first | (rewrite [g1]) | (rewrite [a2]) | (rewrite [n2]) | (rewrite [K.add]; rotate_left; focus ((try simp only [K.df, D.df, V.df, true_and, and_true]) <;> omega)) | (rewrite [K.ltT]; rotate_left; focus ((try simp only [K.df, D.df, V.df, true_and, and_true]) <;> omega))); (try (conv => lhs; cbv)))); (exact rfl))) ?_
        refine headQ_ofH (by ((try (conv => lhs; cbv)); (repeat ((first | (rewrite [p11])); (try (conv => lhs; cbv)))); (exact rfl))) ?_
        exact ⟨by omega, _, _, _, rfl, .inr (.inr ⟨rfl, rfl, rfl, rfl⟩)⟩
      | false =>
        refine wpV_ofH (by ((try (conv => lhs; cbv)); (repeat ((first | (rewrite [g1]) | (rewrite [a2]) | (rewrite [nb]) | (rewrite [ad1]) | (rewrite [K.add]; rotate_left; focus ((try simp only [K.df, D.df, V.df, true_and, and_true]) <;> omega)) | (rewrite [K.ltT]; rotate_left; focus ((try simp only [K.df, D.df, V.df, true_and, and_true]) <;> omega))); (try (conv => lhs; cbv)))); (exact rfl))) ?_
        refine headQ_ofH (by ((try (conv => lhs; cbv)); (repeat ((first | (rewrite [p11])); (try (conv => lhs; cbv)))); (exact rfl))) ?_
        exact ⟨by omega, _, _, _, rfl, .inr (.inr ⟨rfl, rfl, rfl, rfl⟩)⟩
    · refine wpV_ofH (by ((try (conv => lhs; cbv)); (repeat ((first | (rewrite [K.ltF]; rotate_left; focus ((try simp only [K.df, D.df, V.df, true_and, and_true]) <;> omega))); (try (conv => lhs; cbv)))); (exact rfl))) ?_
      show wpV _ _ _ _ _ _
      refine wpV_ofH (by ((try (conv => lhs; cbv)); (exact rfl))) ?_
      (show finV _ _ _ = some _; ((try (conv => lhs; cbv)); (try (with_reducible rfl))); (try rfl))
theorem h88 (q r : List Dt) (t t2 : Bool) (hq : q.length ≤ 1000) (hr : r.length ≤ 1000) : Qn 1102 88 [.one (.iv (.sl t 2 (eDs q))), .one (.iv (.sl t2 2 (eDs r)))] [] (bl (decide (q = r))) [] := by
  refine playQ 1101 rfl rfl fun A call hA hcall => ?_
  obtain ⟨pl, mi, ml, nt, tn, ad, sb, K⟩ := kit hA
  obtain ⟨E, ix, sn, ll, cc, sg, D⟩ := lkit hA K ((0, 0) : Int × Int) (fun p => [.int .i64 p.1, .int .i64 p.2]) 16
  obtain ⟨W, gx, st', V⟩ := rkit hA
  have hE : ∀ l, eDs l = E l := fun l => by rw [D.E_]; rfl
  rw [hE, hE]
  obtain ⟨M, hM⟩ : ∃ M : Int, M = nt (ll q) := ⟨_, rfl⟩
  have hMl : M = q.length := by rw [hM, K.nt_, D.ll_]
  have lq : A .len (E q) = M := by rw [D.len, hM]
  obtain ⟨M2, hM2⟩ : ∃ M2 : Int, M2 = nt (ll r) := ⟨_, rfl⟩
  have hM2l : M2 = r.length := by rw [hM2, K.nt_, D.ll_]
  have lr : A .len (E r) = M2 := by rw [D.len, hM2]
  by_cases hl : q.length = r.length
  · generalize hR : decide (q = r) = R
    apply wpV_seq; refine wpV_ofH (by ((try (conv => lhs; cbv)); (exact rfl))) ?_
    apply wpV_seq; refine wpV_ofH (by ((try (conv => lhs; cbv)); (repeat ((first | (rewrite [lq]) | (rewrite [lr]) | (rewrite [K.neF]; rotate_left; focus ((try simp only [K.df, D.df, V.df, true_and, and_true]) <;> omega))); (try (conv => lhs; cbv)))); (exact rfl))) ?_
    apply wpV_seq; apply wpV_seq; refine wpV_ofH (by ((try (conv => lhs; cbv)); (repeat ((first | (rewrite [lq])); (try (conv => lhs; cbv)))); (exact rfl))) ?_
    apply wpV_block
    refine wpV_loop q.length (fun i st => ∃ J : Int, st = ⟨0, [.one (.iv (.sl t 2 (E q))), .one (.iv (.sl t2 2 (E r))), u, u, u, u, u, u, u, u, u, u, i64 M, i64 J, u, u, u, u, u, u, u, u, u, u, u, u], []⟩ ∧ J = i ∧ decide (q.drop i = r.drop i) = R) (by omega) (by ((try (conv => lhs; cbv)); (try (with_reducible rfl)))) ⟨0, rfl, rfl, hR⟩ ?_
    rintro i hi st ⟨J, rfl, hJ, hgo⟩
    by_cases him : i < q.length
    · have hd : q.drop i = ix q J :: q.drop (i + 1) := by
        rw [D.ix_, hJ, Int.toNat_natCast, List.drop_eq_getElem_cons (by omega), List.getD_eq_getElem?_getD, List.getElem?_eq_getElem (by omega)]; rfl
      have hd2 : r.drop i = ix r J :: r.drop (i + 1) := by
        rw [D.ix_, hJ, Int.toNat_natCast, List.drop_eq_getElem_cons (by omega), List.getD_eq_getElem?_getD, List.getElem?_eq_getElem (by omega)]; rfl
      rw [hd, hd2] at hgo
      have gq := D.get (l := q) (J := J) (by omega)
      have gr := D.get (l := r) (J := J) (by omega)
      generalize ix q J = x at *
      generalize ix r J = y at *
      obtain ⟨x1, x2⟩ := x
      obtain ⟨y1, y2⟩ := y
      have eq := eqvT hA x1 x2 y1 y2
      (conv at eq => lhs; arg 2; cbv)
      dsimp only at gq gr
      by_cases h : (x1, x2) = (y1, y2)
      · rw [decide_eq_true h] at eq
        have e2 : decide ((x1, x2) :: q.drop (i + 1) = (y1, y2) :: r.drop (i + 1)) = decide (q.drop (i + 1) = r.drop (i + 1)) := by
          rw [decide_eq_decide, List.cons.injEq]
          exact ⟨fun e => e.2, fun e => ⟨h, e⟩⟩
        rw [e2] at hgo
        refine wpV_ofH (by ((try (conv => lhs; cbv)); (repeat ((first | (rewrite [gq]) | (rewrite [gr]) | (rewrite [eq]) | (rewrite [K.add]; rotate_left; focus ((try simp only [K.df, D.df, V.df, true_and, and_true]) <;> omega)) | (rewrite [K.ltT]; rotate_left; focus ((try simp only [K.df, D.df, V.df, true_and, and_true]) <;> omega))); (try (conv => lhs; cbv)))); (exact rfl))) ?_
        refine headQ_ofH (by ((try (conv => lhs; cbv)); (exact rfl))) ?_
        refine ⟨him, _, rfl, ?_, hgo⟩
        rw [K.pl_]; omega
      · rw [decide_eq_false h] at eq
        have e2 : decide ((x1, x2) :: q.drop (i + 1) = (y1, y2) :: r.drop (i + 1)) = false := by
          rw [decide_eq_false_iff_not, List.cons.injEq]
          exact fun e => h e.1
        rw [e2] at hgo
        subst hgo
        refine wpV_ofH (by ((try (conv => lhs; cbv)); (repeat ((first | (rewrite [gq]) | (rewrite [gr]) | (rewrite [eq]) | (rewrite [K.ltT]; rotate_left; focus ((try simp only [K.df, D.df, V.df, true_and, and_true]) <;> omega))); (try (conv => lhs; cbv)))); (exact rfl))) ?_
        show finQ _ _ _ _ _
        (show finV _ _ _ = some _; ((try (conv => lhs; cbv)); (try (with_reducible rfl))); (try rfl))
    · obtain rfl : i = q.length := by omega
      rw [List.drop_of_length_le (Nat.le_refl _), List.drop_of_length_le (by omega), decide_eq_true rfl] at hgo
      subst hgo
      refine wpV_ofH (by ((try (conv => lhs; cbv)); (repeat ((first | (rewrite [K.ltF]; rotate_left; focus ((try simp only [K.df, D.df, V.df, true_and, and_true]) <;> omega))); (try (conv => lhs; cbv)))); (exact rfl))) ?_
      show wpV _ _ _ _ _ _
      refine wpV_ofH (by ((try (conv => lhs; cbv)); (exact rfl))) ?_
      (show finV _ _ _ = some _; ((try (conv => lhs; cbv)); (try (with_reducible rfl))); (try rfl))
  · rw [decide_eq_false fun e => hl (by rw [e])]
    refine wpV_ofH (by ((try (conv => lhs; cbv)); (repeat ((first | (rewrite [lq]) | (rewrite [lr]) | (rewrite [K.neT]; rotate_left; focus ((try simp only [K.df, D.df, V.df, true_and, and_true]) <;> omega))); (try (conv => lhs; cbv)))); (exact rfl))) ?_
    (show finV _ _ _ = some _; ((try (conv => lhs; cbv)); (try (with_reducible rfl))); (try rfl))
end Go.Proofs.Ytomchclmnmhjaaa
