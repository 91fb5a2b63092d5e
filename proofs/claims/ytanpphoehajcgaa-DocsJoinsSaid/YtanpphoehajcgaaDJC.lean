/- Lists of writes behind each other: gone through. -/
import Derived.Test.YtanpphoehajcgaaDJA
set_option linter.unusedSimpArgs false
set_option linter.unusedVariables false
set_option maxRecDepth 100000
set_option maxHeartbeats 4000000
set_option cbv.maxSteps 10000000
namespace Go.Proofs.Ytanpphoehajcgaa
open Go GoV

theorem apo_in {es ys : List (List IV)} {m : Nat} (h : m + ys.length ≤ es.length) (hb : es.length ≤ 100000) : ∃ z, real .apo 64 0 m es ys = some (z, es.take m ++ ys ++ es.drop (m + ys.length)) ∧ (z = true → ys = [] ∧ m = es.length) := by
  rw [real_apo]
  unfold rApo rOver room
  by_cases e : 0 + m = es.length
  · have hy : ys = [] := List.length_eq_zero_iff.1 (by omega)
    subst hy
    rw [List.length_nil] at h
    refine ⟨true, ?_, fun _ => ⟨rfl, by omega⟩⟩
    rw [if_pos e, if_pos ⟨by rw [List.length_nil]; omega, .inl rfl⟩, List.drop_zero, List.take_of_length_le (by omega), List.drop_of_length_le (by rw [List.length_nil]; omega), List.append_nil, List.append_nil]
  · refine ⟨false, ?_, fun h => by cases h⟩
    rw [if_neg e, if_pos (by omega), Nat.zero_add]
theorem h74 (a b : List Wr) (t t2 : Bool) (ha : a.length ≤ 400) (hb : b.length ≤ 400) : Qn 12 74 [.one (.iv (.sl true 1 [[.sl t 6 (eWs a)], [.sl t2 6 (eWs b)]]))] [] (.one (.slo 0 0 (a ++ b).length)) [.arr false false 6 (eWs (a ++ b))] := by
  refine playQ 11 rfl rfl fun A call hA hcall => ?_
  obtain ⟨pl, mi, ml, nt, tn, ad, sb, K⟩ := kit hA
  obtain ⟨E, ix, sn, ll, cc, sg, D⟩ := lkit hA K zeroWr (fun w => [.int .i64 w.d.1, .int .i64 w.d.2, .int .i64 w.t, .str w.doc, .int .i64 w.f, .str w.txt]) 64
  obtain ⟨W, gx, st', V⟩ := rkit hA
  have hE : ∀ l, eWs l = E l := fun l => by rw [D.E_]; rfl
  have hEl : ∀ x : List Wr, (eWs x).length = x.length := fun x => by simp [eWs]
  obtain ⟨N, hN⟩ : ∃ N, N = a.length + b.length := ⟨_, rfl⟩
  obtain ⟨p, hp⟩ : ∃ p, p = a.length := ⟨_, rfl⟩
  obtain ⟨Z0, hZ0⟩ : ∃ Z0 : List Wr, Z0 = List.replicate N zeroWr := ⟨_, rfl⟩
  obtain ⟨Z1, hZ1⟩ : ∃ Z1 : List Wr, Z1 = a ++ List.replicate b.length zeroWr := ⟨_, rfl⟩
  obtain ⟨Z2, hZ2⟩ : ∃ Z2 : List Wr, Z2 = a ++ b := ⟨_, rfl⟩
  have kG := qGROW N (by omega) 11 (by omega)
  rw [← hcall, ← hZ0] at kG
  obtain ⟨z1, a1, c1⟩ := apo_in (es := eWs Z0) (ys := eWs a) (m := 0) (by rw [hEl, hEl, hZ0, List.length_replicate]; omega) (by rw [hEl, hZ0, List.length_replicate]; omega)
  have e1 : (eWs Z0).take 0 ++ eWs a ++ (eWs Z0).drop (0 + (eWs a).length) = eWs Z1 := by
    rw [hZ0, hZ1, hEl]; unfold eWs
    rw [List.take_zero, List.nil_append, List.map_append, ← List.map_drop, List.drop_replicate]
    congr 3; omega
  rw [e1] at a1
  obtain ⟨z2, a2, c2⟩ := apo_in (es := eWs Z1) (ys := eWs b) (m := p) (by rw [hEl, hEl, hZ1, List.length_append, List.length_replicate]; omega) (by rw [hEl, hZ1, List.length_append, List.length_replicate]; omega)
  have e2 : (eWs Z1).take p ++ eWs b ++ (eWs Z1).drop (p + (eWs b).length) = eWs Z2 := by
    rw [hZ1, hZ2, hEl, hp]; unfold eWs
    rw [← List.map_take, ← List.map_drop, List.take_left, List.drop_of_length_le (by rw [List.length_append, List.length_replicate]; omega), List.map_append]
    simp
  rw [e2] at a2
  rw [← hA] at a1 a2
  have la : A .len (eWs a) = (a.length : Int) := by rw [hA, real_len, hEl]
  have lb : A .len (eWs b) = (b.length : Int) := by rw [hA, real_len, hEl]
  have na : A .ln (eWs a) = p := by rw [hA, real_ln, hEl, hp]
  have nb : A .ln (eWs b) = b.length := by rw [hA, real_ln, hEl]
  have n1 : A .ln (eWs Z1) = N := by rw [hA, real_ln, hEl, hZ1, List.length_append, List.length_replicate, hN]
  have n2 : A .ln (eWs Z2) = N := by rw [hA, real_ln, hEl, hZ2, List.length_append, hN]
  have l2 : A .len [[IV.sl t 6 (eWs a)], [IV.sl t2 6 (eWs b)]] = 2 := by rw [hA]; rfl
  have g0 : A .get [[IV.sl t 6 (eWs a)], [IV.sl t2 6 (eWs b)]] 0 = some [.sl t 6 (eWs a)] := by rw [hA]; rfl
  have g1 : A .get [[IV.sl t 6 (eWs a)], [IV.sl t2 6 (eWs b)]] 1 = some [.sl t2 6 (eWs b)] := by rw [hA]; rfl
  have hl2 : (a ++ b).length = N := by rw [List.length_append, hN]
  have ad0 : A .addN 0 p = p := by rw [hA, real_addN]; omega
  have ad1 : A .addN p b.length = N := by rw [hA, real_addN]; omega
  have p01 : pl 0 1 = 1 := by rw [K.pl_]; rfl
  have p11 : pl 1 1 = 2 := by rw [K.pl_]; rfl
  rw [hl2, ← hZ2]
  obtain ⟨AI, hAI⟩ : ∃ AI : Int, AI = a.length := ⟨_, rfl⟩
  obtain ⟨BI, hBI⟩ : ∃ BI : Int, BI = b.length := ⟨_, rfl⟩
  obtain ⟨NI, hNI⟩ : ∃ NI : Int, NI = N := ⟨_, rfl⟩
  have s0 : pl 0 AI = AI := by rw [K.pl_]; omega
  have s1 : pl AI BI = NI := by rw [K.pl_]; omega
  rw [← hAI] at la
  rw [← hBI] at lb
  rw [← hNI] at kG
  have c1' : z1 = true → p = N := fun h => by
    obtain ⟨q1, q2⟩ := c1 h
    have := congrArg List.length q1
    rw [hEl] at this
    rw [hEl, hZ0, List.length_replicate] at q2
    simp at this
    omega
  have c2' : z2 = true → b.length = 0 := fun h => by
    have := congrArg List.length (c2 h).1
    rw [hEl] at this
    simpa using this
  generalize b.length = bn at *
  generalize eWs a = ea at *
  generalize eWs b = eb at *
  generalize eWs Z0 = e0 at *
  generalize eWs Z1 = ez1 at *
  generalize eWs Z2 = ez2 at *
  apply wpV_seq; refine wpV_ofH (by ((try (conv => lhs; cbv)); (exact rfl))) ?_
  apply wpV_seq; refine wpV_ofH (by ((try (conv => lhs; cbv)); (exact rfl))) ?_
  apply wpV_seq; apply wpV_seq; refine wpV_ofH (by ((try (conv => lhs; cbv)); (repeat ((first | (rewrite [l2])); (try (conv => lhs; cbv)))); (exact rfl))) ?_
  apply wpV_block
  refine wpV_loop 2 (fun i st => ∃ J S : Int, st = ⟨0, [.one (.iv (.sl true 1 [[.sl t 6 ea], [.sl t2 6 eb]])), u, u, i64 S, u, u, u, u, u, .one (.iv (.sl true 1 [[.sl t 6 ea], [.sl t2 6 eb]])), i64 2, i64 J, u, u, u, u, u, u, u, u, u, u, u, u, u, u, u, u, u, u, u, u, u, u, u, u], []⟩ ∧ (i = 0 ∧ J = 0 ∧ S = 0 ∨ i = 1 ∧ J = 1 ∧ S = AI ∨ i = 2 ∧ J = 2 ∧ S = NI)) (by omega) (by ((try (conv => lhs; cbv)); (try (with_reducible rfl)))) ⟨0, 0, rfl, .inl ⟨rfl, rfl, rfl⟩⟩ ?_
  rintro i hi st ⟨J, S, rfl, ⟨rfl, rfl, rfl⟩ | ⟨rfl, rfl, rfl⟩ | ⟨rfl, rfl, rfl⟩⟩
  · refine wpV_ofH (by ((try (conv => lhs; cbv)); (repeat ((first | (rewrite [g0]) | (rewrite [la]) | (rewrite [K.add]; rotate_left; focus ((try simp only [K.df, D.df, V.df, true_and, and_true]) <;> omega)) | (rewrite [K.ltT]; rotate_left; focus ((try simp only [K.df, D.df, V.df, true_and, and_true]) <;> omega)) | (rewrite [K.ltF]; rotate_left; focus ((try simp only [K.df, D.df, V.df, true_and, and_true]) <;> omega))); (try (conv => lhs; cbv)))); (exact rfl))) ?_
    refine headQ_ofH (by ((try (conv => lhs; cbv)); (repeat ((first | (rewrite [s0]) | (rewrite [p01])); (try (conv => lhs; cbv)))); (exact rfl))) ?_
    exact ⟨by omega, _, _, rfl, .inr (.inl ⟨rfl, rfl, rfl⟩)⟩
  · refine wpV_ofH (by ((try (conv => lhs; cbv)); (repeat ((first | (rewrite [g1]) | (rewrite [lb]) | (rewrite [K.add]; rotate_left; focus ((try simp only [K.df, D.df, V.df, true_and, and_true]) <;> omega)) | (rewrite [K.ltT]; rotate_left; focus ((try simp only [K.df, D.df, V.df, true_and, and_true]) <;> omega)) | (rewrite [K.ltF]; rotate_left; focus ((try simp only [K.df, D.df, V.df, true_and, and_true]) <;> omega))); (try (conv => lhs; cbv)))); (exact rfl))) ?_
    refine headQ_ofH (by ((try (conv => lhs; cbv)); (repeat ((first | (rewrite [s1]) | (rewrite [p11])); (try (conv => lhs; cbv)))); (exact rfl))) ?_
    exact ⟨by omega, _, _, rfl, .inr (.inr ⟨rfl, rfl, rfl⟩)⟩
  · refine wpV_ofH (by ((try (conv => lhs; cbv)); (repeat ((first | (rewrite [K.ltF]; rotate_left; focus ((try simp only [K.df, D.df, V.df, true_and, and_true]) <;> omega))); (try (conv => lhs; cbv)))); (exact rfl))) ?_
    show wpV _ _ _ _ _ _
    apply wpV_seq; refine wpV_ofH (by ((try (conv => lhs; cbv)); (repeat ((first | (rewrite [kG])); (try (conv => lhs; cbv)))); (exact rfl))) ?_
    apply wpV_seq; apply wpV_seq; refine wpV_ofH (by ((try (conv => lhs; cbv)); (repeat ((first | (rewrite [l2])); (try (conv => lhs; cbv)))); (exact rfl))) ?_
    apply wpV_block
    refine wpV_loop 2 (fun i st => ∃ (J : Int) (m : Nat) (es : List (List IV)), st = ⟨0, [u, u, u, u, u, u, .one (.slo 0 0 m), u, u, u, u, u, u, u, u, u, u, u, u, u, u, u, u, u, u, .one (.iv (.sl true 1 [[.sl t 6 ea], [.sl t2 6 eb]])), i64 2, i64 J, u, u, u, u, u, u, u, u], [.arr false false 6 es]⟩ ∧ (i = 0 ∧ J = 0 ∧ m = 0 ∧ es = e0 ∨ i = 1 ∧ J = 1 ∧ m = p ∧ es = ez1 ∨ i = 2 ∧ J = 2 ∧ m = N ∧ es = ez2)) (by omega) (by ((try (conv => lhs; cbv)); (try (with_reducible rfl)))) ⟨0, 0, e0, rfl, .inl ⟨rfl, rfl, rfl, rfl⟩⟩ ?_
    rintro i hi st ⟨J, m, es, rfl, ⟨rfl, rfl, rfl, rfl⟩ | ⟨rfl, rfl, rfl, rfl⟩ | ⟨rfl, rfl, rfl, rfl⟩⟩
    · cases z1 with
      | true =>
        have hpN := c1' rfl
        refine wpV_ofH (by ((try (conv => lhs; cbv)); (repeat ((first | (rewrite [g0]) | (rewrite [a1]) | (rewrite [n1]) | (rewrite [K.add]; rotate_left; focus ((try simp only [K.df, D.df, V.df, true_and, and_true]) <;> omega)) | (rewrite [K.ltT]; rotate_left; focus ((try simp only [K.df, D.df, V.df, true_and, and_true]) <;> omega))); (try (conv => lhs; cbv)))); (exact rfl))) ?_
        refine headQ_ofH (by ((try (conv => lhs; cbv)); (repeat ((first | (rewrite [p01])); (try (conv => lhs; cbv)))); (exact rfl))) ?_
        exact ⟨by omega, _, _, _, rfl, .inr (.inl ⟨rfl, rfl, hpN.symm, rfl⟩)⟩
      | false =>
        refine wpV_ofH (by ((try (conv => lhs; cbv)); (repeat ((first | (rewrite [g0]) | (rewrite [a1]) | (rewrite [na]) | (rewrite [ad0]) | (rewrite [K.add]; rotate_left; focus ((try simp only [K.df, D.df, V.df, true_and, and_true]) <;> omega)) | (rewrite [K.ltT]; rotate_left; focus ((try simp only [K.df, D.df, V.df, true_and, and_true]) <;> omega))); (try (conv => lhs; cbv)))); (exact rfl))) ?_
        refine headQ_ofH (by ((try (conv => lhs; cbv)); (repeat ((first | (rewrite [p01])); (try (conv => lhs; cbv)))); (exact rfl))) ?_
        exact ⟨by omega, _, _, _, rfl, .inr (.inl ⟨rfl, rfl, rfl, rfl⟩)⟩
    · cases z2 with
      | true =>
        refine wpV_ofH (by ((try (conv => lhs; cbv)); (repeat ((first | (rewrite [g1]) | (rewrite [a2]) | (rewrite [n2]) | (rewrite [K.add]; rotate_left; focus ((try simp only [K.df, D.df, V.df, true_and, and_true]) <;> omega)) | (rewrite [K.ltT]; rotate_left; focus ((try simp only [K.df, D.df, V.df, true_and, and_true]) <;> omega))); (try (conv => lhs; cbv)))); (exact rfl))) ?_
        refine headQ_ofH (by ((try (conv => lhs; cbv)); (repeat ((first | (rewrite [p11])); (try (conv => lhs; cbv)))); (exact rfl))) ?_
        exact ⟨by omega, _, _, _, rfl, .inr (.inr ⟨rfl, rfl, rfl, rfl⟩)⟩
      | false =>
        refine wpV_ofH (by ((try (conv => lhs; cbv)); (repeat ((first | (rewrite [g1]) | (rewrite [a2]) | (rewrite [nb]) | (rewrite [ad1]) | (rewrite [K.add]; rotate_left; focus ((try simp only [K.df, D.df, V.df, true_and, and_true]) <;> omega)) | (rewrite [K.ltT]; rotate_left; focus ((try simp only [K.df, D.df, V.df, true_and, and_true]) <;> omega))); (try (conv => lhs; cbv)))); (exact rfl))) ?_
        refine headQ_ofH (by ((try (conv => lhs; cbv)); (repeat ((first | (rewrite [p11])); (try (conv => lhs; cbv)))); (exact rfl))) ?_
        exact ⟨by omega, _, _, _, rfl, .inr (.inr ⟨rfl, rfl, rfl, rfl⟩)⟩
    · refine wpV_ofH (by ((try (conv => lhs; cbv)); (repeat ((first | (rewrite [K.ltF]; rotate_left; focus ((try simp only [K.df, D.df, V.df, true_and, and_true]) <;> omega))); (try (conv => lhs; cbv)))); (exact rfl))) ?_
      show wpV _ _ _ _ _ _
      refine wpV_ofH (by ((try (conv => lhs; cbv)); (exact rfl))) ?_
      (show finV _ _ _ = some _; ((try (conv => lhs; cbv)); (try (with_reducible rfl))); (try rfl))
end Go.Proofs.Ytanpphoehajcgaa
