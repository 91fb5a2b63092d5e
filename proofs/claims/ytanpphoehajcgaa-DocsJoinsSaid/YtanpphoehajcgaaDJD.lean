/- The reference's lists of writes: is one in it, and one put in; and what is left of a state: gone through. -/
import Derived.Test.YtanpphoehajcgaaDJB
import Derived.Test.YtanpphoehajcgaaDZA
set_option linter.unusedSimpArgs false
set_option linter.unusedVariables false
set_option maxRecDepth 100000
set_option maxHeartbeats 4000000
set_option cbv.maxSteps 10000000
namespace Go.Proofs.Ytanpphoehajcgaa
open Go GoV

theorem n62 (l : List Wr) (d : Wr) (t : Bool) (z : Nat) (hz : z = 6 ∨ z = 0 ∧ l = []) (hl : l.length ≤ 1000) : Pn 1102 62 [.one (.iv (.sl t z (eWs l))), wF d] [] (bl (decide (d ∈ l))) [] := by
  refine playN 1101 rfl rfl fun A call hA hcall => ?_
  obtain ⟨pl, mi, ml, nt, tn, ad, sb, K⟩ := kit hA
  obtain ⟨E, ix, sn, ll, cc, sg, D⟩ := lkit hA K zeroWr (fun w => [.int .i64 w.d.1, .int .i64 w.d.2, .int .i64 w.t, .str w.doc, .int .i64 w.f, .str w.txt]) 64
  obtain ⟨W, gx, st', V⟩ := rkit hA
  have hE : eWs l = E l := by rw [D.E_]; rfl
  rw [hE]
  obtain ⟨M, hM⟩ : ∃ M : Int, M = nt (ll l) := ⟨_, rfl⟩
  have hMl : M = l.length := by rw [hM, K.nt_, D.ll_]
  have ln : A .len (E l) = M := by rw [D.len, hM]
  generalize hR : decide (d ∈ l) = R
  obtain ⟨⟨a, b⟩, tm, doc, fi, txt⟩ := d
  dsimp only [wF]
  apply wpV_seq; refine wpV_ofH (by ((try (conv => lhs; cbv)); (exact rfl))) ?_
  apply wpV_seq; apply wpV_seq; refine wpV_ofH (by ((try (conv => lhs; cbv)); (repeat ((first | (rewrite [ln])); (try (conv => lhs; cbv)))); (exact rfl))) ?_
  apply wpV_block
  refine wpV_loop l.length (fun i st => ∃ J : Int, st = ⟨0, [u, u, u, .one (.ptr 0 0), u, u, u, .one (.iv (.sl t z (E l))), i64 M, i64 J, u, u, u, u, u, u, u], [.var false [.iv (.int .i64 a), .iv (.int .i64 b), .iv (.int .i64 tm), .iv (.str doc), .iv (.int .i64 fi), .iv (.str txt)]]⟩ ∧ J = i ∧ decide ((⟨(a, b), tm, doc, fi, txt⟩ : Wr) ∈ l.drop i) = R) (by omega) (by ((try (conv => lhs; cbv)); (try (with_reducible rfl)))) ⟨0, rfl, rfl, hR⟩ ?_
  rintro i hi st ⟨J, rfl, hJ, hgo⟩
  by_cases him : i < l.length
  · obtain rfl : z = 6 := by
      rcases hz with h | ⟨h, h2⟩
      · exact h
      · rw [h2] at him; simp at him
    have hd : l.drop i = ix l J :: l.drop (i + 1) := by
      rw [D.ix_, hJ, Int.toNat_natCast, List.drop_eq_getElem_cons (by omega), List.getD_eq_getElem?_getD, List.getElem?_eq_getElem (by omega)]; rfl
    rw [hd] at hgo
    have g := D.get (l := l) (J := J) (by omega)
    generalize ix l J = x at *
    have eq := eqWd hA x ⟨(a, b), tm, doc, fi, txt⟩
    by_cases h : x = (⟨(a, b), tm, doc, fi, txt⟩ : Wr)
    · rw [decide_eq_true (by rw [h]; simp)] at hgo
      subst hgo
      rw [decide_eq_true h] at eq
      obtain ⟨⟨r, n⟩, tm2, doc2, fi2, txt2⟩ := x
      (conv at eq => lhs; arg 2; cbv)
      dsimp only at g eq
      refine wpV_ofH (by ((try (conv => lhs; cbv)); (repeat ((first | (rewrite [g]) | (rewrite [eq]) | (rewrite [K.ltT]; rotate_left; focus ((try simp only [K.df, D.df, V.df, true_and, and_true]) <;> omega))); (try (conv => lhs; cbv)))); (exact rfl))) ?_
      show finQ _ _ _ _ _
      (show finV _ _ _ = some _; ((try (conv => lhs; cbv)); (try (with_reducible rfl))); (try rfl))
    · have hg2 : decide ((⟨(a, b), tm, doc, fi, txt⟩ : Wr) ∈ l.drop (i + 1)) = R := by
        rw [← hgo]
        by_cases hm : (⟨(a, b), tm, doc, fi, txt⟩ : Wr) ∈ l.drop (i + 1)
        · rw [decide_eq_true hm, decide_eq_true (by simp [hm])]
        · rw [decide_eq_false hm, decide_eq_false (fun h' => by rcases List.mem_cons.1 h' with e | e; exact h e.symm; exact hm e)]
      rw [decide_eq_false h] at eq
      obtain ⟨⟨r, n⟩, tm2, doc2, fi2, txt2⟩ := x
      (conv at eq => lhs; arg 2; cbv)
      dsimp only at g eq
      refine wpV_ofH (by ((try (conv => lhs; cbv)); (repeat ((first | (rewrite [g]) | (rewrite [eq]) | (rewrite [K.add]; rotate_left; focus ((try simp only [K.df, D.df, V.df, true_and, and_true]) <;> omega)) | (rewrite [K.ltT]; rotate_left; focus ((try simp only [K.df, D.df, V.df, true_and, and_true]) <;> omega))); (try (conv => lhs; cbv)))); (exact rfl))) ?_
      refine headQ_ofH (by ((try (conv => lhs; cbv)); (exact rfl))) ?_
      refine ⟨him, _, rfl, ?_, hg2⟩
      rw [K.pl_]; omega
  · obtain rfl : i = l.length := by omega
    rw [List.drop_of_length_le (Nat.le_refl _), decide_eq_false (by simp)] at hgo
    subst hgo
    refine wpV_ofH (by ((try (conv => lhs; cbv)); (repeat ((first | (rewrite [K.ltF]; rotate_left; focus ((try simp only [K.df, D.df, V.df, true_and, and_true]) <;> omega))); (try (conv => lhs; cbv)))); (exact rfl))) ?_
    show wpV _ _ _ _ _ _
    refine wpV_ofH (by ((try (conv => lhs; cbv)); (exact rfl))) ?_
    (show finV _ _ _ = some _; ((try (conv => lhs; cbv)); (try (with_reducible rfl))); (try rfl))
theorem apoW {A : Ar} (hA : A = real) (es ys : List (List IV)) (h : es.length + ys.length ≤ 100000) : A .apo 64 0 es.length es ys = some (true, es ++ ys) := by
  rw [hA, real_apo]; unfold rApo room
  rw [if_pos (by omega), if_pos ⟨by omega, .inl rfl⟩, List.drop_zero]
end Go.Proofs.Ytanpphoehajcgaa
