/- A write put in by the reference; what is left of a state: gone through. -/
import Derived.Test.YtanpphoehajcgaaDJD
set_option linter.unusedSimpArgs false
set_option linter.unusedVariables false
set_option maxRecDepth 100000
set_option maxHeartbeats 4000000
set_option cbv.maxSteps 10000000
namespace Go.Proofs.Ytanpphoehajcgaa
open Go GoV

theorem ahead_LW (a b : Wr) : aheadB a b = decide (LW a b) := by
  rw [ahead_ord]
  by_cases h : LW a b
  · have h' : ordW a b < 0 := h
    rw [decide_eq_true h, decide_eq_false (by omega)]; rfl
  · have h' : ¬ ordW a b < 0 := h
    rw [decide_eq_false h, decide_eq_true (by omega)]; rfl
theorem eWs_len (l : List Wr) : (eWs l).length = l.length := by simp [eWs]
theorem eWs_app (l m : List Wr) : eWs (l ++ m) = eWs l ++ eWs m := by simp [eWs]
theorem subW1 {A : Ar} (hA : A = real) (l : List Wr) {n : Nat} (hn : n ≤ l.length) : A .sub (eWs l) none (some (n : Int)) = some (eWs (l.take n)) := by
  rw [hA, real_sub]; unfold rSub rCut rBound
  rw [eWs_len]
  have h : (0 : Int) ≤ (n : Int) ∧ (n : Int) ≤ (l.length : Int) := by omega
  simp [h, eWs, List.map_take]
theorem subW2 {A : Ar} (hA : A = real) (l : List Wr) {n : Nat} (hn : n ≤ l.length) : A .sub (eWs l) (some (n : Int)) none = some (eWs (l.drop n)) := by
  rw [hA, real_sub]; unfold rSub rCut rBound
  rw [eWs_len]
  have h : (0 : Int) ≤ (n : Int) ∧ (n : Int) ≤ (l.length : Int) := by omega
  simp [h, hn, eWs, List.map_drop]
  rw [List.take_of_length_le (by simp)]
theorem n58 (l : List Wr) (w : Wr) (t : Bool) (hl : l.length ≤ 1000) : Pn 1200 58 [.one (.iv (.sl t 6 (eWs l))), wF w] [] (.one (.slo 0 0 (putW l w).length)) [.arr false false 6 (eWs (putW l w))] := by
  refine playN 1199 rfl rfl fun A call hA hcall => ?_
  obtain ⟨pl, mi, ml, nt, tn, ad, sb, K⟩ := kit hA
  obtain ⟨E, ix, sn, ll, cc, sg, D⟩ := lkit hA K zeroWr (fun w => [.int .i64 w.d.1, .int .i64 w.d.2, .int .i64 w.t, .str w.doc, .int .i64 w.f, .str w.txt]) 64
  obtain ⟨W, gx, st', V⟩ := rkit hA
  have hE : ∀ l, eWs l = E l := fun l => by rw [D.E_]; rfl
  have k45 : ∀ x, call 45 [wF x, wF w] [] = some (bl (decide (LW x w)), []) := fun x => by rw [← ahead_LW, hcall]; exact n45 x w 1199 (by omega)
  obtain ⟨M, hM⟩ : ∃ M : Int, M = nt (ll l) := ⟨_, rfl⟩
  have hMl : M = l.length := by rw [hM, K.nt_, D.ll_]
  have ln : A .len (E l) = M := by rw [D.len, hM]
  obtain ⟨p1, p2⟩ := putW_at l w
  obtain ⟨at', hat⟩ : ∃ n, n = atW l w l.length := ⟨_, rfl⟩
  rw [← hat] at p1 p2
  have f1 := subW1 hA l p2
  have f2 := subW2 hA l p2
  have a1 := apoW hA [] (eWs (l.take at')) (by rw [eWs_len, List.length_take, List.length_nil]; omega)
  rw [List.nil_append, List.length_nil] at a1
  have a2 := apoW hA (eWs (l.take at')) (eWs [w]) (by rw [eWs_len, eWs_len, List.length_take, List.length_singleton]; omega)
  rw [← eWs_app, eWs_len, List.length_take, Nat.min_eq_left p2] at a2
  have a3 := apoW hA (eWs (l.take at' ++ [w])) (eWs (l.drop at')) (by rw [eWs_len, eWs_len, List.length_append, List.length_take, List.length_singleton, List.length_drop]; omega)
  rw [← eWs_app, eWs_len, List.length_append, List.length_take, List.length_singleton, Nat.min_eq_left p2] at a3
  have e3 : l.take at' ++ [w] ++ l.drop at' = putW l w := by rw [p1]; simp
  rw [e3] at a3
  have n1 : A .ln (eWs (l.take at')) = at' := by rw [hA, real_ln, eWs_len, List.length_take]; omega
  have n2 : A .ln (eWs [w]) = 1 := by rw [hA]; rfl
  have n3 : A .ln (eWs (l.drop at')) = l.length - at' := by rw [hA, real_ln, eWs_len, List.length_drop]
  have n4 : A .ln (eWs (l.take at' ++ [w])) = at' + 1 := by rw [hA, real_ln, eWs_len, List.length_append, List.length_take, List.length_singleton]; omega
  have pl2 : (putW l w).length = l.length + 1 := by rw [p1]; simp; omega
  have n5 : A .ln (eWs (putW l w)) = l.length + 1 := by rw [hA, real_ln, eWs_len, pl2]
  have d1 : A .addN 0 at' = at' := by rw [hA, real_addN]; omega
  have d2 : A .addN at' 1 = at' + 1 := by rw [hA, real_addN]
  have d3 : A .addN (at' + 1) (l.length - at') = l.length + 1 := by rw [hA, real_addN]; omega
  have hx : eWs [w] = [[.int .i64 w.d.1, .int .i64 w.d.2, .int .i64 w.t, .str w.doc, .int .i64 w.f, .str w.txt]] := rfl
  rw [hx] at a2 n2
  rw [hE] at f1 f2
  rw [pl2, hE l]
  obtain ⟨T0, hT0⟩ : ∃ T : Int, T = (at' : Int) := ⟨_, rfl⟩
  rw [← hT0] at f1 f2
  obtain ⟨⟨r, n⟩, tm, doc, fi, txt⟩ := w
  dsimp only [wF] at *
  generalize eWs (putW l ⟨(r, n), tm, doc, fi, txt⟩) = e9 at *
  generalize eWs (l.take at' ++ [⟨(r, n), tm, doc, fi, txt⟩]) = e2 at *
  generalize eWs (l.take at') = e1 at *
  generalize eWs (l.drop at') = e4 at *
  generalize hn9 : l.length + 1 = n9 at *
  generalize hn8 : at' + 1 = n8 at *
  generalize hn7 : l.length - at' = n7 at *
  apply wpV_seq; refine wpV_ofH (by ((try (conv => lhs; cbv)); (exact rfl))) ?_
  apply wpV_seq; refine wpV_ofH (by ((try (conv => lhs; cbv)); (repeat ((first | (rewrite [ln])); (try (conv => lhs; cbv)))); (exact rfl))) ?_
  apply wpV_seq; apply wpV_seq; refine wpV_ofH (by ((try (conv => lhs; cbv)); (repeat ((first | (rewrite [ln])); (try (conv => lhs; cbv)))); (exact rfl))) ?_
  apply wpV_block
  refine wpV_loop l.length (fun i st => ∃ J T : Int, st = ⟨0, (.one (.iv (.sl t 6 (E l))) :: u :: u :: .one (.ptr 0 0) :: u :: i64 T :: u :: u :: u :: u :: u :: u :: i64 M :: i64 J :: u :: u :: u :: u :: u :: u :: u :: u :: u :: u :: u :: u :: u :: u :: u :: u :: u :: u :: u :: u :: u :: u :: u :: u :: u :: u :: u :: u :: u :: u :: []), [.var false [.iv (.int .i64 r), .iv (.int .i64 n), .iv (.int .i64 tm), .iv (.str doc), .iv (.int .i64 fi), .iv (.str txt)]]⟩ ∧ J = i ∧ T = (atW l ⟨(r, n), tm, doc, fi, txt⟩ i : Nat)) (by omega) (by ((try (conv => lhs; cbv)); (try (with_reducible rfl)))) ⟨0, M, rfl, rfl, by rw [atW]; exact hMl⟩ ?_
  rintro i hi st ⟨J, T, rfl, hJ, hT⟩
  by_cases him : i < l.length
  · have g := D.get (l := l) (J := mi (mi M 1) J) (by simp only [K.mi_]; omega)
    have hix : ix l (mi (mi M 1) J) = l.getD (l.length - 1 - i) zeroWr := by
      rw [D.ix_, K.mi_, K.mi_, show (M - 1 - J).toNat = l.length - 1 - i by omega]
    have hat1 : (atW l ⟨(r, n), tm, doc, fi, txt⟩ (i + 1) : Nat) = if LW (l.getD (l.length - 1 - i) zeroWr) ⟨(r, n), tm, doc, fi, txt⟩ then atW l ⟨(r, n), tm, doc, fi, txt⟩ i else l.length - 1 - i := rfl
    rw [← hix] at hat1
    have kk := k45 (ix l (mi (mi M 1) J))
    generalize ix l (mi (mi M 1) J) = x at *
    by_cases h : LW x ⟨(r, n), tm, doc, fi, txt⟩
    · rw [decide_eq_true h] at kk
      rw [if_pos h] at hat1
      obtain ⟨⟨r2, n2'⟩, tm2, doc2, fi2, txt2⟩ := x
      dsimp only at g kk
      refine wpV_ofH (by ((try (conv => lhs; cbv)); (repeat ((first | (rewrite [ln]) | (rewrite [g]) | (rewrite [kk]) | (rewrite [K.subl]; rotate_left; focus ((try simp only [K.df, D.df, V.df, true_and, and_true]) <;> omega)) | (rewrite [K.add]; rotate_left; focus ((try simp only [K.df, D.df, V.df, true_and, and_true]) <;> omega)) | (rewrite [K.sub]; rotate_left; focus ((try simp only [K.df, D.df, V.df, true_and, and_true]) <;> omega)) | (rewrite [K.ltT]; rotate_left; focus ((try simp only [K.df, D.df, V.df, true_and, and_true]) <;> omega))); (try (conv => lhs; cbv)))); (exact rfl))) ?_
      refine headQ_ofH (by ((try (conv => lhs; cbv)); (exact rfl))) ?_
      refine ⟨him, _, _, rfl, ?_, by rw [hat1]; exact hT⟩
      rw [K.pl_]; omega
    · rw [decide_eq_false h] at kk
      rw [if_neg h] at hat1
      obtain ⟨⟨r2, n2'⟩, tm2, doc2, fi2, txt2⟩ := x
      dsimp only at g kk
      refine wpV_ofH (by ((try (conv => lhs; cbv)); (repeat ((first | (rewrite [ln]) | (rewrite [g]) | (rewrite [kk]) | (rewrite [K.subl]; rotate_left; focus ((try simp only [K.df, D.df, V.df, true_and, and_true]) <;> omega)) | (rewrite [K.add]; rotate_left; focus ((try simp only [K.df, D.df, V.df, true_and, and_true]) <;> omega)) | (rewrite [K.sub]; rotate_left; focus ((try simp only [K.df, D.df, V.df, true_and, and_true]) <;> omega)) | (rewrite [K.ltT]; rotate_left; focus ((try simp only [K.df, D.df, V.df, true_and, and_true]) <;> omega))); (try (conv => lhs; cbv)))); (exact rfl))) ?_
      refine headQ_ofH (by ((try (conv => lhs; cbv)); (exact rfl))) ?_
      refine ⟨him, _, _, rfl, ?_, ?_⟩
      · rw [K.pl_]; omega
      · rw [hat1, K.mi_, K.mi_]; omega
  · obtain rfl : i = l.length := by omega
    obtain rfl : T = T0 := by rw [hT, hT0, hat]
    clear k45
    refine wpV_ofH (by ((try (conv => lhs; cbv)); (repeat ((first | (rewrite [K.ltF]; rotate_left; focus ((try simp only [K.df, D.df, V.df, true_and, and_true]) <;> omega))); (try (conv => lhs; cbv)))); (exact rfl))) ?_
    show wpV _ _ _ _ _ _
    apply wpV_seq; refine wpV_ofH (by ((try (conv => lhs; cbv)); (exact rfl))) ?_
    apply wpV_seq; refine wpV_ofH (by ((try (conv => lhs; cbv)); (repeat ((first | (rewrite [f1]) | (rewrite [a1]) | (rewrite [n1])); (try (conv => lhs; cbv)))); (exact rfl))) ?_
    apply wpV_seq; refine wpV_ofH (by ((try (conv => lhs; cbv)); (repeat ((first | (rewrite [a2]) | (rewrite [n4])); (try (conv => lhs; cbv)))); (exact rfl))) ?_
    refine wpV_ofH (by ((try (conv => lhs; cbv)); (repeat ((first | (rewrite [f2]) | (rewrite [a3]) | (rewrite [n5])); (try (conv => lhs; cbv)))); (exact rfl))) ?_
    (show finV _ _ _ = some _; ((try (conv => lhs; cbv)); (try (with_reducible rfl))); (try rfl))
end Go.Proofs.Ytanpphoehajcgaa
