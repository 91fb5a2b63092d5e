/- Lists of events held against each other by the reference: gone through. -/
import Derived.Test.YtomchclmnmhjaaaELG
set_option linter.unusedSimpArgs false
set_option linter.unusedVariables false
set_option maxRecDepth 100000
set_option maxHeartbeats 1000000
set_option cbv.maxSteps 10000000
namespace Go.Proofs.Ytomchclmnmhjaaa
open Go GoV

theorem neqI {A : Ar} (hA : A = real) (a b : Int) : A .eqv ([.int] ++ [.int]) [.int .i64 a, .int .i64 b] [.int .i64 a, .int .i64 b] = some true := by
  rw [eqvD hA, decide_eq_true rfl]
theorem scNe {A : Ar} (hA : A = real) (s : ByteArray) : A .scmp .neq s s = false := by
  rw [hA]; show (s.toList != s.toList) = false; simp
theorem n65 (l : List EvX) (t t2 : Bool) (z z2 : Nat) (hz : z = 8 ∨ z = 0 ∧ l = []) (hz2 : z2 = 8 ∨ z2 = 0 ∧ l = []) (hl : l.length ≤ 10000) (hg : ∀ x, x ∈ l → x.2.2 = 2 ∧ x.1.gone.length ≤ 1000) :
    Pn 10002 65 [.one (.iv (.sl t z (l.map exI))), .one (.iv (.sl t2 z2 (l.map exI)))] [] (bl true) [] := by
  refine playN 10001 rfl rfl fun A call hA hcall => ?_
  obtain ⟨pl, mi, ml, nt, tn, ad, sb, K⟩ := kit hA
  obtain ⟨E, ix0, sn0, ll0, cc0, sg0, D⟩ := lkit hA K ((0, 0) : Int × Int) (fun p => [.int .i64 p.1, .int .i64 p.2]) 16
  obtain ⟨EX, ix, sn, ll, cc, sg, X⟩ := lkit hA K ((zeroEv, true, 0) : EvX) (fun x => [.int .i64 x.1.d.1, .int .i64 x.1.d.2, .int .i64 x.1.t, .int .i64 x.1.k, .str x.1.doc, .int .i64 x.1.f, .str x.1.txt, .sl x.2.1 x.2.2 (E x.1.gone)]) 96
  have hE : ∀ l, eDs l = E l := fun l => by rw [D.E_]; rfl
  have hEX : l.map exI = EX l := by
    rw [X.E_]
    exact List.map_congr_left fun x _ => by unfold exI; rw [hE]
  rw [hEX]
  obtain ⟨M, hM⟩ : ∃ M : Int, M = nt (ll l) := ⟨_, rfl⟩
  have hMl : M = l.length := by rw [hM, K.nt_, X.ll_]
  have ln : A .len (EX l) = M := by rw [X.len, hM]
  apply wpV_seq; refine wpV_ofH (by ((try (conv => lhs; cbv)); (exact rfl))) ?_
  apply wpV_seq; refine wpV_ofH (by ((try (conv => lhs; cbv)); (repeat ((first | (rewrite [ln]) | (rewrite [K.neF]; rotate_left; focus ((try simp only [K.df, D.df, X.df, true_and, and_true]) <;> omega))); (try (conv => lhs; cbv)))); (exact rfl))) ?_
  apply wpV_seq; apply wpV_seq; refine wpV_ofH (by ((try (conv => lhs; cbv)); (repeat ((first | (rewrite [ln])); (try (conv => lhs; cbv)))); (exact rfl))) ?_
  apply wpV_block
  refine wpV_loop l.length (fun i st => ∃ J : Int, st = ⟨0, (u :: .one (.iv (.sl t2 z2 (EX l))) :: u :: u :: u :: u :: u :: u :: u :: u :: u :: u :: u :: u :: u :: .one (.iv (.sl t z (EX l))) :: i64 M :: i64 J :: u :: u :: u :: u :: u :: u :: u :: u :: u :: u :: u :: u :: u :: u :: u :: u :: u :: u :: u :: u :: u :: u :: u :: u :: u :: u :: u :: u :: u :: u :: u :: u :: u :: u :: u :: u :: u :: u :: u :: u :: u :: u :: u :: u :: u :: u :: u :: u :: u :: u :: u :: u :: u :: u :: u :: u :: u :: u :: u :: u :: u :: u :: u :: u :: u :: u :: u :: u :: u :: u :: u :: u :: u :: u :: []), []⟩ ∧ J = i) (by omega) (by ((try (conv => lhs; cbv)); (try (with_reducible rfl)))) ⟨0, rfl, rfl⟩ ?_
  rintro i hi st ⟨J, rfl, hJ⟩
  by_cases him : i < l.length
  · obtain rfl : z = 8 := by
      rcases hz with h | ⟨h, h2⟩
      · exact h
      · rw [h2] at him; simp at him
    obtain rfl : z2 = 8 := by
      rcases hz2 with h | ⟨h, h2⟩
      · exact h
      · rw [h2] at him; simp at him
    have hx : ix l J ∈ l := by
      rw [X.ix_, hJ]; show l.getD i _ ∈ l; rw [List.getD_eq_getElem?_getD, List.getElem?_eq_getElem him]; exact List.getElem_mem him
    have g1 := X.get (l := l) (J := J) (by omega)
    obtain ⟨hw, hgl⟩ := hg _ hx
    clear hx hg
    generalize ix l J = d at *
    obtain ⟨⟨⟨r, n⟩, tt, kd, doc, f, txt, gone⟩, fl, w⟩ := d
    dsimp only at g1 hw hgl
    subst hw
    have eq := neqI hA r n
    (conv at eq => lhs; arg 2; cbv)
    have s1 := scNe hA doc
    have s2 := scNe hA txt
    obtain ⟨G, hG⟩ : ∃ G : Int, G = nt (ll0 gone) := ⟨_, rfl⟩
    have hGl : G = gone.length := by rw [hG, K.nt_, D.ll_]
    have lg : A .len (E gone) = G := by rw [D.len, hG]
    apply wpV_seq; refine wpV_ofH (by ((try (conv => lhs; cbv)); (repeat ((first | (rewrite [K.ltT]; rotate_left; focus ((try simp only [K.df, D.df, X.df, true_and, and_true]) <;> omega))); (try (conv => lhs; cbv)))); (exact rfl))) ?_
    apply wpV_seq; refine wpV_ofH (by ((try (conv => lhs; cbv)); (exact rfl))) ?_
    apply wpV_seq; apply wpV_block
    apply wpV_seq; refine wpV_ofH (by ((try (conv => lhs; cbv)); (repeat ((first | (rewrite [g1])); (try (conv => lhs; cbv)))); (exact rfl))) ?_
    apply wpV_seq; refine wpV_ofH (by ((try (conv => lhs; cbv)); (repeat ((first | (rewrite [g1])); (try (conv => lhs; cbv)))); (exact rfl))) ?_
    apply wpV_seq; refine wpV_ofH (by ((try (conv => lhs; cbv)); (repeat ((first | (rewrite [eq]) | (rewrite [s1]) | (rewrite [s2]) | (rewrite [lg]) | (rewrite [K.neF]; rotate_left; focus ((try simp only [K.df, D.df, X.df, true_and, and_true]) <;> omega))); (try (conv => lhs; cbv)))); (exact rfl))) ?_
    apply wpV_seq; refine wpV_ofH (by ((try (conv => lhs; cbv)); (repeat ((first | (rewrite [lg])); (try (conv => lhs; cbv)))); (exact rfl))) ?_
    apply wpV_block
    refine wpV_loop gone.length (fun i2 st => ∃ J2 : Int, st = ⟨0, (u :: .one (.iv (.sl t2 8 (EX l))) :: u :: u :: u :: u :: u :: .one (.ptr 0 0) :: u :: u :: u :: u :: u :: u :: u :: .one (.iv (.sl t 8 (EX l))) :: i64 M :: i64 J :: u :: u :: u :: u :: u :: u :: u :: u :: u :: u :: u :: u :: u :: u :: u :: u :: u :: u :: u :: u :: u :: u :: u :: u :: u :: u :: u :: u :: u :: u :: u :: u :: u :: u :: u :: u :: u :: u :: u :: u :: u :: u :: u :: u :: u :: u :: u :: u :: u :: u :: u :: u :: u :: u :: u :: u :: u :: u :: .one (.iv (.sl fl 2 (E gone))) :: i64 G :: i64 J2 :: u :: u :: u :: u :: u :: u :: u :: u :: u :: u :: u :: u :: u :: []), [.var false [.iv (.int .i64 r), .iv (.int .i64 n), .iv (.int .i64 tt), .iv (.int .i64 kd), .iv (.str doc), .iv (.int .i64 f), .iv (.str txt), .iv (.sl fl 2 (E gone))]]⟩ ∧ J2 = i2) (by omega) (by ((try (conv => lhs; cbv)); (try (with_reducible rfl)))) ⟨0, rfl, rfl⟩ ?_
    rintro i2 hi2 st ⟨J2, rfl, hJ2⟩
    by_cases him2 : i2 < gone.length
    · have g2 := D.get (l := gone) (J := J2) (by omega)
      generalize ix0 gone J2 = dd at *
      obtain ⟨r2, n2⟩ := dd
      have eq2 := neqI hA r2 n2
      (conv at eq2 => lhs; arg 2; cbv)
      dsimp only at g2
      refine wpV_ofH (by ((try (conv => lhs; cbv)); (repeat ((first | (rewrite [g2]) | (rewrite [eq2]) | (rewrite [K.add]; rotate_left; focus ((try simp only [K.df, D.df, X.df, true_and, and_true]) <;> omega)) | (rewrite [K.ltT]; rotate_left; focus ((try simp only [K.df, D.df, X.df, true_and, and_true]) <;> omega))); (try (conv => lhs; cbv)))); (exact rfl))) ?_
      refine headQ_ofH (by ((try (conv => lhs; cbv)); (exact rfl))) ?_
      refine ⟨him2, _, rfl, ?_⟩
      rw [K.pl_]; omega
    · obtain rfl : i2 = gone.length := by omega
      refine wpV_ofH (by ((try (conv => lhs; cbv)); (repeat ((first | (rewrite [K.ltF]; rotate_left; focus ((try simp only [K.df, D.df, X.df, true_and, and_true]) <;> omega))); (try (conv => lhs; cbv)))); (exact rfl))) ?_
      show wpV _ _ _ _ _ _
      refine wpV_ofH (by ((try (conv => lhs; cbv)); (repeat ((first | (rewrite [K.add]; rotate_left; focus ((try simp only [K.df, D.df, X.df, true_and, and_true]) <;> omega))); (try (conv => lhs; cbv)))); (exact rfl))) ?_
      refine headQ_ofH (by ((try (conv => lhs; cbv)); (exact rfl))) ?_
      refine ⟨him, _, rfl, ?_⟩
      rw [K.pl_]; omega
  · obtain rfl : i = l.length := by omega
    refine wpV_ofH (by ((try (conv => lhs; cbv)); (repeat ((first | (rewrite [K.ltF]; rotate_left; focus ((try simp only [K.df, D.df, X.df, true_and, and_true]) <;> omega))); (try (conv => lhs; cbv)))); (exact rfl))) ?_
    show wpV _ _ _ _ _ _
    refine wpV_ofH (by ((try (conv => lhs; cbv)); (exact rfl))) ?_
    (show finV _ _ _ = some _; ((try (conv => lhs; cbv)); (try (with_reducible rfl))); (try rfl))
end Go.Proofs.Ytomchclmnmhjaaa
