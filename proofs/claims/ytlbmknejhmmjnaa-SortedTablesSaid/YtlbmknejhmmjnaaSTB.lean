/- Tables by texts: the reference's functions gone through. -/
import Derived.Test.YtlbmknejhmmjnaaSTA
set_option linter.unusedSimpArgs false
set_option linter.unusedVariables false
set_option maxRecDepth 100000
set_option maxHeartbeats 1000000
set_option cbv.maxSteps 10000000
namespace Go.Proofs.Ytlbmknejhmmjnaa
open Go GoV

def z0 : Rw := (⟨#[]⟩, 0)
theorem q74 (s : ByteArray) : Qn 1 74 [.one (.iv (.str s))] [] (bl false) [] := by
  refine playQ 0 rfl rfl fun A call hA hcall => ?_
  obtain ⟨pl, mi, ml, nt, tn, ad, sb, K⟩ := kit hA
  obtain ⟨E, ix, sn, ll, cc, sg, D⟩ := lkit hA K z0 (fun p => [.str p.1, .int .i64 p.2]) 24
  have s1 : A .scmp .neq s s = false := by rw [sc_ne hA]; simp
  refine wpV_ofH (by ((try (conv => lhs; cbv)); (repeat ((first | (rewrite [s1])); (try (conv => lhs; cbv)))); (exact rfl))) ?_
  (show finV _ _ _ = some _; ((try (conv => lhs; cbv)); (try (with_reducible rfl))); (try rfl))
def cmpS (a b : ByteArray) : Int := if ltS a b = true then -1 else if ltS b a = true then 1 else 0
theorem q55 (x y : ByteArray) : Qn 2 55 [.one (.iv (.str x)), .one (.iv (.str y))] [] (i64 (cmpS x y)) [] := by
  refine playQ 1 rfl rfl fun A call hA hcall => ?_
  obtain ⟨pl, mi, ml, nt, tn, ad, sb, K⟩ := kit hA
  obtain ⟨E, ix, sn, ll, cc, sg, D⟩ := lkit hA K z0 (fun p => [.str p.1, .int .i64 p.2]) 24
  have k1 := q74 x 1 (by omega)
  have k2 := q74 y 1 (by omega)
  rw [← hcall] at k1 k2
  have s1 := sc_lt hA x y
  have s2 := sc_gt hA x y
  unfold cmpS
  cases hp : ltS x y <;> cases hq : ltS y x
  all_goals
    rw [hp] at s1
    rw [hq] at s2
    simp only [Bool.false_eq_true, if_true, if_false, eq_self]
    refine wpV_ofH (by ((try (conv => lhs; cbv)); (repeat ((first | (rewrite [k1]) | (rewrite [k2]) | (rewrite [s1]) | (rewrite [s2])); (try (conv => lhs; cbv)))); (exact rfl))) ?_
    (show finV _ _ _ = some _; ((try (conv => lhs; cbv)); (try (with_reducible rfl))); (try rfl))
theorem q54 (p : Rw) (k : ByteArray) : Qn 3 54 [.agg [.iv (.str p.1), .iv (.int .i64 p.2)], .one (.iv (.str k))] [] (i64 (cmpS p.1 k)) [] := by
  refine playQ 2 rfl rfl fun A call hA hcall => ?_
  obtain ⟨pl, mi, ml, nt, tn, ad, sb, K⟩ := kit hA
  obtain ⟨E, ix, sn, ll, cc, sg, D⟩ := lkit hA K z0 (fun p => [.str p.1, .int .i64 p.2]) 24
  have k1 := q55 p.1 k 2 (by omega)
  rw [← hcall] at k1
  generalize cmpS p.1 k = C at *
  obtain ⟨x, v⟩ := p
  dsimp only at k1 ⊢
  refine wpV_ofH (by ((try (conv => lhs; cbv)); (repeat ((first | (rewrite [k1])); (try (conv => lhs; cbv)))); (exact rfl))) ?_
  (show finV _ _ _ = some _; ((try (conv => lhs; cbv)); (try (with_reducible rfl))); (try rfl))
theorem q24 {l a m b : List Rw} {k : ByteArray} (s : Spl l k a m b) (hl : l.length ≤ 900) (t : Bool) :
    Qn 1000 24 [.one (.iv (.sl t 2 (eRs l))), .one (.iv (.str k))] [] (.tup [(false, [.iv (.int .i64 (a.length : Nat))]), (false, [.iv (.bool (!m.isEmpty))])]) [] := by
  refine playQ 999 rfl rfl fun A call hA hcall => ?_
  obtain ⟨pl, mi, ml, nt, tn, ad, sb, K⟩ := kit hA
  obtain ⟨E, ix, sn, ll, cc, sg, D⟩ := lkit hA K z0 (fun p => [.str p.1, .int .i64 p.2]) 24
  have hE : eRs l = E l := by rw [D.E_]; rfl
  rw [hE]
  obtain ⟨M, hM⟩ : ∃ M : Int, M = nt (ll l) := ⟨_, rfl⟩
  have hMl : M = l.length := by rw [hM, K.nt_, D.ll_]
  have ln : A .len (E l) = M := by rw [D.len, hM]
  have hll : l.length = a.length + m.length + b.length := by rw [s.eq]; simp only [List.length_append]
  have hml : m.length ≤ 1 := by rcases s.mid with h | ⟨v, h⟩ <;> rw [h] <;> simp
  have hme : m.isEmpty = decide (m.length = 0) := by cases m <;> simp
  apply wpV_seq; refine wpV_ofH (by ((try (conv => lhs; cbv)); (exact rfl))) ?_
  apply wpV_seq; refine wpV_ofH (by ((try (conv => lhs; cbv)); (exact rfl))) ?_
  apply wpV_seq; refine wpV_ofH (by ((try (conv => lhs; cbv)); (exact rfl))) ?_
  apply wpV_seq; apply wpV_seq; refine wpV_ofH (by ((try (conv => lhs; cbv)); (repeat ((first | (rewrite [ln])); (try (conv => lhs; cbv)))); (exact rfl))) ?_
  apply wpV_block
  refine wpV_loop l.length (fun i st => ∃ (J N : Int) (B : Bool), st = ⟨0, [u, .one (.iv (.str k)), u, u, u, u, i64 N, bl B, u, u, .one (.iv (.sl t 2 (E l))), i64 M, i64 J, u, u, u, u, u, u, u, u, u, u, u, u, u, u, u, u, u, u, u], []⟩ ∧ J = i ∧ N = (min i a.length : Nat) ∧ B = (decide (a.length < i) && !m.isEmpty)) (by omega) (by ((try (conv => lhs; cbv)); (try (with_reducible rfl)))) ⟨0, 0, false, rfl, rfl, by simp, by simp⟩ ?_
  rintro i hi st ⟨J, N, B, rfl, hJ, hN, hB⟩
  by_cases him : i < l.length
  · have g := D.get (l := l) (J := J) (by omega)
    have hx : ix l J = l.getD i z0 := by rw [D.ix_, hJ]; rfl
    obtain ⟨g1, g2⟩ := s.get him
    rw [show l.getD i ((⟨#[]⟩ : ByteArray), (0 : Int)) = ix l J from hx.symm] at g1 g2
    generalize ix l J = x at *
    obtain ⟨y, v⟩ := x
    dsimp only at g g1 g2
    have s1 := sc_lt hA y k
    have s2 := sc_eq hA y k
    rw [g1] at s1
    rw [g2] at s2
    by_cases c1 : i < a.length
    · rw [decide_eq_true c1] at s1
      rw [decide_eq_false (by omega), Bool.false_and] at s2
      rw [decide_eq_false (by omega), Bool.false_and] at hB
      subst hB
      refine wpV_ofH (by ((try (conv => lhs; cbv)); (repeat ((first | (rewrite [g]) | (rewrite [s1]) | (rewrite [s2]) | (rewrite [K.add]; rotate_left; focus ((try simp only [K.df, D.df, true_and, and_true]) <;> omega)) | (rewrite [K.ltT]; rotate_left; focus ((try simp only [K.df, D.df, true_and, and_true]) <;> omega))); (try (conv => lhs; cbv)))); (exact rfl))) ?_
      refine headQ_ofH (by ((try (conv => lhs; cbv)); (exact rfl))) ?_
      refine ⟨him, _, _, _, rfl, ?_, ?_, ?_⟩
      · rw [K.pl_]; omega
      · rw [K.pl_, hN]; omega
      · rw [decide_eq_false (by omega), Bool.false_and]
    · rw [decide_eq_false c1] at s1
      have hB' : (B || (decide (i = a.length) && !m.isEmpty)) = (decide (a.length < i + 1) && !m.isEmpty) := by
        rw [hB, decide_eq_true (show a.length < i + 1 by omega)]
        by_cases c2 : i = a.length
        · rw [decide_eq_true c2, decide_eq_false (by omega)]; simp
        · rw [decide_eq_false c2, decide_eq_true (by omega)]; simp
      generalize (decide (i = a.length) && !m.isEmpty) = Q at *
      cases B with
      | true =>
        refine wpV_ofH (by ((try (conv => lhs; cbv)); (repeat ((first | (rewrite [g]) | (rewrite [s1]) | (rewrite [K.add]; rotate_left; focus ((try simp only [K.df, D.df, true_and, and_true]) <;> omega)) | (rewrite [K.ltT]; rotate_left; focus ((try simp only [K.df, D.df, true_and, and_true]) <;> omega))); (try (conv => lhs; cbv)))); (exact rfl))) ?_
        refine headQ_ofH (by ((try (conv => lhs; cbv)); (exact rfl))) ?_
        refine ⟨him, _, _, _, rfl, ?_, ?_, ?_⟩
        · rw [K.pl_]; omega
        · rw [hN]; omega
        · rw [← hB']; rfl
      | false =>
        refine wpV_ofH (by ((try (conv => lhs; cbv)); (repeat ((first | (rewrite [g]) | (rewrite [s1]) | (rewrite [s2]) | (rewrite [K.add]; rotate_left; focus ((try simp only [K.df, D.df, true_and, and_true]) <;> omega)) | (rewrite [K.ltT]; rotate_left; focus ((try simp only [K.df, D.df, true_and, and_true]) <;> omega))); (try (conv => lhs; cbv)))); (exact rfl))) ?_
        refine headQ_ofH (by ((try (conv => lhs; cbv)); (exact rfl))) ?_
        refine ⟨him, _, _, _, rfl, ?_, ?_, ?_⟩
        · rw [K.pl_]; omega
        · rw [hN]; omega
        · rw [← hB']; rfl
  · obtain rfl : i = l.length := by omega
    have hN' : N = (a.length : Nat) := by rw [hN]; omega
    have hB' : B = !m.isEmpty := by
      rw [hB, hme]
      by_cases c : m.length = 0
      · simp [c]
      · rw [decide_eq_true (show a.length < l.length by omega)]; simp
    rw [← hN', ← hB']
    refine wpV_ofH (by ((try (conv => lhs; cbv)); (repeat ((first | (rewrite [K.ltF]; rotate_left; focus ((try simp only [K.df, D.df, true_and, and_true]) <;> omega))); (try (conv => lhs; cbv)))); (exact rfl))) ?_
    show wpV _ _ _ _ _ _
    refine wpV_ofH (by ((try (conv => lhs; cbv)); (exact rfl))) ?_
    (show finV _ _ _ = some _; ((try (conv => lhs; cbv)); (try (with_reducible rfl))); (try rfl))
end Go.Proofs.Ytlbmknejhmmjnaa
