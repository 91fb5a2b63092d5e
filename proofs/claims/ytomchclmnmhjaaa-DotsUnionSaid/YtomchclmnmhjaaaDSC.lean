/- What a context knows: gone through, of the program and of the reference. -/
import Derived.Test.YtomchclmnmhjaaaDSB
set_option linter.unusedSimpArgs false
set_option linter.unusedVariables false
set_option maxRecDepth 100000
set_option maxHeartbeats 1000000
set_option cbv.maxSteps 10000000
namespace Go.Proofs.Ytomchclmnmhjaaa
open Go GoV

theorem eqvT {A : Ar} (hA : A = real) (a b c d : Int) : A .eqv ([.int] ++ [.int]) [.int .i64 a, .int .i64 b] [.int .i64 c, .int .i64 d] = some (decide ((a, b) = (c, d))) := by
  rw [hA, real_eqv]
  unfold rEqv
  simp only [flatI, Option.bind_some, rEqL, rEqK, if_true, List.singleton_append, List.cons_append, List.nil_append, Prod.mk.injEq]
  by_cases h1 : a = c <;> by_cases h2 : b = d <;> simp [h1, h2]
def hasV (v : List Int) (d : Dt) : Bool := validB d && decide (d.2 ≤ gU v d.1)
theorem validB_r {d : Dt} (h : validB d = true) : 0 ≤ d.1 ∧ d.1 < 64 ∧ 1 ≤ d.2 ∧ d.2 ≤ 1073741824 := of_decide_eq_true h
theorem h22 {v : List Int} (hv : v.length = 64) (d : Dt) : Qn 2 22 [vecF v, dotF d] [] (bl (hasV v d)) [] := by
  refine playQ 1 rfl rfl fun A call hA hcall => ?_
  obtain ⟨pl, mi, ml, nt, tn, ad, sb, K⟩ := kit hA
  obtain ⟨E, ix, sn, ll, cc, sg, D⟩ := lkit hA K ((0, 0) : Int × Int) (fun p => [.int .i64 p.1, .int .i64 p.2]) 16
  obtain ⟨W, gx, st', V⟩ := rkit hA
  have hvW : vec v = W v := by rw [V.W_]; rfl
  have k := lift (n19 d.1 d.2) 1 (by omega)
  rw [← hcall] at k
  unfold hasV gU
  obtain ⟨r, n⟩ := d
  dsimp only [vecF] at k ⊢
  rw [hvW]
  cases hb : validB (r, n) with
  | false => rw [hb] at k; refine wpV_ofH (by ((try (conv => lhs; cbv)); (repeat ((first | (rewrite [k])); (try (conv => lhs; cbv)))); (exact rfl))) ?_; (show finV _ _ _ = some _; ((try (conv => lhs; cbv)); (try (with_reducible rfl))); (try rfl))
  | true =>
    rw [hb] at k
    have hr := validB_r hb
    dsimp only at hr
    rw [Bool.true_and]
    by_cases h : n ≤ v.getD r.toNat 0
    · rw [decide_eq_true h]; refine wpV_ofH (by ((try (conv => lhs; cbv)); (repeat ((first | (rewrite [k]) | (rewrite [K.at_]; rotate_left; focus ((try simp only [K.df, D.df, V.df, true_and, and_true]) <;> omega)) | (rewrite [V.getc]; rotate_left; focus ((try simp only [K.df, D.df, V.df, true_and, and_true]) <;> omega)) | (rewrite [K.geT]; rotate_left; focus ((try simp only [K.df, D.df, V.df, true_and, and_true]) <;> omega))); (try (conv => lhs; cbv)))); (exact rfl))) ?_; (show finV _ _ _ = some _; ((try (conv => lhs; cbv)); (try (with_reducible rfl))); (try rfl))
    · rw [decide_eq_false h]; refine wpV_ofH (by ((try (conv => lhs; cbv)); (repeat ((first | (rewrite [k]) | (rewrite [K.at_]; rotate_left; focus ((try simp only [K.df, D.df, V.df, true_and, and_true]) <;> omega)) | (rewrite [V.getc]; rotate_left; focus ((try simp only [K.df, D.df, V.df, true_and, and_true]) <;> omega)) | (rewrite [K.geF]; rotate_left; focus ((try simp only [K.df, D.df, V.df, true_and, and_true]) <;> omega))); (try (conv => lhs; cbv)))); (exact rfl))) ?_; (show finV _ _ _ = some _; ((try (conv => lhs; cbv)); (try (with_reducible rfl))); (try rfl))
abbrev ctxF (t : Bool) (v : List Int) (l : List Dt) : FV := .agg [.iv (.arr 64 (vec v)), .iv (.sl t 2 (eDs l))]
def knB (v : List Int) (l : List Dt) (d : Dt) : Bool := hasV v d || (validB d && decide (d ∈ l))
theorem h38 {v : List Int} (hv : v.length = 64) (l : List Dt) (d : Dt) (t : Bool) (hl : l.length ≤ 1000) : Qn 1104 38 [ctxF t v l, dotF d] [] (bl (knB v l d)) [] := by
  refine playQ 1103 rfl rfl fun A call hA hcall => ?_
  obtain ⟨pl, mi, ml, nt, tn, ad, sb, K⟩ := kit hA
  obtain ⟨E, ix, sn, ll, cc, sg, D⟩ := lkit hA K ((0, 0) : Int × Int) (fun p => [.int .i64 p.1, .int .i64 p.2]) 16
  obtain ⟨W, gx, st', V⟩ := rkit hA
  have k22 := h22 hv d 1103 (by omega)
  have k19 := lift (n19 d.1 d.2) 1103 (by omega)
  rw [← hcall] at k22 k19
  unfold knB
  have hE : eDs l = E l := by rw [D.E_]; rfl
  dsimp only [ctxF, vecF] at *
  rw [hE]
  obtain ⟨M, hM⟩ : ∃ M : Int, M = nt (ll l) := ⟨_, rfl⟩
  have hMl : M = l.length := by rw [hM, K.nt_, D.ll_]
  have ln : A .len (E l) = M := by rw [D.len, hM]
  have e : validB (d.1, d.2) = validB d := rfl
  rw [e] at k19
  generalize validB d = vb at *
  generalize vec v = vs at *
  cases hh : hasV v d with
  | true =>
    rw [hh] at k22
    obtain ⟨a, b⟩ := d
    refine wpV_ofH (by ((try (conv => lhs; cbv)); (repeat ((first | (rewrite [k22])); (try (conv => lhs; cbv)))); (exact rfl))) ?_
    (show finV _ _ _ = some _; ((try (conv => lhs; cbv)); (try (with_reducible rfl))); (try rfl))
  | false =>
    rw [hh] at k22
    rw [Bool.false_or]
    generalize hR : (vb && decide (d ∈ l)) = R
    obtain ⟨a, b⟩ := d
    apply wpV_seq; refine wpV_ofH (by ((try (conv => lhs; cbv)); (exact rfl))) ?_
    apply wpV_seq; refine wpV_ofH (by ((try (conv => lhs; cbv)); (repeat ((first | (rewrite [k22])); (try (conv => lhs; cbv)))); (exact rfl))) ?_
    apply wpV_seq; apply wpV_seq; refine wpV_ofH (by ((try (conv => lhs; cbv)); (repeat ((first | (rewrite [ln])); (try (conv => lhs; cbv)))); (exact rfl))) ?_
    apply wpV_block
    refine wpV_loop l.length (fun i st => ∃ J : Int, st = ⟨0, [u, u, u, .one (.ptr 0 0), u, u, u, u, u, u, u, u, .one (.iv (.sl t 2 (E l))), i64 M, i64 J, u, u, u, u, u, u, u, u, u, u, u], [.var false [.iv (.int .i64 a), .iv (.int .i64 b)]]⟩ ∧ J = i ∧ (vb && decide ((a, b) ∈ l.drop i)) = R) (by omega) (by ((try (conv => lhs; cbv)); (try (with_reducible rfl)))) ⟨0, rfl, rfl, hR⟩ ?_
    rintro i hi st ⟨J, rfl, hJ, hgo⟩
    by_cases him : i < l.length
    · have hd : l.drop i = ix l J :: l.drop (i + 1) := by
        rw [D.ix_, hJ, Int.toNat_natCast, List.drop_eq_getElem_cons (by omega), List.getD_eq_getElem?_getD, List.getElem?_eq_getElem (by omega)]; rfl
      rw [hd] at hgo
      have g := D.get (l := l) (J := J) (by omega)
      generalize ix l J = x at *
      obtain ⟨r, n⟩ := x
      have eq := eqvT hA r n a b
      (conv at eq => lhs; arg 2; cbv)
      dsimp only at g
      by_cases h : (r, n) = (a, b)
      · rw [decide_eq_true h] at eq
        have e1 : decide ((a, b) ∈ (r, n) :: l.drop (i + 1)) = true := by rw [h]; simp
        rw [e1, Bool.and_true] at hgo
        subst hgo
        cases vb with
        | true =>
          refine wpV_ofH (by ((try (conv => lhs; cbv)); (repeat ((first | (rewrite [g]) | (rewrite [eq]) | (rewrite [k19]) | (rewrite [K.ltT]; rotate_left; focus ((try simp only [K.df, D.df, V.df, true_and, and_true]) <;> omega))); (try (conv => lhs; cbv)))); (exact rfl))) ?_
          show finQ _ _ _ _ _
          (show finV _ _ _ = some _; ((try (conv => lhs; cbv)); (try (with_reducible rfl))); (try rfl))
        | false =>
          refine wpV_ofH (by ((try (conv => lhs; cbv)); (repeat ((first | (rewrite [g]) | (rewrite [eq]) | (rewrite [k19]) | (rewrite [K.add]; rotate_left; focus ((try simp only [K.df, D.df, V.df, true_and, and_true]) <;> omega)) | (rewrite [K.ltT]; rotate_left; focus ((try simp only [K.df, D.df, V.df, true_and, and_true]) <;> omega))); (try (conv => lhs; cbv)))); (exact rfl))) ?_
          refine headQ_ofH (by ((try (conv => lhs; cbv)); (exact rfl))) ?_
          refine ⟨him, _, rfl, ?_, rfl⟩
          rw [K.pl_]; omega
      · rw [decide_eq_false h] at eq
        have h' : ¬ (a, b) = (r, n) := fun e => h e.symm
        have e2 : decide ((a, b) ∈ (r, n) :: l.drop (i + 1)) = decide ((a, b) ∈ l.drop (i + 1)) := by
          rw [decide_eq_decide, List.mem_cons]
          exact ⟨fun h => h.resolve_left h', fun h => .inr h⟩
        rw [e2] at hgo
        refine wpV_ofH (by ((try (conv => lhs; cbv)); (repeat ((first | (rewrite [g]) | (rewrite [eq]) | (rewrite [K.add]; rotate_left; focus ((try simp only [K.df, D.df, V.df, true_and, and_true]) <;> omega)) | (rewrite [K.ltT]; rotate_left; focus ((try simp only [K.df, D.df, V.df, true_and, and_true]) <;> omega))); (try (conv => lhs; cbv)))); (exact rfl))) ?_
        refine headQ_ofH (by ((try (conv => lhs; cbv)); (exact rfl))) ?_
        refine ⟨him, _, rfl, ?_, hgo⟩
        rw [K.pl_]; omega
    · obtain rfl : i = l.length := by omega
      rw [List.drop_of_length_le (Nat.le_refl _)] at hgo
      simp only [List.not_mem_nil, decide_false, Bool.and_false] at hgo
      subst hgo
      refine wpV_ofH (by ((try (conv => lhs; cbv)); (repeat ((first | (rewrite [K.ltF]; rotate_left; focus ((try simp only [K.df, D.df, V.df, true_and, and_true]) <;> omega))); (try (conv => lhs; cbv)))); (exact rfl))) ?_
      show wpV _ _ _ _ _ _
      refine wpV_ofH (by ((try (conv => lhs; cbv)); (exact rfl))) ?_
      (show finV _ _ _ = some _; ((try (conv => lhs; cbv)); (try (with_reducible rfl))); (try rfl))
end Go.Proofs.Ytomchclmnmhjaaa
