/- What a context knows: gone through, of the program and of the reference. -/
import Derived.Test.YtomchclmnmhjaaaDSB
set_option linter.unusedSimpArgs false
set_option linter.unusedVariables false
set_option maxRecDepth 100000
set_option maxHeartbeats 1000000
set_option cbv.maxSteps 10000000
namespace Go.Proofs.Ytomchclmnmhjaaa
open Go GoV

theorem eqvT {A : Ar} (hA : A = real) (a b c d : Int) : A .eqv ([.int] ++ [.int]) [.int .i64 a, .int .i64 b] [.int .i64 c, .int .i64 d] = some (decide ((a, b) = (c, d))) := by
  rw [hA, real_eqv]
  unfold rEqv
  simp only [flatI, Option.bind_some, rEqL, rEqK, if_true, List.singleton_append, List.cons_append, List.nil_append, Prod.mk.injEq]
  by_cases h1 : a = c <;> by_cases h2 : b = d <;> simp [h1, h2]
def hasV (v : List Int) (d : Dt) : Bool := validB d && decide (d.2 ≤ gU v d.1)
theorem validB_r {d : Dt} (h : validB d = true) : 0 ≤ d.1 ∧ d.1 < 64 ∧ 1 ≤ d.2 ∧ d.2 ≤ 1073741824 := of_decide_eq_true h
theorem h21 {v : List Int} (hv : v.length = 64) (d : Dt) : Qn 2 21 [vecF v, dotF d] [] (bl (hasV v d)) [] := by
  refine playQ 1 rfl rfl fun A call hA hcall => ?_
  obtain ⟨pl, mi, ml, nt, tn, ad, sb, K⟩ := kit hA
  obtain ⟨E, ix, sn, ll, cc, sg, D⟩ := lkit hA K ((0, 0) : Int × Int) (fun p => [.int .i64 p.1, .int .i64 p.2]) 16
  obtain ⟨W, gx, st', V⟩ := rkit hA
  have hvW : vec v = W v := by rw [V.W_]; rfl
  have k := lift (n18 d.1 d.2) 1 (by omega)
  rw [← hcall] at k
  unfold hasV gU
  obtain ⟨r, n⟩ := d
  dsimp only [vecF] at k ⊢
  rw [hvW]
  cases hb : validB (r, n) with
  | false => rw [hb] at k; refine wpV_ofH (by ((try (conv => lhs; cbv)); (repeat ((first | (rewrite [k])); (try (conv => lhs; cbv)))); (exact rfl))) ?_; (show finV _ _ _ = some _; ((try (conv => lhs; cbv)); (try (with_reducible rfl))); (try rfl))
  | true =>
    rw [hb] at k
    have hr := validB_r hb
    dsimp only at hr
    rw [Bool.true_and]
    by_cases h : n ≤ v.getD r.toNat 0
    · rw [decide_eq_true h]; refine wpV_ofH (by ((try (conv => lhs; cbv)); (repeat ((first | (rewrite [k]) | (rewrite [K.at_]; rotate_left; focus ((try simp only [K.df, D.df, V.df, true_and, and_true]) <;> omega)) | (rewrite [V.getc]; rotate_left; focus ((try simp only [K.df, D.df, V.df, true_and, and_true]) <;> omega)) | (rewrite [K.leT]; rotate_left; focus ((try simp only [K.df, D.df, V.df, true_and, and_true]) <;> omega))); (try (conv => lhs; cbv)))); (exact rfl))) ?_; (show finV _ _ _ = some _; ((try (conv => lhs; cbv)); (try (with_reducible rfl))); (try rfl))
    · rw [decide_eq_false h]; refine wpV_ofH (by ((try (conv => lhs; cbv)); (repeat ((first | (rewrite [k]) | (rewrite [K.at_]; rotate_left; focus ((try simp only [K.df, D.df, V.df, true_and, and_true]) <;> omega)) | (rewrite [V.getc]; rotate_left; focus ((try simp only [K.df, D.df, V.df, true_and, and_true]) <;> omega)) | (rewrite [K.leF]; rotate_left; focus ((try simp only [K.df, D.df, V.df, true_and, and_true]) <;> omega))); (try (conv => lhs; cbv)))); (exact rfl))) ?_; (show finV _ _ _ = some _; ((try (conv => lhs; cbv)); (try (with_reducible rfl))); (try rfl))
def idxD (d : Dt) : List Dt → Nat → Int
  | [], _ => -1
  | x :: r, i => if d = x then i else idxD d r (i + 1)
theorem idxD_mem (d : Dt) : ∀ (l : List Dt) (i : Nat), decide (0 ≤ idxD d l i) = decide (d ∈ l)
  | [], i => by simp [idxD]
  | x :: r, i => by
    unfold idxD
    by_cases h : d = x
    · rw [if_pos h, decide_eq_true (by omega), decide_eq_true (by simp [h])]
    · rw [if_neg h, idxD_mem d r (i + 1)]; simp [h]
theorem h119 (l : List Dt) (d : Dt) (t : Bool) (hl : l.length ≤ 1000) : Qn 1102 119 [.one (.iv (.sl t 2 (eDs l))), dotF d] [] (i64 (idxD d l 0)) [] := by
  refine playQ 1101 rfl rfl fun A call hA hcall => ?_
  obtain ⟨pl, mi, ml, nt, tn, ad, sb, K⟩ := kit hA
  obtain ⟨E, ix, sn, ll, cc, sg, D⟩ := lkit hA K ((0, 0) : Int × Int) (fun p => [.int .i64 p.1, .int .i64 p.2]) 16
  obtain ⟨W, gx, st', V⟩ := rkit hA
  have hE : eDs l = E l := by rw [D.E_]; rfl
  rw [hE]
  obtain ⟨M, hM⟩ : ∃ M : Int, M = nt (ll l) := ⟨_, rfl⟩
  have hMl : M = l.length := by rw [hM, K.nt_, D.ll_]
  have ln : A .len (E l) = M := by rw [D.len, hM]
  generalize hR : idxD d l 0 = R
  obtain ⟨a, b⟩ := d
  apply wpV_seq; refine wpV_ofH (by ((try (conv => lhs; cbv)); (exact rfl))) ?_
  apply wpV_seq; apply wpV_seq; refine wpV_ofH (by ((try (conv => lhs; cbv)); (repeat ((first | (rewrite [ln])); (try (conv => lhs; cbv)))); (exact rfl))) ?_
  apply wpV_block
  refine wpV_loop l.length (fun i st => ∃ J : Int, st = ⟨0, [.one (.iv (.sl t 2 (E l))), u, u, .one (.ptr 0 0), u, u, u, i64 M, i64 J, u, u, u, u, u, u, u, u, u, u], [.var false [.iv (.int .i64 a), .iv (.int .i64 b)]]⟩ ∧ J = i ∧ idxD (a, b) (l.drop i) i = R) (by omega) (by ((try (conv => lhs; cbv)); (try (with_reducible rfl)))) ⟨0, rfl, rfl, hR⟩ ?_
  rintro i hi st ⟨J, rfl, hJ, hgo⟩
  by_cases him : i < l.length
  · have hd : l.drop i = ix l J :: l.drop (i + 1) := by
      rw [D.ix_, hJ, Int.toNat_natCast, List.drop_eq_getElem_cons (by omega), List.getD_eq_getElem?_getD, List.getElem?_eq_getElem (by omega)]; rfl
    rw [hd, idxD] at hgo
    have g := D.get (l := l) (J := J) (by omega)
    generalize ix l J = x at *
    obtain ⟨r, n⟩ := x
    have eq := eqvT hA a b r n
    (conv at eq => lhs; arg 2; cbv)
    dsimp only at g
    by_cases h : (a, b) = (r, n)
    · rw [if_pos h] at hgo
      rw [decide_eq_true h] at eq
      rw [← hgo, ← hJ]
      refine wpV_ofH (by ((try (conv => lhs; cbv)); (repeat ((first | (rewrite [g]) | (rewrite [eq]) | (rewrite [K.ltT]; rotate_left; focus ((try simp only [K.df, D.df, V.df, true_and, and_true]) <;> omega))); (try (conv => lhs; cbv)))); (exact rfl))) ?_
      show finQ _ _ _ _ _
      (show finV _ _ _ = some _; ((try (conv => lhs; cbv)); (try (with_reducible rfl))); (try rfl))
    · rw [if_neg h] at hgo
      rw [decide_eq_false h] at eq
      refine wpV_ofH (by ((try (conv => lhs; cbv)); (repeat ((first | (rewrite [g]) | (rewrite [eq]) | (rewrite [K.add]; rotate_left; focus ((try simp only [K.df, D.df, V.df, true_and, and_true]) <;> omega)) | (rewrite [K.ltT]; rotate_left; focus ((try simp only [K.df, D.df, V.df, true_and, and_true]) <;> omega))); (try (conv => lhs; cbv)))); (exact rfl))) ?_
      refine headQ_ofH (by ((try (conv => lhs; cbv)); (exact rfl))) ?_
      refine ⟨him, _, rfl, ?_, hgo⟩
      rw [K.pl_]; omega
  · obtain rfl : i = l.length := by omega
    rw [List.drop_of_length_le (Nat.le_refl _), idxD] at hgo
    rw [← hgo]
    refine wpV_ofH (by ((try (conv => lhs; cbv)); (repeat ((first | (rewrite [K.ltF]; rotate_left; focus ((try simp only [K.df, D.df, V.df, true_and, and_true]) <;> omega))); (try (conv => lhs; cbv)))); (exact rfl))) ?_
    show wpV _ _ _ _ _ _
    refine wpV_ofH (by ((try (conv => lhs; cbv)); (exact rfl))) ?_
    (show finV _ _ _ = some _; ((try (conv => lhs; cbv)); (try (with_reducible rfl))); (try rfl))
theorem h86 (l : List Dt) (d : Dt) (t : Bool) (hl : l.length ≤ 1000) : Qn 1103 86 [.one (.iv (.sl t 2 (eDs l))), dotF d] [] (bl (decide (d ∈ l))) [] := by
  refine playQ 1102 rfl rfl fun A call hA hcall => ?_
  obtain ⟨pl, mi, ml, nt, tn, ad, sb, K⟩ := kit hA
  obtain ⟨E, ix, sn, ll, cc, sg, D⟩ := lkit hA K ((0, 0) : Int × Int) (fun p => [.int .i64 p.1, .int .i64 p.2]) 16
  obtain ⟨W, gx, st', V⟩ := rkit hA
  have k := h119 l d t hl 1102 (by omega)
  rw [← hcall] at k
  rw [← idxD_mem d l 0]
  generalize idxD d l 0 = R at *
  generalize eDs l = es at *
  obtain ⟨a, b⟩ := d
  by_cases h : 0 ≤ R
  · rw [decide_eq_true h]; refine wpV_ofH (by ((try (conv => lhs; cbv)); (repeat ((first | (rewrite [k]) | (rewrite [K.geT]; rotate_left; focus ((try simp only [K.df, D.df, V.df, true_and, and_true]) <;> omega))); (try (conv => lhs; cbv)))); (exact rfl))) ?_; (show finV _ _ _ = some _; ((try (conv => lhs; cbv)); (try (with_reducible rfl))); (try rfl))
  · rw [decide_eq_false h]; refine wpV_ofH (by ((try (conv => lhs; cbv)); (repeat ((first | (rewrite [k]) | (rewrite [K.geF]; rotate_left; focus ((try simp only [K.df, D.df, V.df, true_and, and_true]) <;> omega))); (try (conv => lhs; cbv)))); (exact rfl))) ?_; (show finV _ _ _ = some _; ((try (conv => lhs; cbv)); (try (with_reducible rfl))); (try rfl))
abbrev ctxF (t : Bool) (v : List Int) (l : List Dt) : FV := .agg [.iv (.arr 64 (vec v)), .iv (.sl t 2 (eDs l))]
def knB (v : List Int) (l : List Dt) (d : Dt) : Bool := hasV v d || (validB d && decide (d ∈ l))
theorem h37 {v : List Int} (hv : v.length = 64) (l : List Dt) (d : Dt) (t : Bool) (hl : l.length ≤ 1000) : Qn 1104 37 [ctxF t v l, dotF d] [] (bl (knB v l d)) [] := by
  refine playQ 1103 rfl rfl fun A call hA hcall => ?_
  obtain ⟨pl, mi, ml, nt, tn, ad, sb, K⟩ := kit hA
  obtain ⟨E, ix, sn, ll, cc, sg, D⟩ := lkit hA K ((0, 0) : Int × Int) (fun p => [.int .i64 p.1, .int .i64 p.2]) 16
  obtain ⟨W, gx, st', V⟩ := rkit hA
  have k86 := h86 l d t hl 1103 (by omega)
  have k21 := h21 hv d 1103 (by omega)
  have k18 := lift (n18 d.1 d.2) 1103 (by omega)
  rw [← hcall] at k86 k21 k18
  unfold knB
  dsimp only [ctxF, vecF] at *
  generalize eDs l = es at *
  generalize vec v = vs at *
  have e : validB (d.1, d.2) = validB d := rfl
  rw [e] at k18
  generalize validB d = vb at *
  generalize hasV v d = hb at *
  generalize decide (d ∈ l) = mb at *
  obtain ⟨a, b⟩ := d
  cases hb with
  | true => refine wpV_ofH (by ((try (conv => lhs; cbv)); (repeat ((first | (rewrite [k21])); (try (conv => lhs; cbv)))); (exact rfl))) ?_; (show finV _ _ _ = some _; ((try (conv => lhs; cbv)); (try (with_reducible rfl))); (try rfl))
  | false =>
    cases vb with
    | false => refine wpV_ofH (by ((try (conv => lhs; cbv)); (repeat ((first | (rewrite [k21]) | (rewrite [k18])); (try (conv => lhs; cbv)))); (exact rfl))) ?_; (show finV _ _ _ = some _; ((try (conv => lhs; cbv)); (try (with_reducible rfl))); (try rfl))
    | true => cases mb <;> (refine wpV_ofH (by ((try (conv => lhs; cbv)); (repeat ((first | (rewrite [k86]) | (rewrite [k21]) | (rewrite [k18])); (try (conv => lhs; cbv)))); (exact rfl))) ?_; (show finV _ _ _ = some _; ((try (conv => lhs; cbv)); (try (with_reducible rfl))); (try rfl)))
end Go.Proofs.Ytomchclmnmhjaaa
