/- Is a write one of a list? Gone through. -/
import Derived.Test.YtanpphoehajcgaaDJL
import Derived.Test.YtanpphoehajcgaaDAE
set_option linter.unusedSimpArgs false
set_option linter.unusedVariables false
set_option maxRecDepth 100000
set_option maxHeartbeats 4000000
set_option cbv.maxSteps 10000000
namespace Go.Proofs.Ytanpphoehajcgaa
open Go GoV

theorem bq_dec (s t : ByteArray) : (s == t) = decide (s = t) := by
  rcases s with ⟨a⟩; rcases t with ⟨b⟩
  show (a == b) = _
  by_cases h : a = b
  · subst h; simp
  · rw [decide_eq_false (fun e => h (by injection e)), beq_eq_false_iff_ne]; exact h
def wq (a b : Wr) : Bool := (a.d.1 == b.d.1) && ((a.d.2 == b.d.2) && ((a.t == b.t) && ((a.doc == b.doc) && ((a.f == b.f) && ((a.txt == b.txt) && true)))))
theorem wq_dec (a b : Wr) : wq a b = decide (a = b) := by
  rw [Bool.eq_iff_iff]
  unfold wq
  rw [bq_dec, bq_dec]
  simp only [Bool.and_eq_true, beq_iff_eq, decide_eq_true_eq, and_true]
  obtain ⟨⟨a1, a2⟩, a3, a4, a5, a6⟩ := a
  obtain ⟨⟨b1, b2⟩, b3, b4, b5, b6⟩ := b
  dsimp only
  constructor
  · rintro ⟨rfl, rfl, rfl, rfl, rfl, rfl⟩; rfl
  · intro h
    simp only [Wr.mk.injEq, Prod.mk.injEq] at h
    exact ⟨h.1.1, h.1.2, h.2.1, h.2.2.1, h.2.2.2.1, h.2.2.2.2⟩
theorem eqWd {A : Ar} (hA : A = real) (a b : Wr) : A .eqv (([.int] ++ [.int]) ++ [.int] ++ [.str] ++ [.int] ++ [.str]) [.int .i64 a.d.1, .int .i64 a.d.2, .int .i64 a.t, .str a.doc, .int .i64 a.f, .str a.txt] [.int .i64 b.d.1, .int .i64 b.d.2, .int .i64 b.t, .str b.doc, .int .i64 b.f, .str b.txt] = some (decide (a = b)) := by
  rw [← wq_dec, hA, real_eqv]
  rfl
def idxW (d : Wr) : List Wr → Nat → Int
  | [], _ => -1
  | x :: r, i => if d = x then i else idxW d r (i + 1)
theorem idxW_mem (d : Wr) : ∀ (l : List Wr) (i : Nat), decide (0 ≤ idxW d l i) = decide (d ∈ l)
  | [], i => by simp [idxW]
  | x :: r, i => by
    unfold idxW
    by_cases h : d = x
    · rw [if_pos h, decide_eq_true (by omega), decide_eq_true (by simp [h])]
    · rw [if_neg h, idxW_mem d r (i + 1)]; simp [h]
theorem n121 (l : List Wr) (d : Wr) (t : Bool) (hl : l.length ≤ 1000) : Pn 1102 121 [.one (.iv (.sl t 6 (eWs l))), wF d] [] (i64 (idxW d l 0)) [] := by
  refine playN 1101 rfl rfl fun A call hA hcall => ?_
  obtain ⟨pl, mi, ml, nt, tn, ad, sb, K⟩ := kit hA
  obtain ⟨E, ix, sn, ll, cc, sg, D⟩ := lkit hA K zeroWr (fun w => [.int .i64 w.d.1, .int .i64 w.d.2, .int .i64 w.t, .str w.doc, .int .i64 w.f, .str w.txt]) 64
  obtain ⟨W, gx, st', V⟩ := rkit hA
  have hE : eWs l = E l := by rw [D.E_]; rfl
  rw [hE]
  obtain ⟨M, hM⟩ : ∃ M : Int, M = nt (ll l) := ⟨_, rfl⟩
  have hMl : M = l.length := by rw [hM, K.nt_, D.ll_]
  have ln : A .len (E l) = M := by rw [D.len, hM]
  generalize hR : idxW d l 0 = R
  obtain ⟨⟨a, b⟩, tm, doc, fi, txt⟩ := d
  apply wpV_seq; refine wpV_ofH (by ((try (conv => lhs; cbv)); (exact rfl))) ?_
  apply wpV_seq; apply wpV_seq; refine wpV_ofH (by ((try (conv => lhs; cbv)); (repeat ((first | (rewrite [ln])); (try (conv => lhs; cbv)))); (exact rfl))) ?_
  apply wpV_block
  refine wpV_loop l.length (fun i st => ∃ J : Int, st = ⟨0, [.one (.iv (.sl t 6 (E l))), u, u, .one (.ptr 0 0), u, u, u, i64 M, i64 J, u, u, u, u, u, u, u, u, u, u], [.var false [.iv (.int .i64 a), .iv (.int .i64 b), .iv (.int .i64 tm), .iv (.str doc), .iv (.int .i64 fi), .iv (.str txt)]]⟩ ∧ J = i ∧ idxW ⟨(a, b), tm, doc, fi, txt⟩ (l.drop i) i = R) (by omega) (by ((try (conv => lhs; cbv)); (try (with_reducible rfl)))) ⟨0, rfl, rfl, hR⟩ ?_
  rintro i hi st ⟨J, rfl, hJ, hgo⟩
  by_cases him : i < l.length
  · have hd : l.drop i = ix l J :: l.drop (i + 1) := by
      rw [D.ix_, hJ, Int.toNat_natCast, List.drop_eq_getElem_cons (by omega), List.getD_eq_getElem?_getD, List.getElem?_eq_getElem (by omega)]; rfl
    rw [hd, idxW] at hgo
    have g := D.get (l := l) (J := J) (by omega)
    generalize ix l J = x at *
    have eq := eqWd hA ⟨(a, b), tm, doc, fi, txt⟩ x
    obtain ⟨⟨r, n⟩, tm2, doc2, fi2, txt2⟩ := x
    (conv at eq => lhs; arg 2; cbv)
    dsimp only at g eq
    by_cases h : (⟨(a, b), tm, doc, fi, txt⟩ : Wr) = ⟨(r, n), tm2, doc2, fi2, txt2⟩
    · rw [if_pos h] at hgo
      rw [decide_eq_true h] at eq
      rw [← hgo, ← hJ]
      refine wpV_ofH (by ((try (conv => lhs; cbv)); (repeat ((first | (rewrite [g]) | (rewrite [eq]) | (rewrite [K.ltT]; rotate_left; focus ((try simp only [K.df, D.df, V.df, true_and, and_true]) <;> omega))); (try (conv => lhs; cbv)))); (exact rfl))) ?_
      show finQ _ _ _ _ _
      (show finV _ _ _ = some _; ((try (conv => lhs; cbv)); (try (with_reducible rfl))); (try rfl))
    · rw [if_neg h] at hgo
      rw [decide_eq_false h] at eq
      refine wpV_ofH (by ((try (conv => lhs; cbv)); (repeat ((first | (rewrite [g]) | (rewrite [eq]) | (rewrite [K.add]; rotate_left; focus ((try simp only [K.df, D.df, V.df, true_and, and_true]) <;> omega)) | (rewrite [K.ltT]; rotate_left; focus ((try simp only [K.df, D.df, V.df, true_and, and_true]) <;> omega))); (try (conv => lhs; cbv)))); (exact rfl))) ?_
      refine headQ_ofH (by ((try (conv => lhs; cbv)); (exact rfl))) ?_
      refine ⟨him, _, rfl, ?_, hgo⟩
      rw [K.pl_]; omega
  · obtain rfl : i = l.length := by omega
    rw [List.drop_of_length_le (Nat.le_refl _), idxW] at hgo
    rw [← hgo]
    refine wpV_ofH (by ((try (conv => lhs; cbv)); (repeat ((first | (rewrite [K.ltF]; rotate_left; focus ((try simp only [K.df, D.df, V.df, true_and, and_true]) <;> omega))); (try (conv => lhs; cbv)))); (exact rfl))) ?_
    show wpV _ _ _ _ _ _
    refine wpV_ofH (by ((try (conv => lhs; cbv)); (exact rfl))) ?_
    (show finV _ _ _ = some _; ((try (conv => lhs; cbv)); (try (with_reducible rfl))); (try rfl))
theorem n104 (l : List Wr) (d : Wr) (t : Bool) (hl : l.length ≤ 1000) : Pn 1103 104 [.one (.iv (.sl t 6 (eWs l))), wF d] [] (bl (decide (d ∈ l))) [] := by
  refine playN 1102 rfl rfl fun A call hA hcall => ?_
  obtain ⟨pl, mi, ml, nt, tn, ad, sb, K⟩ := kit hA
  obtain ⟨E, ix, sn, ll, cc, sg, D⟩ := lkit hA K zeroWr (fun w => [.int .i64 w.d.1, .int .i64 w.d.2, .int .i64 w.t, .str w.doc, .int .i64 w.f, .str w.txt]) 64
  obtain ⟨W, gx, st', V⟩ := rkit hA
  have k := n121 l d t hl 1102 (by omega)
  rw [← hcall] at k
  rw [← idxW_mem d l 0]
  generalize idxW d l 0 = R at *
  generalize eWs l = es at *
  obtain ⟨⟨a, b⟩, tm, doc, fi, txt⟩ := d
  dsimp only [wF] at *
  by_cases h : 0 ≤ R
  · rw [decide_eq_true h]; refine wpV_ofH (by ((try (conv => lhs; cbv)); (repeat ((first | (rewrite [k]) | (rewrite [K.geT]; rotate_left; focus ((try simp only [K.df, D.df, V.df, true_and, and_true]) <;> omega))); (try (conv => lhs; cbv)))); (exact rfl))) ?_; (show finV _ _ _ = some _; ((try (conv => lhs; cbv)); (try (with_reducible rfl))); (try rfl))
  · rw [decide_eq_false h]; refine wpV_ofH (by ((try (conv => lhs; cbv)); (repeat ((first | (rewrite [k]) | (rewrite [K.geF]; rotate_left; focus ((try simp only [K.df, D.df, V.df, true_and, and_true]) <;> omega))); (try (conv => lhs; cbv)))); (exact rfl))) ?_; (show finV _ _ _ = some _; ((try (conv => lhs; cbv)); (try (with_reducible rfl))); (try rfl))
end Go.Proofs.Ytanpphoehajcgaa
