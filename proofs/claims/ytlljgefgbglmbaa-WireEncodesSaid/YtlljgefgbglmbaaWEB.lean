/- Any two states, lists of events and messages held against each other, by the program and by the reference: gone through. -/
import Derived.Test.YtlljgefgbglmbaaWEA
import Derived.Test.YtlljgefgbglmbaaWBE
import Derived.Test.YtlljgefgbglmbaaDZB
set_option linter.unusedSimpArgs false
set_option linter.unusedVariables false
set_option maxRecDepth 100000
set_option maxHeartbeats 4000000
set_option cbv.maxSteps 10000000
namespace Go.Proofs.Ytlljgefgbglmbaa
open Go GoV

def allB {α : Type} (q : α → α → Bool) : List α → List α → Bool
  | [], [] => true
  | x :: r, y :: s => q x y && allB q r s
  | _, _ => false
theorem allB_ne {α : Type} {q : α → α → Bool} : ∀ {l l' : List α}, l.length ≠ l'.length → allB q l l' = false
  | [], [], h => absurd rfl h
  | [], _ :: _, _ => rfl
  | _ :: _, [], _ => rfl
  | x :: r, y :: s, h => by rw [allB, allB_ne (l := r) (l' := s) (by simpa using h), Bool.and_false]
theorem allB_step {α : Type} {q : α → α → Bool} {l l' : List α} {i : Nat} (h : l.length = l'.length) (hi : i < l.length) (d : α) : allB q (l.drop i) (l'.drop i) = (q (l.getD i d) (l'.getD i d) && allB q (l.drop (i + 1)) (l'.drop (i + 1))) := by
  rw [List.drop_eq_getElem_cons hi, List.drop_eq_getElem_cons (l := l') (by omega), allB, List.getD_eq_getElem?_getD, List.getElem?_eq_getElem hi, List.getD_eq_getElem?_getD, List.getElem?_eq_getElem (by omega)]
  rfl
theorem bq_comm (s t : ByteArray) : (s == t) = (t == s) := by
  rcases s with ⟨a⟩; rcases t with ⟨b⟩; show (a == b) = (b == a)
  exact BEq.comm
def wq (a b : Wr) : Bool := (a.d.1 == b.d.1) && ((a.d.2 == b.d.2) && ((a.t == b.t) && ((a.doc == b.doc) && ((a.f == b.f) && ((a.txt == b.txt) && true)))))
theorem wq_comm (a b : Wr) : wq a b = wq b a := by
  unfold wq
  rw [bq_comm a.doc, bq_comm a.txt, BEq.comm (a := a.d.1), BEq.comm (a := a.d.2), BEq.comm (a := a.t), BEq.comm (a := a.f)]
theorem eqW {A : Ar} (hA : A = real) (a b : Wr) : A .eqv (([.int] ++ [.int]) ++ [.int] ++ [.str] ++ [.int] ++ [.str]) [.int .i64 a.d.1, .int .i64 a.d.2, .int .i64 a.t, .str a.doc, .int .i64 a.f, .str a.txt] [.int .i64 b.d.1, .int .i64 b.d.2, .int .i64 b.t, .str b.doc, .int .i64 b.f, .str b.txt] = some (wq a b) := by
  rw [hA, real_eqv]
  rfl
def dq (a b : Int × Int) : Bool := decide (a = b)
def evq (a b : Ev) : Bool := decide (a.d = b.d) && (decide (a.t = b.t) && (decide (a.k = b.k) && ((a.doc.toList == b.doc.toList) && (decide (a.f = b.f) && ((a.txt.toList == b.txt.toList) && allB dq a.gone b.gone)))))
def stq (v : List Int) (l : List Wr) (v' : List Int) (l' : List Wr) : Bool := decide (v = v') && allB wq l l'
def evsq (lx ly : List EvX) : Bool := allB (fun a b => evq a.1 b.1) lx ly
section
variable {A : Ar} {pl mi ml nt tn ad sb} (K : Kit A pl mi ml nt tn ad sb)
include K
theorem cmpE (a b : Int) : A .cmp .eql a b = decide (a = b) := by
  by_cases h : a = b
  · rw [K.eqT h, decide_eq_true h]
  · rw [K.eqF h, decide_eq_false h]
theorem cmpNe (a b : Int) : A .cmp .neq a b = Bool.not (decide (a = b)) := by
  by_cases h : a = b
  · rw [K.neF h, decide_eq_true h]; rfl
  · rw [K.neT h, decide_eq_false h]; rfl
end
theorem scmpE {A : Ar} (hA : A = real) (a b : ByteArray) : A .scmp .eql a b = (a.toList == b.toList) := by rw [hA]; rfl
theorem scmpN {A : Ar} (hA : A = real) (a b : ByteArray) : A .scmp .neq a b = Bool.not (a.toList == b.toList) := by rw [hA]; rfl
theorem n111g (l l' : List (Int × Int)) (t t2 : Bool) (hl : l.length ≤ 1000) :
    Pn 1002 111 [.one (.iv (.sl t 2 (eDs l))), .one (.iv (.sl t2 2 (eDs l')))] [] (bl (allB dq l l')) [] := by
  refine playN 1001 rfl rfl fun A call hA hcall => ?_
  obtain ⟨pl, mi, ml, nt, tn, ad, sb, K⟩ := kit hA
  obtain ⟨E, ix, sn, ll, cc, sg, D⟩ := lkit hA K ((0, 0) : Int × Int) (fun p => [.int .i64 p.1, .int .i64 p.2]) 16
  obtain ⟨EX, ix', sn', ll', cc', sg', X⟩ := lkit hA K zeroX exI 96
  obtain ⟨W, gx, st', V⟩ := rkit hA
  have hE : ∀ l, eDs l = E l := fun l => by rw [D.E_]; rfl
  rw [hE, hE]
  obtain ⟨M, hM⟩ : ∃ M : Int, M = nt (ll l) := ⟨_, rfl⟩
  have hMl : M = l.length := by rw [hM, K.nt_, D.ll_]
  have ln : A .len (E l) = M := by rw [D.len, hM]
  obtain ⟨M2, hM2⟩ : ∃ M : Int, M = nt (ll l') := ⟨_, rfl⟩
  have hMl2 : M2 = l'.length := by rw [hM2, K.nt_, D.ll_]
  have ln2 : A .len (E l') = M2 := by rw [D.len, hM2]
  by_cases hlen : l.length = l'.length
  · obtain rfl : M = M2 := by omega
    generalize hR : allB dq l l' = R
    apply wpV_seq; refine wpV_ofH (by ((try (conv => lhs; cbv)); (exact rfl))) ?_
    apply wpV_seq; refine wpV_ofH (by ((try (conv => lhs; cbv)); (repeat ((first | (rewrite [ln]) | (rewrite [ln2]) | (rewrite [K.neF]; rotate_left; focus ((try simp only [K.df, D.df, X.df, V.df, true_and, and_true]) <;> omega))); (try (conv => lhs; cbv)))); (exact rfl))) ?_
    apply wpV_seq; apply wpV_seq; refine wpV_ofH (by ((try (conv => lhs; cbv)); (repeat ((first | (rewrite [ln])); (try (conv => lhs; cbv)))); (exact rfl))) ?_
    apply wpV_block
    refine wpV_loop l.length (fun i st => ∃ J : Int, st = ⟨0, [.one (.iv (.sl t 2 (E l))), .one (.iv (.sl t2 2 (E l'))), u, u, u, u, u, u, u, u, u, u, i64 M, i64 J, u, u, u, u, u, u, u, u, u, u, u, u], []⟩ ∧ J = i ∧ allB dq (l.drop i) (l'.drop i) = R) (by omega) (by ((try (conv => lhs; cbv)); (try (with_reducible rfl)))) ⟨0, rfl, rfl, hR⟩ ?_
    rintro i hi st ⟨J, rfl, hJ, hgo⟩
    by_cases him : i < l.length
    · have g1 := D.get (l := l) (J := J) (by omega)
      have g2 := D.get (l := l') (J := J) (by omega)
      have e1 : ix l J = l.getD i (0, 0) := by rw [D.ix_, hJ]; rfl
      have e2 : ix l' J = l'.getD i (0, 0) := by rw [D.ix_, hJ]; rfl
      rw [allB_step hlen him (0, 0), ← e1, ← e2] at hgo
      generalize ix l J = d at *
      generalize ix l' J = d' at *
      obtain ⟨r, n⟩ := d
      obtain ⟨r', n'⟩ := d'
      have eq := eqvD hA r n r' n'
      (conv at eq => lhs; arg 2; cbv)
      unfold dq at hgo
      generalize decide ((r, n) = (r', n')) = q at *
      dsimp only at g1 g2
      cases q with
      | true =>
        rw [Bool.true_and] at hgo
        refine wpV_ofH (by ((try (conv => lhs; cbv)); (repeat ((first | (rewrite [g1]) | (rewrite [g2]) | (rewrite [eq]) | (rewrite [K.add]; rotate_left; focus ((try simp only [K.df, D.df, X.df, V.df, true_and, and_true]) <;> omega)) | (rewrite [K.ltT]; rotate_left; focus ((try simp only [K.df, D.df, X.df, V.df, true_and, and_true]) <;> omega))); (try (conv => lhs; cbv)))); (exact rfl))) ?_
        refine headQ_ofH (by ((try (conv => lhs; cbv)); (exact rfl))) ?_
        refine ⟨him, _, rfl, ?_, hgo⟩
        rw [K.pl_]; omega
      | false =>
        rw [Bool.false_and] at hgo
        subst hgo
        refine wpV_ofH (by ((try (conv => lhs; cbv)); (repeat ((first | (rewrite [g1]) | (rewrite [g2]) | (rewrite [eq]) | (rewrite [K.ltT]; rotate_left; focus ((try simp only [K.df, D.df, X.df, V.df, true_and, and_true]) <;> omega))); (try (conv => lhs; cbv)))); (exact rfl))) ?_
        show finQ _ _ _ _ _
        (show finV _ _ _ = some _; ((try (conv => lhs; cbv)); (try (with_reducible rfl))); (try rfl))
    · obtain rfl : i = l.length := by omega
      rw [List.drop_of_length_le (Nat.le_refl _), List.drop_of_length_le (by omega), allB] at hgo
      subst hgo
      refine wpV_ofH (by ((try (conv => lhs; cbv)); (repeat ((first | (rewrite [K.ltF]; rotate_left; focus ((try simp only [K.df, D.df, X.df, V.df, true_and, and_true]) <;> omega))); (try (conv => lhs; cbv)))); (exact rfl))) ?_
      show wpV _ _ _ _ _ _
      refine wpV_ofH (by ((try (conv => lhs; cbv)); (exact rfl))) ?_
      (show finV _ _ _ = some _; ((try (conv => lhs; cbv)); (try (with_reducible rfl))); (try rfl))
  · rw [allB_ne hlen]
    have hne : M ≠ M2 := by omega
    refine wpV_ofH (by ((try (conv => lhs; cbv)); (repeat ((first | (rewrite [ln]) | (rewrite [ln2]) | (rewrite [K.neT]; rotate_left; focus ((try simp only [K.df, D.df, X.df, V.df, true_and, and_true]) <;> omega))); (try (conv => lhs; cbv)))); (exact rfl))) ?_
    (show finV _ _ _ = some _; ((try (conv => lhs; cbv)); (try (with_reducible rfl))); (try rfl))
theorem n85g (e e' : Ev) (b b2 : Bool) (hl : e.gone.length ≤ 1000) : Pn 1003 85 [evF b 2 e, evF b2 2 e'] [] (bl (evq e e')) [] := by
  refine playN 1002 rfl rfl fun A call hA hcall => ?_
  obtain ⟨pl, mi, ml, nt, tn, ad, sb, K⟩ := kit hA
  obtain ⟨E, ix, sn, ll, cc, sg, D⟩ := lkit hA K ((0, 0) : Int × Int) (fun p => [.int .i64 p.1, .int .i64 p.2]) 16
  obtain ⟨EX, ix', sn', ll', cc', sg', X⟩ := lkit hA K zeroX exI 96
  obtain ⟨W, gx, st', V⟩ := rkit hA
  have k1 := n111g e.gone e'.gone b b2 hl 1002 (by omega)
  rw [← hcall] at k1
  obtain ⟨⟨r, n⟩, t, kd, doc, f, txt, gone⟩ := e
  obtain ⟨⟨r', n'⟩, t', kd', doc', f', txt', gone'⟩ := e'
  have eq := eqvD hA r n r' n'
  (conv at eq => lhs; arg 2; cbv)
  have c1 := cmpE K t t'
  have c2 := cmpE K kd kd'
  have c3 := scmpE hA doc doc'
  have c4 := cmpE K f f'
  have c5 := scmpE hA txt txt'
  unfold evq
  dsimp only [evF] at *
  generalize decide ((r, n) = (r', n')) = q0 at *
  generalize decide (t = t') = q1 at *
  generalize decide (kd = kd') = q2 at *
  generalize (doc.toList == doc'.toList) = q3 at *
  generalize decide (f = f') = q4 at *
  generalize (txt.toList == txt'.toList) = q5 at *
  generalize allB dq gone gone' = q6 at *
  generalize eDs gone = gs at *
  generalize eDs gone' = gs' at *
  cases q0
  · refine wpV_ofH (by ((try (conv => lhs; cbv)); (repeat ((first | (rewrite [eq])); (try (conv => lhs; cbv)))); (exact rfl))) ?_; (show finV _ _ _ = some _; ((try (conv => lhs; cbv)); (try (with_reducible rfl))); (try rfl))
  cases q1
  · refine wpV_ofH (by ((try (conv => lhs; cbv)); (repeat ((first | (rewrite [eq]) | (rewrite [c1])); (try (conv => lhs; cbv)))); (exact rfl))) ?_; (show finV _ _ _ = some _; ((try (conv => lhs; cbv)); (try (with_reducible rfl))); (try rfl))
  cases q2
  · refine wpV_ofH (by ((try (conv => lhs; cbv)); (repeat ((first | (rewrite [eq]) | (rewrite [c1]) | (rewrite [c2])); (try (conv => lhs; cbv)))); (exact rfl))) ?_; (show finV _ _ _ = some _; ((try (conv => lhs; cbv)); (try (with_reducible rfl))); (try rfl))
  cases q3
  · refine wpV_ofH (by ((try (conv => lhs; cbv)); (repeat ((first | (rewrite [eq]) | (rewrite [c1]) | (rewrite [c2]) | (rewrite [c3])); (try (conv => lhs; cbv)))); (exact rfl))) ?_; (show finV _ _ _ = some _; ((try (conv => lhs; cbv)); (try (with_reducible rfl))); (try rfl))
  cases q4
  · refine wpV_ofH (by ((try (conv => lhs; cbv)); (repeat ((first | (rewrite [eq]) | (rewrite [c1]) | (rewrite [c2]) | (rewrite [c3]) | (rewrite [c4])); (try (conv => lhs; cbv)))); (exact rfl))) ?_; (show finV _ _ _ = some _; ((try (conv => lhs; cbv)); (try (with_reducible rfl))); (try rfl))
  cases q5
  · refine wpV_ofH (by ((try (conv => lhs; cbv)); (repeat ((first | (rewrite [eq]) | (rewrite [c1]) | (rewrite [c2]) | (rewrite [c3]) | (rewrite [c4]) | (rewrite [c5])); (try (conv => lhs; cbv)))); (exact rfl))) ?_; (show finV _ _ _ = some _; ((try (conv => lhs; cbv)); (try (with_reducible rfl))); (try rfl))
  refine wpV_ofH (by ((try (conv => lhs; cbv)); (repeat ((first | (rewrite [eq]) | (rewrite [c1]) | (rewrite [c2]) | (rewrite [c3]) | (rewrite [c4]) | (rewrite [c5]) | (rewrite [k1])); (try (conv => lhs; cbv)))); (exact rfl))) ?_
  (show finV _ _ _ = some _; ((try (conv => lhs; cbv)); (try (with_reducible rfl))); (try rfl))
structure Held (lx : List EvX) : Prop where
  z : ∀ x, x ∈ lx → x.2.2 = 2
  g : ∀ x, x ∈ lx → x.1.gone.length ≤ 1000
  l : lx.length ≤ 2000
theorem Held.get {lx : List EvX} (h : Held lx) {i : Nat} (hi : i < lx.length) : (lx.getD i zeroX).2.2 = 2 ∧ (lx.getD i zeroX).1.gone.length ≤ 1000 := by
  have hm : lx.getD i zeroX ∈ lx := by rw [List.getD_eq_getElem?_getD, List.getElem?_eq_getElem hi]; exact List.getElem_mem hi
  exact ⟨h.z _ hm, h.g _ hm⟩
theorem n84g (lx ly : List EvX) (h : Held lx) (h' : Held ly) (t t2 : Bool) (z z2 : Nat) (hz : z = 8 ∨ z = 0 ∧ lx = []) (hz2 : z2 = 8 ∨ z2 = 0 ∧ ly = []) :
    Pn 4002 84 [.one (.iv (.sl t z (exs lx))), .one (.iv (.sl t2 z2 (exs ly))), .one (.iv (.fn 85))] [] (bl (evsq lx ly)) [] := by
  refine playN 4001 rfl rfl fun A call hA hcall => ?_
  obtain ⟨pl, mi, ml, nt, tn, ad, sb, K⟩ := kit hA
  obtain ⟨E, ix', sn', ll', cc', sg', D⟩ := lkit hA K ((0, 0) : Int × Int) (fun p => [.int .i64 p.1, .int .i64 p.2]) 16
  obtain ⟨EX, ix, sn, ll, cc, sg, X⟩ := lkit hA K zeroX exI 96
  obtain ⟨W, gx, st', V⟩ := rkit hA
  have h2 := h.l
  have hEX : ∀ l, exs l = EX l := fun l => by rw [X.E_]; rfl
  have k85 : ∀ (e e' : Ev) (b b2 : Bool), e.gone.length ≤ 1000 → call 85 [evF b 2 e, evF b2 2 e'] [] = some (bl (evq e e'), []) := fun e e' b b2 h => by rw [hcall]; exact n85g e e' b b2 h 4001 (by omega)
  rw [hEX, hEX]
  obtain ⟨M, hM⟩ : ∃ M : Int, M = nt (ll lx) := ⟨_, rfl⟩
  have hMl : M = lx.length := by rw [hM, K.nt_, X.ll_]
  have ln : A .len (EX lx) = M := by rw [X.len, hM]
  obtain ⟨M2, hM2⟩ : ∃ M : Int, M = nt (ll ly) := ⟨_, rfl⟩
  have hMl2 : M2 = ly.length := by rw [hM2, K.nt_, X.ll_]
  have ln2 : A .len (EX ly) = M2 := by rw [X.len, hM2]
  unfold evsq
  by_cases hlen : lx.length = ly.length
  · obtain rfl : M = M2 := by omega
    generalize hR : allB (fun a b => evq a.1 b.1) lx ly = R
    apply wpV_seq; refine wpV_ofH (by ((try (conv => lhs; cbv)); (exact rfl))) ?_
    apply wpV_seq; refine wpV_ofH (by ((try (conv => lhs; cbv)); (repeat ((first | (rewrite [ln]) | (rewrite [ln2]) | (rewrite [K.neF]; rotate_left; focus ((try simp only [K.df, D.df, X.df, V.df, true_and, and_true]) <;> omega))); (try (conv => lhs; cbv)))); (exact rfl))) ?_
    apply wpV_seq; apply wpV_seq; refine wpV_ofH (by ((try (conv => lhs; cbv)); (repeat ((first | (rewrite [ln])); (try (conv => lhs; cbv)))); (exact rfl))) ?_
    apply wpV_block
    refine wpV_loop lx.length (fun i st => ∃ J : Int, st = ⟨0, [u, .one (.iv (.sl t2 z2 (EX ly))), .one (.iv (.fn 85)), u, u, u, u, u, u, u, u, u, u, u, u, .one (.iv (.sl t z (EX lx))), i64 M, i64 J, u, u, u, u, u, u, u, u, u, u, u, u, u, u], []⟩ ∧ J = i ∧ allB (fun a b => evq a.1 b.1) (lx.drop i) (ly.drop i) = R) (by omega) (by ((try (conv => lhs; cbv)); (try (with_reducible rfl)))) ⟨0, rfl, rfl, hR⟩ ?_
    rintro i hi st ⟨J, rfl, hJ, hgo⟩
    by_cases him : i < lx.length
    · obtain rfl : z = 8 := by
        rcases hz with h | ⟨h, h2⟩
        · exact h
        · rw [h2] at him; simp at him
      obtain rfl : z2 = 8 := by
        rcases hz2 with h | ⟨h, h2⟩
        · exact h
        · rw [hlen, h2] at him; simp at him
      have g1 := X.get (l := lx) (J := J) (by omega)
      have g2 := X.get (l := ly) (J := J) (by omega)
      have e1 : ix lx J = lx.getD i zeroX := by rw [X.ix_, hJ]; rfl
      have e2 : ix ly J = ly.getD i zeroX := by rw [X.ix_, hJ]; rfl
      obtain ⟨q1, q2⟩ := h.get him
      obtain ⟨q3, _⟩ := h'.get (i := i) (by omega)
      rw [allB_step hlen him zeroX, ← e1, ← e2] at hgo
      rw [← e1] at q1 q2
      rw [← e2] at q3
      generalize ix lx J = x at *
      generalize ix ly J = y at *
      obtain ⟨e, b, zx⟩ := x
      obtain ⟨e', b', zy⟩ := y
      dsimp only at q1 q2 q3 hgo
      subst q1 q3
      have kk := k85 e e' b b' q2
      generalize evq e e' = q at *
      unfold exI at g1 g2
      dsimp only [evF] at kk g1 g2
      generalize eDs e.gone = gs at *
      generalize eDs e'.gone = gs' at *
      obtain ⟨⟨r, n⟩, tt, kd, doc, f, txt, gone⟩ := e
      obtain ⟨⟨r', n'⟩, tt', kd', doc', f', txt', gone'⟩ := e'
      dsimp only at kk g1 g2
      clear k85 h h'
      cases q with
      | true =>
        rw [Bool.true_and] at hgo
        refine wpV_ofH (by ((try (conv => lhs; cbv)); (repeat ((first | (rewrite [g1]) | (rewrite [g2]) | (rewrite [kk]) | (rewrite [K.add]; rotate_left; focus ((try simp only [K.df, D.df, X.df, V.df, true_and, and_true]) <;> omega)) | (rewrite [K.ltT]; rotate_left; focus ((try simp only [K.df, D.df, X.df, V.df, true_and, and_true]) <;> omega))); (try (conv => lhs; cbv)))); (exact rfl))) ?_
        refine headQ_ofH (by ((try (conv => lhs; cbv)); (exact rfl))) ?_
        refine ⟨him, _, rfl, ?_, hgo⟩
        rw [K.pl_]; omega
      | false =>
        rw [Bool.false_and] at hgo
        subst hgo
        refine wpV_ofH (by ((try (conv => lhs; cbv)); (repeat ((first | (rewrite [g1]) | (rewrite [g2]) | (rewrite [kk]) | (rewrite [K.ltT]; rotate_left; focus ((try simp only [K.df, D.df, X.df, V.df, true_and, and_true]) <;> omega))); (try (conv => lhs; cbv)))); (exact rfl))) ?_
        show finQ _ _ _ _ _
        (show finV _ _ _ = some _; ((try (conv => lhs; cbv)); (try (with_reducible rfl))); (try rfl))
    · obtain rfl : i = lx.length := by omega
      rw [List.drop_of_length_le (Nat.le_refl _), List.drop_of_length_le (by omega), allB] at hgo
      subst hgo
      clear k85 h h'
      refine wpV_ofH (by ((try (conv => lhs; cbv)); (repeat ((first | (rewrite [K.ltF]; rotate_left; focus ((try simp only [K.df, D.df, X.df, V.df, true_and, and_true]) <;> omega))); (try (conv => lhs; cbv)))); (exact rfl))) ?_
      show wpV _ _ _ _ _ _
      refine wpV_ofH (by ((try (conv => lhs; cbv)); (exact rfl))) ?_
      (show finV _ _ _ = some _; ((try (conv => lhs; cbv)); (try (with_reducible rfl))); (try rfl))
  · rw [allB_ne hlen]
    have hne : M ≠ M2 := by omega
    clear k85
    refine wpV_ofH (by ((try (conv => lhs; cbv)); (repeat ((first | (rewrite [ln]) | (rewrite [ln2]) | (rewrite [K.neT]; rotate_left; focus ((try simp only [K.df, D.df, X.df, V.df, true_and, and_true]) <;> omega))); (try (conv => lhs; cbv)))); (exact rfl))) ?_
    (show finV _ _ _ = some _; ((try (conv => lhs; cbv)); (try (with_reducible rfl))); (try rfl))
theorem n39g (lx ly : List EvX) (h : Held lx) (h' : Held ly) (t t2 : Bool) (z z2 : Nat) (hz : z = 8 ∨ z = 0 ∧ lx = []) (hz2 : z2 = 8 ∨ z2 = 0 ∧ ly = []) :
    Pn 4003 39 [.one (.iv (.sl t z (exs lx))), .one (.iv (.sl t2 z2 (exs ly)))] [] (bl (evsq lx ly)) [] := by
  refine playN 4002 rfl rfl fun A call hA hcall => ?_
  have k1 := n84g lx ly h h' t t2 z z2 hz hz2 4002 (by omega)
  rw [← hcall] at k1
  generalize evsq lx ly = q at *
  generalize exs lx = x at *
  generalize exs ly = y at *
  refine wpV_of (by ((conv => lhs; cbv); (repeat ((first | rewrite [k1]); (try (conv => lhs; cbv)))); (try (with_reducible rfl)))) ?_
  (show finV _ _ _ = some _; ((conv => lhs; cbv); (try (with_reducible rfl))); (try rfl))
theorem n41g (lx ly : List EvX) (h : Held lx) (h' : Held ly) (t t2 : Bool) (z z2 : Nat) (hz : z = 8 ∨ z = 0 ∧ lx = []) (hz2 : z2 = 8 ∨ z2 = 0 ∧ ly = []) :
    Pn 4003 41 [.one (.iv (.sl t z (exs lx))), .one (.iv (.sl t2 z2 (exs ly)))] [] (bl (evsq lx ly)) [] := by
  refine playN 4002 rfl rfl fun A call hA hcall => ?_
  obtain ⟨pl, mi, ml, nt, tn, ad, sb, K⟩ := kit hA
  obtain ⟨E, ixd, snd, lld, ccd, sgd, D⟩ := lkit hA K ((0, 0) : Int × Int) (fun p => [.int .i64 p.1, .int .i64 p.2]) 16
  obtain ⟨EX, ix, sn, ll, cc, sg, X⟩ := lkit hA K zeroX exI 96
  obtain ⟨W, gx, st', V⟩ := rkit hA
  have h2 := h.l
  have hEX : ∀ l, exs l = EX l := fun l => by rw [X.E_]; rfl
  have hE : ∀ l, eDs l = E l := fun l => by rw [D.E_]; rfl
  rw [hEX, hEX]
  obtain ⟨M, hM⟩ : ∃ M : Int, M = nt (ll lx) := ⟨_, rfl⟩
  have hMl : M = lx.length := by rw [hM, K.nt_, X.ll_]
  have ln : A .len (EX lx) = M := by rw [X.len, hM]
  obtain ⟨M2, hM2⟩ : ∃ M : Int, M = nt (ll ly) := ⟨_, rfl⟩
  have hMl2 : M2 = ly.length := by rw [hM2, K.nt_, X.ll_]
  have ln2 : A .len (EX ly) = M2 := by rw [X.len, hM2]
  unfold evsq
  by_cases hlen : lx.length = ly.length
  · obtain rfl : M = M2 := by omega
    generalize hR : allB (fun a b => evq a.1 b.1) lx ly = R
    apply wpV_seq; refine wpV_ofH (by ((try (conv => lhs; cbv)); (exact rfl))) ?_
    apply wpV_seq; refine wpV_ofH (by ((try (conv => lhs; cbv)); (repeat ((first | (rewrite [ln]) | (rewrite [ln2]) | (rewrite [K.neF]; rotate_left; focus ((try simp only [K.df, D.df, X.df, V.df, true_and, and_true]) <;> omega))); (try (conv => lhs; cbv)))); (exact rfl))) ?_
    apply wpV_seq; apply wpV_seq; refine wpV_ofH (by ((try (conv => lhs; cbv)); (repeat ((first | (rewrite [ln])); (try (conv => lhs; cbv)))); (exact rfl))) ?_
    apply wpV_block
    refine wpV_loop lx.length (fun i st => ∃ J : Int, st = ⟨0, (u :: .one (.iv (.sl t2 z2 (EX ly))) :: u :: u :: u :: u :: u :: u :: u :: u :: u :: u :: u :: u :: u :: .one (.iv (.sl t z (EX lx))) :: i64 M :: i64 J :: u :: u :: u :: u :: u :: u :: u :: u :: u :: u :: u :: u :: u :: u :: u :: u :: u :: u :: u :: u :: u :: u :: u :: u :: u :: u :: u :: u :: u :: u :: u :: u :: u :: u :: u :: u :: u :: u :: u :: u :: u :: u :: u :: u :: u :: u :: u :: u :: u :: u :: u :: u :: u :: u :: u :: u :: u :: u :: u :: u :: u :: u :: u :: u :: u :: u :: u :: u :: u :: u :: u :: u :: u :: u :: []), []⟩ ∧ J = i ∧ allB (fun a b => evq a.1 b.1) (lx.drop i) (ly.drop i) = R) (by omega) (by ((try (conv => lhs; cbv)); (try (with_reducible rfl)))) ⟨0, rfl, rfl, hR⟩ ?_
    rintro i hi st ⟨J, rfl, hJ, hgo⟩
    by_cases him : i < lx.length
    · obtain rfl : z = 8 := by
        rcases hz with h | ⟨h, h2⟩
        · exact h
        · rw [h2] at him; simp at him
      obtain rfl : z2 = 8 := by
        rcases hz2 with h | ⟨h, h2⟩
        · exact h
        · rw [hlen, h2] at him; simp at him
      have g1 := X.get (l := lx) (J := J) (by omega)
      have g2 := X.get (l := ly) (J := J) (by omega)
      have e1 : ix lx J = lx.getD i zeroX := by rw [X.ix_, hJ]; rfl
      have e2 : ix ly J = ly.getD i zeroX := by rw [X.ix_, hJ]; rfl
      obtain ⟨q1, q2⟩ := h.get him
      obtain ⟨q3, _⟩ := h'.get (i := i) (by omega)
      rw [allB_step hlen him zeroX, ← e1, ← e2] at hgo
      rw [← e1] at q1 q2
      rw [← e2] at q3
      generalize ix lx J = x at *
      generalize ix ly J = y at *
      obtain ⟨e, b, zx⟩ := x
      obtain ⟨e', b', zy⟩ := y
      dsimp only at q1 q2 q3 hgo
      subst q1 q3
      unfold exI at g1 g2
      obtain ⟨⟨r, n⟩, tt, kd, doc, f, txt, gone⟩ := e
      obtain ⟨⟨r', n'⟩, tt', kd', doc', f', txt', gone'⟩ := e'
      dsimp only at g1 g2 q2
      have eq := eqvD hA r n r' n'
      (conv at eq => lhs; arg 2; cbv)
      have c1 := cmpNe K tt tt'
      have c2 := cmpNe K kd kd'
      have c3 := scmpN hA doc doc'
      have c4 := cmpNe K f f'
      have c5 := scmpN hA txt txt'
      generalize hrest : allB (fun a b => evq a.1 b.1) (lx.drop (i + 1)) (ly.drop (i + 1)) = rest at hgo
      unfold evq at hgo
      dsimp only at hgo
      rw [hE] at g1 g2
      obtain ⟨G, hG⟩ : ∃ G : Int, G = nt (lld gone) := ⟨_, rfl⟩
      have hGl : G = gone.length := by rw [hG, K.nt_, D.ll_]
      have lg : A .len (E gone) = G := by rw [D.len, hG]
      obtain ⟨G2, hG2⟩ : ∃ G : Int, G = nt (lld gone') := ⟨_, rfl⟩
      have hGl2 : G2 = gone'.length := by rw [hG2, K.nt_, D.ll_]
      have lg2 : A .len (E gone') = G2 := by rw [D.len, hG2]
      generalize decide ((r, n) = (r', n')) = q0 at *
      generalize decide (tt = tt') = q1 at *
      generalize decide (kd = kd') = q2 at *
      generalize (doc.toList == doc'.toList) = q3 at *
      generalize decide (f = f') = q4 at *
      generalize (txt.toList == txt'.toList) = q5 at *
      clear h h'
      cases q0
      · simp only [Bool.false_and] at hgo; subst hgo
        refine wpV_ofH (by ((try (conv => lhs; cbv)); (repeat ((first | (rewrite [g1]) | (rewrite [g2]) | (rewrite [eq]) | (rewrite [K.ltT]; rotate_left; focus ((try simp only [K.df, D.df, X.df, V.df, true_and, and_true]) <;> omega))); (try (conv => lhs; cbv)))); (exact rfl))) ?_; show finQ _ _ _ _ _; (show finV _ _ _ = some _; ((try (conv => lhs; cbv)); (try (with_reducible rfl))); (try rfl))
      cases q1
      · simp only [Bool.false_and, Bool.true_and] at hgo; subst hgo
        refine wpV_ofH (by ((try (conv => lhs; cbv)); (repeat ((first | (rewrite [g1]) | (rewrite [g2]) | (rewrite [eq]) | (rewrite [c1]) | (rewrite [K.ltT]; rotate_left; focus ((try simp only [K.df, D.df, X.df, V.df, true_and, and_true]) <;> omega))); (try (conv => lhs; cbv)))); (exact rfl))) ?_; show finQ _ _ _ _ _; (show finV _ _ _ = some _; ((try (conv => lhs; cbv)); (try (with_reducible rfl))); (try rfl))
      cases q2
      · simp only [Bool.false_and, Bool.true_and] at hgo; subst hgo
        refine wpV_ofH (by ((try (conv => lhs; cbv)); (repeat ((first | (rewrite [g1]) | (rewrite [g2]) | (rewrite [eq]) | (rewrite [c1]) | (rewrite [c2]) | (rewrite [K.ltT]; rotate_left; focus ((try simp only [K.df, D.df, X.df, V.df, true_and, and_true]) <;> omega))); (try (conv => lhs; cbv)))); (exact rfl))) ?_; show finQ _ _ _ _ _; (show finV _ _ _ = some _; ((try (conv => lhs; cbv)); (try (with_reducible rfl))); (try rfl))
      cases q3
      · simp only [Bool.false_and, Bool.true_and] at hgo; subst hgo
        refine wpV_ofH (by ((try (conv => lhs; cbv)); (repeat ((first | (rewrite [g1]) | (rewrite [g2]) | (rewrite [eq]) | (rewrite [c1]) | (rewrite [c2]) | (rewrite [c3]) | (rewrite [K.ltT]; rotate_left; focus ((try simp only [K.df, D.df, X.df, V.df, true_and, and_true]) <;> omega))); (try (conv => lhs; cbv)))); (exact rfl))) ?_; show finQ _ _ _ _ _; (show finV _ _ _ = some _; ((try (conv => lhs; cbv)); (try (with_reducible rfl))); (try rfl))
      cases q4
      · simp only [Bool.false_and, Bool.true_and] at hgo; subst hgo
        refine wpV_ofH (by ((try (conv => lhs; cbv)); (repeat ((first | (rewrite [g1]) | (rewrite [g2]) | (rewrite [eq]) | (rewrite [c1]) | (rewrite [c2]) | (rewrite [c3]) | (rewrite [c4]) | (rewrite [K.ltT]; rotate_left; focus ((try simp only [K.df, D.df, X.df, V.df, true_and, and_true]) <;> omega))); (try (conv => lhs; cbv)))); (exact rfl))) ?_; show finQ _ _ _ _ _; (show finV _ _ _ = some _; ((try (conv => lhs; cbv)); (try (with_reducible rfl))); (try rfl))
      cases q5
      · simp only [Bool.false_and, Bool.true_and] at hgo; subst hgo
        refine wpV_ofH (by ((try (conv => lhs; cbv)); (repeat ((first | (rewrite [g1]) | (rewrite [g2]) | (rewrite [eq]) | (rewrite [c1]) | (rewrite [c2]) | (rewrite [c3]) | (rewrite [c4]) | (rewrite [c5]) | (rewrite [K.ltT]; rotate_left; focus ((try simp only [K.df, D.df, X.df, V.df, true_and, and_true]) <;> omega))); (try (conv => lhs; cbv)))); (exact rfl))) ?_; show finQ _ _ _ _ _; (show finV _ _ _ = some _; ((try (conv => lhs; cbv)); (try (with_reducible rfl))); (try rfl))
      simp only [Bool.true_and] at hgo
      by_cases hgl : gone.length = gone'.length
      · obtain rfl : G = G2 := by omega
        generalize hR2 : allB dq gone gone' = R2 at *
        apply wpV_seq; refine wpV_ofH (by ((try (conv => lhs; cbv)); (repeat ((first | (rewrite [K.ltT]; rotate_left; focus ((try simp only [K.df, D.df, X.df, V.df, true_and, and_true]) <;> omega))); (try (conv => lhs; cbv)))); (exact rfl))) ?_
        apply wpV_seq; refine wpV_ofH (by ((try (conv => lhs; cbv)); (exact rfl))) ?_
        apply wpV_seq
        apply wpV_block
        apply wpV_seq; refine wpV_ofH (by ((try (conv => lhs; cbv)); (repeat ((first | (rewrite [g1])); (try (conv => lhs; cbv)))); (exact rfl))) ?_
        apply wpV_seq; refine wpV_ofH (by ((try (conv => lhs; cbv)); (repeat ((first | (rewrite [g2])); (try (conv => lhs; cbv)))); (exact rfl))) ?_
        apply wpV_seq; refine wpV_ofH (by ((try (conv => lhs; cbv)); (repeat ((first | (rewrite [eq]) | (rewrite [c1]) | (rewrite [c2]) | (rewrite [c3]) | (rewrite [c4]) | (rewrite [c5]) | (rewrite [lg]) | (rewrite [lg2]) | (rewrite [K.neF]; rotate_left; focus ((try simp only [K.df, D.df, X.df, V.df, true_and, and_true]) <;> omega))); (try (conv => lhs; cbv)))); (exact rfl))) ?_
        apply wpV_seq; refine wpV_ofH (by ((try (conv => lhs; cbv)); (repeat ((first | (rewrite [lg])); (try (conv => lhs; cbv)))); (exact rfl))) ?_
        apply wpV_block
        refine wpV_loop gone.length (fun k st => ∃ I : Int, st = ⟨0, (u :: .one (.iv (.sl t2 8 (EX ly))) :: u :: u :: u :: u :: u :: .one (.ptr 0 0) :: u :: u :: u :: u :: u :: u :: u :: .one (.iv (.sl t 8 (EX lx))) :: i64 M :: i64 J :: u :: u :: u :: u :: u :: u :: u :: u :: u :: u :: u :: u :: u :: u :: u :: u :: u :: u :: u :: u :: u :: u :: u :: u :: u :: u :: u :: u :: u :: u :: u :: u :: u :: u :: u :: u :: u :: u :: u :: u :: u :: u :: u :: u :: u :: u :: u :: u :: u :: u :: u :: u :: u :: u :: u :: u :: u :: u :: .one (.iv (.sl b 2 (E gone))) :: i64 G :: i64 I :: u :: u :: u :: u :: u :: u :: u :: u :: u :: u :: u :: u :: u :: []), [.var false [.iv (.int .i64 r'), .iv (.int .i64 n'), .iv (.int .i64 tt'), .iv (.int .i64 kd'), .iv (.str doc'), .iv (.int .i64 f'), .iv (.str txt'), .iv (.sl b' 2 (E gone'))]]⟩ ∧ I = k ∧ allB dq (gone.drop k) (gone'.drop k) = R2) (by omega) (by ((try (conv => lhs; cbv)); (try (with_reducible rfl)))) ⟨0, rfl, rfl, hR2⟩ ?_
        rintro k hk st ⟨I, rfl, hI, hg2⟩
        by_cases hkm : k < gone.length
        · have w1 := D.get (l := gone) (J := I) (by omega)
          have w2 := D.get (l := gone') (J := I) (by omega)
          have d1 : ixd gone I = gone.getD k (0, 0) := by rw [D.ix_, hI]; rfl
          have d2 : ixd gone' I = gone'.getD k (0, 0) := by rw [D.ix_, hI]; rfl
          rw [allB_step hgl hkm (0, 0), ← d1, ← d2] at hg2
          generalize ixd gone I = d at *
          generalize ixd gone' I = d' at *
          obtain ⟨r1, n1⟩ := d
          obtain ⟨r2, n2⟩ := d'
          have eq2 := eqvD hA r2 n2 r1 n1
          (conv at eq2 => lhs; arg 2; cbv)
          unfold dq at hg2
          rw [show decide ((r1, n1) = (r2, n2)) = decide ((r2, n2) = (r1, n1)) from by simp only [eq_comm]] at hg2
          generalize decide ((r2, n2) = (r1, n1)) = q at *
          dsimp only at w1 w2
          cases q with
          | true =>
            rw [Bool.true_and] at hg2
            refine wpV_ofH (by ((try (conv => lhs; cbv)); (repeat ((first | (rewrite [w1]) | (rewrite [w2]) | (rewrite [eq2]) | (rewrite [K.add]; rotate_left; focus ((try simp only [K.df, D.df, X.df, V.df, true_and, and_true]) <;> omega)) | (rewrite [K.ltT]; rotate_left; focus ((try simp only [K.df, D.df, X.df, V.df, true_and, and_true]) <;> omega))); (try (conv => lhs; cbv)))); (exact rfl))) ?_
            refine headQ_ofH (by ((try (conv => lhs; cbv)); (exact rfl))) ?_
            refine ⟨hkm, _, rfl, ?_, hg2⟩
            rw [K.pl_]; omega
          | false =>
            rw [Bool.false_and] at hg2
            subst hg2
            rw [Bool.false_and] at hgo
            subst hgo
            refine wpV_ofH (by ((try (conv => lhs; cbv)); (repeat ((first | (rewrite [w1]) | (rewrite [w2]) | (rewrite [eq2]) | (rewrite [K.ltT]; rotate_left; focus ((try simp only [K.df, D.df, X.df, V.df, true_and, and_true]) <;> omega))); (try (conv => lhs; cbv)))); (exact rfl))) ?_
            show finQ _ _ _ _ _
            (show finV _ _ _ = some _; ((try (conv => lhs; cbv)); (try (with_reducible rfl))); (try rfl))
        · obtain rfl : k = gone.length := by omega
          rw [List.drop_of_length_le (Nat.le_refl _), List.drop_of_length_le (by omega), allB] at hg2
          subst hg2
          rw [Bool.true_and] at hgo
          refine wpV_ofH (by ((try (conv => lhs; cbv)); (repeat ((first | (rewrite [K.ltF]; rotate_left; focus ((try simp only [K.df, D.df, X.df, V.df, true_and, and_true]) <;> omega))); (try (conv => lhs; cbv)))); (exact rfl))) ?_
          show wpV _ _ _ _ _ _
          refine wpV_ofH (by ((try (conv => lhs; cbv)); (repeat ((first | (rewrite [K.add]; rotate_left; focus ((try simp only [K.df, D.df, X.df, V.df, true_and, and_true]) <;> omega))); (try (conv => lhs; cbv)))); (exact rfl))) ?_
          refine headQ_ofH (by ((try (conv => lhs; cbv)); (exact rfl))) ?_
          refine ⟨him, _, rfl, ?_, hgo⟩
          rw [K.pl_]; omega
      · rw [allB_ne hgl, Bool.false_and] at hgo
        subst hgo
        have hne : G ≠ G2 := by omega
        refine wpV_ofH (by ((try (conv => lhs; cbv)); (repeat ((first | (rewrite [g1]) | (rewrite [g2]) | (rewrite [eq]) | (rewrite [c1]) | (rewrite [c2]) | (rewrite [c3]) | (rewrite [c4]) | (rewrite [c5]) | (rewrite [lg]) | (rewrite [lg2]) | (rewrite [K.ltT]; rotate_left; focus ((try simp only [K.df, D.df, X.df, V.df, true_and, and_true]) <;> omega)) | (rewrite [K.neT]; rotate_left; focus ((try simp only [K.df, D.df, X.df, V.df, true_and, and_true]) <;> omega))); (try (conv => lhs; cbv)))); (exact rfl))) ?_; show finQ _ _ _ _ _; (show finV _ _ _ = some _; ((try (conv => lhs; cbv)); (try (with_reducible rfl))); (try rfl))
    · obtain rfl : i = lx.length := by omega
      rw [List.drop_of_length_le (Nat.le_refl _), List.drop_of_length_le (by omega), allB] at hgo
      subst hgo
      clear h h'
      refine wpV_ofH (by ((try (conv => lhs; cbv)); (repeat ((first | (rewrite [K.ltF]; rotate_left; focus ((try simp only [K.df, D.df, X.df, V.df, true_and, and_true]) <;> omega))); (try (conv => lhs; cbv)))); (exact rfl))) ?_
      show wpV _ _ _ _ _ _
      refine wpV_ofH (by ((try (conv => lhs; cbv)); (exact rfl))) ?_
      (show finV _ _ _ = some _; ((try (conv => lhs; cbv)); (try (with_reducible rfl))); (try rfl))
  · rw [allB_ne hlen]
    have hne : M ≠ M2 := by omega
    refine wpV_ofH (by ((try (conv => lhs; cbv)); (repeat ((first | (rewrite [ln]) | (rewrite [ln2]) | (rewrite [K.neT]; rotate_left; focus ((try simp only [K.df, D.df, X.df, V.df, true_and, and_true]) <;> omega))); (try (conv => lhs; cbv)))); (exact rfl))) ?_
    (show finV _ _ _ = some _; ((try (conv => lhs; cbv)); (try (with_reducible rfl))); (try rfl))
end Go.Proofs.Ytlljgefgbglmbaa
