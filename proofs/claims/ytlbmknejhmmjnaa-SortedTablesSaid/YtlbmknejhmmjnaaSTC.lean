/- Tables by texts: the reference's rows behind a change; lists of texts: gone through. -/
import Derived.Test.YtlbmknejhmmjnaaSTB
set_option linter.unusedSimpArgs false
set_option linter.unusedVariables false
set_option maxRecDepth 100000
set_option maxHeartbeats 1000000
set_option cbv.maxSteps 10000000
namespace Go.Proofs.Ytlbmknejhmmjnaa
open Go GoV

theorem eRs_len (l : List Rw) : (eRs l).length = l.length := by simp [eRs]
theorem eRs_app (l m : List Rw) : eRs (l ++ m) = eRs l ++ eRs m := by simp [eRs]
theorem subR1 {A : Ar} (hA : A = real) (l : List Rw) {n : Nat} (hn : n ≤ l.length) : A .sub (eRs l) none (some (n : Int)) = some (eRs (l.take n)) := by
  rw [hA, real_sub]; unfold rSub rCut rBound
  rw [eRs_len]
  have h : (0 : Int) ≤ (n : Int) ∧ (n : Int) ≤ (l.length : Int) := by omega
  simp [h, eRs, List.map_take]
theorem subR2 {A : Ar} (hA : A = real) (l : List Rw) {n : Nat} (hn : n ≤ l.length) : A .sub (eRs l) (some (n : Int)) none = some (eRs (l.drop n)) := by
  rw [hA, real_sub]; unfold rSub rCut rBound
  rw [eRs_len]
  have h : (0 : Int) ≤ (n : Int) ∧ (n : Int) ≤ (l.length : Int) := by omega
  simp [h, hn, eRs, List.map_drop]
  rw [List.take_of_length_le (by simp)]
theorem apoR {A : Ar} (hA : A = real) (es ys : List (List IV)) (h : es.length + ys.length ≤ 100000) : A .apo 24 0 es.length es ys = some (true, es ++ ys) := by
  rw [hA, real_apo]; unfold rApo room
  rw [if_pos (by omega), if_pos ⟨by omega, .inl rfl⟩, List.drop_zero]
theorem Spl.lens {l a m b : List Rw} {k : ByteArray} (s : Spl l k a m b) : l.length = a.length + m.length + b.length ∧ m.length ≤ 1 := by
  refine ⟨by rw [s.eq]; simp only [List.length_append], ?_⟩
  rcases s.mid with h | ⟨v, h⟩ <;> rw [h] <;> simp
theorem q27 {l a m b : List Rw} {k : ByteArray} (s : Spl l k a m b) (hl : l.length ≤ 900) (t : Bool) (v : Int) :
    Qn 1100 27 [.one (.iv (.sl t 2 (eRs l))), .one (.iv (.str k)), i64 v] [] (.one (.slo 0 0 (a ++ [(k, v)] ++ b).length)) [.arr false false 2 (eRs (a ++ [(k, v)] ++ b))] := by
  refine playQ 1099 rfl rfl fun A call hA hcall => ?_
  obtain ⟨pl, mi, ml, nt, tn, ad, sb, K⟩ := kit hA
  obtain ⟨E, ix, sn, ll, cc, sg, D⟩ := lkit hA K z0 (fun p => [.str p.1, .int .i64 p.2]) 24
  have k24 := q24 s hl t 1099 (by omega)
  rw [← hcall] at k24
  obtain ⟨hll, hml⟩ := s.lens
  have ht : l.take a.length = a := by rw [s.eq, List.append_assoc, List.take_left' rfl]
  have hd : l.drop (a.length + m.length) = b := by rw [s.eq, List.drop_left' (by simp)]
  have f1 := subR1 hA l (n := a.length) (by omega)
  have f2 := subR2 hA l (n := a.length + m.length) (by omega)
  rw [ht] at f1
  rw [hd] at f2
  have a1 := apoR hA [] (eRs a) (by rw [eRs_len, List.length_nil]; omega)
  rw [List.nil_append, List.length_nil] at a1
  have a2 := apoR hA (eRs a) (eRs [(k, v)]) (by rw [eRs_len, eRs_len, List.length_singleton]; omega)
  rw [← eRs_app, eRs_len] at a2
  have a3 := apoR hA (eRs (a ++ [(k, v)])) (eRs b) (by rw [eRs_len, eRs_len, List.length_append, List.length_singleton]; omega)
  rw [← eRs_app, eRs_len, List.length_append, List.length_singleton] at a3
  have n1 : A .ln (eRs a) = a.length := by rw [hA, real_ln, eRs_len]
  have n4 : A .ln (eRs (a ++ [(k, v)])) = a.length + 1 := by rw [hA, real_ln, eRs_len, List.length_append]; rfl
  have pl2 : (a ++ [(k, v)] ++ b).length = a.length + 1 + b.length := by simp only [List.length_append, List.length_singleton]
  have n5 : A .ln (eRs (a ++ [(k, v)] ++ b)) = a.length + 1 + b.length := by rw [hA, real_ln, eRs_len, pl2]
  have hx : eRs [(k, v)] = [[.str k, .int .i64 v]] := rfl
  rw [hx] at a2
  rw [pl2]
  obtain ⟨T0, hT0⟩ : ∃ T : Int, T = (a.length : Nat) := ⟨_, rfl⟩
  rw [← hT0] at f1 k24
  have hme : m.isEmpty = decide (m.length = 0) := by cases m <;> simp
  generalize hn9 : a.length + 1 + b.length = n9 at *
  generalize hn8 : a.length + 1 = n8 at *
  generalize eRs (a ++ [(k, v)] ++ b) = e9 at *
  generalize eRs (a ++ [(k, v)]) = e2 at *
  generalize eRs a = e1 at *
  generalize eRs b = e4 at *
  generalize hle : eRs l = le at *
  generalize a.length = an at *
  by_cases hm : m.length = 0
  · rw [hme, decide_eq_true hm] at k24
    rw [hm, Nat.add_zero, ← hT0] at f2
    apply wpV_seq; refine wpV_ofH (by ((try (conv => lhs; cbv)); (exact rfl))) ?_
    apply wpV_seq; refine wpV_ofH (by ((try (conv => lhs; cbv)); (repeat ((first | (rewrite [k24])); (try (conv => lhs; cbv)))); (exact rfl))) ?_
    apply wpV_seq; refine wpV_ofH (by ((try (conv => lhs; cbv)); (exact rfl))) ?_
    apply wpV_seq; refine wpV_ofH (by ((try (conv => lhs; cbv)); (repeat ((first | (rewrite [f1]) | (rewrite [a1]) | (rewrite [n1])); (try (conv => lhs; cbv)))); (exact rfl))) ?_
    apply wpV_seq; refine wpV_ofH (by ((try (conv => lhs; cbv)); (repeat ((first | (rewrite [a2]) | (rewrite [n4])); (try (conv => lhs; cbv)))); (exact rfl))) ?_
    refine wpV_ofH (by ((try (conv => lhs; cbv)); (repeat ((first | (rewrite [f2]) | (rewrite [a3]) | (rewrite [n5])); (try (conv => lhs; cbv)))); (exact rfl))) ?_
    (show finV _ _ _ = some _; ((try (conv => lhs; cbv)); (try (with_reducible rfl))); (try rfl))
  · have hm1 : m.length = 1 := by omega
    rw [hme, decide_eq_false hm] at k24
    have f2' : A .sub le (some (pl T0 1)) none = some e4 := by
      rw [K.pl_, hT0, ← f2, hm1]; rfl
    apply wpV_seq; refine wpV_ofH (by ((try (conv => lhs; cbv)); (exact rfl))) ?_
    apply wpV_seq; refine wpV_ofH (by ((try (conv => lhs; cbv)); (repeat ((first | (rewrite [k24])); (try (conv => lhs; cbv)))); (exact rfl))) ?_
    apply wpV_seq; refine wpV_ofH (by ((try (conv => lhs; cbv)); (exact rfl))) ?_
    apply wpV_seq; refine wpV_ofH (by ((try (conv => lhs; cbv)); (repeat ((first | (rewrite [f1]) | (rewrite [a1]) | (rewrite [n1])); (try (conv => lhs; cbv)))); (exact rfl))) ?_
    apply wpV_seq; refine wpV_ofH (by ((try (conv => lhs; cbv)); (repeat ((first | (rewrite [a2]) | (rewrite [n4])); (try (conv => lhs; cbv)))); (exact rfl))) ?_
    refine wpV_ofH (by ((try (conv => lhs; cbv)); (repeat ((first | (rewrite [f2']) | (rewrite [a3]) | (rewrite [n5]) | (rewrite [K.add]; rotate_left; focus ((try simp only [K.df, D.df, true_and, and_true]) <;> omega))); (try (conv => lhs; cbv)))); (exact rfl))) ?_
    (show finV _ _ _ = some _; ((try (conv => lhs; cbv)); (try (with_reducible rfl))); (try rfl))
theorem Spl.filter {l a m b : List Rw} {k : ByteArray} (s : Spl l k a m b) : l.filter (fun x => !decide (x.1 = k)) = a ++ b := by
  rw [s.eq, List.filter_append, List.filter_append]
  have h1 : a.filter (fun x => !decide (x.1 = k)) = a := List.filter_eq_self.2 fun x hx => by rw [decide_eq_false (ltS_ne (s.lo x hx))]; rfl
  have h2 : b.filter (fun x => !decide (x.1 = k)) = b := List.filter_eq_self.2 fun x hx => by rw [decide_eq_false (fun e => ltS_ne (s.hi x hx) e.symm)]; rfl
  have h3 : m.filter (fun x => !decide (x.1 = k)) = [] := by rcases s.mid with h | ⟨v, h⟩ <;> rw [h] <;> simp
  rw [h1, h2, h3, List.append_nil]
theorem q30 {l a m b : List Rw} {k : ByteArray} (s : Spl l k a m b) (hl : l.length ≤ 900) (t : Bool) :
    Qn 1000 30 [.one (.iv (.sl t 2 (eRs l))), .one (.iv (.str k))] [] (.one (.slo 0 0 (a ++ b).length)) [.arr false false 2 (eRs (a ++ b))] := by
  refine playQ 999 rfl rfl fun A call hA hcall => ?_
  obtain ⟨pl, mi, ml, nt, tn, ad, sb, K⟩ := kit hA
  obtain ⟨E, ix, sn, ll, cc, sg, D⟩ := lkit hA K z0 (fun p => [.str p.1, .int .i64 p.2]) 24
  have hE : ∀ l, eRs l = E l := fun l => by rw [D.E_]; rfl
  have hE0 : E [] = [] := by rw [D.E_]; rfl
  rw [← s.filter]
  rw [hE, hE]
  obtain ⟨M, hM⟩ : ∃ M : Int, M = nt (ll l) := ⟨_, rfl⟩
  have hMl : M = l.length := by rw [hM, K.nt_, D.ll_]
  have ln : A .len (E l) = M := by rw [D.len, hM]
  apply wpV_seq; refine wpV_ofH (by ((try (conv => lhs; cbv)); (exact rfl))) ?_
  apply wpV_seq; refine wpV_ofH (by ((try (conv => lhs; cbv)); (exact rfl))) ?_
  apply wpV_seq; apply wpV_seq; refine wpV_ofH (by ((try (conv => lhs; cbv)); (repeat ((first | (rewrite [ln])); (try (conv => lhs; cbv)))); (exact rfl))) ?_
  apply wpV_block
  refine wpV_loop l.length (fun i st => ∃ (J : Int) (c : Nat) (m' : List Rw), st = ⟨0, [u, .one (.iv (.str k)), u, u, u, .one (.slo 0 0 c), u, u, .one (.iv (.sl t 2 (E l))), i64 M, i64 J, u, u, u, u, u, u, u, u, u, u, u, u, u], [.arr false false 2 (E m')]⟩ ∧ J = i ∧ m' = (l.take i).filter (fun x => !decide (x.1 = k)) ∧ c = m'.length) (by omega) (by ((try (conv => lhs; cbv)); (try (with_reducible rfl)))) ⟨0, 0, [], by rw [hE0], rfl, by simp, rfl⟩ ?_
  rintro i hi st ⟨J, c, m', rfl, hJ, hm, hc⟩
  have hml : m'.length ≤ i := by rw [hm]; exact Nat.le_trans (List.length_filter_le _ _) (by rw [List.length_take]; omega)
  by_cases him : i < l.length
  · have g := D.get (l := l) (J := J) (by omega)
    have hx : ix l J = l.getD i z0 := by rw [D.ix_, hJ]; rfl
    have hk2 : (l.take (i + 1)).filter (fun x => !decide (x.1 = k)) = m' ++ (if (l.getD i z0).1 = k then [] else [l.getD i z0]) := by
      rw [List.take_succ_eq_append_getElem him, List.getD_eq_getElem?_getD, List.getElem?_eq_getElem him, List.filter_append, ← hm]
      by_cases h : (l[i]).1 = k <;> simp [h]
    rw [← hx] at hk2
    generalize ix l J = x at *
    obtain ⟨y, v⟩ := x
    have ap := D.apo (l := m') (x := (y, v)) (b := 24) (n := c) ⟨hc, by omega⟩
    dsimp only at g ap hk2
    have s1 := sc_ne hA y k
    by_cases h : y = k
    · rw [decide_eq_true h] at s1
      rw [if_pos h, List.append_nil] at hk2
      refine wpV_ofH (by ((try (conv => lhs; cbv)); (repeat ((first | (rewrite [g]) | (rewrite [s1]) | (rewrite [K.add]; rotate_left; focus ((try simp only [K.df, D.df, true_and, and_true]) <;> omega)) | (rewrite [K.ltT]; rotate_left; focus ((try simp only [K.df, D.df, true_and, and_true]) <;> omega))); (try (conv => lhs; cbv)))); (exact rfl))) ?_
      refine headQ_ofH (by ((try (conv => lhs; cbv)); (exact rfl))) ?_
      refine ⟨him, _, _, m', rfl, ?_, hk2.symm, hc⟩
      rw [K.pl_]; omega
    · rw [decide_eq_false h] at s1
      rw [if_neg h] at hk2
      refine wpV_ofH (by ((try (conv => lhs; cbv)); (repeat ((first | (rewrite [g]) | (rewrite [s1]) | (rewrite [ap]) | (rewrite [K.add]; rotate_left; focus ((try simp only [K.df, D.df, true_and, and_true]) <;> omega)) | (rewrite [D.ln]) | (rewrite [K.ltT]; rotate_left; focus ((try simp only [K.df, D.df, true_and, and_true]) <;> omega))); (try (conv => lhs; cbv)))); (exact rfl))) ?_
      refine headQ_ofH (by ((try (conv => lhs; cbv)); (exact rfl))) ?_
      refine ⟨him, _, _, _, rfl, ?_, ?_, ?_⟩
      · rw [K.pl_]; omega
      · rw [hk2, D.sn_]
      · rw [D.ll_]
  · obtain rfl : i = l.length := by omega
    rw [List.take_of_length_le (Nat.le_refl _)] at hm
    subst hm
    rw [← hc]
    refine wpV_ofH (by ((try (conv => lhs; cbv)); (repeat ((first | (rewrite [K.ltF]; rotate_left; focus ((try simp only [K.df, D.df, true_and, and_true]) <;> omega))); (try (conv => lhs; cbv)))); (exact rfl))) ?_
    show wpV _ _ _ _ _ _
    refine wpV_ofH (by ((try (conv => lhs; cbv)); (exact rfl))) ?_
    (show finV _ _ _ = some _; ((try (conv => lhs; cbv)); (try (with_reducible rfl))); (try rfl))
/-! ### Lists of texts -/
def eSs (l : List ByteArray) : List (List IV) := l.map fun s => [.str s]
theorem q32 (l : List ByteArray) (t t2 : Bool) (hl : l.length ≤ 900) : Qn 1000 32 [.one (.iv (.sl t 1 (eSs l))), .one (.iv (.sl t2 1 (eSs l)))] [] (bl true) [] := by
  refine playQ 999 rfl rfl fun A call hA hcall => ?_
  obtain ⟨pl, mi, ml, nt, tn, ad, sb, K⟩ := kit hA
  obtain ⟨E, ix, sn, ll, cc, sg, D⟩ := lkit hA K (⟨#[]⟩ : ByteArray) (fun s => [.str s]) 16
  have hE : ∀ l, eSs l = E l := fun l => by rw [D.E_]; rfl
  rw [hE]
  obtain ⟨M, hM⟩ : ∃ M : Int, M = nt (ll l) := ⟨_, rfl⟩
  have hMl : M = l.length := by rw [hM, K.nt_, D.ll_]
  have ln : A .len (E l) = M := by rw [D.len, hM]
  apply wpV_seq; refine wpV_ofH (by ((try (conv => lhs; cbv)); (exact rfl))) ?_
  apply wpV_seq; apply wpV_seq; refine wpV_ofH (by ((try (conv => lhs; cbv)); (repeat ((first | (rewrite [ln]) | (rewrite [K.neF]; rotate_left; focus ((try simp only [K.df, D.df, true_and, and_true]) <;> omega))); (try (conv => lhs; cbv)))); (exact rfl))) ?_
  refine wpV_ofH (by ((try (conv => lhs; cbv)); (exact rfl))) ?_
  apply wpV_seq; apply wpV_seq; refine wpV_ofH (by ((try (conv => lhs; cbv)); (repeat ((first | (rewrite [ln])); (try (conv => lhs; cbv)))); (exact rfl))) ?_
  apply wpV_block
  refine wpV_loop l.length (fun i st => ∃ J : Int, st = ⟨0, [.one (.iv (.sl t 1 (E l))), .one (.iv (.sl t2 1 (E l))), u, u, u, u, u, u, u, u, u, u, i64 M, i64 J, u, u, u, u, u, u, u, u, u, u, u, u], []⟩ ∧ J = i) (by omega) (by ((try (conv => lhs; cbv)); (try (with_reducible rfl)))) ⟨0, rfl, rfl⟩ ?_
  rintro i hi st ⟨J, rfl, hJ⟩
  by_cases him : i < l.length
  · have g := D.get (l := l) (J := J) (by omega)
    generalize ix l J = x at *
    have s1 := sc_ne hA x x
    rw [decide_eq_true rfl] at s1
    refine wpV_ofH (by ((try (conv => lhs; cbv)); (repeat ((first | (rewrite [g]) | (rewrite [s1]) | (rewrite [K.add]; rotate_left; focus ((try simp only [K.df, D.df, true_and, and_true]) <;> omega)) | (rewrite [K.ltT]; rotate_left; focus ((try simp only [K.df, D.df, true_and, and_true]) <;> omega))); (try (conv => lhs; cbv)))); (exact rfl))) ?_
    refine headQ_ofH (by ((try (conv => lhs; cbv)); (exact rfl))) ?_
    refine ⟨him, _, rfl, ?_⟩
    rw [K.pl_]; omega
  · obtain rfl : i = l.length := by omega
    refine wpV_ofH (by ((try (conv => lhs; cbv)); (repeat ((first | (rewrite [K.ltF]; rotate_left; focus ((try simp only [K.df, D.df, true_and, and_true]) <;> omega))); (try (conv => lhs; cbv)))); (exact rfl))) ?_
    show wpV _ _ _ _ _ _
    refine wpV_ofH (by ((try (conv => lhs; cbv)); (exact rfl))) ?_
    (show finV _ _ _ = some _; ((try (conv => lhs; cbv)); (try (with_reducible rfl))); (try rfl))
def idxS (d : ByteArray) : List ByteArray → Nat → Int
  | [], _ => -1
  | x :: r, i => if d = x then i else idxS d r (i + 1)
def memS (d : ByteArray) (l : List ByteArray) : Bool := l.any fun x => decide (d = x)
theorem idxS_mem (d : ByteArray) : ∀ (l : List ByteArray) (i : Nat), decide (0 ≤ idxS d l i) = memS d l
  | [], i => rfl
  | x :: r, i => by
    unfold idxS memS
    rw [List.any_cons]
    by_cases h : d = x
    · rw [if_pos h, decide_eq_true (by omega), decide_eq_true h]; rfl
    · rw [if_neg h, idxS_mem d r (i + 1), decide_eq_false h]; rfl
theorem q58 (l : List ByteArray) (d : ByteArray) (t : Bool) (hl : l.length ≤ 900) : Qn 1000 58 [.one (.iv (.sl t 1 (eSs l))), .one (.iv (.str d))] [] (i64 (idxS d l 0)) [] := by
  refine playQ 999 rfl rfl fun A call hA hcall => ?_
  obtain ⟨pl, mi, ml, nt, tn, ad, sb, K⟩ := kit hA
  obtain ⟨E, ix, sn, ll, cc, sg, D⟩ := lkit hA K (⟨#[]⟩ : ByteArray) (fun s => [.str s]) 16
  have hE : ∀ l, eSs l = E l := fun l => by rw [D.E_]; rfl
  rw [hE]
  obtain ⟨M, hM⟩ : ∃ M : Int, M = nt (ll l) := ⟨_, rfl⟩
  have hMl : M = l.length := by rw [hM, K.nt_, D.ll_]
  have ln : A .len (E l) = M := by rw [D.len, hM]
  generalize hR : idxS d l 0 = R
  apply wpV_seq; refine wpV_ofH (by ((try (conv => lhs; cbv)); (exact rfl))) ?_
  apply wpV_seq; apply wpV_seq; refine wpV_ofH (by ((try (conv => lhs; cbv)); (repeat ((first | (rewrite [ln])); (try (conv => lhs; cbv)))); (exact rfl))) ?_
  apply wpV_block
  refine wpV_loop l.length (fun i st => ∃ J : Int, st = ⟨0, [.one (.iv (.sl t 1 (E l))), .one (.iv (.str d)), u, u, u, u, u, i64 M, i64 J, u, u, u, u, u, u, u, u, u, u], []⟩ ∧ J = i ∧ idxS d (l.drop i) i = R) (by omega) (by ((try (conv => lhs; cbv)); (try (with_reducible rfl)))) ⟨0, rfl, rfl, hR⟩ ?_
  rintro i hi st ⟨J, rfl, hJ, hgo⟩
  by_cases him : i < l.length
  · have hd : l.drop i = ix l J :: l.drop (i + 1) := by
      rw [D.ix_, hJ, Int.toNat_natCast, List.drop_eq_getElem_cons (by omega), List.getD_eq_getElem?_getD, List.getElem?_eq_getElem (by omega)]; rfl
    rw [hd, idxS] at hgo
    have g := D.get (l := l) (J := J) (by omega)
    generalize ix l J = x at *
    have s1 := sc_eq hA d x
    by_cases h : d = x
    · rw [if_pos h] at hgo
      rw [decide_eq_true h] at s1
      rw [← hgo, ← hJ]
      refine wpV_ofH (by ((try (conv => lhs; cbv)); (repeat ((first | (rewrite [g]) | (rewrite [s1]) | (rewrite [K.ltT]; rotate_left; focus ((try simp only [K.df, D.df, true_and, and_true]) <;> omega))); (try (conv => lhs; cbv)))); (exact rfl))) ?_
      show finQ _ _ _ _ _
      (show finV _ _ _ = some _; ((try (conv => lhs; cbv)); (try (with_reducible rfl))); (try rfl))
    · rw [if_neg h] at hgo
      rw [decide_eq_false h] at s1
      refine wpV_ofH (by ((try (conv => lhs; cbv)); (repeat ((first | (rewrite [g]) | (rewrite [s1]) | (rewrite [K.add]; rotate_left; focus ((try simp only [K.df, D.df, true_and, and_true]) <;> omega)) | (rewrite [K.ltT]; rotate_left; focus ((try simp only [K.df, D.df, true_and, and_true]) <;> omega))); (try (conv => lhs; cbv)))); (exact rfl))) ?_
      refine headQ_ofH (by ((try (conv => lhs; cbv)); (exact rfl))) ?_
      refine ⟨him, _, rfl, ?_, hgo⟩
      rw [K.pl_]; omega
  · obtain rfl : i = l.length := by omega
    rw [List.drop_of_length_le (Nat.le_refl _), idxS] at hgo
    rw [← hgo]
    refine wpV_ofH (by ((try (conv => lhs; cbv)); (repeat ((first | (rewrite [K.ltF]; rotate_left; focus ((try simp only [K.df, D.df, true_and, and_true]) <;> omega))); (try (conv => lhs; cbv)))); (exact rfl))) ?_
    show wpV _ _ _ _ _ _
    refine wpV_ofH (by ((try (conv => lhs; cbv)); (exact rfl))) ?_
    (show finV _ _ _ = some _; ((try (conv => lhs; cbv)); (try (with_reducible rfl))); (try rfl))
theorem q34 (l : List ByteArray) (d : ByteArray) (t : Bool) (hl : l.length ≤ 900) : Qn 1001 34 [.one (.iv (.sl t 1 (eSs l))), .one (.iv (.str d))] [] (bl (memS d l)) [] := by
  refine playQ 1000 rfl rfl fun A call hA hcall => ?_
  obtain ⟨pl, mi, ml, nt, tn, ad, sb, K⟩ := kit hA
  obtain ⟨E, ix, sn, ll, cc, sg, D⟩ := lkit hA K (⟨#[]⟩ : ByteArray) (fun s => [.str s]) 16
  have k := q58 l d t hl 1000 (by omega)
  rw [← hcall] at k
  rw [← idxS_mem d l 0]
  generalize idxS d l 0 = R at *
  generalize eSs l = es at *
  by_cases h : 0 ≤ R
  · rw [decide_eq_true h]; refine wpV_ofH (by ((try (conv => lhs; cbv)); (repeat ((first | (rewrite [k]) | (rewrite [K.geT]; rotate_left; focus ((try simp only [K.df, D.df, true_and, and_true]) <;> omega))); (try (conv => lhs; cbv)))); (exact rfl))) ?_; (show finV _ _ _ = some _; ((try (conv => lhs; cbv)); (try (with_reducible rfl))); (try rfl))
  · rw [decide_eq_false h]; refine wpV_ofH (by ((try (conv => lhs; cbv)); (repeat ((first | (rewrite [k]) | (rewrite [K.geF]; rotate_left; focus ((try simp only [K.df, D.df, true_and, and_true]) <;> omega))); (try (conv => lhs; cbv)))); (exact rfl))) ?_; (show finV _ _ _ = some _; ((try (conv => lhs; cbv)); (try (with_reducible rfl))); (try rfl))
end Go.Proofs.Ytlbmknejhmmjnaa
