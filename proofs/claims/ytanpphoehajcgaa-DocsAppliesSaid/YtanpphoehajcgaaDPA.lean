/- A vector with a dot more, writes of events, dots among others: gone through. -/
import Derived.Test.YtanpphoehajcgaaDJE
set_option linter.unusedSimpArgs false
set_option linter.unusedVariables false
set_option maxRecDepth 100000
set_option maxHeartbeats 1000000
set_option cbv.maxSteps 10000000
namespace Go.Proofs.Ytanpphoehajcgaa
open Go GoV

def withB (v : List Int) (d : Int × Int) : List Int := if validB d = true then v.set d.1.toNat (max (v.getD d.1.toNat 0) d.2) else v
theorem set_same {v : List Int} {i : Nat} {x : Int} (h : v.getD i 0 = x) (hi : i < v.length) : v.set i x = v := by
  apply List.ext_getElem?
  intro j
  rw [List.getElem?_set]
  by_cases e : i = j
  · subst e
    rw [if_pos rfl, if_pos hi, List.getElem?_eq_getElem hi, ← h, List.getD_eq_getElem?_getD, List.getElem?_eq_getElem hi]; rfl
  · rw [if_neg e]
theorem n48 {v : List Int} (hv : v.length = 64) (r n : Int) : Pn 2 48 [vecF v, dotF (r, n)] [] (vecF (withB v (r, n))) [] := by
  refine playN 1 rfl rfl fun A call hA hcall => ?_
  obtain ⟨pl, mi, ml, nt, tn, ad, sb, K⟩ := kit hA
  obtain ⟨EX, ix, sn, ll, cc, sg, X⟩ := lkit hA K (0 : Int) (fun z => [.int .i64 z]) 8
  obtain ⟨W, gx, st', V⟩ := rkit hA
  have k1 := n39 r n 1 (by omega)
  rw [← hcall] at k1
  have hvW : ∀ v, vec v = W v := fun v => by rw [V.W_]; rfl
  dsimp only [vecF, dotF] at *
  unfold withB
  rcases valid_cases r n with ⟨h, h1⟩ | ⟨h, h1⟩
  · rw [h] at k1
    rw [h, if_neg (by decide)]
    rw [hvW]
    refine wpV_ofH (by ((try (conv => lhs; cbv)); (repeat ((first | (rewrite [k1])); (try (conv => lhs; cbv)))); (exact rfl))) ?_
    (show finV _ _ _ = some _; ((try (conv => lhs; cbv)); (try (with_reducible rfl))); (try rfl))
  · rw [h] at k1
    rw [h, if_pos rfl, show v.getD (r, n).1.toNat 0 = gx v r by rw [V.gx_]]
    dsimp only
    have hs : ∀ x, v.set r.toNat x = st' v r x := fun x => by rw [V.st_]
    rw [hs, hvW, hvW]
    have mx : A .mx (gx v r) n = max (gx v r) n := by rw [hA, real_mx]; omega
    generalize max (gx v r) n = m at *
    refine wpV_ofH (by ((try (conv => lhs; cbv)); (repeat ((first | (rewrite [k1]) | (rewrite [mx]) | (rewrite [K.at_]; rotate_left; focus ((try simp only [K.df, X.df, V.df, true_and, and_true]) <;> omega)) | (rewrite [V.getc]; rotate_left; focus ((try simp only [K.df, X.df, V.df, true_and, and_true]) <;> omega)) | (rewrite [V.setc]; rotate_left; focus ((try simp only [K.df, X.df, V.df, true_and, and_true]) <;> omega))); (try (conv => lhs; cbv)))); (exact rfl))) ?_
    (show finV _ _ _ = some _; ((try (conv => lhs; cbv)); (try (with_reducible rfl))); (try rfl))
theorem n56 {v : List Int} (hv : v.length = 64) (r n : Int) : Pn 2 56 [vecF v, dotF (r, n)] [] (vecF (withB v (r, n))) [] := by
  refine playN 1 rfl rfl fun A call hA hcall => ?_
  obtain ⟨pl, mi, ml, nt, tn, ad, sb, K⟩ := kit hA
  obtain ⟨EX, ix, sn, ll, cc, sg, X⟩ := lkit hA K (0 : Int) (fun z => [.int .i64 z]) 8
  obtain ⟨W, gx, st', V⟩ := rkit hA
  have k1 := n41 r n 1 (by omega)
  rw [← hcall] at k1
  have hvW : ∀ v, vec v = W v := fun v => by rw [V.W_]; rfl
  dsimp only [vecF, dotF] at *
  unfold withB
  rcases valid_cases r n with ⟨h, h1⟩ | ⟨h, h1⟩
  · rw [h] at k1
    rw [h, if_neg (by decide)]
    rw [hvW]
    refine wpV_ofH (by ((try (conv => lhs; cbv)); (repeat ((first | (rewrite [k1])); (try (conv => lhs; cbv)))); (exact rfl))) ?_
    (show finV _ _ _ = some _; ((try (conv => lhs; cbv)); (try (with_reducible rfl))); (try rfl))
  · rw [h] at k1
    rw [h, if_pos rfl, show v.getD (r, n).1.toNat 0 = gx v r by rw [V.gx_]]
    dsimp only
    have hs : ∀ x, v.set r.toNat x = st' v r x := fun x => by rw [V.st_]
    by_cases hc : gx v r < n
    · have cl := K.ltT hc
      rw [hs, hvW, hvW, show max (gx v r) n = n by omega]
      refine wpV_ofH (by ((try (conv => lhs; cbv)); (repeat ((first | (rewrite [k1]) | (rewrite [cl]) | (rewrite [K.at_]; rotate_left; focus ((try simp only [K.df, X.df, V.df, true_and, and_true]) <;> omega)) | (rewrite [V.getc]; rotate_left; focus ((try simp only [K.df, X.df, V.df, true_and, and_true]) <;> omega)) | (rewrite [V.setc]; rotate_left; focus ((try simp only [K.df, X.df, V.df, true_and, and_true]) <;> omega))); (try (conv => lhs; cbv)))); (exact rfl))) ?_
      (show finV _ _ _ = some _; ((try (conv => lhs; cbv)); (try (with_reducible rfl))); (try rfl))
    · have cl := K.ltF (show n ≤ gx v r by omega)
      rw [show max (gx v r) n = gx v r by omega, set_same (by rw [V.gx_]) (by omega), hvW]
      refine wpV_ofH (by ((try (conv => lhs; cbv)); (repeat ((first | (rewrite [k1]) | (rewrite [cl]) | (rewrite [K.at_]; rotate_left; focus ((try simp only [K.df, X.df, V.df, true_and, and_true]) <;> omega)) | (rewrite [V.getc]; rotate_left; focus ((try simp only [K.df, X.df, V.df, true_and, and_true]) <;> omega))); (try (conv => lhs; cbv)))); (exact rfl))) ?_
      (show finV _ _ _ = some _; ((try (conv => lhs; cbv)); (try (with_reducible rfl))); (try rfl))
/-- What an event writes. -/
def wOf (e : Ev) : Wr := ⟨e.d, e.t, e.doc, e.f, e.txt⟩
theorem n53 (e : Ev) (b : Bool) (z : Nat) : Pn 1 53 [evF b z e] [] (wF (wOf e)) [] := by
  refine playN 0 rfl rfl fun A call hA hcall => ?_
  obtain ⟨pl, mi, ml, nt, tn, ad, sb, K⟩ := kit hA
  obtain ⟨EX, ix, sn, ll, cc, sg, X⟩ := lkit hA K (0 : Int) (fun z => [.int .i64 z]) 8
  obtain ⟨W, gx, st', V⟩ := rkit hA
  obtain ⟨⟨r, n⟩, t, k, doc, f, txt, gone⟩ := e
  dsimp only [evF, wOf]
  generalize eDs gone = gs
  refine wpV_ofH (by ((try (conv => lhs; cbv)); (exact rfl))) ?_
  (show finV _ _ _ = some _; ((try (conv => lhs; cbv)); (try (with_reducible rfl))); (try rfl))
theorem n59 (e : Ev) (b : Bool) (z : Nat) : Pn 1 59 [evF b z e] [] (wF (wOf e)) [] := by
  refine playN 0 rfl rfl fun A call hA hcall => ?_
  obtain ⟨pl, mi, ml, nt, tn, ad, sb, K⟩ := kit hA
  obtain ⟨EX, ix, sn, ll, cc, sg, X⟩ := lkit hA K (0 : Int) (fun z => [.int .i64 z]) 8
  obtain ⟨W, gx, st', V⟩ := rkit hA
  obtain ⟨⟨r, n⟩, t, k, doc, f, txt, gone⟩ := e
  dsimp only [evF, wOf]
  generalize eDs gone = gs
  refine wpV_ofH (by ((try (conv => lhs; cbv)); (exact rfl))) ?_
  (show finV _ _ _ = some _; ((try (conv => lhs; cbv)); (try (with_reducible rfl))); (try rfl))

theorem n57 (l : List (Int × Int)) (d : Int × Int) (t : Bool) (z : Nat) (hz : z = 2 ∨ z = 0 ∧ l = []) (hl : l.length ≤ 1000) : Pn 1102 57 [.one (.iv (.sl t z (eDs l))), dotF d] [] (bl (decide (d ∈ l))) [] := by
  refine playN 1101 rfl rfl fun A call hA hcall => ?_
  obtain ⟨pl, mi, ml, nt, tn, ad, sb, K⟩ := kit hA
  obtain ⟨E, ix, sn, ll, cc, sg, D⟩ := lkit hA K ((0, 0) : Int × Int) (fun p => [.int .i64 p.1, .int .i64 p.2]) 16
  obtain ⟨W, gx, st', V⟩ := rkit hA
  have hE : eDs l = E l := by rw [D.E_]; rfl
  rw [hE]
  obtain ⟨M, hM⟩ : ∃ M : Int, M = nt (ll l) := ⟨_, rfl⟩
  have hMl : M = l.length := by rw [hM, K.nt_, D.ll_]
  have ln : A .len (E l) = M := by rw [D.len, hM]
  generalize hR : decide (d ∈ l) = R
  obtain ⟨a, b⟩ := d
  dsimp only [dotF]
  apply wpV_seq; refine wpV_ofH (by ((try (conv => lhs; cbv)); (exact rfl))) ?_
  apply wpV_seq; apply wpV_seq; refine wpV_ofH (by ((try (conv => lhs; cbv)); (repeat ((first | (rewrite [ln])); (try (conv => lhs; cbv)))); (exact rfl))) ?_
  apply wpV_block
  refine wpV_loop l.length (fun i st => ∃ J : Int, st = ⟨0, [u, u, u, .one (.ptr 0 0), u, u, u, .one (.iv (.sl t z (E l))), i64 M, i64 J, u, u, u, u, u, u, u], [.var false [.iv (.int .i64 a), .iv (.int .i64 b)]]⟩ ∧ J = i ∧ decide ((a, b) ∈ l.drop i) = R) (by omega) (by ((try (conv => lhs; cbv)); (try (with_reducible rfl)))) ⟨0, rfl, rfl, hR⟩ ?_
  rintro i hi st ⟨J, rfl, hJ, hgo⟩
  by_cases him : i < l.length
  · obtain rfl : z = 2 := by
      rcases hz with h | ⟨h, h2⟩
      · exact h
      · rw [h2] at him; simp at him
    have hd : l.drop i = ix l J :: l.drop (i + 1) := by
      rw [D.ix_, hJ, Int.toNat_natCast, List.drop_eq_getElem_cons (by omega), List.getD_eq_getElem?_getD, List.getElem?_eq_getElem (by omega)]; rfl
    rw [hd] at hgo
    have g := D.get (l := l) (J := J) (by omega)
    generalize ix l J = x at *
    obtain ⟨r, n⟩ := x
    have eq := eqvD hA r n a b
    (conv at eq => lhs; arg 2; cbv)
    dsimp only at g eq
    by_cases h : (r, n) = (a, b)
    · rw [decide_eq_true (by rw [h]; simp)] at hgo
      subst hgo
      rw [decide_eq_true h] at eq
      refine wpV_ofH (by ((try (conv => lhs; cbv)); (repeat ((first | (rewrite [g]) | (rewrite [eq]) | (rewrite [K.ltT]; rotate_left; focus ((try simp only [K.df, D.df, V.df, true_and, and_true]) <;> omega))); (try (conv => lhs; cbv)))); (exact rfl))) ?_
      show finQ _ _ _ _ _
      (show finV _ _ _ = some _; ((try (conv => lhs; cbv)); (try (with_reducible rfl))); (try rfl))
    · have hg2 : decide ((a, b) ∈ l.drop (i + 1)) = R := by
        rw [← hgo]
        by_cases hm : (a, b) ∈ l.drop (i + 1)
        · rw [decide_eq_true hm, decide_eq_true (by simp [hm])]
        · rw [decide_eq_false hm, decide_eq_false (fun h' => by rcases List.mem_cons.1 h' with e | e; exact h e.symm; exact hm e)]
      rw [decide_eq_false h] at eq
      refine wpV_ofH (by ((try (conv => lhs; cbv)); (repeat ((first | (rewrite [g]) | (rewrite [eq]) | (rewrite [K.add]; rotate_left; focus ((try simp only [K.df, D.df, V.df, true_and, and_true]) <;> omega)) | (rewrite [K.ltT]; rotate_left; focus ((try simp only [K.df, D.df, V.df, true_and, and_true]) <;> omega))); (try (conv => lhs; cbv)))); (exact rfl))) ?_
      refine headQ_ofH (by ((try (conv => lhs; cbv)); (exact rfl))) ?_
      refine ⟨him, _, rfl, ?_, hg2⟩
      rw [K.pl_]; omega
  · obtain rfl : i = l.length := by omega
    rw [List.drop_of_length_le (Nat.le_refl _), decide_eq_false (by simp)] at hgo
    subst hgo
    refine wpV_ofH (by ((try (conv => lhs; cbv)); (repeat ((first | (rewrite [K.ltF]; rotate_left; focus ((try simp only [K.df, D.df, V.df, true_and, and_true]) <;> omega))); (try (conv => lhs; cbv)))); (exact rfl))) ?_
    show wpV _ _ _ _ _ _
    refine wpV_ofH (by ((try (conv => lhs; cbv)); (exact rfl))) ?_
    (show finV _ _ _ = some _; ((try (conv => lhs; cbv)); (try (with_reducible rfl))); (try rfl))
def idxD (d : Int × Int) : List (Int × Int) → Nat → Int
  | [], _ => -1
  | x :: r, i => if d = x then i else idxD d r (i + 1)
theorem idxD_mem (d : Int × Int) : ∀ (l : List (Int × Int)) (i : Nat), decide (0 ≤ idxD d l i) = decide (d ∈ l)
  | [], i => by simp [idxD]
  | x :: r, i => by
    unfold idxD
    by_cases h : d = x
    · rw [if_pos h, decide_eq_true (by omega), decide_eq_true (by simp [h])]
    · rw [if_neg h, idxD_mem d r (i + 1)]; simp [h]
theorem n88 (l : List (Int × Int)) (d : Int × Int) (t : Bool) (z : Nat) (hz : z = 2 ∨ z = 0 ∧ l = []) (hl : l.length ≤ 1000) : Pn 1102 88 [.one (.iv (.sl t z (eDs l))), dotF d] [] (i64 (idxD d l 0)) [] := by
  refine playN 1101 rfl rfl fun A call hA hcall => ?_
  obtain ⟨pl, mi, ml, nt, tn, ad, sb, K⟩ := kit hA
  obtain ⟨E, ix, sn, ll, cc, sg, D⟩ := lkit hA K ((0, 0) : Int × Int) (fun p => [.int .i64 p.1, .int .i64 p.2]) 16
  obtain ⟨W, gx, st', V⟩ := rkit hA
  have hE : eDs l = E l := by rw [D.E_]; rfl
  rw [hE]
  obtain ⟨M, hM⟩ : ∃ M : Int, M = nt (ll l) := ⟨_, rfl⟩
  have hMl : M = l.length := by rw [hM, K.nt_, D.ll_]
  have ln : A .len (E l) = M := by rw [D.len, hM]
  generalize hR : idxD d l 0 = R
  obtain ⟨a, b⟩ := d
  dsimp only [dotF]
  apply wpV_seq; refine wpV_ofH (by ((try (conv => lhs; cbv)); (exact rfl))) ?_
  apply wpV_seq; apply wpV_seq; refine wpV_ofH (by ((try (conv => lhs; cbv)); (repeat ((first | (rewrite [ln])); (try (conv => lhs; cbv)))); (exact rfl))) ?_
  apply wpV_block
  refine wpV_loop l.length (fun i st => ∃ J : Int, st = ⟨0, [.one (.iv (.sl t z (E l))), u, u, .one (.ptr 0 0), u, u, u, i64 M, i64 J, u, u, u, u, u, u, u, u, u, u], [.var false [.iv (.int .i64 a), .iv (.int .i64 b)]]⟩ ∧ J = i ∧ idxD (a, b) (l.drop i) i = R) (by omega) (by ((try (conv => lhs; cbv)); (try (with_reducible rfl)))) ⟨0, rfl, rfl, hR⟩ ?_
  rintro i hi st ⟨J, rfl, hJ, hgo⟩
  by_cases him : i < l.length
  · obtain rfl : z = 2 := by
      rcases hz with h | ⟨h, h2⟩
      · exact h
      · rw [h2] at him; simp at him
    have hd : l.drop i = ix l J :: l.drop (i + 1) := by
      rw [D.ix_, hJ, Int.toNat_natCast, List.drop_eq_getElem_cons (by omega), List.getD_eq_getElem?_getD, List.getElem?_eq_getElem (by omega)]; rfl
    rw [hd, idxD] at hgo
    have g := D.get (l := l) (J := J) (by omega)
    generalize ix l J = x at *
    obtain ⟨r, n⟩ := x
    have eq := eqvD hA a b r n
    (conv at eq => lhs; arg 2; cbv)
    dsimp only at g eq
    by_cases h : (a, b) = (r, n)
    · rw [if_pos h] at hgo
      rw [decide_eq_true h] at eq
      rw [← hgo, ← hJ]
      refine wpV_ofH (by ((try (conv => lhs; cbv)); (repeat ((first | (rewrite [g]) | (rewrite [eq]) | (rewrite [K.ltT]; rotate_left; focus ((try simp only [K.df, D.df, V.df, true_and, and_true]) <;> omega))); (try (conv => lhs; cbv)))); (exact rfl))) ?_
      show finQ _ _ _ _ _
      (show finV _ _ _ = some _; ((try (conv => lhs; cbv)); (try (with_reducible rfl))); (try rfl))
    · rw [if_neg h] at hgo
      rw [decide_eq_false h] at eq
      refine wpV_ofH (by ((try (conv => lhs; cbv)); (repeat ((first | (rewrite [g]) | (rewrite [eq]) | (rewrite [K.add]; rotate_left; focus ((try simp only [K.df, D.df, V.df, true_and, and_true]) <;> omega)) | (rewrite [K.ltT]; rotate_left; focus ((try simp only [K.df, D.df, V.df, true_and, and_true]) <;> omega))); (try (conv => lhs; cbv)))); (exact rfl))) ?_
      refine headQ_ofH (by ((try (conv => lhs; cbv)); (exact rfl))) ?_
      refine ⟨him, _, rfl, ?_, hgo⟩
      rw [K.pl_]; omega
  · obtain rfl : i = l.length := by omega
    rw [List.drop_of_length_le (Nat.le_refl _), idxD] at hgo
    rw [← hgo]
    refine wpV_ofH (by ((try (conv => lhs; cbv)); (repeat ((first | (rewrite [K.ltF]; rotate_left; focus ((try simp only [K.df, D.df, V.df, true_and, and_true]) <;> omega))); (try (conv => lhs; cbv)))); (exact rfl))) ?_
    show wpV _ _ _ _ _ _
    refine wpV_ofH (by ((try (conv => lhs; cbv)); (exact rfl))) ?_
    (show finV _ _ _ = some _; ((try (conv => lhs; cbv)); (try (with_reducible rfl))); (try rfl))
theorem n51 (l : List (Int × Int)) (d : Int × Int) (t : Bool) (z : Nat) (hz : z = 2 ∨ z = 0 ∧ l = []) (hl : l.length ≤ 1000) : Pn 1103 51 [.one (.iv (.sl t z (eDs l))), dotF d] [] (bl (decide (d ∈ l))) [] := by
  refine playN 1102 rfl rfl fun A call hA hcall => ?_
  obtain ⟨pl, mi, ml, nt, tn, ad, sb, K⟩ := kit hA
  obtain ⟨E, ix, sn, ll, cc, sg, D⟩ := lkit hA K ((0, 0) : Int × Int) (fun p => [.int .i64 p.1, .int .i64 p.2]) 16
  obtain ⟨W, gx, st', V⟩ := rkit hA
  have k := n88 l d t z hz hl 1102 (by omega)
  rw [← hcall] at k
  rw [← idxD_mem d l 0]
  generalize idxD d l 0 = R at *
  generalize eDs l = es at *
  obtain ⟨a, b⟩ := d
  dsimp only [dotF] at *
  by_cases h : 0 ≤ R
  · rw [decide_eq_true h]; refine wpV_ofH (by ((try (conv => lhs; cbv)); (repeat ((first | (rewrite [k]) | (rewrite [K.geT]; rotate_left; focus ((try simp only [K.df, D.df, V.df, true_and, and_true]) <;> omega))); (try (conv => lhs; cbv)))); (exact rfl))) ?_; (show finV _ _ _ = some _; ((try (conv => lhs; cbv)); (try (with_reducible rfl))); (try rfl))
  · rw [decide_eq_false h]; refine wpV_ofH (by ((try (conv => lhs; cbv)); (repeat ((first | (rewrite [k]) | (rewrite [K.geF]; rotate_left; focus ((try simp only [K.df, D.df, V.df, true_and, and_true]) <;> omega))); (try (conv => lhs; cbv)))); (exact rfl))) ?_; (show finV _ _ _ = some _; ((try (conv => lhs; cbv)); (try (with_reducible rfl))); (try rfl))
end Go.Proofs.Ytanpphoehajcgaa
