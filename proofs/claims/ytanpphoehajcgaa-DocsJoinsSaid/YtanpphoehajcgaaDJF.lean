/- The reference's join of two states: gone through. -/
import Derived.Test.YtanpphoehajcgaaDJE
import Derived.Test.YtanpphoehajcgaaDJU
set_option linter.unusedSimpArgs false
set_option linter.unusedVariables false
set_option maxRecDepth 100000
set_option maxHeartbeats 4000000
set_option cbv.maxSteps 10000000
namespace Go.Proofs.Ytanpphoehajcgaa
open Go GoV

theorem stepJ_len (c : Wr → Bool) (out : List Wr) (w : Wr) : (stepJ c out w).length ≤ out.length + 1 := by
  unfold stepJ
  split
  · have h := (putW_at out w).2
    rw [(putW_at out w).1]; simp; omega
  · omega
def condJ (v : List Int) (l : List Wr) (w : Wr) : Bool := !hasB v w.d || decide (w ∈ l)
def refJ (va vb : List Int) (la lb : List Wr) : List Wr := lb.foldl (stepJ (condJ va la)) (la.foldl (stepJ (condJ vb lb)) [])
theorem n34 {va vb : List Int} (hva : va.length = 64) (hvb : vb.length = 64) (la lb : List Wr) (b b2 : Bool) (ha : la.length ≤ 400) (hb : lb.length ≤ 400) :
    Pn 3400 34 [stF b 6 va la, stF b2 6 vb lb] [] (.agg [.iv (.arr 64 (vec (mxV va vb))), .slo 0 0 (refJ va vb la lb).length]) [.arr false false 6 (eWs (refJ va vb la lb))] := by
  refine playN 3399 rfl rfl fun A call hA hcall => ?_
  obtain ⟨pl, mi, ml, nt, tn, ad, sb, K⟩ := kit hA
  obtain ⟨E, ix, sn, ll, cc, sg, D⟩ := lkit hA K zeroWr (fun w => [.int .i64 w.d.1, .int .i64 w.d.2, .int .i64 w.t, .str w.doc, .int .i64 w.f, .str w.txt]) 64
  obtain ⟨W, gx, st', V⟩ := rkit hA
  have hE : ∀ l, eWs l = E l := fun l => by rw [D.E_]; rfl
  have hE0 : E [] = [] := by rw [D.E_]; rfl
  have z0 : [IV.int IntKind.i64 0, IV.int IntKind.i64 0, IV.int IntKind.i64 0, IV.int IntKind.i64 0, IV.int IntKind.i64 0, IV.int IntKind.i64 0, IV.int IntKind.i64 0, IV.int IntKind.i64 0, IV.int IntKind.i64 0, IV.int IntKind.i64 0, IV.int IntKind.i64 0, IV.int IntKind.i64 0, IV.int IntKind.i64 0, IV.int IntKind.i64 0, IV.int IntKind.i64 0, IV.int IntKind.i64 0, IV.int IntKind.i64 0, IV.int IntKind.i64 0, IV.int IntKind.i64 0, IV.int IntKind.i64 0, IV.int IntKind.i64 0, IV.int IntKind.i64 0, IV.int IntKind.i64 0, IV.int IntKind.i64 0, IV.int IntKind.i64 0, IV.int IntKind.i64 0, IV.int IntKind.i64 0, IV.int IntKind.i64 0, IV.int IntKind.i64 0, IV.int IntKind.i64 0, IV.int IntKind.i64 0, IV.int IntKind.i64 0, IV.int IntKind.i64 0, IV.int IntKind.i64 0, IV.int IntKind.i64 0, IV.int IntKind.i64 0, IV.int IntKind.i64 0, IV.int IntKind.i64 0, IV.int IntKind.i64 0, IV.int IntKind.i64 0, IV.int IntKind.i64 0, IV.int IntKind.i64 0, IV.int IntKind.i64 0, IV.int IntKind.i64 0, IV.int IntKind.i64 0, IV.int IntKind.i64 0, IV.int IntKind.i64 0, IV.int IntKind.i64 0, IV.int IntKind.i64 0, IV.int IntKind.i64 0, IV.int IntKind.i64 0, IV.int IntKind.i64 0, IV.int IntKind.i64 0, IV.int IntKind.i64 0, IV.int IntKind.i64 0, IV.int IntKind.i64 0, IV.int IntKind.i64 0, IV.int IntKind.i64 0, IV.int IntKind.i64 0, IV.int IntKind.i64 0, IV.int IntKind.i64 0, IV.int IntKind.i64 0, IV.int IntKind.i64 0, IV.int IntKind.i64 0] = vec zeros := rfl
  have k79 : call 79 [vecF va, vecF vb] [] = some (vecF (mxV va vb), []) := by rw [hcall]; exact n79 hva hvb 3399 (by omega)
  have kb : ∀ r n, call 44 [vecF vb, dotF (r, n)] [] = some (bl (hasB vb (r, n)), []) := fun r n => by rw [hcall]; exact n44 hvb r n 3399 (by omega)
  have ka : ∀ r n, call 44 [vecF va, dotF (r, n)] [] = some (bl (hasB va (r, n)), []) := fun r n => by rw [hcall]; exact n44 hva r n 3399 (by omega)
  have ib : ∀ x, call 62 [.one (.iv (.sl b2 6 (E lb))), wF x] [] = some (bl (decide (x ∈ lb)), []) := fun x => by rw [hcall, ← hE]; exact n62 lb x b2 6 (.inl rfl) (by omega) 3399 (by omega)
  have ia : ∀ x, call 62 [.one (.iv (.sl b 6 (E la))), wF x] [] = some (bl (decide (x ∈ la)), []) := fun x => by rw [hcall, ← hE]; exact n62 la x b 6 (.inl rfl) (by omega) 3399 (by omega)
  have io : ∀ (o : List Wr) x t, o.length ≤ 1000 → call 62 [.one (.iv (.sl t 6 (E o))), wF x] [] = some (bl (decide (x ∈ o)), []) := fun o x t h => by rw [hcall, ← hE]; exact n62 o x t 6 (.inl rfl) h 3399 (by omega)
  have kp : ∀ (o : List Wr) x t, o.length ≤ 1000 → call 58 [.one (.iv (.sl t 6 (E o))), wF x] [] = some (.one (.slo 0 0 (putW o x).length), [.arr false false 6 (E (putW o x))]) := fun o x t h => by rw [hcall, ← hE, ← hE]; exact n58 o x t h 3399 (by omega)
  have so : ∀ (o : List Wr) k, k = o.length → A .seg (E o) 0 k = E o := fun o k h => by rw [D.seg, D.sg_, List.drop_zero, List.take_of_length_le (by omega)]
  obtain ⟨M, hM⟩ : ∃ M : Int, M = nt (ll la) := ⟨_, rfl⟩
  have hMl : M = la.length := by rw [hM, K.nt_, D.ll_]
  have ln : A .len (E la) = M := by rw [D.len, hM]
  obtain ⟨M2, hM2⟩ : ∃ M : Int, M = nt (ll lb) := ⟨_, rfl⟩
  have hMl2 : M2 = lb.length := by rw [hM2, K.nt_, D.ll_]
  have ln2 : A .len (E lb) = M2 := by rw [D.len, hM2]
  obtain ⟨R, hR⟩ : ∃ R, R = refJ va vb la lb := ⟨_, rfl⟩
  rw [← hR]
  obtain ⟨R1, hR1⟩ : ∃ R1, R1 = la.foldl (stepJ (condJ vb lb)) [] := ⟨_, rfl⟩
  have hRR : lb.foldl (stepJ (condJ va la)) R1 = R := by rw [hR, hR1]; rfl
  have hR1l : R1.length ≤ la.length := by
    have : ∀ (l o : List Wr), (l.foldl (stepJ (condJ vb lb)) o).length ≤ o.length + l.length := by
      intro l
      induction l with
      | nil => intro o; exact Nat.le_refl _
      | cons x r ih =>
        intro o
        rw [List.foldl_cons, List.length_cons]
        have h1 := ih (stepJ (condJ vb lb) o x)
        have h2 := stepJ_len (condJ vb lb) o x
        omega
    have := this la []
    rw [hR1]; simpa using this
  dsimp only [stF, vecF, dotF] at *
  rw [hE, hE, hE]
  generalize vec (mxV va vb) = vm at *
  generalize vec va = vsa at *
  generalize vec vb = vsb at *
  apply wpV_seq; refine wpV_ofH (by ((try (conv => lhs; cbv)); (exact rfl))) ?_
  apply wpV_seq; refine wpV_ofH (by ((try (conv => lhs; cbv)); (repeat ((first | (rewrite [k79])); (try (conv => lhs; cbv)))); (exact rfl))) ?_
  apply wpV_seq; apply wpV_seq; refine wpV_ofH (by ((try (conv => lhs; cbv)); (repeat ((first | (rewrite [ln])); (try (conv => lhs; cbv)))); (exact rfl))) ?_
  apply wpV_block
  refine wpV_loop la.length (fun i st => ∃ (J : Int) (k : Nat) (o : List Wr), st = ⟨0, (u :: u :: .one (.ptr 0 0) :: .one (.ptr 1 0) :: .one (.ptr 2 0) :: .one (.ptr 3 0) :: u :: u :: u :: u :: u :: u :: u :: u :: u :: u :: u :: .one (.iv (.sl b 6 (E la))) :: i64 M :: i64 J :: u :: u :: u :: u :: u :: u :: u :: u :: u :: u :: u :: u :: u :: u :: u :: u :: u :: u :: u :: u :: u :: u :: u :: u :: u :: u :: u :: u :: u :: u :: u :: u :: u :: u :: u :: u :: u :: u :: u :: u :: u :: u :: u :: u :: u :: u :: u :: u :: u :: u :: u :: u :: u :: u :: u :: u :: u :: u :: u :: u :: u :: []), [.var false [.iv (.arr 64 vsa), .iv (.sl b 6 (E la))], .var false [.iv (.arr 64 vsb), .iv (.sl b2 6 (E lb))], .var false [.iv (.arr 64 [IV.int IntKind.i64 0, IV.int IntKind.i64 0, IV.int IntKind.i64 0, IV.int IntKind.i64 0, IV.int IntKind.i64 0, IV.int IntKind.i64 0, IV.int IntKind.i64 0, IV.int IntKind.i64 0, IV.int IntKind.i64 0, IV.int IntKind.i64 0, IV.int IntKind.i64 0, IV.int IntKind.i64 0, IV.int IntKind.i64 0, IV.int IntKind.i64 0, IV.int IntKind.i64 0, IV.int IntKind.i64 0, IV.int IntKind.i64 0, IV.int IntKind.i64 0, IV.int IntKind.i64 0, IV.int IntKind.i64 0, IV.int IntKind.i64 0, IV.int IntKind.i64 0, IV.int IntKind.i64 0, IV.int IntKind.i64 0, IV.int IntKind.i64 0, IV.int IntKind.i64 0, IV.int IntKind.i64 0, IV.int IntKind.i64 0, IV.int IntKind.i64 0, IV.int IntKind.i64 0, IV.int IntKind.i64 0, IV.int IntKind.i64 0, IV.int IntKind.i64 0, IV.int IntKind.i64 0, IV.int IntKind.i64 0, IV.int IntKind.i64 0, IV.int IntKind.i64 0, IV.int IntKind.i64 0, IV.int IntKind.i64 0, IV.int IntKind.i64 0, IV.int IntKind.i64 0, IV.int IntKind.i64 0, IV.int IntKind.i64 0, IV.int IntKind.i64 0, IV.int IntKind.i64 0, IV.int IntKind.i64 0, IV.int IntKind.i64 0, IV.int IntKind.i64 0, IV.int IntKind.i64 0, IV.int IntKind.i64 0, IV.int IntKind.i64 0, IV.int IntKind.i64 0, IV.int IntKind.i64 0, IV.int IntKind.i64 0, IV.int IntKind.i64 0, IV.int IntKind.i64 0, IV.int IntKind.i64 0, IV.int IntKind.i64 0, IV.int IntKind.i64 0, IV.int IntKind.i64 0, IV.int IntKind.i64 0, IV.int IntKind.i64 0, IV.int IntKind.i64 0, IV.int IntKind.i64 0]), .iv (.sl true 0 [])], .var false [.iv (.arr 64 vm), .slo 4 0 k], .arr false false 6 (E o)]⟩ ∧ J = i ∧ k = o.length ∧ o.length ≤ i ∧ (la.drop i).foldl (stepJ (condJ vb lb)) o = R1) (by omega) (by ((try (conv => lhs; cbv)); (try (with_reducible rfl)))) ⟨0, 0, [], by rw [hE0], rfl, rfl, Nat.zero_le _, hR1.symm⟩ ?_
  rintro i hi st ⟨J, k, o, rfl, hJ, hk, hko, hgo⟩
  by_cases him : i < la.length
  · have hd : la.drop i = ix la J :: la.drop (i + 1) := by
      rw [D.ix_, hJ, Int.toNat_natCast, List.drop_eq_getElem_cons (by omega), List.getD_eq_getElem?_getD, List.getElem?_eq_getElem (by omega)]; rfl
    rw [hd, List.foldl_cons] at hgo
    have g := D.get (l := la) (J := J) (by omega)
    have hc := (show (condJ vb lb) (ix la J) = (!hasB vb (ix la J).d || decide (ix la J ∈ lb)) from rfl)
    have hl := stepJ_len (condJ vb lb) o (ix la J)
    have q1 := kb (ix la J).d.1 (ix la J).d.2
    have q2 := ib (ix la J)
    have q3 := fun t => io o (ix la J) t (by omega)
    have q4 := fun t => kp o (ix la J) t (by omega)
    have hs : stepJ (condJ vb lb) o (ix la J) = if (condJ vb lb) (ix la J) = true ∧ ix la J ∉ o then putW o (ix la J) else o := rfl
    have sgo := so o k hk
    generalize ix la J = x at *
    obtain ⟨⟨r, n⟩, tm, doc, fi, txt⟩ := x
    dsimp only [wF] at *
    generalize hasB vb (r, n) = p1 at *
    generalize decide ((⟨(r, n), tm, doc, fi, txt⟩ : Wr) ∈ lb) = p2 at *
    obtain ⟨p3, hp3⟩ : ∃ p3, p3 = decide ((⟨(r, n), tm, doc, fi, txt⟩ : Wr) ∈ o) := ⟨_, rfl⟩
    rw [← hp3] at q3
    have hput : (!p1 || p2) = true → p3 = false → stepJ (condJ vb lb) o ⟨(r, n), tm, doc, fi, txt⟩ = putW o ⟨(r, n), tm, doc, fi, txt⟩ := fun h1 h2 => by
      rw [hs, if_pos ⟨hc.trans h1, of_decide_eq_false (hp3.symm.trans h2)⟩]
    have hno : ¬ ((!p1 || p2) = true ∧ p3 = false) → stepJ (condJ vb lb) o ⟨(r, n), tm, doc, fi, txt⟩ = o := fun h => by
      rw [hs, if_neg fun h' => h ⟨hc.symm.trans h'.1, hp3.trans (decide_eq_false h'.2)⟩]
    clear hs hc hp3 kb ib io kp so
    generalize putW o ⟨⟨r, n⟩, tm, doc, fi, txt⟩ = o2 at *
    obtain ⟨k2, hk2⟩ : ∃ k2, k2 = o2.length := ⟨_, rfl⟩
    rw [← hk2] at q4
    cases p1 <;> cases p2 <;> cases p3
    · rw [hput rfl rfl] at hgo
      rw [hput rfl rfl, ← hk2] at hl
      refine wpV_ofH (by ((try (conv => lhs; cbv)); (repeat ((first | (rewrite [g]) | (rewrite [q1]) | (rewrite [sgo]) | (rewrite [q3]) | (rewrite [q4]) | (rewrite [K.add]; rotate_left; focus ((try simp only [K.df, D.df, V.df, true_and, and_true]) <;> omega)) | (rewrite [K.ltT]; rotate_left; focus ((try simp only [K.df, D.df, V.df, true_and, and_true]) <;> omega))); (try (conv => lhs; cbv)))); (exact rfl))) ?_
      refine headQ_ofH (by ((try (conv => lhs; cbv)); (exact rfl))) ?_
      refine ⟨him, _, _, _, rfl, ?_, hk2, by omega, hgo⟩
      rw [K.pl_]; omega
    · rw [hno (by decide)] at hgo
      refine wpV_ofH (by ((try (conv => lhs; cbv)); (repeat ((first | (rewrite [g]) | (rewrite [q1]) | (rewrite [sgo]) | (rewrite [q3]) | (rewrite [K.add]; rotate_left; focus ((try simp only [K.df, D.df, V.df, true_and, and_true]) <;> omega)) | (rewrite [K.ltT]; rotate_left; focus ((try simp only [K.df, D.df, V.df, true_and, and_true]) <;> omega))); (try (conv => lhs; cbv)))); (exact rfl))) ?_
      refine headQ_ofH (by ((try (conv => lhs; cbv)); (exact rfl))) ?_
      refine ⟨him, _, _, _, rfl, ?_, hk, by omega, hgo⟩
      rw [K.pl_]; omega
    · rw [hput rfl rfl] at hgo
      rw [hput rfl rfl, ← hk2] at hl
      refine wpV_ofH (by ((try (conv => lhs; cbv)); (repeat ((first | (rewrite [g]) | (rewrite [q1]) | (rewrite [sgo]) | (rewrite [q3]) | (rewrite [q4]) | (rewrite [K.add]; rotate_left; focus ((try simp only [K.df, D.df, V.df, true_and, and_true]) <;> omega)) | (rewrite [K.ltT]; rotate_left; focus ((try simp only [K.df, D.df, V.df, true_and, and_true]) <;> omega))); (try (conv => lhs; cbv)))); (exact rfl))) ?_
      refine headQ_ofH (by ((try (conv => lhs; cbv)); (exact rfl))) ?_
      refine ⟨him, _, _, _, rfl, ?_, hk2, by omega, hgo⟩
      rw [K.pl_]; omega
    · rw [hno (by decide)] at hgo
      refine wpV_ofH (by ((try (conv => lhs; cbv)); (repeat ((first | (rewrite [g]) | (rewrite [q1]) | (rewrite [sgo]) | (rewrite [q3]) | (rewrite [K.add]; rotate_left; focus ((try simp only [K.df, D.df, V.df, true_and, and_true]) <;> omega)) | (rewrite [K.ltT]; rotate_left; focus ((try simp only [K.df, D.df, V.df, true_and, and_true]) <;> omega))); (try (conv => lhs; cbv)))); (exact rfl))) ?_
      refine headQ_ofH (by ((try (conv => lhs; cbv)); (exact rfl))) ?_
      refine ⟨him, _, _, _, rfl, ?_, hk, by omega, hgo⟩
      rw [K.pl_]; omega
    · rw [hno (by decide)] at hgo
      refine wpV_ofH (by ((try (conv => lhs; cbv)); (repeat ((first | (rewrite [g]) | (rewrite [q1]) | (rewrite [q2]) | (rewrite [K.add]; rotate_left; focus ((try simp only [K.df, D.df, V.df, true_and, and_true]) <;> omega)) | (rewrite [K.ltT]; rotate_left; focus ((try simp only [K.df, D.df, V.df, true_and, and_true]) <;> omega))); (try (conv => lhs; cbv)))); (exact rfl))) ?_
      refine headQ_ofH (by ((try (conv => lhs; cbv)); (exact rfl))) ?_
      refine ⟨him, _, _, _, rfl, ?_, hk, by omega, hgo⟩
      rw [K.pl_]; omega
    · rw [hno (by decide)] at hgo
      refine wpV_ofH (by ((try (conv => lhs; cbv)); (repeat ((first | (rewrite [g]) | (rewrite [q1]) | (rewrite [q2]) | (rewrite [K.add]; rotate_left; focus ((try simp only [K.df, D.df, V.df, true_and, and_true]) <;> omega)) | (rewrite [K.ltT]; rotate_left; focus ((try simp only [K.df, D.df, V.df, true_and, and_true]) <;> omega))); (try (conv => lhs; cbv)))); (exact rfl))) ?_
      refine headQ_ofH (by ((try (conv => lhs; cbv)); (exact rfl))) ?_
      refine ⟨him, _, _, _, rfl, ?_, hk, by omega, hgo⟩
      rw [K.pl_]; omega
    · rw [hput rfl rfl] at hgo
      rw [hput rfl rfl, ← hk2] at hl
      refine wpV_ofH (by ((try (conv => lhs; cbv)); (repeat ((first | (rewrite [g]) | (rewrite [q1]) | (rewrite [q2]) | (rewrite [sgo]) | (rewrite [q3]) | (rewrite [q4]) | (rewrite [K.add]; rotate_left; focus ((try simp only [K.df, D.df, V.df, true_and, and_true]) <;> omega)) | (rewrite [K.ltT]; rotate_left; focus ((try simp only [K.df, D.df, V.df, true_and, and_true]) <;> omega))); (try (conv => lhs; cbv)))); (exact rfl))) ?_
      refine headQ_ofH (by ((try (conv => lhs; cbv)); (exact rfl))) ?_
      refine ⟨him, _, _, _, rfl, ?_, hk2, by omega, hgo⟩
      rw [K.pl_]; omega
    · rw [hno (by decide)] at hgo
      refine wpV_ofH (by ((try (conv => lhs; cbv)); (repeat ((first | (rewrite [g]) | (rewrite [q1]) | (rewrite [q2]) | (rewrite [sgo]) | (rewrite [q3]) | (rewrite [K.add]; rotate_left; focus ((try simp only [K.df, D.df, V.df, true_and, and_true]) <;> omega)) | (rewrite [K.ltT]; rotate_left; focus ((try simp only [K.df, D.df, V.df, true_and, and_true]) <;> omega))); (try (conv => lhs; cbv)))); (exact rfl))) ?_
      refine headQ_ofH (by ((try (conv => lhs; cbv)); (exact rfl))) ?_
      refine ⟨him, _, _, _, rfl, ?_, hk, by omega, hgo⟩
      rw [K.pl_]; omega
  · obtain rfl : i = la.length := by omega
    rw [List.drop_of_length_le (Nat.le_refl _), List.foldl_nil] at hgo
    subst hgo
    clear kb ib
    refine wpV_ofH (by ((try (conv => lhs; cbv)); (repeat ((first | (rewrite [K.ltF]; rotate_left; focus ((try simp only [K.df, D.df, V.df, true_and, and_true]) <;> omega))); (try (conv => lhs; cbv)))); (exact rfl))) ?_
    show wpV _ _ _ _ _ _
    apply wpV_seq; apply wpV_seq; refine wpV_ofH (by ((try (conv => lhs; cbv)); (repeat ((first | (rewrite [ln2])); (try (conv => lhs; cbv)))); (exact rfl))) ?_
    apply wpV_block
    refine wpV_loop lb.length (fun i st => ∃ (J : Int) (k : Nat) (o : List Wr), st = ⟨0, (u :: u :: .one (.ptr 0 0) :: u :: .one (.ptr 1 0) :: .one (.ptr 2 0) :: u :: u :: u :: u :: u :: u :: u :: u :: u :: u :: u :: u :: u :: u :: u :: u :: u :: u :: u :: u :: u :: u :: u :: u :: u :: u :: u :: u :: u :: u :: u :: u :: u :: u :: u :: u :: u :: u :: u :: u :: u :: u :: u :: .one (.iv (.sl b2 6 (E lb))) :: i64 M2 :: i64 J :: u :: u :: u :: u :: u :: u :: u :: u :: u :: u :: u :: u :: u :: u :: u :: u :: u :: u :: u :: u :: u :: u :: u :: u :: u :: u :: u :: u :: u :: []), [.var false [.iv (.arr 64 vsa), .iv (.sl b 6 (E la))], .var false [.iv (.arr 64 [IV.int IntKind.i64 0, IV.int IntKind.i64 0, IV.int IntKind.i64 0, IV.int IntKind.i64 0, IV.int IntKind.i64 0, IV.int IntKind.i64 0, IV.int IntKind.i64 0, IV.int IntKind.i64 0, IV.int IntKind.i64 0, IV.int IntKind.i64 0, IV.int IntKind.i64 0, IV.int IntKind.i64 0, IV.int IntKind.i64 0, IV.int IntKind.i64 0, IV.int IntKind.i64 0, IV.int IntKind.i64 0, IV.int IntKind.i64 0, IV.int IntKind.i64 0, IV.int IntKind.i64 0, IV.int IntKind.i64 0, IV.int IntKind.i64 0, IV.int IntKind.i64 0, IV.int IntKind.i64 0, IV.int IntKind.i64 0, IV.int IntKind.i64 0, IV.int IntKind.i64 0, IV.int IntKind.i64 0, IV.int IntKind.i64 0, IV.int IntKind.i64 0, IV.int IntKind.i64 0, IV.int IntKind.i64 0, IV.int IntKind.i64 0, IV.int IntKind.i64 0, IV.int IntKind.i64 0, IV.int IntKind.i64 0, IV.int IntKind.i64 0, IV.int IntKind.i64 0, IV.int IntKind.i64 0, IV.int IntKind.i64 0, IV.int IntKind.i64 0, IV.int IntKind.i64 0, IV.int IntKind.i64 0, IV.int IntKind.i64 0, IV.int IntKind.i64 0, IV.int IntKind.i64 0, IV.int IntKind.i64 0, IV.int IntKind.i64 0, IV.int IntKind.i64 0, IV.int IntKind.i64 0, IV.int IntKind.i64 0, IV.int IntKind.i64 0, IV.int IntKind.i64 0, IV.int IntKind.i64 0, IV.int IntKind.i64 0, IV.int IntKind.i64 0, IV.int IntKind.i64 0, IV.int IntKind.i64 0, IV.int IntKind.i64 0, IV.int IntKind.i64 0, IV.int IntKind.i64 0, IV.int IntKind.i64 0, IV.int IntKind.i64 0, IV.int IntKind.i64 0, IV.int IntKind.i64 0]), .iv (.sl true 0 [])], .var false [.iv (.arr 64 vm), .slo 3 0 k], .arr false false 6 (E o)]⟩ ∧ J = i ∧ k = o.length ∧ o.length ≤ la.length + i ∧ (lb.drop i).foldl (stepJ (condJ va la)) o = R) (by omega) (by ((try (conv => lhs; cbv)); (try (with_reducible rfl)))) ⟨0, _, _, rfl, rfl, hk, by omega, hRR⟩ ?_
    rintro i hi st ⟨J, k, o, rfl, hJ, hk, hko, hgo⟩
    by_cases him : i < lb.length
    · have hd : lb.drop i = ix lb J :: lb.drop (i + 1) := by
        rw [D.ix_, hJ, Int.toNat_natCast, List.drop_eq_getElem_cons (by omega), List.getD_eq_getElem?_getD, List.getElem?_eq_getElem (by omega)]; rfl
      rw [hd, List.foldl_cons] at hgo
      have g := D.get (l := lb) (J := J) (by omega)
      have hc := (show (condJ va la) (ix lb J) = (!hasB va (ix lb J).d || decide (ix lb J ∈ la)) from rfl)
      have hl := stepJ_len (condJ va la) o (ix lb J)
      have q1 := ka (ix lb J).d.1 (ix lb J).d.2
      have q2 := ia (ix lb J)
      have q3 := fun t => io o (ix lb J) t (by omega)
      have q4 := fun t => kp o (ix lb J) t (by omega)
      have hs : stepJ (condJ va la) o (ix lb J) = if (condJ va la) (ix lb J) = true ∧ ix lb J ∉ o then putW o (ix lb J) else o := rfl
      have sgo := so o k hk
      generalize ix lb J = x at *
      obtain ⟨⟨r, n⟩, tm, doc, fi, txt⟩ := x
      dsimp only [wF] at *
      generalize hasB va (r, n) = p1 at *
      generalize decide ((⟨(r, n), tm, doc, fi, txt⟩ : Wr) ∈ la) = p2 at *
      obtain ⟨p3, hp3⟩ : ∃ p3, p3 = decide ((⟨(r, n), tm, doc, fi, txt⟩ : Wr) ∈ o) := ⟨_, rfl⟩
      rw [← hp3] at q3
      have hput : (!p1 || p2) = true → p3 = false → stepJ (condJ va la) o ⟨(r, n), tm, doc, fi, txt⟩ = putW o ⟨(r, n), tm, doc, fi, txt⟩ := fun h1 h2 => by
        rw [hs, if_pos ⟨hc.trans h1, of_decide_eq_false (hp3.symm.trans h2)⟩]
      have hno : ¬ ((!p1 || p2) = true ∧ p3 = false) → stepJ (condJ va la) o ⟨(r, n), tm, doc, fi, txt⟩ = o := fun h => by
        rw [hs, if_neg fun h' => h ⟨hc.symm.trans h'.1, hp3.trans (decide_eq_false h'.2)⟩]
      clear hs hc hp3 ka ia io kp so
      generalize putW o ⟨⟨r, n⟩, tm, doc, fi, txt⟩ = o2 at *
      obtain ⟨k2, hk2⟩ : ∃ k2, k2 = o2.length := ⟨_, rfl⟩
      rw [← hk2] at q4
      cases p1 <;> cases p2 <;> cases p3
      · rw [hput rfl rfl] at hgo
        rw [hput rfl rfl, ← hk2] at hl
        refine wpV_ofH (by ((try (conv => lhs; cbv)); (repeat ((first | (rewrite [g]) | (rewrite [q1]) | (rewrite [sgo]) | (rewrite [q3]) | (rewrite [q4]) | (rewrite [K.add]; rotate_left; focus ((try simp only [K.df, D.df, V.df, true_and, and_true]) <;> omega)) | (rewrite [K.ltT]; rotate_left; focus ((try simp only [K.df, D.df, V.df, true_and, and_true]) <;> omega))); (try (conv => lhs; cbv)))); (exact rfl))) ?_
        refine headQ_ofH (by ((try (conv => lhs; cbv)); (exact rfl))) ?_
        refine ⟨him, _, _, _, rfl, ?_, hk2, by omega, hgo⟩
        rw [K.pl_]; omega
      · rw [hno (by decide)] at hgo
        refine wpV_ofH (by ((try (conv => lhs; cbv)); (repeat ((first | (rewrite [g]) | (rewrite [q1]) | (rewrite [sgo]) | (rewrite [q3]) | (rewrite [K.add]; rotate_left; focus ((try simp only [K.df, D.df, V.df, true_and, and_true]) <;> omega)) | (rewrite [K.ltT]; rotate_left; focus ((try simp only [K.df, D.df, V.df, true_and, and_true]) <;> omega))); (try (conv => lhs; cbv)))); (exact rfl))) ?_
        refine headQ_ofH (by ((try (conv => lhs; cbv)); (exact rfl))) ?_
        refine ⟨him, _, _, _, rfl, ?_, hk, by omega, hgo⟩
        rw [K.pl_]; omega
      · rw [hput rfl rfl] at hgo
        rw [hput rfl rfl, ← hk2] at hl
        refine wpV_ofH (by ((try (conv => lhs; cbv)); (repeat ((first | (rewrite [g]) | (rewrite [q1]) | (rewrite [sgo]) | (rewrite [q3]) | (rewrite [q4]) | (rewrite [K.add]; rotate_left; focus ((try simp only [K.df, D.df, V.df, true_and, and_true]) <;> omega)) | (rewrite [K.ltT]; rotate_left; focus ((try simp only [K.df, D.df, V.df, true_and, and_true]) <;> omega))); (try (conv => lhs; cbv)))); (exact rfl))) ?_
        refine headQ_ofH (by ((try (conv => lhs; cbv)); (exact rfl))) ?_
        refine ⟨him, _, _, _, rfl, ?_, hk2, by omega, hgo⟩
        rw [K.pl_]; omega
      · rw [hno (by decide)] at hgo
        refine wpV_ofH (by ((try (conv => lhs; cbv)); (repeat ((first | (rewrite [g]) | (rewrite [q1]) | (rewrite [sgo]) | (rewrite [q3]) | (rewrite [K.add]; rotate_left; focus ((try simp only [K.df, D.df, V.df, true_and, and_true]) <;> omega)) | (rewrite [K.ltT]; rotate_left; focus ((try simp only [K.df, D.df, V.df, true_and, and_true]) <;> omega))); (try (conv => lhs; cbv)))); (exact rfl))) ?_
        refine headQ_ofH (by ((try (conv => lhs; cbv)); (exact rfl))) ?_
        refine ⟨him, _, _, _, rfl, ?_, hk, by omega, hgo⟩
        rw [K.pl_]; omega
      · rw [hno (by decide)] at hgo
        refine wpV_ofH (by ((try (conv => lhs; cbv)); (repeat ((first | (rewrite [g]) | (rewrite [q1]) | (rewrite [q2]) | (rewrite [K.add]; rotate_left; focus ((try simp only [K.df, D.df, V.df, true_and, and_true]) <;> omega)) | (rewrite [K.ltT]; rotate_left; focus ((try simp only [K.df, D.df, V.df, true_and, and_true]) <;> omega))); (try (conv => lhs; cbv)))); (exact rfl))) ?_
        refine headQ_ofH (by ((try (conv => lhs; cbv)); (exact rfl))) ?_
        refine ⟨him, _, _, _, rfl, ?_, hk, by omega, hgo⟩
        rw [K.pl_]; omega
      · rw [hno (by decide)] at hgo
        refine wpV_ofH (by ((try (conv => lhs; cbv)); (repeat ((first | (rewrite [g]) | (rewrite [q1]) | (rewrite [q2]) | (rewrite [K.add]; rotate_left; focus ((try simp only [K.df, D.df, V.df, true_and, and_true]) <;> omega)) | (rewrite [K.ltT]; rotate_left; focus ((try simp only [K.df, D.df, V.df, true_and, and_true]) <;> omega))); (try (conv => lhs; cbv)))); (exact rfl))) ?_
        refine headQ_ofH (by ((try (conv => lhs; cbv)); (exact rfl))) ?_
        refine ⟨him, _, _, _, rfl, ?_, hk, by omega, hgo⟩
        rw [K.pl_]; omega
      · rw [hput rfl rfl] at hgo
        rw [hput rfl rfl, ← hk2] at hl
        refine wpV_ofH (by ((try (conv => lhs; cbv)); (repeat ((first | (rewrite [g]) | (rewrite [q1]) | (rewrite [q2]) | (rewrite [sgo]) | (rewrite [q3]) | (rewrite [q4]) | (rewrite [K.add]; rotate_left; focus ((try simp only [K.df, D.df, V.df, true_and, and_true]) <;> omega)) | (rewrite [K.ltT]; rotate_left; focus ((try simp only [K.df, D.df, V.df, true_and, and_true]) <;> omega))); (try (conv => lhs; cbv)))); (exact rfl))) ?_
        refine headQ_ofH (by ((try (conv => lhs; cbv)); (exact rfl))) ?_
        refine ⟨him, _, _, _, rfl, ?_, hk2, by omega, hgo⟩
        rw [K.pl_]; omega
      · rw [hno (by decide)] at hgo
        refine wpV_ofH (by ((try (conv => lhs; cbv)); (repeat ((first | (rewrite [g]) | (rewrite [q1]) | (rewrite [q2]) | (rewrite [sgo]) | (rewrite [q3]) | (rewrite [K.add]; rotate_left; focus ((try simp only [K.df, D.df, V.df, true_and, and_true]) <;> omega)) | (rewrite [K.ltT]; rotate_left; focus ((try simp only [K.df, D.df, V.df, true_and, and_true]) <;> omega))); (try (conv => lhs; cbv)))); (exact rfl))) ?_
        refine headQ_ofH (by ((try (conv => lhs; cbv)); (exact rfl))) ?_
        refine ⟨him, _, _, _, rfl, ?_, hk, by omega, hgo⟩
        rw [K.pl_]; omega
    · obtain rfl : i = lb.length := by omega
      rw [List.drop_of_length_le (Nat.le_refl _), List.foldl_nil] at hgo
      subst hgo
      rw [← hk]
      clear ka ia io kp so
      refine wpV_ofH (by ((try (conv => lhs; cbv)); (repeat ((first | (rewrite [K.ltF]; rotate_left; focus ((try simp only [K.df, D.df, V.df, true_and, and_true]) <;> omega))); (try (conv => lhs; cbv)))); (exact rfl))) ?_
      show wpV _ _ _ _ _ _
      refine wpV_ofH (by ((try (conv => lhs; cbv)); (exact rfl))) ?_
      (show finV _ _ _ = some _; ((try (conv => lhs; cbv)); (try (with_reducible rfl))); (try rfl))
end Go.Proofs.Ytanpphoehajcgaa
