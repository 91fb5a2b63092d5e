/- The reference: the order of writes, states that may be, and states held against each other: gone through. -/
import Derived.Test.YtanpphoehajcgaaDAE
import Derived.Test.YtanpphoehajcgaaELA
import Derived.Test.YtanpphoehajcgaaCGH
import Derived.Test.YtanpphoehajcgaaCGK
import Derived.Test.YtanpphoehajcgaaCGL
import Derived.Test.YtanpphoehajcgaaCGT
set_option linter.unusedSimpArgs false
set_option linter.unusedVariables false
set_option maxRecDepth 100000
set_option maxHeartbeats 1000000
set_option cbv.maxSteps 10000000
namespace Go.Proofs.Ytanpphoehajcgaa
open Go GoV

theorem less_irr : ∀ l : List UInt8, Op.bytesLess l l = false
  | [] => rfl
  | x :: r => by simp [Op.bytesLess, less_irr r]
def aheadB (a b : Wr) : Bool := if (a.doc.toList == b.doc.toList) = false then Op.bytesLess a.doc.toList b.doc.toList else if a.f = b.f then ltD a.d b.d else decide (a.f < b.f)
theorem ahead_ord (a b : Wr) : aheadB a b = !decide (0 ≤ ordW a b) := by
  have hn := cmpN_lt a.d b.d
  unfold aheadB ordW cmpS rScmp
  simp only [orL]
  cases he : a.doc.toList == b.doc.toList with
  | true =>
    have e : a.doc.toList = b.doc.toList := by simpa using he
    rw [e, less_irr]
    simp only [Bool.false_eq_true, if_false, Bool.true_eq_false, Bool.or_true, Bool.not_true, if_true]
    rcases cmpI_cases a.f b.f with ⟨h, h1⟩ | ⟨h, h1⟩ | ⟨h, h1⟩
    · rw [h, if_neg (by omega), if_neg (by decide)]
      simp [h1]
    · rw [h, if_pos h1, if_pos rfl]
      cases hl : ltD a.d b.d with
      | true => have := hn.2 hl; split <;> simp <;> omega
      | false =>
        have : ¬ cmpN a.d b.d < 0 := fun h => by rw [hn.1 h] at hl; cases hl
        split <;> simp <;> omega
    · rw [h, if_neg (by omega), if_neg (by decide)]
      simp; omega
  | false =>
    cases hl : Op.bytesLess a.doc.toList b.doc.toList <;> simp
theorem n45 (a b : Wr) : Pn 5 45 [wF a, wF b] [] (bl (aheadB a b)) [] := by
  refine playN 4 rfl rfl fun A call hA hcall => ?_
  obtain ⟨pl, mi, ml, nt, tn, ad, sb, K⟩ := kit hA
  obtain ⟨EX, ix, sn, ll, cc, sg, X⟩ := lkit hA K zeroWr (fun w => [.int .i64 w.d.1, .int .i64 w.d.2, .int .i64 w.t, .str w.doc, .int .i64 w.f, .str w.txt]) 64
  obtain ⟨W, gx, st', V⟩ := rkit hA
  obtain ⟨zs, hzs⟩ : ∃ zs : ByteArray → Nat, ∀ s, zs s = s.size := ⟨_, fun _ => rfl⟩
  obtain ⟨⟨ar, an⟩, at', ad', af, ax⟩ := a
  obtain ⟨⟨br, bn⟩, bt', bd, bf, bx⟩ := b
  have k1 := n42 ar an br bn 4 (by omega)
  rw [← hcall] at k1
  have s1 : A .scmp .neq ad' bd = !(ad'.toList == bd.toList) := by rw [hA]; rfl
  have s2 : A .scmp .lss ad' bd = Op.bytesLess ad'.toList bd.toList := by rw [hA]; rfl
  unfold aheadB
  dsimp only [wF, dotF] at *
  generalize Op.bytesLess ad'.toList bd.toList = p at *
  generalize (ad'.toList == bd.toList) = q at *
  generalize ltD (ar, an) (br, bn) = u at *
  cases q with
  | false =>
    rw [if_pos rfl]
    rw [show (!false) = true from rfl] at s1
    refine wpV_ofH (by ((try (conv => lhs; cbv)); (repeat ((first | (rewrite [s1]) | (rewrite [s2])); (try (conv => lhs; cbv)))); (exact rfl))) ?_
    (show finV _ _ _ = some _; ((try (conv => lhs; cbv)); (try (with_reducible rfl))); (try rfl))
  | true =>
    rw [if_neg (by decide)]
    rw [show (!true) = false from rfl] at s1
    by_cases hf : af = bf
    · rw [if_pos hf]
      refine wpV_ofH (by ((try (conv => lhs; cbv)); (repeat ((first | (rewrite [s1]) | (rewrite [k1]) | (rewrite [K.ltF]; rotate_left; focus ((try simp only [K.df, X.df, V.df, hzs, true_and, and_true]) <;> omega)) | (rewrite [K.neF]; rotate_left; focus ((try simp only [K.df, X.df, V.df, hzs, true_and, and_true]) <;> omega))); (try (conv => lhs; cbv)))); (exact rfl))) ?_
      (show finV _ _ _ = some _; ((try (conv => lhs; cbv)); (try (with_reducible rfl))); (try rfl))
    · rw [if_neg hf]
      by_cases hl : af < bf
      · rw [decide_eq_true hl]
        refine wpV_ofH (by ((try (conv => lhs; cbv)); (repeat ((first | (rewrite [s1]) | (rewrite [K.ltT]; rotate_left; focus ((try simp only [K.df, X.df, V.df, hzs, true_and, and_true]) <;> omega)) | (rewrite [K.neT]; rotate_left; focus ((try simp only [K.df, X.df, V.df, hzs, true_and, and_true]) <;> omega))); (try (conv => lhs; cbv)))); (exact rfl))) ?_
        (show finV _ _ _ = some _; ((try (conv => lhs; cbv)); (try (with_reducible rfl))); (try rfl))
      · rw [decide_eq_false hl]
        refine wpV_ofH (by ((try (conv => lhs; cbv)); (repeat ((first | (rewrite [s1]) | (rewrite [K.neT]; rotate_left; focus ((try simp only [K.df, X.df, V.df, hzs, true_and, and_true]) <;> omega)) | (rewrite [K.ltF]; rotate_left; focus ((try simp only [K.df, X.df, V.df, hzs, true_and, and_true]) <;> omega))); (try (conv => lhs; cbv)))); (exact rfl))) ?_
        (show finV _ _ _ = some _; ((try (conv => lhs; cbv)); (try (with_reducible rfl))); (try rfl))
theorem n44 {v : List Int} (hv : v.length = 64) (r n : Int) : Pn 2 44 [vecF v, dotF (r, n)] [] (bl (hasB v (r, n))) [] := by
  refine playN 1 rfl rfl fun A call hA hcall => ?_
  obtain ⟨pl, mi, ml, nt, tn, ad, sb, K⟩ := kit hA
  obtain ⟨EX, ix, sn, ll, cc, sg, X⟩ := lkit hA K (0 : Int) (fun z => [.int .i64 z]) 8
  obtain ⟨W, gx, st', V⟩ := rkit hA
  obtain ⟨zs, hzs⟩ : ∃ zs : ByteArray → Nat, ∀ s, zs s = s.size := ⟨_, fun _ => rfl⟩
  have k1 := n41 r n 1 (by omega)
  rw [← hcall] at k1
  have hvW : vec v = W v := by rw [V.W_]; rfl
  dsimp only [vecF, dotF] at *
  rw [hvW]
  unfold hasB
  rcases valid_cases r n with ⟨h, h1⟩ | ⟨h, h1⟩
  · rw [h] at k1
    rw [h, Bool.false_and]
    refine wpV_ofH (by ((try (conv => lhs; cbv)); (repeat ((first | (rewrite [k1])); (try (conv => lhs; cbv)))); (exact rfl))) ?_
    (show finV _ _ _ = some _; ((try (conv => lhs; cbv)); (try (with_reducible rfl))); (try rfl))
  · rw [h] at k1
    rw [h, Bool.true_and, show v.getD (r, n).1.toNat 0 = gx v r by rw [V.gx_]]
    dsimp only
    by_cases h2 : n ≤ gx v r
    · have cl := K.geT h2
      rw [decide_eq_true h2]
      refine wpV_ofH (by ((try (conv => lhs; cbv)); (repeat ((first | (rewrite [k1]) | (rewrite [K.at_]; rotate_left; focus ((try simp only [K.df, X.df, V.df, hzs, true_and, and_true]) <;> omega)) | (rewrite [V.getc]; rotate_left; focus ((try simp only [K.df, X.df, V.df, hzs, true_and, and_true]) <;> omega))); (try (conv => lhs; cbv)))); (exact rfl))) ?_
      (show finV _ _ _ = some _; ((try (conv => lhs; cbv)); (repeat ((first | (rewrite [cl])); (try (conv => lhs; cbv)))); (try (with_reducible rfl))); (try rfl))
    · have cl := K.geF (show gx v r < n by omega)
      rw [decide_eq_false h2]
      refine wpV_ofH (by ((try (conv => lhs; cbv)); (repeat ((first | (rewrite [k1]) | (rewrite [K.at_]; rotate_left; focus ((try simp only [K.df, X.df, V.df, hzs, true_and, and_true]) <;> omega)) | (rewrite [V.getc]; rotate_left; focus ((try simp only [K.df, X.df, V.df, hzs, true_and, and_true]) <;> omega))); (try (conv => lhs; cbv)))); (exact rfl))) ?_
      (show finV _ _ _ = some _; ((try (conv => lhs; cbv)); (repeat ((first | (rewrite [cl])); (try (conv => lhs; cbv)))); (try (with_reducible rfl))); (try rfl))
/-- The reference's check of an event, for all writes of a list. -/
theorem n16s : ∀ l : List Wr, (∀ w, w ∈ l → w.doc.size ≤ 1000000000000000) → ∃ k, ∀ w, w ∈ l → Pn k 16 [evF true 0 ⟨w.d, w.t, 1, w.doc, w.f, w.txt, []⟩] [] (i64 (chk ⟨w.d, w.t, 1, w.doc, w.f, w.txt, []⟩)) []
  | [], _ => ⟨0, fun w h => by simp at h⟩
  | x :: r, h => by
    obtain ⟨k1, h1⟩ := n16 ⟨x.d, x.t, 1, x.doc, x.f, x.txt, []⟩ (h x (by simp)) (by simp)
    obtain ⟨k2, h2⟩ := n16s r fun w hw => h w (by simp [hw])
    refine ⟨k1 + k2, fun w hw n hn => ?_⟩
    rcases List.mem_cons.1 hw with rfl | hw
    · exact h1 true 0 (.inr ⟨rfl, rfl⟩) n (by omega)
    · exact h2 w hw n (by omega)
theorem n18 {v : List Int} (hv : v.length = 64) (l : List Wr) (hl : ∀ w, w ∈ l → w.doc.size ≤ 1000000000000000) : ∃ k, ∀ b z, (z = 6 ∨ z = 0 ∧ l = []) → Pn k 18 [stF b z v l] [] (bl (canB v l)) [] := by
  obtain ⟨kw, hkw⟩ := n16s l hl
  obtain ⟨N, hN⟩ : ∃ N, N = kw + l.length + 2000 := ⟨_, rfl⟩
  refine ⟨N + 1, fun b z hz => playN N rfl rfl fun A call hA hcall => ?_⟩
  obtain ⟨pl, mi, ml, nt, tn, ad, sb, K⟩ := kit hA
  obtain ⟨EX, ix, sn, ll, cc, sg, X⟩ := lkit hA K zeroWr (fun w => [.int .i64 w.d.1, .int .i64 w.d.2, .int .i64 w.t, .str w.doc, .int .i64 w.f, .str w.txt]) 64
  obtain ⟨W, gx, st', V⟩ := rkit hA
  obtain ⟨zs, hzs⟩ : ∃ zs : ByteArray → Nat, ∀ s, zs s = s.size := ⟨_, fun _ => rfl⟩
  have hvW : vec v = W v := by rw [V.W_]; rfl
  have hEX : eWs l = EX l := by rw [X.E_]; rfl
  have k43 : call 43 [vecF v] [] = some (bl (goodB v), []) := by rw [hcall]; exact n43 hv N (by omega)
  have k16 : ∀ w, w ∈ l → call 16 [evF true 0 ⟨w.d, w.t, 1, w.doc, w.f, w.txt, []⟩] [] = some (i64 (chk ⟨w.d, w.t, 1, w.doc, w.f, w.txt, []⟩), []) := fun w hw => by rw [hcall]; exact hkw w hw N (by omega)
  have k44 : ∀ r n, call 44 [vecF v, dotF (r, n)] [] = some (bl (hasB v (r, n)), []) := fun r n => by rw [hcall]; exact n44 hv r n N (by omega)
  have k45 : ∀ x y, call 45 [wF x, wF y] [] = some (bl (aheadB x y), []) := fun x y => by rw [hcall]; exact n45 x y N (by omega)
  dsimp only [stF, vecF, evF, dotF] at *
  simp only [show eDs [] = [] from rfl] at k16
  rw [hvW] at k43 k44 ⊢
  rw [hEX]
  obtain ⟨M, hM⟩ : ∃ M : Int, M = nt (ll l) := ⟨_, rfl⟩
  have hMl : M = l.length := by rw [hM, K.nt_, X.ll_]
  have ln : A .len (EX l) = M := by rw [X.len, hM]
  unfold canB
  generalize goodB v = g at *
  cases g with
  | false =>
    rw [Bool.false_and, Bool.false_and]
    refine wpV_ofH (by ((try (conv => lhs; cbv)); (repeat ((first | (rewrite [k43])); (try (conv => lhs; cbv)))); (exact rfl))) ?_
    (show finV _ _ _ = some _; ((try (conv => lhs; cbv)); (try (with_reducible rfl))); (try rfl))
  | true =>
    rw [Bool.true_and]
    by_cases h4 : l.length ≤ 4096
    · rw [decide_eq_true h4, Bool.true_and]
      generalize hR : cnGo v l l.length 0 = R
      apply wpV_seq; refine wpV_ofH (by ((try (conv => lhs; cbv)); (exact rfl))) ?_
      apply wpV_seq; apply wpV_seq; refine wpV_ofH (by ((try (conv => lhs; cbv)); (repeat ((first | (rewrite [k43]) | (rewrite [ln]) | (rewrite [K.gtF]; rotate_left; focus ((try simp only [K.df, X.df, V.df, hzs, true_and, and_true]) <;> omega))); (try (conv => lhs; cbv)))); (exact rfl))) ?_
      apply wpV_of (by rfl); show wpV _ _ _ _ _ _
      apply wpV_seq; apply wpV_seq; refine wpV_ofH (by ((try (conv => lhs; cbv)); (repeat ((first | (rewrite [ln])); (try (conv => lhs; cbv)))); (exact rfl))) ?_
      apply wpV_block
      refine wpV_loop l.length (fun i st => ∃ J : Int, st = ⟨0, (u :: .one (.ptr 0 0) :: u :: u :: u :: u :: u :: u :: u :: u :: u :: u :: u :: u :: u :: u :: u :: .one (.iv (.sl b z (EX l))) :: i64 M :: i64 J :: u :: u :: u :: u :: u :: u :: u :: u :: u :: u :: u :: u :: u :: u :: u :: u :: u :: u :: u :: u :: u :: u :: u :: u :: u :: u :: u :: u :: u :: u :: u :: u :: u :: u :: u :: u :: u :: u :: u :: u :: u :: u :: []), [.var false [.iv (.arr 64 (W v)), .iv (.sl b z (EX l))]]⟩ ∧ J = i ∧ cnGo v l (l.length - i) i = R) (by omega) (by ((try (conv => lhs; cbv)); (try (with_reducible rfl)))) ⟨0, rfl, rfl, hR⟩ ?_
      rintro i hi st ⟨J, rfl, hJ, hgo⟩
      by_cases him : i < l.length
      · obtain rfl : z = 6 := by
          rcases hz with h | ⟨h, h2⟩
          · exact h
          · rw [h2] at him; simp at him
        rw [show l.length - i = (l.length - i - 1) + 1 by omega, cnGo] at hgo
        have g1 := X.get (l := l) (J := J) (by omega)
        have hx : ix l J = l.getD i zeroWr := by rw [X.ix_, hJ]; rfl
        have hm : ix l J ∈ l := by rw [hx, List.getD_eq_getElem?_getD, List.getElem?_eq_getElem him]; exact List.getElem_mem _
        rw [← hx] at hgo
        have kw := k16 _ hm
        have kh := k44 (ix l J).d.1 (ix l J).d.2
        unfold goodW at hgo
        by_cases hi0 : i = 0
        · generalize ix l J = w at *
          obtain ⟨⟨r, n⟩, t, doc, f, txt⟩ := w
          dsimp only at *
          generalize chk _ = c at *
          generalize hasB v _ = q at *
          by_cases hc : c = 0
          · rw [decide_eq_true hc, Bool.true_and] at hgo
            cases q with
            | false =>
              rw [if_pos (.inl rfl)] at hgo
              subst hgo
              refine wpV_ofH (by ((try (conv => lhs; cbv)); (repeat ((first | (rewrite [g1]) | (rewrite [kw]) | (rewrite [kh]) | (rewrite [K.ltT]; rotate_left; focus ((try simp only [K.df, X.df, V.df, hzs, true_and, and_true]) <;> omega)) | (rewrite [K.neF]; rotate_left; focus ((try simp only [K.df, X.df, V.df, hzs, true_and, and_true]) <;> omega))); (try (conv => lhs; cbv)))); (exact rfl))) ?_
              show finQ _ _ _ _ _
              (show finV _ _ _ = some _; ((try (conv => lhs; cbv)); (try (with_reducible rfl))); (try rfl))
            | true =>
              rw [if_neg (by rintro (h | ⟨h, _⟩); cases h; omega)] at hgo
              refine wpV_ofH (by ((try (conv => lhs; cbv)); (repeat ((first | (rewrite [g1]) | (rewrite [kw]) | (rewrite [kh]) | (rewrite [K.add]; rotate_left; focus ((try simp only [K.df, X.df, V.df, hzs, true_and, and_true]) <;> omega)) | (rewrite [K.ltT]; rotate_left; focus ((try simp only [K.df, X.df, V.df, hzs, true_and, and_true]) <;> omega)) | (rewrite [K.gtF]; rotate_left; focus ((try simp only [K.df, X.df, V.df, hzs, true_and, and_true]) <;> omega)) | (rewrite [K.neF]; rotate_left; focus ((try simp only [K.df, X.df, V.df, hzs, true_and, and_true]) <;> omega))); (try (conv => lhs; cbv)))); (exact rfl))) ?_
              refine headQ_ofH (by ((try (conv => lhs; cbv)); (exact rfl))) ?_
              refine ⟨him, _, rfl, ?_, by rw [show l.length - (i + 1) = l.length - i - 1 by omega]; exact hgo⟩
              rw [K.pl_]; omega
          · rw [decide_eq_false hc, Bool.false_and, if_pos (.inl rfl)] at hgo
            subst hgo
            refine wpV_ofH (by ((try (conv => lhs; cbv)); (repeat ((first | (rewrite [g1]) | (rewrite [kw]) | (rewrite [K.ltT]; rotate_left; focus ((try simp only [K.df, X.df, V.df, hzs, true_and, and_true]) <;> omega)) | (rewrite [K.neT]; rotate_left; focus ((try simp only [K.df, X.df, V.df, hzs, true_and, and_true]) <;> omega))); (try (conv => lhs; cbv)))); (exact rfl))) ?_
            show finQ _ _ _ _ _
            (show finV _ _ _ = some _; ((try (conv => lhs; cbv)); (try (with_reducible rfl))); (try rfl))
        · have g2 := X.get (l := l) (J := mi J 1) (by rw [K.mi_]; omega)
          have hx2 : ix l (mi J 1) = l.getD (i - 1) zeroWr := by rw [X.ix_, K.mi_, show (J - 1).toNat = i - 1 by omega]
          rw [← hx2] at hgo
          have ko := k45 (ix l (mi J 1)) (ix l J)
          rw [ahead_ord] at ko
          generalize ix l (mi J 1) = w2 at *
          generalize ix l J = w at *
          generalize ordW w2 w = o at *
          obtain ⟨⟨r, n⟩, t, doc, f, txt⟩ := w
          obtain ⟨⟨r2, n2⟩, t2, doc2, f2, txt2⟩ := w2
          dsimp only [wF] at *
          generalize chk _ = c at *
          generalize hasB v _ = q at *
          by_cases hc : c = 0
          · rw [decide_eq_true hc, Bool.true_and] at hgo
            cases q with
            | false =>
              rw [if_pos (.inl rfl)] at hgo
              subst hgo
              refine wpV_ofH (by ((try (conv => lhs; cbv)); (repeat ((first | (rewrite [g1]) | (rewrite [kw]) | (rewrite [kh]) | (rewrite [K.ltT]; rotate_left; focus ((try simp only [K.df, X.df, V.df, hzs, true_and, and_true]) <;> omega)) | (rewrite [K.neF]; rotate_left; focus ((try simp only [K.df, X.df, V.df, hzs, true_and, and_true]) <;> omega))); (try (conv => lhs; cbv)))); (exact rfl))) ?_
              show finQ _ _ _ _ _
              (show finV _ _ _ = some _; ((try (conv => lhs; cbv)); (try (with_reducible rfl))); (try rfl))
            | true =>
              by_cases ho : 0 ≤ o
              · rw [if_pos (.inr ⟨by omega, ho⟩)] at hgo
                rw [decide_eq_true ho, Bool.not_true] at ko
                subst hgo
                refine wpV_ofH (by ((try (conv => lhs; cbv)); (repeat ((first | (rewrite [g1]) | (rewrite [g2]) | (rewrite [kw]) | (rewrite [kh]) | (rewrite [ko]) | (rewrite [K.sub]; rotate_left; focus ((try simp only [K.df, X.df, V.df, hzs, true_and, and_true]) <;> omega)) | (rewrite [K.ltT]; rotate_left; focus ((try simp only [K.df, X.df, V.df, hzs, true_and, and_true]) <;> omega)) | (rewrite [K.gtT]; rotate_left; focus ((try simp only [K.df, X.df, V.df, hzs, true_and, and_true]) <;> omega)) | (rewrite [K.neF]; rotate_left; focus ((try simp only [K.df, X.df, V.df, hzs, true_and, and_true]) <;> omega))); (try (conv => lhs; cbv)))); (exact rfl))) ?_
                show finQ _ _ _ _ _
                (show finV _ _ _ = some _; ((try (conv => lhs; cbv)); (try (with_reducible rfl))); (try rfl))
              · rw [if_neg (by rintro (h | ⟨_, h⟩); cases h; omega)] at hgo
                rw [decide_eq_false ho, Bool.not_false] at ko
                refine wpV_ofH (by ((try (conv => lhs; cbv)); (repeat ((first | (rewrite [g1]) | (rewrite [g2]) | (rewrite [kw]) | (rewrite [kh]) | (rewrite [ko]) | (rewrite [K.add]; rotate_left; focus ((try simp only [K.df, X.df, V.df, hzs, true_and, and_true]) <;> omega)) | (rewrite [K.sub]; rotate_left; focus ((try simp only [K.df, X.df, V.df, hzs, true_and, and_true]) <;> omega)) | (rewrite [K.ltT]; rotate_left; focus ((try simp only [K.df, X.df, V.df, hzs, true_and, and_true]) <;> omega)) | (rewrite [K.gtT]; rotate_left; focus ((try simp only [K.df, X.df, V.df, hzs, true_and, and_true]) <;> omega)) | (rewrite [K.neF]; rotate_left; focus ((try simp only [K.df, X.df, V.df, hzs, true_and, and_true]) <;> omega))); (try (conv => lhs; cbv)))); (exact rfl))) ?_
                refine headQ_ofH (by ((try (conv => lhs; cbv)); (exact rfl))) ?_
                refine ⟨him, _, rfl, ?_, by rw [show l.length - (i + 1) = l.length - i - 1 by omega]; exact hgo⟩
                rw [K.pl_]; omega
          · rw [decide_eq_false hc, Bool.false_and, if_pos (.inl rfl)] at hgo
            subst hgo
            refine wpV_ofH (by ((try (conv => lhs; cbv)); (repeat ((first | (rewrite [g1]) | (rewrite [kw]) | (rewrite [K.ltT]; rotate_left; focus ((try simp only [K.df, X.df, V.df, hzs, true_and, and_true]) <;> omega)) | (rewrite [K.neT]; rotate_left; focus ((try simp only [K.df, X.df, V.df, hzs, true_and, and_true]) <;> omega))); (try (conv => lhs; cbv)))); (exact rfl))) ?_
            show finQ _ _ _ _ _
            (show finV _ _ _ = some _; ((try (conv => lhs; cbv)); (try (with_reducible rfl))); (try rfl))
      · obtain rfl : i = l.length := by omega
        rw [Nat.sub_self, cnGo] at hgo
        subst hgo
        refine wpV_ofH (by ((try (conv => lhs; cbv)); (repeat ((first | (rewrite [K.ltF]; rotate_left; focus ((try simp only [K.df, X.df, V.df, hzs, true_and, and_true]) <;> omega))); (try (conv => lhs; cbv)))); (exact rfl))) ?_
        show wpV _ _ _ _ _ _
        refine wpV_ofH (by ((try (conv => lhs; cbv)); (exact rfl))) ?_
        (show finV _ _ _ = some _; ((try (conv => lhs; cbv)); (try (with_reducible rfl))); (try rfl))
    · rw [decide_eq_false h4, Bool.false_and]
      refine wpV_ofH (by ((try (conv => lhs; cbv)); (repeat ((first | (rewrite [k43]) | (rewrite [ln]) | (rewrite [K.gtT]; rotate_left; focus ((try simp only [K.df, X.df, V.df, hzs, true_and, and_true]) <;> omega))); (try (conv => lhs; cbv)))); (exact rfl))) ?_
      (show finV _ _ _ = some _; ((try (conv => lhs; cbv)); (try (with_reducible rfl))); (try rfl))
theorem n21 {v : List Int} (hv : v.length = 64) (l : List Wr) (t t2 : Bool) (z z2 : Nat) (hz : z = 6 ∨ z = 0 ∧ l = []) (hz2 : z2 = 6 ∨ z2 = 0 ∧ l = []) (hl : l.length ≤ 5000) :
    Pn 6003 21 [stF t z v l, stF t2 z2 v l] [] (bl true) [] := by
  refine playN 6002 rfl rfl fun A call hA hcall => ?_
  obtain ⟨pl, mi, ml, nt, tn, ad, sb, K⟩ := kit hA
  obtain ⟨EX, ix, sn, ll, cc, sg, X⟩ := lkit hA K zeroWr (fun w => [.int .i64 w.d.1, .int .i64 w.d.2, .int .i64 w.t, .str w.doc, .int .i64 w.f, .str w.txt]) 64
  obtain ⟨W, gx, st', V⟩ := rkit hA
  obtain ⟨zs, hzs⟩ : ∃ zs : ByteArray → Nat, ∀ s, zs s = s.size := ⟨_, fun _ => rfl⟩
  have hEX : eWs l = EX l := by rw [X.E_]; rfl
  have eq := eqv_vec hv hv
  rw [decide_eq_true rfl, ← hA] at eq
  dsimp only [stF] at *
  rw [hEX]
  generalize vec v = vs at *
  obtain ⟨M, hM⟩ : ∃ M : Int, M = nt (ll l) := ⟨_, rfl⟩
  have hMl : M = l.length := by rw [hM, K.nt_, X.ll_]
  have ln : A .len (EX l) = M := by rw [X.len, hM]
  apply wpV_seq; refine wpV_ofH (by ((try (conv => lhs; cbv)); (exact rfl))) ?_
  apply wpV_seq; apply wpV_seq; refine wpV_ofH (by ((try (conv => lhs; cbv)); (repeat ((first | (rewrite [eq]) | (rewrite [ln]) | (rewrite [K.neF]; rotate_left; focus ((try simp only [K.df, X.df, V.df, hzs, true_and, and_true]) <;> omega))); (try (conv => lhs; cbv)))); (exact rfl))) ?_
  apply wpV_of (by rfl); show wpV _ _ _ _ _ _
  apply wpV_seq; apply wpV_seq; refine wpV_ofH (by ((try (conv => lhs; cbv)); (repeat ((first | (rewrite [ln])); (try (conv => lhs; cbv)))); (exact rfl))) ?_
  apply wpV_block
  refine wpV_loop l.length (fun i st => ∃ J : Int, st = ⟨0, [u, u, u, .one (.ptr 0 0), u, u, u, u, u, u, u, u, u, u, u, u, u, u, u, u, u, u, .one (.iv (.sl t z (EX l))), i64 M, i64 J, u, u, u, u, u, u, u, u, u, u, u, u], [.var false [.iv (.arr 64 vs), .iv (.sl t2 z2 (EX l))]]⟩ ∧ J = i) (by omega) (by ((try (conv => lhs; cbv)); (try (with_reducible rfl)))) ⟨0, rfl, rfl⟩ ?_
  rintro i hi st ⟨J, rfl, hJ⟩
  by_cases him : i < l.length
  · obtain rfl : z = 6 := by
      rcases hz with h | ⟨h, h2⟩
      · exact h
      · rw [h2] at him; simp at him
    obtain rfl : z2 = 6 := by
      rcases hz2 with h | ⟨h, h2⟩
      · exact h
      · rw [h2] at him; simp at him
    have g1 := X.get (l := l) (J := J) (by omega)
    generalize ix l J = w at *
    obtain ⟨⟨r, n⟩, tt, doc, f, txt⟩ := w
    have eq := neqW hA r n tt doc f txt
    (conv at eq => lhs; arg 2; cbv)
    dsimp only at g1
    refine wpV_ofH (by ((try (conv => lhs; cbv)); (repeat ((first | (rewrite [g1]) | (rewrite [eq]) | (rewrite [K.add]; rotate_left; focus ((try simp only [K.df, X.df, V.df, hzs, true_and, and_true]) <;> omega)) | (rewrite [K.ltT]; rotate_left; focus ((try simp only [K.df, X.df, V.df, hzs, true_and, and_true]) <;> omega))); (try (conv => lhs; cbv)))); (exact rfl))) ?_
    refine headQ_ofH (by ((try (conv => lhs; cbv)); (exact rfl))) ?_
    refine ⟨him, _, rfl, ?_⟩
    rw [K.pl_]; omega
  · obtain rfl : i = l.length := by omega
    refine wpV_ofH (by ((try (conv => lhs; cbv)); (repeat ((first | (rewrite [K.ltF]; rotate_left; focus ((try simp only [K.df, X.df, V.df, hzs, true_and, and_true]) <;> omega))); (try (conv => lhs; cbv)))); (exact rfl))) ?_
    show wpV _ _ _ _ _ _
    refine wpV_ofH (by ((try (conv => lhs; cbv)); (exact rfl))) ?_
    (show finV _ _ _ = some _; ((try (conv => lhs; cbv)); (try (with_reducible rfl))); (try rfl))
end Go.Proofs.Ytanpphoehajcgaa
