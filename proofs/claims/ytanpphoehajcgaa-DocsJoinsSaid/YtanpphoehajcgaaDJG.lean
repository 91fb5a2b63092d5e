/- Doubles that stand side by side are taken out: gone through. -/
import Derived.Test.YtanpphoehajcgaaDJB
set_option linter.unusedSimpArgs false
set_option linter.unusedVariables false
set_option maxRecDepth 100000
set_option maxHeartbeats 4000000
set_option cbv.maxSteps 10000000
namespace Go.Proofs.Ytanpphoehajcgaa
open Go GoV

theorem cmpct_s {l : List Wr} (h : l.length < 2) : cmpct l = l := by
  match l, h with
  | [], _ => rfl
  | [x], _ => rfl
theorem n78 (l : List Wr) (hl : l.length ≤ 1000) : Pn 1100 78 [.one (.slo 0 0 l.length)] [.arr false false 6 (eWs l)] (.one (.slo 0 0 (cmpct l).length)) [.arr false false 6 (eWs (cmpct l ++ List.replicate (l.length - (cmpct l).length) zeroWr))] := by
  refine playN 1099 rfl rfl fun A call hA hcall => ?_
  obtain ⟨pl, mi, ml, nt, tn, ad, sb, K⟩ := kit hA
  obtain ⟨E, ix, sn, ll, cc, sg, D⟩ := lkit hA K zeroWr (fun w => [.int .i64 w.d.1, .int .i64 w.d.2, .int .i64 w.t, .str w.doc, .int .i64 w.f, .str w.txt]) 64
  have hE : ∀ l, eWs l = E l := fun l => by rw [D.E_]; rfl
  obtain ⟨SD, hSD⟩ : ∃ SD : List Wr → Nat → Wr → List Wr, ∀ m k x, SD m k x = m.set k x := ⟨_, fun _ _ _ => rfl⟩
  obtain ⟨N, hN⟩ : ∃ N, N = l.length := ⟨_, rfl⟩
  obtain ⟨M, hM⟩ : ∃ M : Int, M = nt N := ⟨_, rfl⟩
  have hMl : M = N := by rw [hM, K.nt_]
  have ofN : A .ofN N = M := by rw [K.ofN, hM]
  have ao : ∀ o j, addO A o j = ad o j := fun o j => by
    rw [K.ad_]
    unfold addO
    split
    · omega
    · rw [hA]; rfl
  rw [hE, hE, ← hN]
  by_cases hs : N < 2
  · rw [cmpct_s (l := l) (by omega), ← hN, Nat.sub_self, List.replicate_zero, List.append_nil]
    apply wpV_seq; refine wpV_ofH (by ((try (conv => lhs; cbv)); (exact rfl))) ?_
    refine wpV_ofH (by ((try (conv => lhs; cbv)); (repeat ((first | (rewrite [ofN]) | (rewrite [K.ltT]; rotate_left; focus ((try simp only [K.df, D.df, true_and, and_true]) <;> omega))); (try (conv => lhs; cbv)))); (exact rfl))) ?_
    show finQ _ _ _ _ _
    (show finV _ _ _ = some _; ((try (conv => lhs; cbv)); (try (with_reducible rfl))); (try rfl))
  · apply wpV_seq; refine wpV_ofH (by ((try (conv => lhs; cbv)); (exact rfl))) ?_
    apply wpV_seq; refine wpV_ofH (by ((try (conv => lhs; cbv)); (repeat ((first | (rewrite [ofN]) | (rewrite [K.ltF]; rotate_left; focus ((try simp only [K.df, D.df, true_and, and_true]) <;> omega))); (try (conv => lhs; cbv)))); (exact rfl))) ?_
    apply wpV_seq; apply wpV_seq; refine wpV_ofH (by ((try (conv => lhs; cbv)); (exact rfl))) ?_
    apply wpV_block
    refine wpV_loop (N - 1) (fun i st => ∃ J : Int, st = ⟨1, (.one (.slo 0 0 N) :: u :: u :: i64 J :: u :: u :: u :: u :: u :: u :: u :: u :: u :: u :: u :: u :: u :: u :: u :: u :: u :: u :: u :: u :: u :: u :: u :: u :: u :: u :: u :: u :: u :: u :: u :: u :: u :: u :: u :: u :: u :: u :: u :: u :: u :: u :: u :: u :: u :: u :: u :: u :: u :: u :: u :: u :: u :: u :: u :: u :: u :: []), [.arr false false 6 (E l)]⟩ ∧ J = (i + 1 : Nat) ∧ cmpct (l.take (i + 1)) = l.take (i + 1)) (by omega) (by ((try (conv => lhs; cbv)); (try (with_reducible rfl)))) ⟨1, rfl, rfl, cmpct_s (by rw [List.length_take]; omega)⟩ ?_
    rintro i hi st ⟨J, rfl, hJ, hgo⟩
    by_cases him : i < N - 1
    · have g1 := D.getN (l := l) (J := J) (by omega)
      have g2 := D.getN (l := l) (J := mi J 1) (by simp only [K.mi_]; omega)
      have hx1 : ix l J = l.getD (i + 1) zeroWr := by rw [D.ix_, hJ, Int.toNat_natCast]
      have hx2 : ix l (mi J 1) = l.getD i zeroWr := by rw [D.ix_, K.mi_, show (J - 1).toNat = i by omega]
      have ct := cmpct_take (l := l) (j := i + 1) (by omega) (by omega)
      rw [show i + 1 - 1 = i by omega, ← hx1, ← hx2] at ct
      have eq := eqWd hA (ix l J) (ix l (mi J 1))
      (conv at eq => lhs; arg 2; cbv)
      have hdx : l.take (i + 1 + 1) = l.take (i + 1) ++ [ix l J] := by
        rw [hx1, List.take_succ_eq_append_getElem (by omega), List.getD_eq_getElem?_getD, List.getElem?_eq_getElem (by omega)]; rfl
      by_cases h : ix l J = ix l (mi J 1)
      · rw [decide_eq_true h] at eq
        rw [if_pos h.symm, hgo] at ct
        clear hx1 hx2 hdx h
        generalize ix l J = x at *
        generalize ix l (mi J 1) = y at *
        obtain ⟨⟨r, n⟩, tm, doc, fi, txt⟩ := x
        obtain ⟨⟨r2, n2⟩, tm2, doc2, fi2, txt2⟩ := y
        dsimp only at g1 g2 eq
        obtain ⟨k0, hk0⟩ : ∃ k0, k0 = i + 1 := ⟨_, rfl⟩
        obtain ⟨R0, hR0⟩ : ∃ R0, R0 = N - k0 := ⟨_, rfl⟩
        rw [← hk0] at ct hJ
        have cu0 : A .cuts 0 N (A .ln (E l)) (some J) none none = some (k0, R0) := by
          rw [hA, D.E_, hJ]
          show rCuts 0 N (l.map _).length (some (k0 : Int)) none none = _
          simp [rCuts, rBound, hR0, ← hN, show k0 ≤ N by omega]
        have cu0' := cu0
        rw [D.ln] at cu0'
        obtain ⟨M0, hM0⟩ : ∃ M : Int, M = nt R0 := ⟨_, rfl⟩
        have hMl0 : M0 = R0 := by rw [hM0, K.nt_]
        have ofN0 : A .ofN R0 = M0 := by rw [K.ofN, hM0]
        apply wpV_seq; refine wpV_ofH (by ((try (conv => lhs; cbv)); (repeat ((first | (rewrite [ofN]) | (rewrite [K.ltT]; rotate_left; focus ((try simp only [K.df, D.df, true_and, and_true]) <;> omega))); (try (conv => lhs; cbv)))); (exact rfl))) ?_
        apply wpV_seq; apply wpV_block; apply wpV_seq; refine wpV_ofH (by ((try (conv => lhs; cbv)); (repeat ((first | (rewrite [g1]) | (rewrite [g2]) | (rewrite [eq]) | (rewrite [K.sub]; rotate_left; focus ((try simp only [K.df, D.df, true_and, and_true]) <;> omega)) | (rewrite [K.at_]; rotate_left; focus ((try simp only [K.df, D.df, true_and, and_true]) <;> omega))); (try (conv => lhs; cbv)))); (exact rfl))) ?_
        refine wpV_cond (t := true) rfl ?_
        apply wpV_seq; refine wpV_ofH (by ((try (conv => lhs; cbv)); (repeat ((first | (rewrite [cu0])); (try (conv => lhs; cbv)))); (exact rfl))) ?_
        apply wpV_seq; apply wpV_seq; refine wpV_ofH (by ((try (conv => lhs; cbv)); (exact rfl))) ?_
        apply wpV_block
        refine wpV_loop (R0 - 1) (fun i st => ∃ (J2 I : Int) (m : List Wr), st = ⟨1, (.one (.slo 0 0 N) :: u :: u :: i64 I :: .one (.slo 0 k0 R0) :: i64 J2 :: u :: u :: u :: u :: u :: u :: u :: u :: u :: u :: u :: u :: u :: u :: u :: u :: u :: u :: u :: u :: u :: u :: u :: u :: u :: u :: u :: u :: u :: u :: u :: u :: u :: u :: u :: u :: u :: u :: u :: u :: u :: u :: u :: u :: u :: u :: u :: u :: u :: u :: u :: u :: u :: u :: u :: []), [.arr false false 6 (E m)]⟩ ∧ J2 = (1 + i : Nat) ∧ m.length = N ∧ I = ((cmpct (l.take (k0 + 1 + i))).length : Int) ∧ m.take (cmpct (l.take (k0 + 1 + i))).length = cmpct (l.take (k0 + 1 + i)) ∧ m.drop (k0 + i) = l.drop (k0 + i) ∧ I ≤ k0 + i) (by omega) (by ((try (conv => lhs; cbv)); (try (with_reducible rfl)))) ⟨1, J, l, rfl, rfl, hN.symm, by rw [Nat.add_zero, ct, hJ, List.length_take]; omega, by rw [Nat.add_zero, ct, List.length_take, Nat.min_eq_left (by omega)], rfl, by omega⟩ ?_
        rintro i2 hi2 st ⟨J2, I, m, rfl, hJ2, hm, hI, hmt, hmd, hIJ⟩
        have hIl : (0 : Int) ≤ I := by omega
        by_cases him2 : i2 < R0 - 1
        · obtain ⟨p, hp⟩ : ∃ p, p = k0 + 1 + i2 := ⟨_, rfl⟩
          have hpN : p < l.length := by omega
          have gq : ∀ q, k0 + i2 ≤ q → q < N → ∀ J : Int, 0 ≤ J → q = k0 + J.toNat → A .getN (E m) (ad k0 (tn J)) = some [.int .i64 (l.getD q zeroWr).d.1, .int .i64 (l.getD q zeroWr).d.2, .int .i64 (l.getD q zeroWr).t, .str (l.getD q zeroWr).doc, .int .i64 (l.getD q zeroWr).f, .str (l.getD q zeroWr).txt] := fun q h1 h2 J hJ hq => by
            have e : m.getD q zeroWr = l.getD q zeroWr := by
              have := congrArg (fun z => z[q - (k0 + i2)]?) hmd
              simp only [List.getElem?_drop] at this
              rw [show k0 + i2 + (q - (k0 + i2)) = q by omega] at this
              rw [List.getD_eq_getElem?_getD, List.getD_eq_getElem?_getD, this]
            rw [← e, hA, real_getN, K.ad_, K.tn_, ← hq, D.E_, List.getElem?_map, List.getElem?_eq_getElem (by omega), List.getD_eq_getElem?_getD, List.getElem?_eq_getElem (by omega)]
            rfl
          have g1 := gq p (by omega) (by omega) J2 (by omega) (by omega)
          have g2 := gq (k0 + i2) (by omega) (by omega) (mi J2 1) (by rw [K.mi_]; omega) (by rw [K.mi_]; omega)
          have ct2 := cmpct_take (l := l) (j := p) (by omega) (by omega)
          rw [show p - 1 = k0 + i2 by omega] at ct2
          have eq := eqWd hA (l.getD p zeroWr) (l.getD (k0 + i2) zeroWr)
          (conv at eq => lhs; arg 2; cbv)
          have hdr : m.drop (k0 + (i2 + 1)) = l.drop (k0 + (i2 + 1)) := by
            have := congrArg (List.drop 1) hmd
            rw [List.drop_drop, List.drop_drop] at this
            exact this
          have ao1 := ao k0 (tn J2)
          have ao2 := ao k0 (tn (mi J2 1))
          (conv at ao1 => lhs; cbv)
          (conv at ao2 => lhs; cbv)
          have sD : ∀ x : Wr, A .set (E m) (tn I) 0 [.int .i64 x.d.1, .int .i64 x.d.2, .int .i64 x.t, .str x.doc, .int .i64 x.f, .str x.txt] = some (E (SD m (tn I) x)) := fun x => by
            have hin : I.toNat < m.length := by omega
            rw [hA, hSD, D.E_, D.E_, K.tn_, real_set]
            unfold rSet
            rw [List.getElem?_map, List.getElem?_eq_getElem hin]
            simp [plainI, List.map_set]
          have sD := sD (l.getD p zeroWr)
          rw [← hp] at hI hmt
          rw [show k0 + 1 + (i2 + 1) = p + 1 by omega]
          generalize l.getD p zeroWr = x at *
          generalize l.getD (k0 + i2) zeroWr = y at *
          have hmN : (m.length : Int) = M := by omega
          by_cases h : x = y
          · rw [decide_eq_true h] at eq
            rw [if_pos h.symm] at ct2
            clear h
            obtain ⟨⟨r, n⟩, tm, doc, fi, txt⟩ := x
            obtain ⟨⟨r2, n2⟩, tm2, doc2, fi2, txt2⟩ := y
            dsimp only at g1 g2 eq
            refine wpV_ofH (by ((try (conv => lhs; cbv)); (repeat ((first | (rewrite [ofN0]) | (rewrite [ao1]) | (rewrite [ao2]) | (rewrite [g1]) | (rewrite [g2]) | (rewrite [eq]) | (rewrite [K.add]; rotate_left; focus ((try simp only [K.df, D.df, true_and, and_true]) <;> omega)) | (rewrite [K.sub]; rotate_left; focus ((try simp only [K.df, D.df, true_and, and_true]) <;> omega)) | (rewrite [K.at_]; rotate_left; focus ((try simp only [K.df, D.df, true_and, and_true]) <;> omega)) | (rewrite [K.ltT]; rotate_left; focus ((try simp only [K.df, D.df, true_and, and_true]) <;> omega))); (try (conv => lhs; cbv)))); (exact rfl))) ?_
            refine headQ_ofH (by ((try (conv => lhs; cbv)); (exact rfl))) ?_
            refine ⟨him2, _, _, m, rfl, ?_, hm, ?_, ?_, hdr, ?_⟩
            · rw [K.pl_]; omega
            · rw [ct2]; exact hI
            · rw [ct2]; exact hmt
            · omega
          · rw [decide_eq_false h] at eq
            rw [if_neg (Ne.symm h)] at ct2
            clear h
            obtain ⟨⟨r, n⟩, tm, doc, fi, txt⟩ := x
            obtain ⟨⟨r2, n2⟩, tm2, doc2, fi2, txt2⟩ := y
            dsimp only at g1 g2 eq sD
            refine wpV_ofH (by ((try (conv => lhs; cbv)); (repeat ((first | (rewrite [ofN0]) | (rewrite [ao1]) | (rewrite [ao2]) | (rewrite [g1]) | (rewrite [g2]) | (rewrite [eq]) | (rewrite [sD]) | (rewrite [K.add]; rotate_left; focus ((try simp only [K.df, D.df, true_and, and_true]) <;> omega)) | (rewrite [K.sub]; rotate_left; focus ((try simp only [K.df, D.df, true_and, and_true]) <;> omega)) | (rewrite [K.at_]; rotate_left; focus ((try simp only [K.df, D.df, true_and, and_true]) <;> omega)) | (rewrite [K.ltT]; rotate_left; focus ((try simp only [K.df, D.df, true_and, and_true]) <;> omega))); (try (conv => lhs; cbv)))); (exact rfl))) ?_
            refine headQ_ofH (by ((try (conv => lhs; cbv)); (exact rfl))) ?_
            refine ⟨him2, _, _, _, rfl, ?_, ?_, ?_, ?_, ?_, ?_⟩
            · rw [K.pl_]; omega
            · rw [hSD, List.length_set]; exact hm
            · rw [ct2, K.pl_, List.length_append]; simp; omega
            · rw [ct2, List.length_append, hSD, K.tn_]
              have e : I.toNat = (cmpct (l.take p)).length := by omega
              rw [e, ← hmt]
              simp only [List.length_singleton, List.length_take]
              rw [Nat.min_eq_left (by omega), List.take_succ_eq_append_getElem (by rw [List.length_set]; omega), List.getElem_set_self, List.take_set_of_le (Nat.le_refl _)]
            · rw [hSD, K.tn_, List.drop_set_of_lt (by omega)]
              exact hdr
            · rw [K.pl_]; omega
        · obtain rfl : i2 = R0 - 1 := by omega
          have htl : l.take (k0 + 1 + (R0 - 1)) = l := List.take_of_length_le (by omega)
          rw [htl] at hI hmt
          obtain ⟨c, hc⟩ : ∃ c, c = (cmpct l).length := ⟨_, rfl⟩
          have hcN : c ≤ N := by rw [hc, hN]; exact cmpct_len _
          rw [← hc] at hI hmt
          obtain ⟨R, hR⟩ : ∃ R, R = N - c := ⟨_, rfl⟩
          have ov : A .over (E m) c (A .zeros [.int .i64 0, .int .i64 0, .int .i64 0, .str ⟨#[]⟩, .int .i64 0, .str ⟨#[]⟩] R) = E (cmpct l ++ List.replicate R zeroWr) := by
            rw [hA, real_over, real_zeros, D.E_, D.E_]
            unfold rOver
            rw [List.map_append, List.map_replicate, ← hmt, List.map_take]
            rw [List.length_replicate, List.drop_of_length_le (by rw [List.length_map]; omega), List.append_nil]
            rfl
          have cu1 : A .cuts 0 N (A .ln (E m)) (some I) none none = some (c, R) := by
            rw [hA, D.E_, hI]
            show rCuts 0 N (m.map _).length (some (c : Int)) none none = _
            simp [rCuts, rBound, hR, hcN, hm]
          have cu2 : A .cuts 0 N (A .ln (E (cmpct l ++ List.replicate R zeroWr))) none (some I) none = some (0, c) := by
            rw [hA, D.E_, hI]
            have hzl : (cmpct l ++ List.replicate R zeroWr).length = N := by rw [List.length_append, List.length_replicate]; omega
            show rCuts 0 N (List.map _ _).length none (some (c : Int)) none = _
            rw [List.length_map, hzl]
            simp [rCuts, rBound, hcN]
          rw [← hc, ← hR]
          generalize cmpct l ++ List.replicate R zeroWr = z at *
          refine wpV_ofH (by ((try (conv => lhs; cbv)); (repeat ((first | (rewrite [ofN0]) | (rewrite [K.ltF]; rotate_left; focus ((try simp only [K.df, D.df, true_and, and_true]) <;> omega))); (try (conv => lhs; cbv)))); (exact rfl))) ?_
          show wpV _ _ _ _ _ _
          apply wpV_seq; refine wpV_ofH (by ((try (conv => lhs; cbv)); (repeat ((first | (rewrite [cu1]) | (rewrite [ov])); (try (conv => lhs; cbv)))); (exact rfl))) ?_
          refine wpV_ofH (by ((try (conv => lhs; cbv)); (repeat ((first | (rewrite [cu2])); (try (conv => lhs; cbv)))); (exact rfl))) ?_
          (show finV _ _ _ = some _; ((try (conv => lhs; cbv)); (try (with_reducible rfl))); (try rfl))
      · rw [decide_eq_false h] at eq
        rw [if_neg (Ne.symm h), hgo, ← hdx] at ct
        clear hx1 hx2 hdx h
        generalize ix l J = x at *
        generalize ix l (mi J 1) = y at *
        obtain ⟨⟨r, n⟩, tm, doc, fi, txt⟩ := x
        obtain ⟨⟨r2, n2⟩, tm2, doc2, fi2, txt2⟩ := y
        dsimp only at g1 g2 eq
        refine wpV_ofH (by ((try (conv => lhs; cbv)); (repeat ((first | (rewrite [g1]) | (rewrite [g2]) | (rewrite [eq]) | (rewrite [K.ofN]) | (rewrite [K.add]; rotate_left; focus ((try simp only [K.df, D.df, true_and, and_true]) <;> omega)) | (rewrite [K.sub]; rotate_left; focus ((try simp only [K.df, D.df, true_and, and_true]) <;> omega)) | (rewrite [K.at_]; rotate_left; focus ((try simp only [K.df, D.df, true_and, and_true]) <;> omega)) | (rewrite [K.ltT]; rotate_left; focus ((try simp only [K.df, D.df, true_and, and_true]) <;> omega))); (try (conv => lhs; cbv)))); (exact rfl))) ?_
        refine headQ_ofH (by ((try (conv => lhs; cbv)); (exact rfl))) ?_
        refine ⟨him, _, rfl, ?_, ct⟩
        rw [K.pl_]; omega
    · obtain rfl : i = N - 1 := by omega
      have hle : cmpct l = l := by
        have e : l.take (N - 1 + 1) = l := List.take_of_length_le (by omega)
        rw [e] at hgo; exact hgo
      rw [hle, ← hN, Nat.sub_self, List.replicate_zero, List.append_nil]
      refine wpV_ofH (by ((try (conv => lhs; cbv)); (repeat ((first | (rewrite [ofN]) | (rewrite [K.ltF]; rotate_left; focus ((try simp only [K.df, D.df, true_and, and_true]) <;> omega))); (try (conv => lhs; cbv)))); (exact rfl))) ?_
      show wpV _ _ _ _ _ _
      refine wpV_ofH (by ((try (conv => lhs; cbv)); (exact rfl))) ?_
      (show finV _ _ _ = some _; ((try (conv => lhs; cbv)); (try (with_reducible rfl))); (try rfl))
end Go.Proofs.Ytanpphoehajcgaa
