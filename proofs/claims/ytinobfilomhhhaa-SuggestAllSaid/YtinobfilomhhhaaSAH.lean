/- The words of terms as a dictionary: the law. -/
import Derived.Test.YtinobfilomhhhaaSAG
set_option linter.unusedSimpArgs false
set_option linter.unusedVariables false
set_option maxRecDepth 100000
set_option maxHeartbeats 4000000
set_option cbv.maxSteps 10000000
namespace Go.Proofs.Ytinobfilomhhhaa
open Go GoV

theorem awk : ∃ k, Qn k 10 [] [] (bl true) [] := by
  have h : play real (lookT tab) prJ 200 10 [] [] = some (bl true, []) := by kernel_rfl
  exact ⟨200, fun m hm => play_mono prJ_mono hm _ _ _ _ h⟩
theorem law6 (l : List Tm) : ∃ n, play real (lookT tab) prJ n 6 [.one (.iv (.sl false 2 (eTm l)))] [] = some (bl true, []) := by
  obtain ⟨kw, hw⟩ := awk
  obtain ⟨n, hn⟩ : ∃ n, n = kw + l.length + 3000 := ⟨_, rfl⟩
  refine ⟨n + 1, playQ n rfl rfl (fun A call hA hcall => ?_) (n + 1) (Nat.le_refl _)⟩
  obtain ⟨pl, mi, ml, nt, tn, ad, sb, K⟩ := kit hA
  obtain ⟨E, ix, sn, ll, cc, sg, D⟩ := lkit hA K (⟨#[]⟩ : ByteArray) (fun s => [.str s]) 16
  obtain ⟨E2, ix2, sn2, ll2, cc2, sg2, D2⟩ := lkit hA K ((⟨#[]⟩, []) : Tm) (fun p => [.str p.1, .sl false 2 p.2]) 40
  have hE : ∀ l, eT l = E l := fun l => by rw [D.E_]; rfl
  have hE2 : eTm l = E2 l := by rw [D2.E_]; rfl
  have k10 : call 10 [] [] = some (bl true, []) := by rw [hcall]; exact hw n (by omega)
  obtain ⟨M, hM⟩ : ∃ M : Int, M = nt (ll2 l) := ⟨_, rfl⟩
  have hMl : M = l.length := by rw [hM, K.nt_, D2.ll_]
  have ln : A .len (E2 l) = M := by rw [D2.len, hM]
  have of0 : A .ofN 0 = 0 := by rw [K.ofN, K.nt_]; rfl
  have k21 := fun h1 m h2 h3 h4 => q21 l false h1 m h2 h3 h4 n (by omega)
  rw [hE2] at k21 ⊢
  obtain ⟨ea, hea⟩ : ∃ e, e = eT (l.map (·.1)) := ⟨_, rfl⟩
  apply wpV_seq; refine wpV_ofH (by ((try (conv => lhs; cbv)); (exact rfl))) ?_
  apply wpV_seq; refine wpV_ofH (by ((try (conv => lhs; cbv)); (exact rfl))) ?_
  apply wpV_seq; apply wpV_seq; refine wpV_ofH (by ((try (conv => lhs; cbv)); (repeat ((first | (rewrite [ln])); (try (conv => lhs; cbv)))); (exact rfl))) ?_
  apply wpV_block
  refine wpV_loop l.length (fun i st => ∃ (J : Int) (k : Nat) (e : List (List IV)), st = ⟨0, (.one (.iv (.sl false 2 (E2 l))) :: u :: u :: .one (.slo 0 0 k) :: u :: u :: u :: u :: u :: .one (.iv (.sl false 2 (E2 l))) :: i64 M :: i64 J :: u :: u :: u :: u :: u :: u :: u :: u :: u :: u :: u :: u :: u :: u :: u :: u :: u :: u :: u :: u :: u :: u :: u :: u :: u :: u :: u :: u :: u :: u :: u :: u :: u :: u :: u :: u :: u :: u :: u :: u :: u :: u :: u :: u :: u :: u :: u :: u :: u :: u :: u :: u :: []), [.arr false false 1 e]⟩ ∧ J = i ∧ i ≤ 41 ∧ e = eT ((l.take i).map (·.1)) ∧ k = (l.take i).length) (by omega) (by ((try (conv => lhs; cbv)); (try (with_reducible rfl)))) ⟨0, 0, [], rfl, rfl, by omega, rfl, rfl⟩ ?_
  rintro i hi st ⟨J, k, e, rfl, hJ, hi41, he, hk⟩
  have hki : k ≤ i := by rw [hk, List.length_take]; omega
  by_cases him : i < l.length
  · have gg := D2.get (l := l) (J := J) (by omega)
    have hx : ix2 l J = l[i] := by rw [D2.ix_, hJ, Int.toNat_natCast, List.getD_eq_getElem?_getD, List.getElem?_eq_getElem (by omega)]; rfl
    have ht : (l.take (i + 1)).map (·.1) = (l.take i).map (·.1) ++ [(ix2 l J).1] := by
      rw [hx, List.take_succ_eq_append_getElem (by omega), List.map_append]; rfl
    have ap := D.apo (l := (l.take i).map (·.1)) (x := (ix2 l J).1) (b := 16) (n := k) ⟨by rw [List.length_map]; exact hk, by rw [List.length_map, ← hk]; omega⟩
    rw [D.sn_, ← ht, ← hE, ← hE, ← he] at ap
    have l2 : A .ln (eT ((l.take (i + 1)).map (·.1))) = k + 1 := by
      rw [hA, real_ln, eT_len, List.length_map, List.length_take, hk, List.length_take]; omega
    obtain ⟨e3, he3⟩ : ∃ z, z = eT ((l.take (i + 1)).map (·.1)) := ⟨_, rfl⟩
    rw [← he3] at ap l2
    clear hx ht k21
    generalize ix2 l J = x at *
    obtain ⟨w, po⟩ := x
    try dsimp only at gg ap
    obtain ⟨X, hX⟩ : ∃ X : Int, X = w.size := ⟨_, rfl⟩
    have sz : A .slen w = X := by rw [hA, real_slen, hX]
    generalize hk1 : k + 1 = k1 at *
    by_cases h40 : 40 < J
    · refine wpV_ofH (by ((try (conv => lhs; cbv)); (repeat ((first | (rewrite [gg]) | (rewrite [k10]) | (rewrite [K.ltT]; rotate_left; focus ((try simp only [K.df, D.df, D2.df, true_and, and_true]) <;> omega)) | (rewrite [K.gtT]; rotate_left; focus ((try simp only [K.df, D.df, D2.df, true_and, and_true]) <;> omega))); (try (conv => lhs; cbv)))); (exact rfl))) ?_
      show finQ _ _ _ _ _
      (show finV _ _ _ = some _; ((try (conv => lhs; cbv)); (try (with_reducible rfl))); (try rfl))
    · by_cases h200 : 200 < X
      · refine wpV_ofH (by ((try (conv => lhs; cbv)); (repeat ((first | (rewrite [gg]) | (rewrite [sz]) | (rewrite [k10]) | (rewrite [K.ltT]; rotate_left; focus ((try simp only [K.df, D.df, D2.df, true_and, and_true]) <;> omega)) | (rewrite [K.gtT]; rotate_left; focus ((try simp only [K.df, D.df, D2.df, true_and, and_true]) <;> omega)) | (rewrite [K.gtF]; rotate_left; focus ((try simp only [K.df, D.df, D2.df, true_and, and_true]) <;> omega))); (try (conv => lhs; cbv)))); (exact rfl))) ?_
        show finQ _ _ _ _ _
        (show finV _ _ _ = some _; ((try (conv => lhs; cbv)); (try (with_reducible rfl))); (try rfl))
      · refine wpV_ofH (by ((try (conv => lhs; cbv)); (repeat ((first | (rewrite [gg]) | (rewrite [sz]) | (rewrite [ap]) | (rewrite [l2]) | (rewrite [K.add]; rotate_left; focus ((try simp only [K.df, D.df, D2.df, true_and, and_true]) <;> omega)) | (rewrite [K.ltT]; rotate_left; focus ((try simp only [K.df, D.df, D2.df, true_and, and_true]) <;> omega)) | (rewrite [K.gtF]; rotate_left; focus ((try simp only [K.df, D.df, D2.df, true_and, and_true]) <;> omega))); (try (conv => lhs; cbv)))); (exact rfl))) ?_
        refine headQ_ofH (by ((try (conv => lhs; cbv)); (exact rfl))) ?_
        refine ⟨him, _, _, _, rfl, ?_, by omega, he3, ?_⟩
        · rw [K.pl_]; omega
        · rw [← hk1, hk, List.length_take, List.length_take]; omega
  · obtain rfl : i = l.length := by omega
    rw [List.take_of_length_le (by omega)] at he hk
    rw [← hea] at he
    subst he
    have hwl := wordsS_len l
    have hwp := wordsS_pw l
    have hsl : (srtS (l.map (·.1))).length = l.length := by rw [srtS_len, List.length_map]
    have k19 := q19 (l.map (·.1)) false (by rw [List.length_map]; omega) n (by omega)
    have k20 := lift (n20 (srtS (l.map (·.1))) (by omega) n (by omega))
    rw [← hcall, List.length_map, ← hk, ← hea] at k19
    rw [← hcall, hsl, ← hk, show cmpct (srtS (l.map (·.1))) = wordsS l from rfl] at k20
    obtain ⟨m, hm1, hm2, hm3⟩ := first_bad (okW (wordsS l)) (wordsS l).length
    have k21 := k21 (by omega) m hm1 hm2 hm3
    rw [← hcall] at k21
    have hgood : ∀ i, i < m → goodW ((wordsS l).getD i ⟨#[]⟩) := fun i hi => (okW_iff hwp (by omega)).1 (hm2 i hi)
    have hbad : m < (wordsS l).length → ¬ goodW ((wordsS l).getD m ⟨#[]⟩) := fun h hg => hm3 h ((okW_iff hwp h).2 hg)
    have hg2 : ∀ (R : List ByteArray) (i : Nat), i < (wordsS l).length → A .getN (eT (wordsS l ++ R)) i = some [.str ((wordsS l).getD i ⟨#[]⟩)] := fun R i h => by
      rw [hA, real_getN, eT, List.getElem?_map, List.getElem?_append_left h, List.getElem?_eq_getElem h, List.getD_eq_getElem?_getD, List.getElem?_eq_getElem h]; rfl
    have sgw : ∀ R, A .seg (eT (wordsS l ++ R)) 0 (wordsS l).length = eT (wordsS l) := fun R => by
      rw [hA, real_seg]; unfold rSeg eT; rw [List.drop_zero, List.map_append, List.take_left' (by simp)]
    have sg0 := sgw []
    rw [List.append_nil] at sg0
    have sgw := sgw (List.replicate (k - (wordsS l).length) zT)
    have hg2 := hg2 (List.replicate (k - (wordsS l).length) zT)
    have k17 := fun f g => lift (n17 f g (wordsS l) (by omega) n (by omega))
    simp only [← hcall] at k17
    have k22g : (∀ w, w ∈ wordsS l → w.size ≤ 64) → call 22 [.one (.ptr 0 0)] (dcB ((wordsS l).length : Nat) (heads (dic (wordsS l) (wordsS l).length)) (blks (dic (wordsS l) (wordsS l).length)) false false) = some (.one (.slo 3 0 (wordsS l).length), dcB ((wordsS l).length : Nat) (heads (dic (wordsS l) (wordsS l).length)) (blks (dic (wordsS l) (wordsS l).length)) false false ++ [.arr false false 1 (eT (wordsS l))]) := fun h => by
      have hf := flat_dic (wordsS l) (wordsS l).length (Nat.le_refl _)
      rw [List.take_length] at hf
      have := lift (n22 (dic (wordsS l) (wordsS l).length) (by rw [hf]; exact h) (by rw [hf]; omega) n (by omega))
      rw [hf, ← hcall] at this
      exact this
    have k22b : call 22 [.one (.ptr 0 0)] (dcB 0 [] [] false false) = some (.one (.slo 3 0 0), dcB 0 [] [] false false ++ [.arr false false 1 []]) := by
      rw [hcall]
      exact lift (n22 [] (fun w hw => by simp [flat] at hw) (by simp [flat]) n (by omega))
    have hsz : (∀ i, i < m → goodW ((wordsS l).getD i ⟨#[]⟩)) → m = (wordsS l).length → ∀ w, w ∈ wordsS l → w.size ≤ 64 := fun h e w hw => by
      obtain ⟨i, hi, rfl⟩ := List.mem_iff_getElem.1 hw
      have := (h i (by omega)).2
      rwa [List.getD_eq_getElem?_getD, List.getElem?_eq_getElem hi] at this
    have k22g := fun h => k22g (hsz hgood h)
    obtain ⟨c, hc⟩ : ∃ c, c = (wordsS l).length := ⟨_, rfl⟩
    rw [← hc] at k20 k21 sgw sg0 k22g hbad hm1 hwl
    simp only [← hc] at hg2
    obtain ⟨wd, hwd⟩ : ∃ wd : Nat → ByteArray, ∀ i, wd i = (wordsS l).getD i ⟨#[]⟩ := ⟨_, fun _ => rfl⟩
    simp only [← hwd] at hg2 hgood hbad
    dsimp only [dcB, List.cons_append, List.nil_append] at k21 k22g k22b
    rw [show eT [] = [] from rfl] at k21 k22b
    simp only [List.length_nil] at k21 k22b
    obtain ⟨C, hC⟩ : ∃ x : Int, x = (c : Nat) := ⟨_, rfl⟩
    have ofc : A .ofN c = C := by rw [K.ofN, K.nt_, hC]
    rw [← hC] at k21 k22g
    generalize eT (wordsS l ++ List.replicate (k - c) zT) = ec at *
    generalize eT (wordsS l) = ew at *
    generalize eT (srtS (l.map (·.1))) = es at *
    generalize (heads (dic (wordsS l) c)).length = dl at *
    generalize (blks (dic (wordsS l) c)).length = dm at *
    generalize eT (heads (dic (wordsS l) c)) = eh at *
    generalize eT (blks (dic (wordsS l) c)) = eb at *
    clear hsz hm2 hm3 hwp
    by_cases hb : m < c
    · simp only [decide_eq_true hb, cond_true] at k21
      have hbad := hbad hb
      clear k22g k17
      refine wpV_ofH (by ((try (conv => lhs; cbv)); (repeat ((first | (rewrite [K.ltF]; rotate_left; focus ((try simp only [K.df, D.df, D2.df, true_and, and_true]) <;> omega))); (try (conv => lhs; cbv)))); (exact rfl))) ?_
      show wpV _ _ _ _ _ _
      apply wpV_seq; refine wpV_ofH (by ((try (conv => lhs; cbv)); (repeat ((first | (rewrite [k19])); (try (conv => lhs; cbv)))); (exact rfl))) ?_
      apply wpV_seq; refine wpV_ofH (by ((try (conv => lhs; cbv)); (repeat ((first | (rewrite [k20])); (try (conv => lhs; cbv)))); (exact rfl))) ?_
      apply wpV_seq; refine wpV_ofH (by ((try (conv => lhs; cbv)); (repeat ((first | (rewrite [k21]) | (rewrite [k22b])); (try (conv => lhs; cbv)))); (exact rfl))) ?_
      apply wpV_seq; apply wpV_seq; refine wpV_ofH (by ((try (conv => lhs; cbv)); (repeat ((first | (rewrite [ofc])); (try (conv => lhs; cbv)))); (exact rfl))) ?_
      apply wpV_block
      refine wpV_loop m (fun i st => ∃ (J : Int), st = ⟨0, (u :: u :: u :: .one (.slo 0 0 c) :: u :: u :: .one (.slo 1 0 0) :: u :: u :: u :: u :: u :: u :: u :: u :: u :: u :: u :: u :: u :: u :: u :: u :: u :: u :: u :: u :: u :: u :: u :: u :: u :: u :: u :: u :: u :: u :: u :: .one (.slo 0 0 c) :: i64 C :: i64 J :: u :: u :: u :: u :: u :: u :: u :: u :: u :: u :: u :: u :: u :: u :: u :: u :: u :: u :: u :: u :: u :: u :: u :: []), [.arr false false 1 ec, .arr false false 1 []]⟩ ∧ J = i) (by omega) (by ((try (conv => lhs; cbv)); (try (with_reducible rfl)))) ⟨0, rfl, rfl⟩ ?_
      rintro i hi st ⟨J, rfl, hJ⟩
      have at1 : A .at_ J c = some i := by rw [K.at_ (by omega), K.tn_]; congr 1; omega
      have g1 := hg2 i (by omega)
      have eq1 := sc_eq hA (wd i) ⟨#[]⟩
      obtain ⟨X, hX⟩ : ∃ X : Int, X = (wd i).size := ⟨_, rfl⟩
      have sz : A .slen (wd i) = X := by rw [hA, real_slen, hX]
      by_cases him : i < m
      · obtain ⟨o1, o2⟩ := hgood i him
        rw [decide_eq_false o1] at eq1
        have hX2 : X ≤ 64 := by omega
        clear hg2 hgood
        generalize wd i = x at *
        (try (conv at eq1 => lhs; cbv))
        refine wpV_ofH (by ((try (conv => lhs; cbv)); (repeat ((first | (rewrite [at1]) | (rewrite [g1]) | (rewrite [eq1]) | (rewrite [sz]) | (rewrite [K.ofN]) | (rewrite [K.add]; rotate_left; focus ((try simp only [K.df, D.df, D2.df, true_and, and_true]) <;> omega)) | (rewrite [K.ltT]; rotate_left; focus ((try simp only [K.df, D.df, D2.df, true_and, and_true]) <;> omega)) | (rewrite [K.eqT]; rotate_left; focus ((try simp only [K.df, D.df, D2.df, true_and, and_true]) <;> omega)) | (rewrite [K.gtF]; rotate_left; focus ((try simp only [K.df, D.df, D2.df, true_and, and_true]) <;> omega))); (try (conv => lhs; cbv)))); (exact rfl))) ?_
        refine headQ_ofH (by ((try (conv => lhs; cbv)); (exact rfl))) ?_
        refine ⟨him, _, rfl, ?_⟩
        rw [K.pl_]; omega
      · obtain rfl : i = m := by omega
        clear hg2 hgood
        generalize wd i = x at *
        by_cases h0 : x = ⟨#[]⟩
        · rw [decide_eq_true h0] at eq1
          clear h0 hbad
          (try (conv at eq1 => lhs; cbv))
          refine wpV_ofH (by ((try (conv => lhs; cbv)); (repeat ((first | (rewrite [at1]) | (rewrite [g1]) | (rewrite [eq1]) | (rewrite [of0]) | (rewrite [k10]) | (rewrite [K.ltT]; rotate_left; focus ((try simp only [K.df, D.df, D2.df, true_and, and_true]) <;> omega)) | (rewrite [K.eqT]; rotate_left; focus ((try simp only [K.df, D.df, D2.df, true_and, and_true]) <;> omega))); (try (conv => lhs; cbv)))); (exact rfl))) ?_
          show finQ _ _ _ _ _
          (show finV _ _ _ = some _; ((try (conv => lhs; cbv)); (try (with_reducible rfl))); (try rfl))
        · rw [decide_eq_false h0] at eq1
          have hX2 : 64 < X := by
            have : ¬ x.size ≤ 64 := fun h => hbad ⟨h0, h⟩
            omega
          clear h0 hbad
          (try (conv at eq1 => lhs; cbv))
          refine wpV_ofH (by ((try (conv => lhs; cbv)); (repeat ((first | (rewrite [at1]) | (rewrite [g1]) | (rewrite [eq1]) | (rewrite [sz]) | (rewrite [of0]) | (rewrite [k10]) | (rewrite [K.ltT]; rotate_left; focus ((try simp only [K.df, D.df, D2.df, true_and, and_true]) <;> omega)) | (rewrite [K.gtT]; rotate_left; focus ((try simp only [K.df, D.df, D2.df, true_and, and_true]) <;> omega)) | (rewrite [K.eqT]; rotate_left; focus ((try simp only [K.df, D.df, D2.df, true_and, and_true]) <;> omega))); (try (conv => lhs; cbv)))); (exact rfl))) ?_
          show finQ _ _ _ _ _
          (show finV _ _ _ = some _; ((try (conv => lhs; cbv)); (try (with_reducible rfl))); (try rfl))
    · simp only [decide_eq_false hb, cond_false] at k21
      have hmc : m = c := by omega
      have k22 := k22g hmc
      clear k22g k22b hbad
      refine wpV_ofH (by ((try (conv => lhs; cbv)); (repeat ((first | (rewrite [K.ltF]; rotate_left; focus ((try simp only [K.df, D.df, D2.df, true_and, and_true]) <;> omega))); (try (conv => lhs; cbv)))); (exact rfl))) ?_
      show wpV _ _ _ _ _ _
      apply wpV_seq; refine wpV_ofH (by ((try (conv => lhs; cbv)); (repeat ((first | (rewrite [k19])); (try (conv => lhs; cbv)))); (exact rfl))) ?_
      apply wpV_seq; refine wpV_ofH (by ((try (conv => lhs; cbv)); (repeat ((first | (rewrite [k20])); (try (conv => lhs; cbv)))); (exact rfl))) ?_
      apply wpV_seq; refine wpV_ofH (by ((try (conv => lhs; cbv)); (repeat ((first | (rewrite [k21]) | (rewrite [k22])); (try (conv => lhs; cbv)))); (exact rfl))) ?_
      apply wpV_seq; apply wpV_seq; refine wpV_ofH (by ((try (conv => lhs; cbv)); (repeat ((first | (rewrite [ofc])); (try (conv => lhs; cbv)))); (exact rfl))) ?_
      apply wpV_block
      refine wpV_loop c (fun i st => ∃ (J : Int), st = ⟨0, (u :: u :: u :: .one (.slo 0 0 c) :: u :: u :: .one (.slo 1 0 c) :: u :: u :: u :: u :: u :: u :: u :: u :: u :: u :: u :: u :: u :: u :: u :: u :: u :: u :: u :: u :: u :: u :: u :: u :: u :: u :: u :: u :: u :: u :: u :: .one (.slo 0 0 c) :: i64 C :: i64 J :: u :: u :: u :: u :: u :: u :: u :: u :: u :: u :: u :: u :: u :: u :: u :: u :: u :: u :: u :: u :: u :: u :: u :: []), [.arr false false 1 ec, .arr false false 1 ew]⟩ ∧ J = i) (by omega) (by ((try (conv => lhs; cbv)); (try (with_reducible rfl)))) ⟨0, rfl, rfl⟩ ?_
      rintro i hi st ⟨J, rfl, hJ⟩
      by_cases him : i < c
      · have at1 : A .at_ J c = some i := by rw [K.at_ (by omega), K.tn_]; congr 1; omega
        have g1 := hg2 i (by omega)
        have eq1 := sc_eq hA (wd i) ⟨#[]⟩
        obtain ⟨X, hX⟩ : ∃ X : Int, X = (wd i).size := ⟨_, rfl⟩
        have sz : A .slen (wd i) = X := by rw [hA, real_slen, hX]
        obtain ⟨o1, o2⟩ := hgood i (by omega)
        rw [decide_eq_false o1] at eq1
        have hX2 : X ≤ 64 := by omega
        clear hg2 hgood
        generalize wd i = x at *
        (try (conv at eq1 => lhs; cbv))
        refine wpV_ofH (by ((try (conv => lhs; cbv)); (repeat ((first | (rewrite [at1]) | (rewrite [g1]) | (rewrite [eq1]) | (rewrite [sz]) | (rewrite [K.ofN]) | (rewrite [K.add]; rotate_left; focus ((try simp only [K.df, D.df, D2.df, true_and, and_true]) <;> omega)) | (rewrite [K.ltT]; rotate_left; focus ((try simp only [K.df, D.df, D2.df, true_and, and_true]) <;> omega)) | (rewrite [K.gtF]; rotate_left; focus ((try simp only [K.df, D.df, D2.df, true_and, and_true]) <;> omega))); (try (conv => lhs; cbv)))); (exact rfl))) ?_
        refine headQ_ofH (by ((try (conv => lhs; cbv)); (exact rfl))) ?_
        refine ⟨him, _, rfl, ?_⟩
        rw [K.pl_]; omega
      · obtain rfl : i = c := by omega
        refine wpV_ofH (by ((try (conv => lhs; cbv)); (repeat ((first | (rewrite [K.ltF]; rotate_left; focus ((try simp only [K.df, D.df, D2.df, true_and, and_true]) <;> omega))); (try (conv => lhs; cbv)))); (exact rfl))) ?_
        show wpV _ _ _ _ _ _
        apply wpV_seq; refine wpV_ofH (by ((try (conv => lhs; cbv)); (repeat ((first | (rewrite [sg0]) | (rewrite [sgw]) | (rewrite [k17]) | (rewrite [k10])); (try (conv => lhs; cbv)))); (exact rfl))) ?_
        refine wpV_ofH (by ((try (conv => lhs; cbv)); (exact rfl))) ?_
        (show finV _ _ _ = some _; ((try (conv => lhs; cbv)); (try (with_reducible rfl))); (try rfl))
def iSh : Sh := .int .i64
def spotSh : Sh := .pair iSh (.pair (.sl iSh 8) .unit)
def postSh : Sh := .pair iSh (.pair (.sl spotSh 32) .unit)
def termSh : Sh := .pair .str (.pair (.sl postSh 32) .unit)
theorem ty_terms : ∀ {es : List (List IV)}, (∀ c, c ∈ es → TyI termSh c) → ∃ l : List Tm, es = eTm l
  | [], _ => ⟨[], rfl⟩
  | c :: r, h => by
    obtain ⟨l, rfl⟩ := ty_terms (es := r) fun c hc => h c (by simp [hc])
    obtain ⟨a1, b1, rfl, ⟨x, rfl, _⟩, ⟨a2, b2, rfl, ⟨y, rfl, _⟩, rfl⟩⟩ := h c (by simp)
    exact ⟨(x, y) :: l, rfl⟩
theorem lawS : ∀ xss, TyA [.sl termSh 40] xss → ∃ n, play real (lookT tab) prJ n 6 (argsF [.sl termSh 40] xss) [] = some (.one (.iv (.bool true)), []) := by
  intro xss h
  rcases xss with _ | ⟨a, _ | ⟨b, r⟩⟩
  · exact h.elim
  · obtain ⟨h1, _⟩ := h
    obtain ⟨es, rfl, _, he⟩ := h1
    obtain ⟨l, rfl⟩ := ty_terms he
    exact law6 l
  · exact h.2.elim
end Go.Proofs.Ytinobfilomhhhaa
