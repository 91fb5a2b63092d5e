/- The reference: dots, texts, names and events: gone through. -/
import Derived.Test.YtanpphoehajcgaaEVF
import Derived.Test.YtanpphoehajcgaaCGH
import Derived.Test.YtanpphoehajcgaaCGK
set_option linter.unusedSimpArgs false
set_option linter.unusedVariables false
set_option maxRecDepth 100000
set_option maxHeartbeats 1000000
set_option cbv.maxSteps 10000000
namespace Go.Proofs.Ytanpphoehajcgaa
open Go GoV

/-! ### Names and texts -/
theorem sidxB {A : Ar} (hA : A = real) {s : ByteArray} {J : Int} (h : 0 ≤ J ∧ J < s.size) : A .sidx s J = some (((sbl s).getD J.toNat 0 : Nat) : Int) := by
  rw [hA, sidx_real h.1 h.2]
  congr 1
  unfold bt sbl
  rw [List.getD_eq_getElem?_getD, List.getD_eq_getElem?_getD, List.getElem?_map]
  cases s.data.toList[J.toNat]? <;> rfl
theorem n12 (s : ByteArray) (hs : s.size ≤ 1000000000000000) : Pn 14 12 [.one (.iv (.str s))] [] (bl (nameB s)) [] := by
  refine playN 13 rfl rfl fun A call hA hcall => ?_
  obtain ⟨pl, mi, ml, nt, tn, ad, sb, K⟩ := kit hA
  obtain ⟨E, ix, sn, ll, cc, sg, B⟩ := lkit hA K (0 : Nat) (fun b => [.int .u8 (nt b)]) 1
  have hsl := sbl_len s
  obtain ⟨L, hL⟩ : ∃ L : Int, L = s.size := ⟨_, rfl⟩
  have l1 : A .slen s = L := by rw [hA, real_slen, hL]
  by_cases h0 : s.size = 0
  · rw [show nameB s = false by unfold nameB; rw [decide_eq_false (by omega : ¬ 1 ≤ s.size)]; rfl]
    refine wpV_ofH (by ((try (conv => lhs; cbv)); (repeat ((first | (rewrite [l1]) | (rewrite [K.ltT]; rotate_left; focus ((try simp only [K.df, B.df, true_and, and_true]) <;> omega))); (try (conv => lhs; cbv)))); (exact rfl))) ?_
    (show finV _ _ _ = some _; ((try (conv => lhs; cbv)); (try (with_reducible rfl))); (try rfl))
  · by_cases h1 : 12 < s.size
    · rw [show nameB s = false by unfold nameB; rw [decide_eq_false (by omega : ¬ s.size ≤ 12)]; simp]
      refine wpV_ofH (by ((try (conv => lhs; cbv)); (repeat ((first | (rewrite [l1]) | (rewrite [K.gtT]; rotate_left; focus ((try simp only [K.df, B.df, true_and, and_true]) <;> omega)) | (rewrite [K.ltF]; rotate_left; focus ((try simp only [K.df, B.df, true_and, and_true]) <;> omega))); (try (conv => lhs; cbv)))); (exact rfl))) ?_
      (show finV _ _ _ = some _; ((try (conv => lhs; cbv)); (try (with_reducible rfl))); (try rfl))
    · have hnb : nameB s = (sbl s).all okc := by
        unfold nameB
        rw [decide_eq_true (by omega : 1 ≤ s.size), decide_eq_true (by omega : s.size ≤ 12)]; rfl
      have si : ∀ J : Int, 0 ≤ J ∧ J < s.size → A .sidx s J = some (nt (ix (sbl s) J)) := fun J h => by rw [sidxB hA h, B.ix_, K.nt_]
      generalize hR : nameB s = R at *
      generalize sbl s = w at *
      apply wpV_seq; refine wpV_ofH (by ((try (conv => lhs; cbv)); (exact rfl))) ?_
      apply wpV_seq; refine wpV_ofH (by ((try (conv => lhs; cbv)); (repeat ((first | (rewrite [l1]) | (rewrite [K.ltF]; rotate_left; focus ((try simp only [K.df, B.df, true_and, and_true]) <;> omega)) | (rewrite [K.gtF]; rotate_left; focus ((try simp only [K.df, B.df, true_and, and_true]) <;> omega))); (try (conv => lhs; cbv)))); (exact rfl))) ?_
      apply wpV_seq; apply wpV_seq; refine wpV_ofH (by ((try (conv => lhs; cbv)); (repeat ((first | (rewrite [l1])); (try (conv => lhs; cbv)))); (exact rfl))) ?_
      apply wpV_block
      refine wpV_loop w.length (fun i st => ∃ J : Int, st = ⟨0, (.one (.iv (.str s)) :: u :: u :: u :: u :: u :: u :: u :: u :: u :: u :: u :: u :: u :: i64 L :: i64 J :: u :: u :: u :: u :: u :: u :: u :: u :: u :: u :: u :: u :: u :: u :: u :: u :: u :: u :: u :: u :: u :: u :: u :: u :: u :: []), []⟩ ∧ J = i ∧ R = (w.drop i).all okc) (by omega) (by ((try (conv => lhs; cbv)); (try (with_reducible rfl)))) ⟨0, rfl, rfl, hnb⟩ ?_
      rintro i hi st ⟨J, rfl, hJ, hgo⟩
      by_cases him : i < w.length
      · have hd : w.drop i = ix w J :: w.drop (i + 1) := by
          rw [B.ix_, hJ, Int.toNat_natCast, List.drop_eq_getElem_cons (by omega), List.getD_eq_getElem?_getD, List.getElem?_eq_getElem (by omega)]; rfl
        rw [hd, List.all_cons] at hgo
        have hg := si J (by omega)
        generalize ix w J = b at *
        have cases : (okc b = true ∧ ((97 ≤ b ∧ b ≤ 122) ∨ (48 ≤ b ∧ b ≤ 57) ∨ b = 45)) ∨ (okc b = false ∧ ((b < 45) ∨ (45 < b ∧ b < 48) ∨ (57 < b ∧ b < 97) ∨ 122 < b)) := by
          by_cases h : 97 ≤ b ∧ b ≤ 122 ∨ 48 ≤ b ∧ b ≤ 57 ∨ b = 45
          · exact .inl ⟨decide_eq_true h, h⟩
          · exact .inr ⟨decide_eq_false h, by omega⟩
        rcases cases with ⟨h, h1 | h1 | h1⟩ | ⟨h, h1 | h1 | h1 | h1⟩
        iterate 3
          · rw [h, Bool.true_and] at hgo
            refine wpV_ofH (by ((try (conv => lhs; cbv)); (repeat ((first | (rewrite [hg]) | (rewrite [K.add]; rotate_left; focus ((try simp only [K.df, B.df, true_and, and_true]) <;> omega)) | (rewrite [K.ltT]; rotate_left; focus ((try simp only [K.df, B.df, true_and, and_true]) <;> omega)) | (rewrite [K.leT]; rotate_left; focus ((try simp only [K.df, B.df, true_and, and_true]) <;> omega)) | (rewrite [K.geT]; rotate_left; focus ((try simp only [K.df, B.df, true_and, and_true]) <;> omega)) | (rewrite [K.eqT]; rotate_left; focus ((try simp only [K.df, B.df, true_and, and_true]) <;> omega)) | (rewrite [K.geF]; rotate_left; focus ((try simp only [K.df, B.df, true_and, and_true]) <;> omega))); (try (conv => lhs; cbv)))); (exact rfl))) ?_
            refine headQ_ofH (by ((try (conv => lhs; cbv)); (exact rfl))) ?_
            refine ⟨him, _, rfl, ?_, hgo⟩
            rw [K.pl_]; omega
        all_goals
          rw [h, Bool.false_and] at hgo
          subst hgo
          refine wpV_ofH (by ((try (conv => lhs; cbv)); (repeat ((first | (rewrite [hg]) | (rewrite [K.ltT]; rotate_left; focus ((try simp only [K.df, B.df, true_and, and_true]) <;> omega)) | (rewrite [K.geT]; rotate_left; focus ((try simp only [K.df, B.df, true_and, and_true]) <;> omega)) | (rewrite [K.leF]; rotate_left; focus ((try simp only [K.df, B.df, true_and, and_true]) <;> omega)) | (rewrite [K.geF]; rotate_left; focus ((try simp only [K.df, B.df, true_and, and_true]) <;> omega)) | (rewrite [K.eqF]; rotate_left; focus ((try simp only [K.df, B.df, true_and, and_true]) <;> omega))); (try (conv => lhs; cbv)))); (exact rfl))) ?_
          show finQ _ _ _ _ _
          (show finV _ _ _ = some _; ((try (conv => lhs; cbv)); (try (with_reducible rfl))); (try rfl))
      · obtain rfl : i = w.length := by omega
        rw [List.drop_of_length_le (Nat.le_refl _), List.all_nil] at hgo
        subst hgo
        refine wpV_ofH (by ((try (conv => lhs; cbv)); (repeat ((first | (rewrite [K.ltF]; rotate_left; focus ((try simp only [K.df, B.df, true_and, and_true]) <;> omega))); (try (conv => lhs; cbv)))); (exact rfl))) ?_
        show wpV _ _ _ _ _ _
        refine wpV_ofH (by ((try (conv => lhs; cbv)); (exact rfl))) ?_
        (show finV _ _ _ = some _; ((try (conv => lhs; cbv)); (try (with_reducible rfl))); (try rfl))
theorem valGo_eq (s : ByteArray) : ∀ (a b i : Nat), s.size + 1 - i ≤ a → s.size + 1 - i ≤ b → valGo s a i = valGo s b i
  | 0, b, i, ha, hb => by
    cases b with
    | zero => rfl
    | succ b =>
      rw [valGo, valGo, if_neg (by omega)]
  | a + 1, 0, i, ha, hb => by rw [valGo, valGo, if_neg (by omega)]
  | a + 1, b + 1, i, ha, hb => by
    rw [valGo, valGo]
    by_cases h : i < s.size
    · rw [if_pos h, if_pos h]
      split
      · rfl
      · have := nxt_range s i h
        exact valGo_eq s a b _ (by omega) (by omega)
    · rw [if_neg h, if_neg h]
theorem n38 (s : ByteArray) (hs : s.size ≤ 1000) : ∃ k, Pn k 38 [.one (.iv (.str s))] [] (bl (validS s)) [] := by
  obtain ⟨kk, hk⟩ := Plays.all pr_mono (T := lookT tab) (pr := fun _ => clonePr clones) (f := 85) (vs := fun i => [.one (.iv (.str s)), i64 i]) (bs := fun _ => []) (r := fun i => (tupF (nxt s i).1 (nxt s i).2, [])) (m := s.size) (fun i hi => p85 s (by omega) i hi)
  refine ⟨kk + 1002, playN (kk + 1001) rfl rfl fun A call hA hcall => ?_⟩
  obtain ⟨pl, mi, ml, nt, tn, ad, sb, K⟩ := kit hA
  obtain ⟨E, ix, sn, ll, cc, sg, B⟩ := lkit hA K (0 : Nat) (fun b => [.int .u8 (nt b)]) 1
  have hk := hk (kk + 1001) (by omega)
  rw [← hcall] at hk
  obtain ⟨L, hL⟩ : ∃ L : Int, L = s.size := ⟨_, rfl⟩
  have l1 : A .slen s = L := by rw [hA, real_slen, hL]
  generalize hR : validS s = R
  unfold validS at hR
  apply wpV_seq; refine wpV_ofH (by ((try (conv => lhs; cbv)); (exact rfl))) ?_
  apply wpV_seq; refine wpV_ofH (by ((try (conv => lhs; cbv)); (exact rfl))) ?_
  apply wpV_seq; apply wpV_seq; refine wpV_ofH (by ((try (conv => lhs; cbv)); (repeat ((first | (rewrite [l1])); (try (conv => lhs; cbv)))); (exact rfl))) ?_
  apply wpV_block
  refine wpV_loop s.size (fun i st => ∃ (k : Nat) (Q J : Int), st = ⟨0, [.one (.iv (.str s)), u, u, i64 Q, u, u, u, u, i64 L, i64 J, u, u, u, u, u, u, u, u, u, u, u, u, u, u, u, u, u], []⟩ ∧ J = i ∧ Q = k ∧ i + k ≤ s.size ∧ valGo s (s.size + 1) (i + k) = R) (by omega) (by ((try (conv => lhs; cbv)); (try (with_reducible rfl)))) ⟨0, 0, 0, rfl, rfl, rfl, by omega, hR⟩ ?_
  rintro i hi st ⟨k, Q, J, rfl, hJ, hQ, hik, hgo⟩
  by_cases him : i < s.size
  · by_cases hk0 : 0 < k
    · refine wpV_ofH (by ((try (conv => lhs; cbv)); (repeat ((first | (rewrite [K.add]; rotate_left; focus ((try simp only [K.df, B.df, true_and, and_true]) <;> omega)) | (rewrite [K.sub]; rotate_left; focus ((try simp only [K.df, B.df, true_and, and_true]) <;> omega)) | (rewrite [K.ltT]; rotate_left; focus ((try simp only [K.df, B.df, true_and, and_true]) <;> omega)) | (rewrite [K.gtT]; rotate_left; focus ((try simp only [K.df, B.df, true_and, and_true]) <;> omega))); (try (conv => lhs; cbv)))); (exact rfl))) ?_
      refine headQ_ofH (by ((try (conv => lhs; cbv)); (exact rfl))) ?_
      refine ⟨him, k - 1, _, _, rfl, ?_, ?_, by omega, by rw [show i + 1 + (k - 1) = i + k by omega]; exact hgo⟩
      · rw [K.pl_]; omega
      · rw [K.mi_]; omega
    · have hk0 : k = 0 := by omega
      subst hk0
      simp only [Nat.add_zero] at hgo
      rw [valGo, if_pos him] at hgo
      have k1 := hk i him
      rw [← hJ] at k1
      have hr := nxt_range s i him
      dsimp only [tupF] at k1
      by_cases hn : (nxt s i).1 < 0
      · rw [if_pos hn] at hgo
        subst hgo
        generalize (nxt s i).1 = X at *
        generalize (nxt s i).2 = Y at *
        refine wpV_ofH (by ((try (conv => lhs; cbv)); (repeat ((first | (rewrite [k1]) | (rewrite [K.sub]; rotate_left; focus ((try simp only [K.df, B.df, true_and, and_true]) <;> omega)) | (rewrite [K.ltT]; rotate_left; focus ((try simp only [K.df, B.df, true_and, and_true]) <;> omega)) | (rewrite [K.gtF]; rotate_left; focus ((try simp only [K.df, B.df, true_and, and_true]) <;> omega))); (try (conv => lhs; cbv)))); (exact rfl))) ?_
        show finQ _ _ _ _ _
        (show finV _ _ _ = some _; ((try (conv => lhs; cbv)); (try (with_reducible rfl))); (try rfl))
      · rw [if_neg hn] at hgo
        rw [valGo_eq s s.size (s.size + 1) _ (by omega) (by omega)] at hgo
        generalize (nxt s i).1 = X at *
        generalize (nxt s i).2 = Y at *
        refine wpV_ofH (by ((try (conv => lhs; cbv)); (repeat ((first | (rewrite [k1]) | (rewrite [K.add]; rotate_left; focus ((try simp only [K.df, B.df, true_and, and_true]) <;> omega)) | (rewrite [K.sub]; rotate_left; focus ((try simp only [K.df, B.df, true_and, and_true]) <;> omega)) | (rewrite [K.ltT]; rotate_left; focus ((try simp only [K.df, B.df, true_and, and_true]) <;> omega)) | (rewrite [K.ltF]; rotate_left; focus ((try simp only [K.df, B.df, true_and, and_true]) <;> omega)) | (rewrite [K.gtF]; rotate_left; focus ((try simp only [K.df, B.df, true_and, and_true]) <;> omega))); (try (conv => lhs; cbv)))); (exact rfl))) ?_
        refine headQ_ofH (by ((try (conv => lhs; cbv)); (exact rfl))) ?_
        refine ⟨him, Y.toNat - 1, _, _, rfl, ?_, ?_, by omega, by rw [show i + 1 + (Y.toNat - 1) = i + Y.toNat by omega]; exact hgo⟩
        · rw [K.pl_]; omega
        · rw [K.mi_]; omega
  · obtain rfl : i = s.size := by omega
    have : k = 0 := by omega
    subst this
    simp only [Nat.add_zero] at hgo
    rw [valGo, if_neg him] at hgo
    subst hgo
    refine wpV_ofH (by ((try (conv => lhs; cbv)); (repeat ((first | (rewrite [K.ltF]; rotate_left; focus ((try simp only [K.df, B.df, true_and, and_true]) <;> omega))); (try (conv => lhs; cbv)))); (exact rfl))) ?_
    show wpV _ _ _ _ _ _
    refine wpV_ofH (by ((try (conv => lhs; cbv)); (exact rfl))) ?_
    (show finV _ _ _ = some _; ((try (conv => lhs; cbv)); (try (with_reducible rfl))); (try rfl))
theorem n14 (f : Int) (s : ByteArray) : ∃ k, Pn k 14 [i64 f, .one (.iv (.str s))] [] (i64 (textC f s)) [] := by
  obtain ⟨k, hk⟩ : ∃ k, s.size ≤ 1000 → Pn k 38 [.one (.iv (.str s))] [] (bl (validS s)) [] := by
    by_cases h : s.size ≤ 1000
    · obtain ⟨k, hk⟩ := n38 s h; exact ⟨k, fun _ => hk⟩
    · exact ⟨0, fun h' => absurd h' h⟩
  refine ⟨k + 1, playN k rfl rfl fun A call hA hcall => ?_⟩
  obtain ⟨pl, mi, ml, nt, tn, ad, sb, K⟩ := kit hA
  obtain ⟨E, ix, sn, ll, cc, sg, B⟩ := lkit hA K (0 : Nat) (fun b => [.int .u8 (nt b)]) 1
  obtain ⟨L, hL⟩ : ∃ L : Int, L = s.size := ⟨_, rfl⟩
  have l1 : A .slen s = L := by rw [hA, real_slen, hL]
  unfold textC
  by_cases h1 : f < 0
  · rw [if_pos (.inl h1)]
    refine wpV_ofH (by ((try (conv => lhs; cbv)); (repeat ((first | (rewrite [K.ltT]; rotate_left; focus ((try simp only [K.df, B.df, true_and, and_true]) <;> omega))); (try (conv => lhs; cbv)))); (exact rfl))) ?_
    (show finV _ _ _ = some _; ((try (conv => lhs; cbv)); (try (with_reducible rfl))); (try rfl))
  · by_cases h2 : 4 < f
    · rw [if_pos (.inr (.inl h2))]
      refine wpV_ofH (by ((try (conv => lhs; cbv)); (repeat ((first | (rewrite [K.gtT]; rotate_left; focus ((try simp only [K.df, B.df, true_and, and_true]) <;> omega)) | (rewrite [K.ltF]; rotate_left; focus ((try simp only [K.df, B.df, true_and, and_true]) <;> omega))); (try (conv => lhs; cbv)))); (exact rfl))) ?_
      (show finV _ _ _ = some _; ((try (conv => lhs; cbv)); (try (with_reducible rfl))); (try rfl))
    · by_cases h3 : f = 0 ∧ s.size ≠ 0
      · rw [if_pos (.inr (.inr h3))]
        refine wpV_ofH (by ((try (conv => lhs; cbv)); (repeat ((first | (rewrite [l1]) | (rewrite [K.gtT]; rotate_left; focus ((try simp only [K.df, B.df, true_and, and_true]) <;> omega)) | (rewrite [K.eqT]; rotate_left; focus ((try simp only [K.df, B.df, true_and, and_true]) <;> omega)) | (rewrite [K.ltF]; rotate_left; focus ((try simp only [K.df, B.df, true_and, and_true]) <;> omega)) | (rewrite [K.gtF]; rotate_left; focus ((try simp only [K.df, B.df, true_and, and_true]) <;> omega))); (try (conv => lhs; cbv)))); (exact rfl))) ?_
        (show finV _ _ _ = some _; ((try (conv => lhs; cbv)); (try (with_reducible rfl))); (try rfl))
      · rw [if_neg (by omega)]
        by_cases h5 : 160 < s.size
        · rw [if_pos h5]
          by_cases h6 : f = 0
          · exact absurd ⟨h6, by omega⟩ h3
          · refine wpV_ofH (by ((try (conv => lhs; cbv)); (repeat ((first | (rewrite [l1]) | (rewrite [K.gtT]; rotate_left; focus ((try simp only [K.df, B.df, true_and, and_true]) <;> omega)) | (rewrite [K.ltF]; rotate_left; focus ((try simp only [K.df, B.df, true_and, and_true]) <;> omega)) | (rewrite [K.gtF]; rotate_left; focus ((try simp only [K.df, B.df, true_and, and_true]) <;> omega)) | (rewrite [K.eqF]; rotate_left; focus ((try simp only [K.df, B.df, true_and, and_true]) <;> omega))); (try (conv => lhs; cbv)))); (exact rfl))) ?_
            (show finV _ _ _ = some _; ((try (conv => lhs; cbv)); (try (with_reducible rfl))); (try rfl))
        · rw [if_neg h5]
          have k1 := hk (by omega) k (Nat.le_refl _)
          rw [← hcall] at k1
          by_cases h6 : f = 0 <;> cases hv : validS s
          all_goals
            rw [hv] at k1
            first | rw [if_pos rfl] | rw [if_neg (by decide)]
            refine wpV_ofH (by ((try (conv => lhs; cbv)); (repeat ((first | (rewrite [l1]) | (rewrite [k1]) | (rewrite [K.eqT]; rotate_left; focus ((try simp only [K.df, B.df, true_and, and_true]) <;> omega)) | (rewrite [K.ltF]; rotate_left; focus ((try simp only [K.df, B.df, true_and, and_true]) <;> omega)) | (rewrite [K.gtF]; rotate_left; focus ((try simp only [K.df, B.df, true_and, and_true]) <;> omega)) | (rewrite [K.eqF]; rotate_left; focus ((try simp only [K.df, B.df, true_and, and_true]) <;> omega))); (try (conv => lhs; cbv)))); (exact rfl))) ?_
            (show finV _ _ _ = some _; ((try (conv => lhs; cbv)); (try (with_reducible rfl))); (try rfl))

theorem n16 (e : Ev) (hd : e.doc.size ≤ 1000000000000000) (hg : e.gone.length ≤ 1000) : ∃ k, ∀ b z, (z = 2 ∨ z = 0 ∧ e.gone = []) → Pn k 16 [evF b z e] [] (i64 (chk e)) [] := by
  obtain ⟨k, hk⟩ := n14 e.f e.txt
  refine ⟨k + 3000, fun b z hz => playN (k + 2999) rfl rfl fun A call hA hcall => ?_⟩
  obtain ⟨pl, mi, ml, nt, tn, ad, sb, K⟩ := kit hA
  obtain ⟨E, ix, sn, ll, cc, sg, D⟩ := lkit hA K ((0, 0) : Int × Int) (fun p => [.int .i64 p.1, .int .i64 p.2]) 16
  obtain ⟨⟨r, n⟩, t, kd, doc, f, txt, gone⟩ := e
  have k41 : ∀ r n, call 41 [dotF (r, n)] [] = some (bl (validB (r, n)), []) := fun r n => by rw [hcall]; exact n41 r n _ (by omega)
  have k42 : ∀ p q r s, call 42 [dotF (p, q), dotF (r, s)] [] = some (bl (ltD (p, q) (r, s)), []) := fun p q r s => by rw [hcall]; exact n42 p q r s _ (by omega)
  have k12 := n12 doc hd (k + 2999) (by omega)
  have k14 := hk (k + 2999) (by omega)
  have se := scE hA txt
  obtain ⟨q, hq⟩ : ∃ q, q = decide (txt.size = 0) := ⟨_, rfl⟩
  rw [← hq] at se
  (conv at se => lhs; arg 4; cbv)
  rw [← hcall] at k12 k14
  have hE : eDs gone = E gone := by rw [D.E_]; rfl
  obtain ⟨M, hM⟩ : ∃ M : Int, M = nt (ll gone) := ⟨_, rfl⟩
  have hMl : M = gone.length := by rw [hM, K.nt_, D.ll_]
  have ln : A .len (E gone) = M := by rw [D.len, hM]
  have kv := k41 r n
  dsimp only [evF, dotF, chk] at *
  rw [hE]
  generalize hv : validB (r, n) = v at *
  generalize hn : nameB doc = nb at *
  generalize textC f txt = tc at *
  cases v with
  | false =>
    rw [if_pos (.inl rfl)]
    refine wpV_ofH (by ((try (conv => lhs; cbv)); (repeat ((first | (rewrite [kv])); (try (conv => lhs; cbv)))); (exact rfl))) ?_
    (show finV _ _ _ = some _; ((try (conv => lhs; cbv)); (try (with_reducible rfl))); (try rfl))
  | true =>
    by_cases h1 : t < 1
    · rw [if_pos (.inr (.inl h1))]
      refine wpV_ofH (by ((try (conv => lhs; cbv)); (repeat ((first | (rewrite [kv]) | (rewrite [K.ltT]; rotate_left; focus ((try simp only [K.df, D.df, true_and, and_true]) <;> omega))); (try (conv => lhs; cbv)))); (exact rfl))) ?_
      (show finV _ _ _ = some _; ((try (conv => lhs; cbv)); (try (with_reducible rfl))); (try rfl))
    · by_cases h2 : 1099511627776 < t
      · rw [if_pos (.inr (.inr (.inl h2)))]
        refine wpV_ofH (by ((try (conv => lhs; cbv)); (repeat ((first | (rewrite [kv]) | (rewrite [K.gtT]; rotate_left; focus ((try simp only [K.df, D.df, true_and, and_true]) <;> omega)) | (rewrite [K.ltF]; rotate_left; focus ((try simp only [K.df, D.df, true_and, and_true]) <;> omega))); (try (conv => lhs; cbv)))); (exact rfl))) ?_
        (show finV _ _ _ = some _; ((try (conv => lhs; cbv)); (try (with_reducible rfl))); (try rfl))
      · cases nb with
        | false =>
          rw [if_pos (.inr (.inr (.inr (.inl rfl))))]
          refine wpV_ofH (by ((try (conv => lhs; cbv)); (repeat ((first | (rewrite [kv]) | (rewrite [k12]) | (rewrite [K.ltF]; rotate_left; focus ((try simp only [K.df, D.df, true_and, and_true]) <;> omega)) | (rewrite [K.gtF]; rotate_left; focus ((try simp only [K.df, D.df, true_and, and_true]) <;> omega))); (try (conv => lhs; cbv)))); (exact rfl))) ?_
          (show finV _ _ _ = some _; ((try (conv => lhs; cbv)); (try (with_reducible rfl))); (try rfl))
        | true =>
          by_cases h120 : gone.length ≤ 120
          · generalize hR : gGo (r, n) gone gone.length 0 = R
            have hgb : goneB (r, n) gone = R := by unfold goneB; rw [hR, decide_eq_true h120]; simp
            rw [hgb]
            apply wpV_seq; refine wpV_ofH (by ((try (conv => lhs; cbv)); (exact rfl))) ?_
            apply wpV_seq; refine wpV_ofH (by ((try (conv => lhs; cbv)); (repeat ((first | (rewrite [kv]) | (rewrite [k12]) | (rewrite [ln]) | (rewrite [K.ltF]; rotate_left; focus ((try simp only [K.df, D.df, true_and, and_true]) <;> omega)) | (rewrite [K.gtF]; rotate_left; focus ((try simp only [K.df, D.df, true_and, and_true]) <;> omega))); (try (conv => lhs; cbv)))); (exact rfl))) ?_
            apply wpV_seq; apply wpV_seq; refine wpV_ofH (by ((try (conv => lhs; cbv)); (repeat ((first | (rewrite [ln])); (try (conv => lhs; cbv)))); (exact rfl))) ?_
            apply wpV_block
            refine wpV_loop gone.length (fun i st => ∃ J : Int, st = ⟨0, (u :: .one (.ptr 0 0) :: u :: u :: u :: u :: u :: u :: u :: u :: u :: u :: u :: u :: u :: u :: u :: u :: u :: u :: u :: u :: u :: u :: u :: u :: u :: u :: u :: u :: u :: u :: .one (.iv (.sl b z (E gone))) :: i64 M :: i64 J :: u :: u :: u :: u :: u :: u :: u :: u :: u :: u :: u :: u :: u :: u :: u :: u :: u :: u :: u :: u :: u :: u :: u :: u :: u :: u :: u :: u :: u :: u :: u :: u :: u :: u :: u :: u :: u :: u :: u :: u :: u :: u :: u :: u :: u :: u :: u :: u :: u :: u :: []), [.var false [.iv (.int .i64 r), .iv (.int .i64 n), .iv (.int .i64 t), .iv (.int .i64 kd), .iv (.str doc), .iv (.int .i64 f), .iv (.str txt), .iv (.sl b z (E gone))]]⟩ ∧ J = i ∧ gGo (r, n) gone (gone.length - i) i = R) (by omega) (by ((try (conv => lhs; cbv)); (try (with_reducible rfl)))) ⟨0, rfl, rfl, hR⟩ ?_
            rintro i hi st ⟨J, rfl, hJ, hgo⟩
            by_cases him : i < gone.length
            · obtain rfl : z = 2 := by
                rcases hz with h | ⟨h, h2⟩
                · exact h
                · rw [h2] at him; simp at him
              rw [show gone.length - i = (gone.length - i - 1) + 1 by omega, gGo] at hgo
              have g1 := D.get (l := gone) (J := J) (by omega)
              have hx : ix gone J = gone.getD i (0, 0) := by rw [D.ix_, hJ]; rfl
              rw [← hx] at hgo
              generalize hdd : ix gone J = d at *
              obtain ⟨x, y⟩ := d
              have kxy := k41 x y
              have eq := eqvD hA x y r n
              (conv at eq => lhs; arg 2; cbv)
              have q1 : validB (x, y) = true ∨ validB (x, y) = false := by cases validB (x, y) <;> simp
              dsimp only [dotF] at kxy g1
              rcases q1 with q1 | q1
              · rw [q1] at kxy hgo
                by_cases q2 : (x, y) = (r, n)
                · rw [decide_eq_true q2] at eq
                  rw [if_pos (.inr (.inl q2))] at hgo
                  subst hgo
                  rw [if_pos (.inr (.inr (.inr (.inr rfl))))]
                  refine wpV_ofH (by ((try (conv => lhs; cbv)); (repeat ((first | (rewrite [g1]) | (rewrite [kxy]) | (rewrite [eq]) | (rewrite [K.ltT]; rotate_left; focus ((try simp only [K.df, D.df, true_and, and_true]) <;> omega))); (try (conv => lhs; cbv)))); (exact rfl))) ?_
                  show finQ _ _ _ _ _
                  (show finV _ _ _ = some _; ((try (conv => lhs; cbv)); (try (with_reducible rfl))); (try rfl))
                · rw [decide_eq_false q2] at eq
                  by_cases hi0 : i = 0
                  · rw [if_neg (by rintro (h | h | ⟨h, _⟩); cases h; exact q2 h; omega)] at hgo
                    refine wpV_ofH (by ((try (conv => lhs; cbv)); (repeat ((first | (rewrite [g1]) | (rewrite [kxy]) | (rewrite [eq]) | (rewrite [K.add]; rotate_left; focus ((try simp only [K.df, D.df, true_and, and_true]) <;> omega)) | (rewrite [K.ltT]; rotate_left; focus ((try simp only [K.df, D.df, true_and, and_true]) <;> omega)) | (rewrite [K.gtF]; rotate_left; focus ((try simp only [K.df, D.df, true_and, and_true]) <;> omega))); (try (conv => lhs; cbv)))); (exact rfl))) ?_
                    refine headQ_ofH (by ((try (conv => lhs; cbv)); (exact rfl))) ?_
                    refine ⟨him, _, rfl, ?_, by rw [show gone.length - (i + 1) = gone.length - i - 1 by omega]; exact hgo⟩
                    rw [K.pl_]; omega
                  · have g2 := D.get (l := gone) (J := mi J 1) (by rw [K.mi_]; omega)
                    have hx2 : ix gone (mi J 1) = gone.getD (i - 1) (0, 0) := by rw [D.ix_, K.mi_, show (J - 1).toNat = i - 1 by omega]
                    rw [← hx2] at hgo
                    generalize hd2 : ix gone (mi J 1) = d2 at *
                    obtain ⟨x2, y2⟩ := d2
                    have kc := k42 x2 y2 x y
                    have hlt := cmpN_lt (x2, y2) (x, y)
                    dsimp only [dotF] at kc g2
                    generalize hC : cmpN (x2, y2) (x, y) = C at *
                    by_cases q3 : 0 ≤ C
                    · rw [if_pos (.inr (.inr ⟨by omega, q3⟩))] at hgo
                      subst hgo
                      have : ltD (x2, y2) (x, y) = false := by
                        cases hh : ltD (x2, y2) (x, y) with
                        | false => rfl
                        | true => have := hlt.2 hh; omega
                      rw [this] at kc
                      rw [if_pos (.inr (.inr (.inr (.inr rfl))))]
                      refine wpV_ofH (by ((try (conv => lhs; cbv)); (repeat ((first | (rewrite [g1]) | (rewrite [kxy]) | (rewrite [eq]) | (rewrite [g2]) | (rewrite [kc]) | (rewrite [K.sub]; rotate_left; focus ((try simp only [K.df, D.df, true_and, and_true]) <;> omega)) | (rewrite [K.ltT]; rotate_left; focus ((try simp only [K.df, D.df, true_and, and_true]) <;> omega)) | (rewrite [K.gtT]; rotate_left; focus ((try simp only [K.df, D.df, true_and, and_true]) <;> omega))); (try (conv => lhs; cbv)))); (exact rfl))) ?_
                      show finQ _ _ _ _ _
                      (show finV _ _ _ = some _; ((try (conv => lhs; cbv)); (try (with_reducible rfl))); (try rfl))
                    · rw [if_neg (by rintro (h | h | ⟨_, h⟩); cases h; exact q2 h; exact q3 h)] at hgo
                      rw [hlt.1 (by omega)] at kc
                      refine wpV_ofH (by ((try (conv => lhs; cbv)); (repeat ((first | (rewrite [g1]) | (rewrite [kxy]) | (rewrite [eq]) | (rewrite [g2]) | (rewrite [kc]) | (rewrite [K.add]; rotate_left; focus ((try simp only [K.df, D.df, true_and, and_true]) <;> omega)) | (rewrite [K.sub]; rotate_left; focus ((try simp only [K.df, D.df, true_and, and_true]) <;> omega)) | (rewrite [K.ltT]; rotate_left; focus ((try simp only [K.df, D.df, true_and, and_true]) <;> omega)) | (rewrite [K.gtT]; rotate_left; focus ((try simp only [K.df, D.df, true_and, and_true]) <;> omega))); (try (conv => lhs; cbv)))); (exact rfl))) ?_
                      refine headQ_ofH (by ((try (conv => lhs; cbv)); (exact rfl))) ?_
                      refine ⟨him, _, rfl, ?_, by rw [show gone.length - (i + 1) = gone.length - i - 1 by omega]; exact hgo⟩
                      rw [K.pl_]; omega
              · rw [q1] at kxy hgo
                rw [if_pos (.inl rfl)] at hgo
                subst hgo
                rw [if_pos (.inr (.inr (.inr (.inr rfl))))]
                refine wpV_ofH (by ((try (conv => lhs; cbv)); (repeat ((first | (rewrite [g1]) | (rewrite [kxy]) | (rewrite [K.ltT]; rotate_left; focus ((try simp only [K.df, D.df, true_and, and_true]) <;> omega))); (try (conv => lhs; cbv)))); (exact rfl))) ?_
                show finQ _ _ _ _ _
                (show finV _ _ _ = some _; ((try (conv => lhs; cbv)); (try (with_reducible rfl))); (try rfl))
            · obtain rfl : i = gone.length := by omega
              rw [Nat.sub_self, gGo] at hgo
              subst hgo
              rw [if_neg (by rintro (h | h | h | h | h) <;> first | cases h | omega)]
              by_cases h3 : kd = 2
              · by_cases h4 : f = 0
                · cases q with
                  | true =>
                    have h5 := of_decide_eq_true hq.symm
                    rw [if_pos ⟨h3, h4, h5⟩]
                    refine wpV_ofH (by ((try (conv => lhs; cbv)); (repeat ((first | (rewrite [K.ltF]; rotate_left; focus ((try simp only [K.df, D.df, true_and, and_true]) <;> omega))); (try (conv => lhs; cbv)))); (exact rfl))) ?_
                    show wpV _ _ _ _ _ _
                    refine wpV_ofH (by ((try (conv => lhs; cbv)); (repeat ((first | (rewrite [se]) | (rewrite [K.eqT]; rotate_left; focus ((try simp only [K.df, D.df, true_and, and_true]) <;> omega))); (try (conv => lhs; cbv)))); (exact rfl))) ?_
                    (show finV _ _ _ = some _; ((try (conv => lhs; cbv)); (try (with_reducible rfl))); (try rfl))
                  | false =>
                    have h5 := of_decide_eq_false hq.symm
                    rw [if_neg (fun h => h5 h.2.2), if_pos (by omega)]
                    refine wpV_ofH (by ((try (conv => lhs; cbv)); (repeat ((first | (rewrite [K.ltF]; rotate_left; focus ((try simp only [K.df, D.df, true_and, and_true]) <;> omega))); (try (conv => lhs; cbv)))); (exact rfl))) ?_
                    show wpV _ _ _ _ _ _
                    refine wpV_ofH (by ((try (conv => lhs; cbv)); (repeat ((first | (rewrite [se]) | (rewrite [K.eqT]; rotate_left; focus ((try simp only [K.df, D.df, true_and, and_true]) <;> omega)) | (rewrite [K.neT]; rotate_left; focus ((try simp only [K.df, D.df, true_and, and_true]) <;> omega))); (try (conv => lhs; cbv)))); (exact rfl))) ?_
                    (show finV _ _ _ = some _; ((try (conv => lhs; cbv)); (try (with_reducible rfl))); (try rfl))
                · rw [if_neg (fun h => h4 h.2.1), if_pos (by omega)]
                  refine wpV_ofH (by ((try (conv => lhs; cbv)); (repeat ((first | (rewrite [K.ltF]; rotate_left; focus ((try simp only [K.df, D.df, true_and, and_true]) <;> omega))); (try (conv => lhs; cbv)))); (exact rfl))) ?_
                  show wpV _ _ _ _ _ _
                  refine wpV_ofH (by ((try (conv => lhs; cbv)); (repeat ((first | (rewrite [K.eqT]; rotate_left; focus ((try simp only [K.df, D.df, true_and, and_true]) <;> omega)) | (rewrite [K.neT]; rotate_left; focus ((try simp only [K.df, D.df, true_and, and_true]) <;> omega)) | (rewrite [K.eqF]; rotate_left; focus ((try simp only [K.df, D.df, true_and, and_true]) <;> omega))); (try (conv => lhs; cbv)))); (exact rfl))) ?_
                  (show finV _ _ _ = some _; ((try (conv => lhs; cbv)); (try (with_reducible rfl))); (try rfl))
              · rw [if_neg (fun h => h3 h.1)]
                by_cases h4 : kd = 1
                · rw [if_neg (by omega)]
                  refine wpV_ofH (by ((try (conv => lhs; cbv)); (repeat ((first | (rewrite [K.ltF]; rotate_left; focus ((try simp only [K.df, D.df, true_and, and_true]) <;> omega))); (try (conv => lhs; cbv)))); (exact rfl))) ?_
                  show wpV _ _ _ _ _ _
                  refine wpV_ofH (by ((try (conv => lhs; cbv)); (repeat ((first | (rewrite [k14]) | (rewrite [K.eqF]; rotate_left; focus ((try simp only [K.df, D.df, true_and, and_true]) <;> omega)) | (rewrite [K.neF]; rotate_left; focus ((try simp only [K.df, D.df, true_and, and_true]) <;> omega))); (try (conv => lhs; cbv)))); (exact rfl))) ?_
                  (show finV _ _ _ = some _; ((try (conv => lhs; cbv)); (try (with_reducible rfl))); (try rfl))
                · rw [if_pos h4]
                  refine wpV_ofH (by ((try (conv => lhs; cbv)); (repeat ((first | (rewrite [K.ltF]; rotate_left; focus ((try simp only [K.df, D.df, true_and, and_true]) <;> omega))); (try (conv => lhs; cbv)))); (exact rfl))) ?_
                  show wpV _ _ _ _ _ _
                  refine wpV_ofH (by ((try (conv => lhs; cbv)); (repeat ((first | (rewrite [K.neT]; rotate_left; focus ((try simp only [K.df, D.df, true_and, and_true]) <;> omega)) | (rewrite [K.eqF]; rotate_left; focus ((try simp only [K.df, D.df, true_and, and_true]) <;> omega))); (try (conv => lhs; cbv)))); (exact rfl))) ?_
                  (show finV _ _ _ = some _; ((try (conv => lhs; cbv)); (try (with_reducible rfl))); (try rfl))
          · have hgb : goneB (r, n) gone = false := by unfold goneB; rw [decide_eq_false h120]; simp
            rw [if_pos (.inr (.inr (.inr (.inr hgb))))]
            refine wpV_ofH (by ((try (conv => lhs; cbv)); (repeat ((first | (rewrite [kv]) | (rewrite [k12]) | (rewrite [ln]) | (rewrite [K.gtT]; rotate_left; focus ((try simp only [K.df, D.df, true_and, and_true]) <;> omega)) | (rewrite [K.ltF]; rotate_left; focus ((try simp only [K.df, D.df, true_and, and_true]) <;> omega)) | (rewrite [K.gtF]; rotate_left; focus ((try simp only [K.df, D.df, true_and, and_true]) <;> omega))); (try (conv => lhs; cbv)))); (exact rfl))) ?_
            (show finV _ _ _ = some _; ((try (conv => lhs; cbv)); (try (with_reducible rfl))); (try rfl))
end Go.Proofs.Ytanpphoehajcgaa
