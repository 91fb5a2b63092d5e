/- A dictionary built of words, and all words of one: gone through. -/
import Derived.Test.YtinobfilomhhhaaSAD
set_option linter.unusedSimpArgs false
set_option linter.unusedVariables false
set_option maxRecDepth 100000
set_option maxHeartbeats 4000000
set_option cbv.maxSteps 10000000
namespace Go.Proofs.Ytinobfilomhhhaa
open Go GoV

/-! ### What comes of words, put in one by one -/
def addD (i : Nat) (w : ByteArray) (D : Dic) : Dic := if i % 4 = 0 then D ++ [(w, [])] else
  match D.getLast? with
  | some b => D.dropLast ++ [(b.1, b.2 ++ [w])]
  | none => D
def dic (ws : List ByteArray) : Nat → Dic
  | 0 => []
  | i + 1 => addD i (ws.getD i ⟨#[]⟩) (dic ws i)
theorem flat_ne {D : Dic} (h : flat D ≠ []) : ∃ D0 b, D = D0 ++ [b] := by
  rcases List.eq_nil_or_concat D with rfl | ⟨D0, b, rfl⟩
  · exact absurd rfl h
  · exact ⟨D0, b, by simp⟩
theorem flat_dic (ws : List ByteArray) : ∀ i, i ≤ ws.length → flat (dic ws i) = ws.take i
  | 0, _ => rfl
  | i + 1, h => by
    have ih := flat_dic ws i (by omega)
    have hx : ws.getD i ⟨#[]⟩ = ws[i] := by rw [List.getD_eq_getElem?_getD, List.getElem?_eq_getElem (by omega)]; rfl
    rw [List.take_succ_eq_append_getElem (by omega), ← hx]
    unfold dic addD
    by_cases h4 : i % 4 = 0
    · rw [if_pos h4, (flat_new _ _).1, ih]
    · rw [if_neg h4]
      have hne : flat (dic ws i) ≠ [] := by
        rw [ih]; intro e
        have := congrArg List.length e
        rw [List.length_take] at this
        simp only [List.length_nil] at this
        omega
      obtain ⟨D0, b, hD⟩ := flat_ne hne
      rw [hD] at ih ⊢
      rw [List.getLast?_concat, List.dropLast_concat]
      dsimp only
      rw [(flat_old D0 b.1 b.2 _).1, ← ih]
theorem flat_mem {D : Dic} {b : ByteArray × List ByteArray} (hb : b ∈ D) {w : ByteArray} (hw : w ∈ b.1 :: b.2) : w ∈ flat D := List.mem_flatMap.2 ⟨b, hb, hw⟩
theorem flat_len {D : Dic} {b : ByteArray × List ByteArray} (hb : b ∈ D) : b.2.length + 1 ≤ (flat D).length := by
  obtain ⟨s, t, rfl⟩ := List.append_of_mem hb
  simp only [flat, List.flatMap_append, List.flatMap_cons, List.length_append, List.length_cons]; omega
theorem flat_le : ∀ D : Dic, D.length ≤ (flat D).length
  | [] => Nat.le_refl _
  | b :: r => by
    have := flat_le r
    simp only [flat, List.flatMap_cons, List.length_append, List.length_cons] at *; omega
/-! ### All words -/
theorem n39 (n : Int) (H B : List ByteArray) : Pn 1 39 [.one (.ptr 0 0)] (dcB n H B false false) (i64 n) (dcB n H B false false) := by
  refine playN 0 rfl rfl fun A call hA hcall => ?_
  obtain ⟨pl, mi, ml, nt, tn, ad, sb, K⟩ := kit hA
  obtain ⟨E, ix, sn, ll, cc, sg, D⟩ := lkit hA K (⟨#[]⟩ : ByteArray) (fun s => [.str s]) 16
  dsimp only [dcB]
  generalize H.length = a at *
  generalize B.length = b at *
  generalize eT H = e1 at *
  generalize eT B = e2 at *
  refine wpV_ofH (by ((try (conv => lhs; cbv)); (exact rfl))) ?_
  (show finV _ _ _ = some _; ((try (conv => lhs; cbv)); (try (with_reducible rfl))); (try rfl))
theorem n22 (Dc : Dic) (hs : ∀ w, w ∈ flat Dc → w.size ≤ 64) (hl : (flat Dc).length ≤ 100) :
    Pn 1202 22 [.one (.ptr 0 0)] (dcB ((flat Dc).length : Nat) (heads Dc) (blks Dc) false false) (.one (.slo 3 0 (flat Dc).length)) (dcB ((flat Dc).length : Nat) (heads Dc) (blks Dc) false false ++ [.arr false false 1 (eT (flat Dc))]) := by
  refine playN 1201 rfl rfl fun A call hA hcall => ?_
  obtain ⟨pl, mi, ml, nt, tn, ad, sb, K⟩ := kit hA
  obtain ⟨E, ix, sn, ll, cc, sg, D⟩ := lkit hA K (⟨#[]⟩ : ByteArray) (fun s => [.str s]) 16
  obtain ⟨n, hn⟩ : ∃ n : Int, n = ((flat Dc).length : Nat) := ⟨_, rfl⟩
  obtain ⟨H, hH⟩ : ∃ H, H = heads Dc := ⟨_, rfl⟩
  obtain ⟨B, hB⟩ : ∃ H, H = blks Dc := ⟨_, rfl⟩
  rw [← hn, ← hH, ← hB]
  have hHl : H.length = Dc.length := by rw [hH]; simp [heads]
  have hle := flat_le Dc
  have k39 := n39 n H B 1201 (by omega)
  have kb : ∀ (i : Nat) (h : i < Dc.length), call 40 [.one (.ptr 0 0), i64 i] (dcB n H B false false) = some (.one (.slo 3 0 (Dc[i].2.length + 1)), dcB n H B false false ++ [.arr false false 1 (eT (Dc[i].1 :: Dc[i].2))]) := fun i h => by
    have hm : Dc[i] ∈ Dc := List.getElem_mem h
    rw [hcall]
    exact n40 n H B i Dc[i].1 Dc[i].2 (by rw [hH]; simp [heads, h]) (by rw [hB]; simp [blks, h]) (hs _ (flat_mem hm (by simp))) (fun w hw => hs _ (flat_mem hm (by simp [hw]))) (by have := flat_len hm; omega) 1201 (by omega)
  rw [← hcall] at k39
  dsimp only [dcB, List.cons_append, List.nil_append] at *
  obtain ⟨a, ha⟩ : ∃ a, a = H.length := ⟨_, rfl⟩
  obtain ⟨M, hM⟩ : ∃ M : Int, M = nt a := ⟨_, rfl⟩
  have hMl : M = a := by rw [hM, K.nt_]
  have ofa : A .ofN a = M := by rw [K.ofN, hM]
  rw [← ha] at k39 kb ⊢
  generalize B.length = b at *
  obtain ⟨e1, he1⟩ : ∃ e, e = eT H := ⟨_, rfl⟩
  obtain ⟨e2, he2⟩ : ∃ e, e = eT B := ⟨_, rfl⟩
  rw [← he1, ← he2] at k39 kb ⊢
  obtain ⟨ot, hot⟩ : ∃ e, e = eT (flat Dc) := ⟨_, rfl⟩
  obtain ⟨rl, hrl⟩ : ∃ e, e = (flat Dc).length := ⟨_, rfl⟩
  rw [← hot, ← hrl]
  apply wpV_seq; refine wpV_ofH (by ((try (conv => lhs; cbv)); (exact rfl))) ?_
  apply wpV_seq; refine wpV_ofH (by ((try (conv => lhs; cbv)); (exact rfl))) ?_
  by_cases h0 : n = 0
  · have hf : flat Dc = [] := List.eq_nil_of_length_eq_zero (by omega)
    have : rl = 0 := by rw [hrl, hf]; rfl
    subst this
    have : ot = [] := by rw [hot, hf]; rfl
    subst this
    subst h0
    refine wpV_ofH (by ((try (conv => lhs; cbv)); (repeat ((first | (rewrite [k39]) | (rewrite [K.eqT]; rotate_left; focus ((try simp only [K.df, D.df, true_and, and_true]) <;> omega))); (try (conv => lhs; cbv)))); (exact rfl))) ?_
    show finQ _ _ _ _ _
    (show finV _ _ _ = some _; ((try (conv => lhs; cbv)); (try (with_reducible rfl))); (try rfl))
  · apply wpV_seq; apply wpV_seq; refine wpV_ofH (by ((try (conv => lhs; cbv)); (repeat ((first | (rewrite [k39]) | (rewrite [K.eqF]; rotate_left; focus ((try simp only [K.df, D.df, true_and, and_true]) <;> omega))); (try (conv => lhs; cbv)))); (exact rfl))) ?_
    refine wpV_ofH (by ((try (conv => lhs; cbv)); (exact rfl))) ?_
    apply wpV_seq; apply wpV_seq; refine wpV_ofH (by ((try (conv => lhs; cbv)); (repeat ((first | (rewrite [ofa])); (try (conv => lhs; cbv)))); (exact rfl))) ?_
    apply wpV_block
    refine wpV_loop a (fun i st => ∃ (J : Int) (k : Nat) (ou : List (List IV)), st = ⟨3, [.one (.ptr 0 0), u, u, .one (.slo 3 0 k), u, u, u, u, u, u, u, u, u, i64 M, i64 J, u, u, u, u, u, u, u, u, u], [.var false [.iv (.int .i64 n), .slo 1 0 a, .slo 2 0 b], .arr false false 1 e1, .arr false false 1 e2, .arr false false 1 ou]⟩ ∧ J = i ∧ ou = eT (flat (Dc.take i)) ∧ k = (flat (Dc.take i)).length) (by omega) (by ((try (conv => lhs; cbv)); (try (with_reducible rfl)))) ⟨0, 0, [], rfl, rfl, rfl, rfl⟩ ?_
    rintro i hi st ⟨J, k, ou, rfl, hJ, hou, hk⟩
    by_cases him : i < a
    · have hiD : i < Dc.length := by omega
      have k40 := kb i hiD
      rw [← hJ] at k40
      have hfl : flat (Dc.take (i + 1)) = flat (Dc.take i) ++ (Dc[i].1 :: Dc[i].2) := by
        rw [List.take_succ_eq_append_getElem hiD]; unfold flat; rw [List.flatMap_append, List.flatMap_singleton]
      have hm : Dc[i] ∈ Dc := List.getElem_mem hiD
      have hfll := flat_len hm
      have hkl : k ≤ 100 := by
        have : (flat (Dc.take i)).length ≤ (flat Dc).length := by
          conv => rhs; rw [← List.take_append_drop i Dc]
          simp only [flat, List.flatMap_append, List.length_append]; omega
        omega
      obtain ⟨ys, hys⟩ : ∃ ys, ys = Dc[i].1 :: Dc[i].2 := ⟨_, rfl⟩
      have hyl : ys.length = Dc[i].2.length + 1 := by rw [hys]; rfl
      rw [← hys] at hfl k40
      obtain ⟨yl, hyl2⟩ : ∃ yl, yl = Dc[i].2.length + 1 := ⟨_, rfl⟩
      rw [← hyl2] at k40 hyl
      have sgy : A .seg (eT ys) 0 yl = eT ys := by
        rw [hA, real_seg]; unfold rSeg; rw [List.drop_zero, List.take_of_length_le (by rw [eT_len]; omega)]
      have ap : A .apo 16 0 k ou (eT ys) = some (true, eT (flat (Dc.take (i + 1)))) := by
        rw [hA, real_apo, hou, hfl]
        unfold rApo
        rw [if_pos (by rw [eT_len]; omega), if_pos ⟨by rw [eT_len]; unfold room; omega, .inl rfl⟩]
        simp [eT]
      have l2 : A .ln (eT (flat (Dc.take (i + 1)))) = (flat (Dc.take (i + 1))).length := by rw [hA, real_ln, eT_len]
      obtain ⟨ou2, hou2⟩ : ∃ e, e = eT (flat (Dc.take (i + 1))) := ⟨_, rfl⟩
      obtain ⟨k2, hk2⟩ : ∃ e, e = (flat (Dc.take (i + 1))).length := ⟨_, rfl⟩
      rw [← hou2] at ap l2
      rw [← hk2] at l2
      generalize eT ys = ey at *
      clear kb
      refine wpV_ofH (by ((try (conv => lhs; cbv)); (repeat ((first | (rewrite [k40]) | (rewrite [sgy]) | (rewrite [ap]) | (rewrite [l2]) | (rewrite [K.add]; rotate_left; focus ((try simp only [K.df, D.df, true_and, and_true]) <;> omega)) | (rewrite [K.ltT]; rotate_left; focus ((try simp only [K.df, D.df, true_and, and_true]) <;> omega))); (try (conv => lhs; cbv)))); (exact rfl))) ?_
      refine headQ_ofH (by ((try (conv => lhs; cbv)); (exact rfl))) ?_
      refine ⟨him, _, _, _, rfl, ?_, hou2, hk2⟩
      rw [K.pl_]; omega
    · obtain rfl : i = a := by omega
      rw [List.take_of_length_le (by omega), ← hot] at hou
      rw [List.take_of_length_le (by omega), ← hrl] at hk
      subst hou; subst hk
      refine wpV_ofH (by ((try (conv => lhs; cbv)); (repeat ((first | (rewrite [K.ltF]; rotate_left; focus ((try simp only [K.df, D.df, true_and, and_true]) <;> omega))); (try (conv => lhs; cbv)))); (exact rfl))) ?_
      show wpV _ _ _ _ _ _
      refine wpV_ofH (by ((try (conv => lhs; cbv)); (exact rfl))) ?_
      (show finV _ _ _ = some _; ((try (conv => lhs; cbv)); (try (with_reducible rfl))); (try rfl))
end Go.Proofs.Ytinobfilomhhhaa
