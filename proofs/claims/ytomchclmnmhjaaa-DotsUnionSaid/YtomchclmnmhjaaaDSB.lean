/- Dots that may not be are taken out: gone through. -/
import Derived.Test.YtomchclmnmhjaaaDSA
set_option linter.unusedSimpArgs false
set_option linter.unusedVariables false
set_option maxRecDepth 100000
set_option maxHeartbeats 1000000
set_option cbv.maxSteps 10000000
namespace Go.Proofs.Ytomchclmnmhjaaa
open Go GoV

theorem h84 (d : Dt) : Qn 2 84 [dotF d] [] (bl (!validB d)) [] := by
  refine playQ 1 rfl rfl fun A call hA hcall => ?_
  obtain ⟨pl, mi, ml, nt, tn, ad, sb, K⟩ := kit hA
  obtain ⟨E, ix, sn, ll, cc, sg, D⟩ := lkit hA K ((0, 0) : Int × Int) (fun p => [.int .i64 p.1, .int .i64 p.2]) 16
  have k := lift (n18 d.1 d.2) 1 (by omega)
  rw [← hcall] at k
  obtain ⟨r, n⟩ := d
  dsimp only at k ⊢
  cases hb : validB (r, n) with
  | false => rw [hb] at k; refine wpV_ofH (by ((try (conv => lhs; cbv)); (repeat ((first | (rewrite [k])); (try (conv => lhs; cbv)))); (exact rfl))) ?_; (show finV _ _ _ = some _; ((try (conv => lhs; cbv)); (try (with_reducible rfl))); (try rfl))
  | true => rw [hb] at k; refine wpV_ofH (by ((try (conv => lhs; cbv)); (repeat ((first | (rewrite [k])); (try (conv => lhs; cbv)))); (exact rfl))) ?_; (show finV _ _ _ = some _; ((try (conv => lhs; cbv)); (try (with_reducible rfl))); (try rfl))
def badIx : List Dt → Nat → Int
  | [], _ => -1
  | d :: r, i => if validB d = false then i else badIx r (i + 1)
theorem h116 (l : List Dt) (hl : l.length ≤ 1000) : Qn 1103 116 [.one (.slo 0 0 l.length), .one (.iv (.fn 84))] [.arr false false 2 (eDs l)] (i64 (badIx l 0)) [.arr false false 2 (eDs l)] := by
  refine playQ 1102 rfl rfl fun A call hA hcall => ?_
  obtain ⟨pl, mi, ml, nt, tn, ad, sb, K⟩ := kit hA
  obtain ⟨E, ix, sn, ll, cc, sg, D⟩ := lkit hA K ((0, 0) : Int × Int) (fun p => [.int .i64 p.1, .int .i64 p.2]) 16
  have hE : eDs l = E l := by rw [D.E_]; rfl
  have k84 : ∀ r n, call 84 [dotF (r, n)] [] = some (bl (!validB (r, n)), []) := fun r n => by rw [hcall]; exact h84 (r, n) 1102 (by omega)
  obtain ⟨N, hN⟩ : ∃ N, N = l.length := ⟨_, rfl⟩
  obtain ⟨M, hM⟩ : ∃ M : Int, M = nt N := ⟨_, rfl⟩
  have hMl : M = N := by rw [hM, K.nt_]
  have ofN : A .ofN N = M := by rw [K.ofN, hM]
  rw [hE, ← hN]
  generalize hR : badIx l 0 = R
  apply wpV_seq; refine wpV_ofH (by ((try (conv => lhs; cbv)); (exact rfl))) ?_
  apply wpV_seq; apply wpV_seq; refine wpV_ofH (by ((try (conv => lhs; cbv)); (repeat ((first | (rewrite [ofN])); (try (conv => lhs; cbv)))); (exact rfl))) ?_
  apply wpV_block
  refine wpV_loop N (fun i st => ∃ J : Int, st = ⟨1, [.one (.slo 0 0 N), .one (.iv (.fn 84)), u, u, u, u, u, i64 M, i64 J, u, u, u, u, u, u, u, u, u, u], [.arr false false 2 (E l)]⟩ ∧ J = i ∧ badIx (l.drop i) i = R) (by omega) (by ((try (conv => lhs; cbv)); (try (with_reducible rfl)))) ⟨0, rfl, rfl, hR⟩ ?_
  rintro i hi st ⟨J, rfl, hJ, hgo⟩
  by_cases him : i < N
  · have hd : l.drop i = ix l J :: l.drop (i + 1) := by
      rw [D.ix_, hJ, Int.toNat_natCast, List.drop_eq_getElem_cons (by omega), List.getD_eq_getElem?_getD, List.getElem?_eq_getElem (by omega)]; rfl
    rw [hd, badIx] at hgo
    have g := D.getN (l := l) (J := J) (by omega)
    generalize ix l J = d at *
    obtain ⟨r, n⟩ := d
    have k := k84 r n
    dsimp only at g k
    cases hb : validB (r, n) with
    | false =>
      rw [if_pos hb] at hgo
      rw [hb] at k
      rw [← hgo, ← hJ]
      refine wpV_ofH (by ((try (conv => lhs; cbv)); (repeat ((first | (rewrite [g]) | (rewrite [k]) | (rewrite [K.at_]; rotate_left; focus ((try simp only [K.df, D.df, true_and, and_true]) <;> omega)) | (rewrite [K.ltT]; rotate_left; focus ((try simp only [K.df, D.df, true_and, and_true]) <;> omega))); (try (conv => lhs; cbv)))); (exact rfl))) ?_
      show finQ _ _ _ _ _
      (show finV _ _ _ = some _; ((try (conv => lhs; cbv)); (try (with_reducible rfl))); (try rfl))
    | true =>
      rw [if_neg (by rw [hb]; decide)] at hgo
      rw [hb] at k
      refine wpV_ofH (by ((try (conv => lhs; cbv)); (repeat ((first | (rewrite [g]) | (rewrite [k]) | (rewrite [K.add]; rotate_left; focus ((try simp only [K.df, D.df, true_and, and_true]) <;> omega)) | (rewrite [K.at_]; rotate_left; focus ((try simp only [K.df, D.df, true_and, and_true]) <;> omega)) | (rewrite [K.ltT]; rotate_left; focus ((try simp only [K.df, D.df, true_and, and_true]) <;> omega))); (try (conv => lhs; cbv)))); (exact rfl))) ?_
      refine headQ_ofH (by ((try (conv => lhs; cbv)); (exact rfl))) ?_
      refine ⟨him, _, rfl, ?_, hgo⟩
      rw [K.pl_]; omega
  · obtain rfl : i = N := by omega
    rw [List.drop_of_length_le (by omega), badIx] at hgo
    rw [← hgo]
    refine wpV_ofH (by ((try (conv => lhs; cbv)); (repeat ((first | (rewrite [K.ltF]; rotate_left; focus ((try simp only [K.df, D.df, true_and, and_true]) <;> omega))); (try (conv => lhs; cbv)))); (exact rfl))) ?_
    show wpV _ _ _ _ _ _
    refine wpV_ofH (by ((try (conv => lhs; cbv)); (exact rfl))) ?_
    (show finV _ _ _ = some _; ((try (conv => lhs; cbv)); (try (with_reducible rfl))); (try rfl))
theorem badIx_spec : ∀ (l : List Dt) (i : Nat), (badIx l i = -1 ∧ ∀ d, d ∈ l → validB d = true) ∨ ∃ k, k < l.length ∧ badIx l i = (i + k : Nat) ∧ (∀ d, d ∈ l.take k → validB d = true) ∧ validB (l.getD k (0, 0)) = false
  | [], i => .inl ⟨rfl, by simp⟩
  | d :: r, i => by
    unfold badIx
    cases hd : validB d with
    | false =>
      rw [if_pos rfl]
      exact .inr ⟨0, by simp, by simp, by simp, by simpa using hd⟩
    | true =>
      rw [if_neg (by decide)]
      rcases badIx_spec r (i + 1) with ⟨h1, h2⟩ | ⟨k, h1, h2, h3, h4⟩
      · refine .inl ⟨h1, fun x hx => ?_⟩
        rcases List.mem_cons.1 hx with rfl | hx
        · exact hd
        · exact h2 x hx
      · refine .inr ⟨k + 1, by simpa using h1, by rw [h2]; congr 1; omega, fun x hx => ?_, by simpa using h4⟩
        rw [List.take_succ_cons] at hx
        rcases List.mem_cons.1 hx with rfl | hx
        · exact hd
        · exact h3 x hx
def kept (l : List Dt) : List Dt := l.filter validB
theorem h82 (l : List Dt) (hl : l.length ≤ 1000) : Qn 2300 82 [.one (.slo 0 0 l.length), .one (.iv (.fn 84))] [.arr false false 2 (eDs l)] (.one (.slo 0 0 (kept l).length)) [.arr false false 2 (eDs (kept l ++ List.replicate (l.length - (kept l).length) (0, 0)))] := by
  refine playQ 2299 rfl rfl fun A call hA hcall => ?_
  obtain ⟨pl, mi, ml, nt, tn, ad, sb, K⟩ := kit hA
  obtain ⟨E, ix, sn, ll, cc, sg, D⟩ := lkit hA K ((0, 0) : Int × Int) (fun p => [.int .i64 p.1, .int .i64 p.2]) 16
  have hE : ∀ l, eDs l = E l := fun l => by rw [D.E_]; rfl
  have k84 : ∀ r n, call 84 [dotF (r, n)] [] = some (bl (!validB (r, n)), []) := fun r n => by rw [hcall]; exact h84 (r, n) 2299 (by omega)
  have k116 := h116 l hl 2299 (by omega)
  rw [← hcall, hE] at k116
  obtain ⟨SD, hSD⟩ : ∃ SD : List Dt → Nat → Dt → List Dt, ∀ m k x, SD m k x = m.set k x := ⟨_, fun _ _ _ => rfl⟩
  obtain ⟨N, hN⟩ : ∃ N, N = l.length := ⟨_, rfl⟩
  obtain ⟨M, hM⟩ : ∃ M : Int, M = nt N := ⟨_, rfl⟩
  have hMl : M = N := by rw [hM, K.nt_]
  have ofN : A .ofN N = M := by rw [K.ofN, hM]
  rw [← hN] at k116
  rw [hE, hE, ← hN]
  rcases badIx_spec l 0 with ⟨h1, h2⟩ | ⟨k, h1, h2, h3, h4⟩
  · have hk : kept l = l := List.filter_eq_self.2 h2
    rw [hk, ← hN, Nat.sub_self, List.replicate_zero, List.append_nil]
    rw [h1] at k116
    refine wpV_ofH (by ((try (conv => lhs; cbv)); (repeat ((first | (rewrite [k116]) | (rewrite [K.eqT]; rotate_left; focus ((try simp only [K.df, D.df, true_and, and_true]) <;> omega))); (try (conv => lhs; cbv)))); (exact rfl))) ?_
    show finQ _ _ _ _ _
    (show finV _ _ _ = some _; ((try (conv => lhs; cbv)); (try (with_reducible rfl))); (try rfl))
  · obtain ⟨I0, hI0⟩ : ∃ I : Int, I = ((0 + k : Nat) : Int) := ⟨_, rfl⟩
    rw [h2, ← hI0] at k116
    have hft : ∀ j, (l.take j).filter validB = kept (l.take j) := fun j => rfl
    have hk0 : kept (l.take k) = l.take k := List.filter_eq_self.2 h3
    have hk1 : kept (l.take (k + 1)) = l.take k := by
      have : l.take (k + 1) = l.take k ++ [l.getD k (0, 0)] := by
        rw [List.take_succ_eq_append_getElem h1, List.getD_eq_getElem?_getD, List.getElem?_eq_getElem h1]; rfl
      rw [this]
      unfold kept
      rw [List.filter_append]
      show kept (l.take k) ++ _ = _
      rw [hk0]
      simp only [List.filter_cons, h4, List.filter_nil]
      simp
    apply wpV_seq; refine wpV_ofH (by ((try (conv => lhs; cbv)); (exact rfl))) ?_
    apply wpV_seq; refine wpV_ofH (by ((try (conv => lhs; cbv)); (repeat ((first | (rewrite [k116])); (try (conv => lhs; cbv)))); (exact rfl))) ?_
    apply wpV_seq; apply wpV_seq; refine wpV_ofH (by ((try (conv => lhs; cbv)); (repeat ((first | (rewrite [K.eqF]; rotate_left; focus ((try simp only [K.df, D.df, true_and, and_true]) <;> omega))); (try (conv => lhs; cbv)))); (exact rfl))) ?_
    refine wpV_ofH (by ((try (conv => lhs; cbv)); (exact rfl))) ?_
    apply wpV_seq; apply wpV_seq; refine wpV_ofH (by ((try (conv => lhs; cbv)); (repeat ((first | (rewrite [K.add]; rotate_left; focus ((try simp only [K.df, D.df, true_and, and_true]) <;> omega))); (try (conv => lhs; cbv)))); (exact rfl))) ?_
    apply wpV_block
    refine wpV_loop (N - (k + 1)) (fun i st => ∃ (J I : Int) (m : List Dt), st = ⟨1, (.one (.slo 0 0 N) :: .one (.iv (.fn 84)) :: u :: u :: u :: i64 I :: i64 J :: u :: u :: u :: u :: u :: u :: u :: u :: u :: u :: u :: u :: u :: u :: u :: u :: u :: u :: u :: u :: u :: u :: u :: u :: u :: u :: u :: u :: u :: u :: u :: u :: u :: u :: u :: []), [.arr false false 2 (E m)]⟩ ∧ J = (k + 1 + i : Nat) ∧ m.length = N ∧ I = ((kept (l.take (k + 1 + i))).length : Int) ∧ m.take (kept (l.take (k + 1 + i))).length = kept (l.take (k + 1 + i)) ∧ m.drop (k + 1 + i) = l.drop (k + 1 + i) ∧ I < J) (by omega) (by ((try (conv => lhs; cbv)); (try (with_reducible rfl)))) ⟨_, _, l, rfl, by rw [K.pl_, hI0]; omega, hN.symm, by rw [hk1, hI0, List.length_take]; omega, by rw [hk1, List.length_take, Nat.min_eq_left (by omega)], rfl, by rw [K.pl_]; omega⟩ ?_
    rintro i hi st ⟨J, I, m, rfl, hJ, hm, hI, hmt, hmd, hIJ⟩
    have hIl : (0 : Int) ≤ I := by omega
    by_cases him : i < N - (k + 1)
    · have hj : k + 1 + i < l.length := by omega
      have hx : ix m J = l.getD (k + 1 + i) (0, 0) := by
        rw [D.ix_, hJ, Int.toNat_natCast, List.getD_eq_getElem?_getD, List.getD_eq_getElem?_getD]
        have := congrArg (fun q => q[0]?) hmd
        simp only [List.getElem?_drop, Nat.add_zero] at this
        rw [this]
      have htk : l.take (k + 1 + (i + 1)) = l.take (k + 1 + i) ++ [ix m J] := by
        rw [hx, ← Nat.add_assoc, List.take_succ_eq_append_getElem hj, List.getD_eq_getElem?_getD, List.getElem?_eq_getElem hj]; rfl
      have hdr : m.drop (k + 1 + (i + 1)) = l.drop (k + 1 + (i + 1)) := by
        have := congrArg (List.drop 1) hmd
        rw [List.drop_drop, List.drop_drop] at this
        exact this
      have g := D.getN (l := m) (J := J) (by omega)
      have sD : ∀ x : Dt, A .set (E m) (tn I) 0 [.int .i64 x.1, .int .i64 x.2] = some (E (SD m (tn I) x)) := fun x => by
        have hin : I.toNat < m.length := by omega
        rw [hA, hSD, D.E_, D.E_, K.tn_, real_set]
        unfold rSet
        rw [List.getElem?_map, List.getElem?_eq_getElem hin]
        simp [plainI, List.map_set]
      have hk2 : kept (l.take (k + 1 + (i + 1))) = kept (l.take (k + 1 + i)) ++ (if validB (ix m J) = true then [ix m J] else []) := by
        rw [htk]
        unfold kept
        rw [List.filter_append]
        cases h : validB (ix m J) <;> simp [h]
      generalize ix m J = d at *
      obtain ⟨r, n⟩ := d
      have kk := k84 r n
      have sD := sD (r, n)
      dsimp only at g kk sD
      have hmN : (m.length : Int) = M := by omega
      cases hb : validB (r, n) with
      | false =>
        rw [hb] at kk
        rw [hb, if_neg (by decide), List.append_nil] at hk2
        refine wpV_ofH (by ((try (conv => lhs; cbv)); (repeat ((first | (rewrite [g]) | (rewrite [kk]) | (rewrite [K.ofN]) | (rewrite [K.add]; rotate_left; focus ((try simp only [K.df, D.df, true_and, and_true]) <;> omega)) | (rewrite [K.at_]; rotate_left; focus ((try simp only [K.df, D.df, true_and, and_true]) <;> omega)) | (rewrite [K.ltT]; rotate_left; focus ((try simp only [K.df, D.df, true_and, and_true]) <;> omega))); (try (conv => lhs; cbv)))); (exact rfl))) ?_
        refine headQ_ofH (by ((try (conv => lhs; cbv)); (exact rfl))) ?_
        refine ⟨him, _, _, m, rfl, ?_, hm, ?_, ?_, hdr, ?_⟩
        · rw [K.pl_]; omega
        · rw [hk2]; exact hI
        · rw [hk2]; exact hmt
        · rw [K.pl_]; omega
      | true =>
        rw [hb] at kk
        rw [hb, if_pos rfl] at hk2
        refine wpV_ofH (by ((try (conv => lhs; cbv)); (repeat ((first | (rewrite [g]) | (rewrite [kk]) | (rewrite [sD]) | (rewrite [K.ofN]) | (rewrite [K.add]; rotate_left; focus ((try simp only [K.df, D.df, true_and, and_true]) <;> omega)) | (rewrite [K.at_]; rotate_left; focus ((try simp only [K.df, D.df, true_and, and_true]) <;> omega)) | (rewrite [K.ltT]; rotate_left; focus ((try simp only [K.df, D.df, true_and, and_true]) <;> omega))); (try (conv => lhs; cbv)))); (exact rfl))) ?_
        refine headQ_ofH (by ((try (conv => lhs; cbv)); (exact rfl))) ?_
        refine ⟨him, _, _, _, rfl, ?_, ?_, ?_, ?_, ?_, ?_⟩
        · rw [K.pl_]; omega
        · rw [hSD, List.length_set]; exact hm
        · rw [hk2, K.pl_, List.length_append]; simp; omega
        · rw [hk2, List.length_append, hSD, K.tn_]
          have e : I.toNat = (kept (l.take (k + 1 + i))).length := by omega
          rw [e, ← hmt]
          simp only [List.length_singleton, List.length_take]
          rw [Nat.min_eq_left (by omega), List.take_succ_eq_append_getElem (by rw [List.length_set]; omega), List.getElem_set_self, List.take_set_of_le (Nat.le_refl _)]
        · rw [hSD, K.tn_, List.drop_set_of_lt (by omega)]
          exact hdr
        · rw [K.pl_, K.pl_]; omega
    · obtain rfl : i = N - (k + 1) := by omega
      have htl : l.take (k + 1 + (N - (k + 1))) = l := List.take_of_length_le (by omega)
      rw [htl] at hI hmt
      obtain ⟨c, hc⟩ : ∃ c, c = (kept l).length := ⟨_, rfl⟩
      have hcN : c ≤ N := by rw [hc, hN]; exact List.length_filter_le _ _
      rw [← hc] at hI hmt
      obtain ⟨R, hR⟩ : ∃ R, R = N - c := ⟨_, rfl⟩
      have ov : A .over (E m) c (A .zeros [.int .i64 0, .int .i64 0] R) = E (kept l ++ List.replicate R (0, 0)) := by
        rw [hA, real_over, real_zeros, D.E_, D.E_]
        unfold rOver
        rw [List.map_append, List.map_replicate, ← hmt, List.map_take]
        rw [List.length_replicate, List.drop_of_length_le (by rw [List.length_map]; omega), List.append_nil]
      have cu1 : A .cuts 0 N (A .ln (E m)) (some I) none none = some (c, R) := by
        rw [hA, D.E_, hI]
        show rCuts 0 N (m.map _).length (some (c : Int)) none none = _
        simp [rCuts, rBound, hR, hcN, hm]
      have cu2 : A .cuts 0 N (A .ln (E (kept l ++ List.replicate R (0, 0)))) none (some I) none = some (0, c) := by
        rw [hA, D.E_, hI]
        have hzl : (kept l ++ List.replicate R ((0, 0) : Dt)).length = N := by rw [List.length_append, List.length_replicate]; omega
        show rCuts 0 N (List.map _ _).length none (some (c : Int)) none = _
        rw [List.length_map, hzl]
        simp [rCuts, rBound, hcN]
      rw [← hc, ← hR]
      generalize kept l ++ List.replicate R (0, 0) = z at *
      refine wpV_ofH (by ((try (conv => lhs; cbv)); (repeat ((first | (rewrite [K.ofN]) | (rewrite [K.ltF]; rotate_left; focus ((try simp only [K.df, D.df, true_and, and_true]) <;> omega))); (try (conv => lhs; cbv)))); (exact rfl))) ?_
      show wpV _ _ _ _ _ _
      refine wpV_ofH (by ((try (conv => lhs; cbv)); (repeat ((first | (rewrite [cu1]) | (rewrite [ov]) | (rewrite [cu2])); (try (conv => lhs; cbv)))); (exact rfl))) ?_
      (show finV _ _ _ = some _; ((try (conv => lhs; cbv)); (try (with_reducible rfl))); (try rfl))
end Go.Proofs.Ytomchclmnmhjaaa
