/- The reference: an event's bytes behind others: gone through. -/
import Derived.Test.YtlljgefgbglmbaaELA
set_option linter.unusedSimpArgs false
set_option linter.unusedVariables false
set_option maxRecDepth 100000
set_option maxHeartbeats 1000000
set_option cbv.maxSteps 10000000
namespace Go.Proofs.Ytlljgefgbglmbaa
open Go GoV

theorem n68bad (a : List Nat) (t : Bool) (z : Nat) (hz : z = 0 ∨ z = 1) (e : Ev) (hd : e.doc.size ≤ 1000000000000000) (hg : e.gone.length ≤ 1000) (ha : a.length ≤ 199999980000000) (hc : chk e ≠ 0) : ∃ k, ∀ b z2, (z2 = 2 ∨ z2 = 0 ∧ e.gone = []) →
    Pn k 68 [.one (.iv (.sl t z (by8 a))), evF b z2 e] [] (.one (.slo 0 0 a.length)) [.arr false false 1 (by8 a)] := by
  obtain ⟨k, hk⟩ := n36 e hd hg
  refine ⟨k + 1, fun b z2 hz2 => playN k rfl rfl fun A call hA hcall => ?_⟩
  obtain ⟨pl, mi, ml, nt, tn, ad, sb, K⟩ := kit hA
  obtain ⟨E, ix, sn, ll, cc, sg, D⟩ := lkit hA K ((0, 0) : Int × Int) (fun p => [.int .i64 p.1, .int .i64 p.2]) 16
  have k1 := hk b z2 hz2 k (Nat.le_refl _)
  rw [← hcall] at k1
  have a1 := appn hA (by8 a) (by rw [by8_len]; omega)
  have l1 : A .ln (by8 a) = a.length := by rw [hA]; exact by8_len a
  dsimp only [evF] at k1 ⊢
  generalize chk e = c at *
  generalize by8 a = es at *
  generalize a.length = n at *
  generalize eDs e.gone = gs at *
  rcases hz with rfl | rfl
  all_goals
    refine wpV_ofH (by ((try (conv => lhs; cbv)); (repeat ((first | (rewrite [a1]) | (rewrite [l1]) | (rewrite [k1]) | (rewrite [K.neT]; rotate_left; focus ((try simp only [K.df, D.df, true_and, and_true]) <;> omega))); (try (conv => lhs; cbv)))); (exact rfl))) ?_
    (show finV _ _ _ = some _; ((try (conv => lhs; cbv)); (try (with_reducible rfl))); (try rfl))
theorem n68 (a : List Nat) (t : Bool) (z : Nat) (hz : z = 0 ∨ z = 1) (e : Ev) (ha : a.length ≤ 199999970000000) (hc : chk e = 0) : ∃ k, ∀ b z2, (z2 = 2 ∨ z2 = 0 ∧ e.gone = []) →
    Pn k 68 [.one (.iv (.sl t z (by8 a))), evF b z2 e] [] (.one (.slo 0 0 (a ++ evB e).length)) [.arr false false 1 (by8 (a ++ evB e))] := by
  obtain ⟨c1, c2, c3, c4, c5, c6, c7, c8, c9009, c9010⟩ := chk_0 hc
  have v0 := valid_0 c1
  have nm := name_size c4
  obtain ⟨g1, g2⟩ := gone_valid c5
  obtain ⟨k, hk⟩ := n36 e (by omega) (by omega)
  refine ⟨k + 1000, fun b z2 hz2 => playN (k + 999) rfl rfl fun A call hA hcall => ?_⟩
  obtain ⟨pl, mi, ml, nt, tn, ad, sb, K⟩ := kit hA
  obtain ⟨E, ix, sn, ll, cc, sg, D⟩ := lkit hA K ((0, 0) : Int × Int) (fun p => [.int .i64 p.1, .int .i64 p.2]) 16
  have kc := hk b z2 hz2 (k + 999) (by omega)
  rw [hc, ← hcall] at kc
  have kn : ∀ (a : List Nat) (x : Int) (t : Bool), 0 ≤ x → x < 4611686018427387904 → a.length ≤ 199999990000000 → call 27 [.one (.iv (.sl t 1 (by8 a))), i64 x] [] = some (.one (.slo 0 0 (a ++ enc x.toNat).length), [.arr false false 1 (by8 (a ++ enc x.toNat))]) := fun a x t h0 h1 h2 => by
    rw [hcall]; exact n27 a t 1 (.inr rfl) x (by omega) (by omega) (k + 999) (by omega)
  have kt : ∀ (a : List Nat) (s : ByteArray) (t : Bool), s.size ≤ 1000000 → a.length ≤ 199999980000000 → call 70 [.one (.iv (.sl t 1 (by8 a))), .one (.iv (.str s))] [] = some (.one (.slo 0 0 (a ++ textB s).length), [.arr false false 1 (by8 (a ++ textB s))]) := fun a s t h1 h2 => by
    rw [hcall]; exact n70 a t 1 (.inr rfl) s h1 (by omega) (k + 999) (by omega)
  have kd : ∀ (a : List Nat) (r n : Int) (t : Bool) (z : Nat), (z = 0 ∨ z = 1) → 0 ≤ r → r < 4611686018427387904 → 0 ≤ n → n < 4611686018427387904 → a.length ≤ 199999990000000 → call 69 [.one (.iv (.sl t z (by8 a))), .agg [.iv (.int .i64 r), .iv (.int .i64 n)]] [] = some (.one (.slo 0 0 (a ++ (enc r.toNat ++ enc n.toNat)).length), [.arr false false 1 (by8 (a ++ (enc r.toNat ++ enc n.toNat)))]) := fun a r n t z hz h0 h1 h2 h3 h4 => by
    rw [hcall]; exact n69 a t z hz r n (by omega) (by omega) h4 (k + 999) (by omega)
  have t1 := textB_len e.doc
  have t2 := textB_len e.txt
  have len : ∀ x, (enc x).length ≤ 9 := fun x => by rw [enc_len]; have := nd_le x; omega
  obtain ⟨X1, h1⟩ : ∃ X, X = a ++ (enc e.d.1.toNat ++ enc e.d.2.toNat) := ⟨_, rfl⟩
  obtain ⟨X2, h2⟩ : ∃ X, X = X1 ++ enc e.t.toNat := ⟨_, rfl⟩
  obtain ⟨X3, h3⟩ : ∃ X, X = X2 ++ enc e.k.toNat := ⟨_, rfl⟩
  obtain ⟨X4, h4⟩ : ∃ X, X = X3 ++ textB e.doc := ⟨_, rfl⟩
  obtain ⟨X5, h5⟩ : ∃ X, X = X4 ++ enc e.f.toNat := ⟨_, rfl⟩
  obtain ⟨X6, h6⟩ : ∃ X, X = X5 ++ textB e.txt := ⟨_, rfl⟩
  obtain ⟨X7, h7⟩ : ∃ X, X = X6 ++ enc e.gone.length := ⟨_, rfl⟩
  have b1 : X1.length ≤ a.length + 18 := by have := len e.d.1.toNat; have := len e.d.2.toNat; rw [h1, List.length_append, List.length_append]; omega
  have b2 : X2.length ≤ a.length + 27 := by have := len e.t.toNat; rw [h2, List.length_append]; omega
  have b3 : X3.length ≤ a.length + 36 := by have := len e.k.toNat; rw [h3, List.length_append]; omega
  have b4 : X4.length ≤ a.length + 100 := by rw [h4, List.length_append]; omega
  have b5 : X5.length ≤ a.length + 109 := by have := len e.f.toNat; rw [h5, List.length_append]; omega
  have b6 : X6.length ≤ a.length + 300 := by rw [h6, List.length_append]; omega
  have b7 : X7.length ≤ a.length + 309 := by have := len e.gone.length; rw [h7, List.length_append]; omega
  obtain ⟨C, hC⟩ : ∃ C : Nat → List Nat, ∀ i, C i = X7 ++ dsB e.gone i := ⟨_, fun _ => rfl⟩
  have fin : a ++ evB e = C e.gone.length := by
    rw [hC, h7, h6, h5, h4, h3, h2, h1]; unfold evB hdB; simp only [List.append_assoc]
  have c0 : X7 = C 0 := by rw [hC]; simp [dsB]
  have q0 := fun t => kd a e.d.1 e.d.2 t z hz v0.1 (by omega) (by omega) (by omega) (by omega)
  have q1 := fun t => kn X1 e.t t (by omega) (by omega) (by omega)
  have q2 := fun t => kn X2 e.k t (by omega) (by omega) (by omega)
  have q3 := fun t => kt X3 e.doc t (by omega) (by omega)
  have q4 := fun t => kn X4 e.f t (by omega) (by omega) (by omega)
  have q5 := fun t => kt X5 e.txt t (by omega) (by omega)
  obtain ⟨M, hM⟩ : ∃ M : Int, M = nt (ll e.gone) := ⟨_, rfl⟩
  have hMl : M = e.gone.length := by rw [hM, K.nt_, D.ll_]
  have q6 := fun t => kn X6 M t (by omega) (by omega) (by omega)
  rw [show M.toNat = e.gone.length by omega, ← h7] at q6
  rw [← h1] at q0
  rw [← h2] at q1
  rw [← h3] at q2
  rw [← h4] at q3
  rw [← h5] at q4
  rw [← h6] at q5
  have s1 := seg8 hA X1
  have s2 := seg8 hA X2
  have s3 := seg8 hA X3
  have s4 := seg8 hA X4
  have s5 := seg8 hA X5
  have s6 := seg8 hA X6
  have cl : ∀ i, i ≤ e.gone.length → (C i).length ≤ 199999990000000 := fun i hi => by
    rw [hC, List.length_append]; have := dsB_len e.gone i; omega
  obtain ⟨F, hF⟩ : ∃ F : Nat → List (List IV), ∀ i, F i = by8 (C i) := ⟨_, fun _ => rfl⟩
  obtain ⟨N, hN⟩ : ∃ N : Nat → Nat, ∀ i, N i = (C i).length := ⟨_, fun _ => rfl⟩
  have q8 : ∀ i, i < e.gone.length → ∀ (t : Bool) (p : Int × Int), p = e.gone.getD i (0, 0) → call 69 [.one (.iv (.sl t 1 (F i))), .agg [.iv (.int .i64 p.1), .iv (.int .i64 p.2)]] [] = some (.one (.slo 0 0 (N (i + 1))), [.arr false false 1 (F (i + 1))]) := fun i hi t p hp => by
    have v := valid_0 (g2 i hi)
    rw [← hp] at v
    have := kd (C i) p.1 p.2 t 1 (.inr rfl) v.1 (by omega) (by omega) (by omega) (cl i (by omega))
    rw [show C i ++ (enc p.1.toNat ++ enc p.2.toNat) = C (i + 1) by rw [hC, hC, dsB, hp, List.append_assoc]] at this
    rw [hF, hF, hN]; exact this
  have sF : ∀ i, A .seg (F i) 0 (N i) = F i := fun i => by rw [hF, hN]; exact seg8 hA _
  rw [fin, ← hF, ← hN]
  rw [c0, ← hF, ← hN] at q6
  have ln : A .len (E e.gone) = M := by rw [D.len, hM]
  have hE : eDs e.gone = E e.gone := by rw [D.E_]; rfl
  dsimp only [evF] at kc ⊢
  rw [hE] at kc ⊢
  obtain ⟨⟨r, n⟩, tt, kd', doc, f, txt, gone⟩ := e
  dsimp only at *
  clear hF hN h1 h2 h3 h4 h5 h6 h7 hC c0 fin
  generalize by8 a = Ya at *
  generalize by8 X1 = Y1 at *
  generalize by8 X2 = Y2 at *
  generalize by8 X3 = Y3 at *
  generalize by8 X4 = Y4 at *
  generalize by8 X5 = Y5 at *
  generalize by8 X6 = Y6 at *
  generalize hna : a.length = na at *
  generalize X1.length = n1 at *
  generalize X2.length = n2 at *
  generalize X3.length = n3 at *
  generalize X4.length = n4 at *
  generalize X5.length = n5 at *
  generalize X6.length = n6 at *
  have main : ∀ st, headV false [5, 44, 45, 46] st = some ⟨0, (u :: u :: u :: u :: u :: .one (.slo 0 0 (N 0)) :: u :: u :: u :: u :: u :: u :: u :: u :: u :: u :: u :: u :: u :: u :: u :: u :: u :: u :: u :: u :: u :: u :: u :: u :: u :: u :: u :: u :: u :: u :: u :: u :: u :: u :: u :: u :: u :: u :: .one (.iv (.sl b z2 (E gone))) :: i64 M :: i64 0 :: u :: u :: u :: u :: u :: u :: u :: u :: []), [.arr false false 1 (F 0)]⟩ →
      wpV A call (iterN (k + 999)) (.block 0 (.loop false [5, 44, 45, 46] l68_0)) st (seqQ A call (iterN (k + 999)) (.seq (.region false [⟨some 54, .mov none (.t 5), [], none⟩,
    ⟨some 4, .mov none (.t 54), [], none⟩])
  (.ret)) (finQ A v68 (.one (.slo 0 0 (N gone.length)), [.arr false false 1 (F gone.length)]))) := by
    intro st0 hst
    apply wpV_block
    refine wpV_loop gone.length (fun i st => ∃ J : Int, st = ⟨0, (u :: u :: u :: u :: u :: .one (.slo 0 0 (N i)) :: u :: u :: u :: u :: u :: u :: u :: u :: u :: u :: u :: u :: u :: u :: u :: u :: u :: u :: u :: u :: u :: u :: u :: u :: u :: u :: u :: u :: u :: u :: u :: u :: u :: u :: u :: u :: u :: u :: .one (.iv (.sl b z2 (E gone))) :: i64 M :: i64 J :: u :: u :: u :: u :: u :: u :: u :: u :: []), [.arr false false 1 (F i)]⟩ ∧ J = i) (by omega) hst ⟨0, rfl, rfl⟩ ?_
    rintro i hi st ⟨J, rfl, hJ⟩
    by_cases him : i < gone.length
    · obtain rfl : z2 = 2 := by
        rcases hz2 with h | ⟨h, h2⟩
        · exact h
        · rw [h2] at him; simp at him
      have g1' := D.get (l := gone) (J := J) (by omega)
      have hx : ix gone J = gone.getD i (0, 0) := by rw [D.ix_, hJ]; rfl
      have k1 := fun t => q8 i him t (ix gone J) hx
      have sf := sF i
      generalize ix gone J = p at *
      obtain ⟨pr, pn⟩ := p
      dsimp only at k1
      generalize N (i + 1) = N1 at *
      generalize N i = N0 at *
      generalize F (i + 1) = F1 at *
      generalize F i = F0 at *
      refine wpV_ofH (by ((try (conv => lhs; cbv)); (repeat ((first | (rewrite [g1']) | (rewrite [sf]) | (rewrite [k1]) | (rewrite [K.add]; rotate_left; focus ((try simp only [K.df, D.df, true_and, and_true]) <;> omega)) | (rewrite [K.ltT]; rotate_left; focus ((try simp only [K.df, D.df, true_and, and_true]) <;> omega))); (try (conv => lhs; cbv)))); (exact rfl))) ?_
      refine headQ_ofH (by ((try (conv => lhs; cbv)); (exact rfl))) ?_
      refine ⟨him, _, rfl, ?_⟩
      rw [K.pl_]; omega
    · obtain rfl : i = gone.length := by omega
      generalize N gone.length = N0 at *
      generalize F gone.length = F0 at *
      refine wpV_ofH (by ((try (conv => lhs; cbv)); (repeat ((first | (rewrite [K.ltF]; rotate_left; focus ((try simp only [K.df, D.df, true_and, and_true]) <;> omega))); (try (conv => lhs; cbv)))); (exact rfl))) ?_
      show wpV _ _ _ _ _ _
      refine wpV_ofH (by ((try (conv => lhs; cbv)); (exact rfl))) ?_
      (show finV _ _ _ = some _; ((try (conv => lhs; cbv)); (try (with_reducible rfl))); (try rfl))
  generalize N 0 = N0 at *
  generalize F 0 = F0 at *
  generalize N gone.length = N9009 at *
  generalize F gone.length = F9 at *
  rcases hz with rfl | rfl
  all_goals
    apply wpV_seq; refine wpV_ofH (by ((try (conv => lhs; cbv)); (exact rfl))) ?_
    apply wpV_seq; refine wpV_ofH (by ((try (conv => lhs; cbv)); (repeat ((first | (rewrite [kc]) | (rewrite [K.neF]; rotate_left; focus ((try simp only [K.df, D.df, true_and, and_true]) <;> omega))); (try (conv => lhs; cbv)))); (exact rfl))) ?_
    apply wpV_seq; refine wpV_ofH (by ((try (conv => lhs; cbv)); (repeat ((first | (rewrite [q0])); (try (conv => lhs; cbv)))); (exact rfl))) ?_
    apply wpV_seq; refine wpV_ofH (by ((try (conv => lhs; cbv)); (repeat ((first | (rewrite [s1]) | (rewrite [q1])); (try (conv => lhs; cbv)))); (exact rfl))) ?_
    apply wpV_seq; refine wpV_ofH (by ((try (conv => lhs; cbv)); (repeat ((first | (rewrite [s2]) | (rewrite [q2])); (try (conv => lhs; cbv)))); (exact rfl))) ?_
    apply wpV_seq; refine wpV_ofH (by ((try (conv => lhs; cbv)); (repeat ((first | (rewrite [s3]) | (rewrite [q3])); (try (conv => lhs; cbv)))); (exact rfl))) ?_
    apply wpV_seq; refine wpV_ofH (by ((try (conv => lhs; cbv)); (repeat ((first | (rewrite [s4]) | (rewrite [q4])); (try (conv => lhs; cbv)))); (exact rfl))) ?_
    apply wpV_seq; refine wpV_ofH (by ((try (conv => lhs; cbv)); (repeat ((first | (rewrite [s5]) | (rewrite [q5])); (try (conv => lhs; cbv)))); (exact rfl))) ?_
    apply wpV_seq; refine wpV_ofH (by ((try (conv => lhs; cbv)); (repeat ((first | (rewrite [ln]) | (rewrite [s6]) | (rewrite [q6])); (try (conv => lhs; cbv)))); (exact rfl))) ?_
    apply wpV_seq; apply wpV_seq; refine wpV_ofH (by ((try (conv => lhs; cbv)); (repeat ((first | (rewrite [ln])); (try (conv => lhs; cbv)))); (exact rfl))) ?_
    exact main _ (by ((try (conv => lhs; cbv)); (try (with_reducible rfl))))
end Go.Proofs.Ytlljgefgbglmbaa
