/- The reference: a state's bytes behind others: gone through. -/
import Derived.Test.YtlljgefgbglmbaaDZA
set_option linter.unusedSimpArgs false
set_option linter.unusedVariables false
set_option maxRecDepth 100000
set_option maxHeartbeats 1000000
set_option cbv.maxSteps 10000000
namespace Go.Proofs.Ytlljgefgbglmbaa
open Go GoV

theorem n30 (a : List Nat) (t : Bool) (z : Nat) (hz : z = 0 ∨ z = 1) {v : List Int} (hv : v.length = 64) (l : List Wr) (ha : a.length ≤ 199999970000000) (hc : canB v l = true) : ∃ k, ∀ b z2, (z2 = 6 ∨ z2 = 0 ∧ l = []) →
    Pn k 30 [.one (.iv (.sl t z (by8 a))), stF b z2 v l] [] (.one (.slo 0 0 (a ++ stB v l).length)) [.arr false false 1 (by8 (a ++ stB v l))] := by
  obtain ⟨c1, c2, c3⟩ := canB_0 hc
  obtain ⟨kc, hkc⟩ := n37 hv l (fun w hw => by have := (goodW_0 (c3 w hw)).2.2.2.1; omega)
  obtain ⟨N, hN⟩ : ∃ N, N = kc + 6000 := ⟨_, rfl⟩
  refine ⟨N + 1, fun b z2 hz2 => playN N rfl rfl fun A call hA hcall => ?_⟩
  obtain ⟨pl, mi, ml, nt, tn, ad, sb, K⟩ := kit hA
  obtain ⟨EX, ix, sn, ll, cc, sg, X⟩ := lkit hA K zeroWr (fun w => [.int .i64 w.d.1, .int .i64 w.d.2, .int .i64 w.t, .str w.doc, .int .i64 w.f, .str w.txt]) 64
  obtain ⟨W, gx, st', V⟩ := rkit hA
  obtain ⟨zs, hzs⟩ : ∃ zs : ByteArray → Nat, ∀ s, zs s = s.size := ⟨_, fun _ => rfl⟩
  have hvW : vec v = W v := by rw [V.W_]; rfl
  have hEX : eWs l = EX l := by rw [X.E_]; rfl
  have kc := hkc b z2 hz2 N (by omega)
  rw [hc, ← hcall] at kc
  have kv : call 28 [.one (.iv (.sl t z (by8 a))), vecF v] [] = some (.one (.slo 0 0 (a ++ putB v).length), [.arr false false 1 (by8 (a ++ putB v))]) := by
    rw [hcall]; exact n28 hv c1 a t z hz (by omega) N (by omega)
  have kn : ∀ (a : List Nat) (x : Int) (t : Bool), 0 ≤ x → x < 4611686018427387904 → a.length ≤ 199999990000000 → call 27 [.one (.iv (.sl t 1 (by8 a))), i64 x] [] = some (.one (.slo 0 0 (a ++ enc x.toNat).length), [.arr false false 1 (by8 (a ++ enc x.toNat))]) := fun a x t h0 h1 h2 => by
    rw [hcall]; exact n27 a t 1 (.inr rfl) x (by omega) (by omega) N (by omega)
  have kt : ∀ (a : List Nat) (s : ByteArray) (t : Bool), s.size ≤ 1000000 → a.length ≤ 199999980000000 → call 70 [.one (.iv (.sl t 1 (by8 a))), .one (.iv (.str s))] [] = some (.one (.slo 0 0 (a ++ textB s).length), [.arr false false 1 (by8 (a ++ textB s))]) := fun a s t h1 h2 => by
    rw [hcall]; exact n70 a t 1 (.inr rfl) s h1 h2 N (by omega)
  have kd : ∀ (a : List Nat) (r n : Int) (t : Bool), 0 ≤ r → r < 4611686018427387904 → 0 ≤ n → n < 4611686018427387904 → a.length ≤ 199999990000000 → call 69 [.one (.iv (.sl t 1 (by8 a))), .agg [.iv (.int .i64 r), .iv (.int .i64 n)]] [] = some (.one (.slo 0 0 (a ++ (enc r.toNat ++ enc n.toNat)).length), [.arr false false 1 (by8 (a ++ (enc r.toNat ++ enc n.toNat)))]) := fun a r n t h0 h1 h2 h3 h4 => by
    rw [hcall]; exact n69 a t 1 (.inr rfl) r n (by omega) (by omega) h4 N (by omega)
  have pl' := putB_len v
  have len : ∀ x, (enc x).length ≤ 9 := fun x => by rw [enc_len]; have := nd_le x; omega
  obtain ⟨X1, h1⟩ : ∃ X, X = a ++ putB v := ⟨_, rfl⟩
  obtain ⟨X2, h2⟩ : ∃ X, X = X1 ++ enc l.length := ⟨_, rfl⟩
  have b1 : X1.length ≤ a.length + 1200 := by rw [h1, List.length_append]; omega
  have b2 : X2.length ≤ a.length + 1209 := by have := len l.length; rw [h2, List.length_append]; omega
  obtain ⟨C, hC⟩ : ∃ C : Nat → List Nat, ∀ i, C i = X2 ++ wsB l i := ⟨_, fun _ => rfl⟩
  have fin : a ++ stB v l = C l.length := by
    rw [hC, h2, h1]; unfold stB; simp only [List.append_assoc]
  have c0 : X2 = C 0 := by rw [hC]; simp [wsB]
  obtain ⟨M, hM⟩ : ∃ M : Int, M = nt (ll l) := ⟨_, rfl⟩
  have hMl : M = l.length := by rw [hM, K.nt_, X.ll_]
  have q0 := kv
  have q1 := fun t => kn X1 M t (by omega) (by omega) (by omega)
  rw [show M.toNat = l.length by omega, ← h2] at q1
  rw [← h1] at q0
  have s1 := seg8 hA X1
  have cl : ∀ i, i ≤ l.length → (C i).length ≤ 199999979900000 := fun i hi => by
    rw [hC, List.length_append]; have := wsB_len c3 i hi; omega
  obtain ⟨F, hF⟩ : ∃ F : Nat → List (List IV), ∀ i, F i = by8 (C i) := ⟨_, fun _ => rfl⟩
  obtain ⟨NN, hNN⟩ : ∃ N : Nat → Nat, ∀ i, N i = (C i).length := ⟨_, fun _ => rfl⟩
  have q8 : ∀ i, i < l.length → ∀ (w : Wr), w = l.getD i zeroWr → ∃ (Y1 Y2 Y3 Y4 : List (List IV)) (n1 n2 n3 n4 : Nat),
      (∀ t, call 69 [.one (.iv (.sl t 1 (F i))), .agg [.iv (.int .i64 w.d.1), .iv (.int .i64 w.d.2)]] [] = some (.one (.slo 0 0 n1), [.arr false false 1 Y1])) ∧ A .seg Y1 0 n1 = Y1 ∧
      (∀ t, call 27 [.one (.iv (.sl t 1 Y1)), i64 w.t] [] = some (.one (.slo 0 0 n2), [.arr false false 1 Y2])) ∧ A .seg Y2 0 n2 = Y2 ∧
      (∀ t, call 70 [.one (.iv (.sl t 1 Y2)), .one (.iv (.str w.doc))] [] = some (.one (.slo 0 0 n3), [.arr false false 1 Y3])) ∧ A .seg Y3 0 n3 = Y3 ∧
      (∀ t, call 27 [.one (.iv (.sl t 1 Y3)), i64 w.f] [] = some (.one (.slo 0 0 n4), [.arr false false 1 Y4])) ∧ A .seg Y4 0 n4 = Y4 ∧
      (∀ t, call 70 [.one (.iv (.sl t 1 Y4)), .one (.iv (.str w.txt))] [] = some (.one (.slo 0 0 (NN (i + 1))), [.arr false false 1 (F (i + 1))])) := fun i hi w hw => by
    obtain ⟨g1, g2, g3, g4, g6, g7, g8⟩ := goodW_0 (c3 w (by rw [hw]; exact getW_mem hi))
    have v0 := valid_0 g1
    have t1 := textB_len w.doc
    have t2 := textB_len w.txt
    have e1 := len w.d.1.toNat
    have e2 := len w.d.2.toNat
    have e3 := len w.t.toNat
    have e4 := len w.f.toNat
    have c := cl i (by omega)
    obtain ⟨D1, r1⟩ : ∃ X, X = C i ++ (enc w.d.1.toNat ++ enc w.d.2.toNat) := ⟨_, rfl⟩
    obtain ⟨D2, r2⟩ : ∃ X, X = D1 ++ enc w.t.toNat := ⟨_, rfl⟩
    obtain ⟨D3, r3⟩ : ∃ X, X = D2 ++ textB w.doc := ⟨_, rfl⟩
    obtain ⟨D4, r4⟩ : ∃ X, X = D3 ++ enc w.f.toNat := ⟨_, rfl⟩
    have m1 : D1.length ≤ (C i).length + 18 := by rw [r1]; simp only [List.length_append]; omega
    have m2 : D2.length ≤ (C i).length + 27 := by rw [r2]; simp only [List.length_append]; omega
    have m3 : D3.length ≤ (C i).length + 100 := by rw [r3]; simp only [List.length_append]; omega
    have m4 : D4.length ≤ (C i).length + 109 := by rw [r4]; simp only [List.length_append]; omega
    have r5 : C (i + 1) = D4 ++ textB w.txt := by
      rw [r4, r3, r2, r1, hC, hC, wsB, ← hw]; unfold wrB; simp only [List.append_assoc]
    refine ⟨by8 D1, by8 D2, by8 D3, by8 D4, D1.length, D2.length, D3.length, D4.length, fun t => ?_, seg8 hA _, fun t => ?_, seg8 hA _, fun t => ?_, seg8 hA _, fun t => ?_, seg8 hA _, fun t => ?_⟩
    · rw [hF, r1]; exact kd (C i) w.d.1 w.d.2 t v0.1 (by omega) (by omega) (by omega) (by omega)
    · rw [r2]; exact kn D1 w.t t (by omega) (by omega) (by omega)
    · rw [r3]; exact kt D2 w.doc t (by omega) (by omega)
    · rw [r4]; exact kn D3 w.f t (by omega) (by omega) (by omega)
    · rw [hF, hNN, r5]; exact kt D4 w.txt t (by omega) (by omega)
  have sF : ∀ i, A .seg (F i) 0 (NN i) = F i := fun i => by rw [hF, hNN]; exact seg8 hA _
  rw [fin, ← hF, ← hNN]
  rw [c0, ← hF, ← hNN] at q1
  have ln : A .len (EX l) = M := by rw [X.len, hM]
  dsimp only [stF, vecF] at *
  rw [hvW] at q0 kc ⊢
  rw [hEX] at kc ⊢
  clear hF hNN h1 h2 hC c0 fin kd kn kt kv hkc cl
  generalize by8 a = Ya at *
  generalize by8 X1 = Y1 at *
  generalize hna : a.length = na at *
  generalize X1.length = n1 at *
  have main : ∀ st, headV false [5, 23, 24, 25] st = some ⟨0, (u :: u :: u :: u :: u :: .one (.slo 0 0 (NN 0)) :: u :: u :: u :: u :: u :: u :: u :: u :: u :: u :: u :: u :: u :: u :: u :: u :: u :: .one (.iv (.sl b z2 (EX l))) :: i64 M :: i64 0 :: u :: u :: u :: u :: u :: u :: u :: u :: u :: u :: u :: u :: u :: u :: u :: u :: u :: u :: u :: u :: u :: u :: u :: []), [.arr false false 1 (F 0)]⟩ →
      wpV A call (iterN N) (.block 0 (.loop false [5, 23, 24, 25] l30_0)) st (seqQ A call (iterN N) (.seq (.region false [⟨some 48, .mov none (.t 5), [], none⟩,
    ⟨some 4, .mov none (.t 48), [], none⟩])
  (.ret)) (finQ A v30 (.one (.slo 0 0 (NN l.length)), [.arr false false 1 (F l.length)]))) := by
    intro st0 hst
    apply wpV_block
    refine wpV_loop l.length (fun i st => ∃ J : Int, st = ⟨0, (u :: u :: u :: u :: u :: .one (.slo 0 0 (NN i)) :: u :: u :: u :: u :: u :: u :: u :: u :: u :: u :: u :: u :: u :: u :: u :: u :: u :: .one (.iv (.sl b z2 (EX l))) :: i64 M :: i64 J :: u :: u :: u :: u :: u :: u :: u :: u :: u :: u :: u :: u :: u :: u :: u :: u :: u :: u :: u :: u :: u :: u :: u :: []), [.arr false false 1 (F i)]⟩ ∧ J = i) (by omega) hst ⟨0, rfl, rfl⟩ ?_
    rintro i hi st ⟨J, rfl, hJ⟩
    by_cases him : i < l.length
    · obtain rfl : z2 = 6 := by
        rcases hz2 with h | ⟨h, h2⟩
        · exact h
        · rw [h2] at him; simp at him
      have g1' := X.get (l := l) (J := J) (by omega)
      have hx : ix l J = l.getD i zeroWr := by rw [X.ix_, hJ]; rfl
      obtain ⟨D1, D2, D3, D4, m1, m2, m3, m4, p1, p2, p3, p4, p5, p6, p7, p8, p9⟩ := q8 i him (ix l J) hx
      have sf := sF i
      generalize ix l J = w at *
      obtain ⟨⟨pr, pn⟩, tt, doc, fi, txt⟩ := w
      dsimp only at g1' p1 p3 p5 p7 p9
      generalize NN (i + 1) = N1 at *
      generalize NN i = N0 at *
      generalize F (i + 1) = F1 at *
      generalize F i = F0 at *
      clear q8 sF
      refine wpV_ofH (by ((try (conv => lhs; cbv)); (repeat ((first | (rewrite [g1']) | (rewrite [sf]) | (rewrite [p1]) | (rewrite [p2]) | (rewrite [p3]) | (rewrite [p4]) | (rewrite [p5]) | (rewrite [p6]) | (rewrite [p7]) | (rewrite [p8]) | (rewrite [p9]) | (rewrite [K.add]; rotate_left; focus ((try simp only [K.df, X.df, V.df, hzs, true_and, and_true]) <;> omega)) | (rewrite [K.ltT]; rotate_left; focus ((try simp only [K.df, X.df, V.df, hzs, true_and, and_true]) <;> omega))); (try (conv => lhs; cbv)))); (exact rfl))) ?_
      refine headQ_ofH (by ((try (conv => lhs; cbv)); (exact rfl))) ?_
      refine ⟨him, _, rfl, ?_⟩
      rw [K.pl_]; omega
    · obtain rfl : i = l.length := by omega
      generalize NN l.length = N0 at *
      generalize F l.length = F0 at *
      refine wpV_ofH (by ((try (conv => lhs; cbv)); (repeat ((first | (rewrite [K.ltF]; rotate_left; focus ((try simp only [K.df, X.df, V.df, hzs, true_and, and_true]) <;> omega))); (try (conv => lhs; cbv)))); (exact rfl))) ?_
      show wpV _ _ _ _ _ _
      refine wpV_ofH (by ((try (conv => lhs; cbv)); (exact rfl))) ?_
      (show finV _ _ _ = some _; ((try (conv => lhs; cbv)); (try (with_reducible rfl))); (try rfl))
  generalize NN 0 = N0 at *
  generalize F 0 = F0 at *
  generalize NN l.length = N9 at *
  generalize F l.length = F9 at *
  rcases hz with rfl | rfl
  all_goals
    apply wpV_seq; refine wpV_ofH (by ((try (conv => lhs; cbv)); (exact rfl))) ?_
    apply wpV_seq; refine wpV_ofH (by ((try (conv => lhs; cbv)); (repeat ((first | (rewrite [kc])); (try (conv => lhs; cbv)))); (exact rfl))) ?_
    apply wpV_seq; refine wpV_ofH (by ((try (conv => lhs; cbv)); (repeat ((first | (rewrite [q0]) | (rewrite [ln]) | (rewrite [s1]) | (rewrite [q1])); (try (conv => lhs; cbv)))); (exact rfl))) ?_
    apply wpV_seq; apply wpV_seq; refine wpV_ofH (by ((try (conv => lhs; cbv)); (repeat ((first | (rewrite [ln])); (try (conv => lhs; cbv)))); (exact rfl))) ?_
    exact main _ (by ((try (conv => lhs; cbv)); (try (with_reducible rfl))))
end Go.Proofs.Ytlljgefgbglmbaa
