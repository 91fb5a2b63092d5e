/- The reference: messages that may be, and their bytes: gone through. -/
import Derived.Test.YtlljgefgbglmbaaWEC
set_option linter.unusedSimpArgs false
set_option linter.unusedVariables false
set_option maxRecDepth 100000
set_option maxHeartbeats 40000000
set_option cbv.maxSteps 10000000
namespace Go.Proofs.Ytlljgefgbglmbaa
open Go GoV

theorem n31 (B : List Nat) (t : Bool) (t2 : Bool) (z : Nat) (hz : z = 0 ∨ z = 1) {v : List Int} (hv : v.length = 64) (hg : goodB v = true) (l : List Ev) (hl : l.length ≤ 1000) (hd : ∀ e, e ∈ l → e.doc.size ≤ 1000000000000000 ∧ e.gone.length ≤ 1000) (hB : B.length ≤ 199999950000000) :
    ∃ k, Pn k 31 [.one (.iv (.sl t z (by8 B))), .agg [.iv (.sl t2 8 (l.map evE)), .iv (.arr 64 (vec v))]] [] (.one (.slo 0 0 (B ++ (putB v ++ evsA l)).length)) [.arr false false 1 (by8 (B ++ (putB v ++ evsA l)))] := by
  have hp := putB_len v
  have h1 := n28 hv hg B t z hz (by omega)
  obtain ⟨k2, h2⟩ := n29 (B ++ putB v) true t2 1 (.inr rfl) l hl hd (by rw [List.length_append]; omega)
  obtain ⟨k3, h3⟩ := n29 (B ++ putB v) false t2 1 (.inr rfl) l hl hd (by rw [List.length_append]; omega)
  refine ⟨1200 + k2 + k3 + 1, playN (1200 + k2 + k3) rfl rfl fun A call hA hcall => ?_⟩
  have q1 := h1 (1200 + k2 + k3) (by omega)
  have q2 : ∀ t, call 29 [.one (.iv (.sl t 1 (by8 (B ++ putB v)))), .one (.iv (.sl t2 8 (l.map evE)))] [] = some (.one (.slo 0 0 (B ++ putB v ++ evsA l).length), [.arr false false 1 (by8 (B ++ putB v ++ evsA l))]) := fun t => by
    rw [hcall]; cases t
    · exact h3 _ (by omega)
    · exact h2 _ (by omega)
  rw [← hcall] at q1
  have s1 := seg8 hA (B ++ putB v)
  rw [← List.append_assoc]
  dsimp only [vecF] at *
  generalize by8 B = e0 at *
  generalize by8 (B ++ putB v) = e1 at *
  generalize by8 (B ++ putB v ++ evsA l) = e2 at *
  generalize (B ++ putB v).length = n1 at *
  generalize (B ++ putB v ++ evsA l).length = n2 at *
  generalize l.map evE = ls at *
  generalize vec v = vs at *
  refine wpV_of (by ((conv => lhs; cbv); (repeat ((first | rewrite [q1] | rewrite [s1] | rewrite [q2]); (try (conv => lhs; cbv)))); (try (with_reducible rfl)))) ?_
  (show finV _ _ _ = some _; ((conv => lhs; cbv); (try (with_reducible rfl))); (try rfl))
theorem n36x : ∀ l : List EvX, (∀ x, x ∈ l → x.1.doc.size ≤ 1000000000000000 ∧ x.1.gone.length ≤ 1000) → ∃ k, ∀ x, x ∈ l → ∀ b, Pn k 36 [evF b 2 x.1] [] (i64 (chk x.1)) []
  | [], _ => ⟨0, fun w h => by simp at h⟩
  | x :: r, h => by
    obtain ⟨h0, h00⟩ := h x (by simp)
    obtain ⟨k1, h1⟩ := n36 x.1 h0 h00
    obtain ⟨k2, h2⟩ := n36x r fun w hw => h w (by simp [hw])
    refine ⟨k1 + k2, fun w hw b n hn => ?_⟩
    rcases List.mem_cons.1 hw with rfl | hw
    · exact h1 b 2 (.inl rfl) n (by omega)
    · exact h2 w hw b n (by omega)
theorem chkM_1or {m : Msg} {lx : List EvX} (h : chkM m lx ≠ 0) : chkM m lx = 1 := by
  unfold chkM at *
  generalize (endsB m && (goodB m.ack && (goodB m.base && (goodB m.floor && decide (lx.length ≤ 1024))))) = a at *
  cases a
  · rfl
  generalize (lx.all fun x => decide (chk x.1 = 0)) = b at *
  cases b
  · rfl
  simp only [cond_true] at *
  unfold kindI at *
  repeat' split
  all_goals simp_all
theorem n13 (m : Msg) (lx : List EvX) (h : MsgOK m lx) : ∃ k, ∀ b z b2 z2, (z = 8 ∨ z = 0 ∧ lx = []) → (z2 = 6 ∨ z2 = 0 ∧ m.live = []) → Pn k 13 [msF b z b2 z2 m lx] [] (i64 (chkM m lx)) [] := by
  obtain ⟨kg, hkg⟩ := n36x lx h.ex
  obtain ⟨kc, hkc⟩ := n37 h.ls m.live h.wd
  obtain ⟨N, hN⟩ : ∃ N, N = kg + kc + 3000 := ⟨_, rfl⟩
  refine ⟨N + 1, fun b z b2 z2 hz hz2 => playN N rfl rfl fun A call hA hcall => ?_⟩
  obtain ⟨pl, mi, ml, nt, tn, ad, sb, K⟩ := kit hA
  obtain ⟨EX, ix, sn, ll, cc, sg, X⟩ := lkit hA K zeroX exI 96
  obtain ⟨W, gx, st', V⟩ := rkit hA
  have qa := n35 h.la N (by omega)
  have qb := n35 h.lb N (by omega)
  have qf := n35 h.lf N (by omega)
  have qc := hkc b2 z2 hz2 N (by omega)
  have qg : ∀ x, x ∈ lx → ∀ b, call 36 [evF b 2 x.1] [] = some (i64 (chk x.1), []) := fun x hx b => by rw [hcall]; exact hkg x hx b N (by omega)
  rw [← hcall] at qa qb qf qc
  have hzl : zeros.length = 64 := by simp [zeros]
  have eqS := eqv_vec h.ls hzl
  have eqB := eqv_vec h.lb hzl
  have eqF := eqv_vec h.lf hzl
  rw [← hA] at eqS eqB eqF
  have z0 : [IV.int IntKind.i64 0, IV.int IntKind.i64 0, IV.int IntKind.i64 0, IV.int IntKind.i64 0, IV.int IntKind.i64 0, IV.int IntKind.i64 0, IV.int IntKind.i64 0, IV.int IntKind.i64 0, IV.int IntKind.i64 0, IV.int IntKind.i64 0, IV.int IntKind.i64 0, IV.int IntKind.i64 0, IV.int IntKind.i64 0, IV.int IntKind.i64 0, IV.int IntKind.i64 0, IV.int IntKind.i64 0, IV.int IntKind.i64 0, IV.int IntKind.i64 0, IV.int IntKind.i64 0, IV.int IntKind.i64 0, IV.int IntKind.i64 0, IV.int IntKind.i64 0, IV.int IntKind.i64 0, IV.int IntKind.i64 0, IV.int IntKind.i64 0, IV.int IntKind.i64 0, IV.int IntKind.i64 0, IV.int IntKind.i64 0, IV.int IntKind.i64 0, IV.int IntKind.i64 0, IV.int IntKind.i64 0, IV.int IntKind.i64 0, IV.int IntKind.i64 0, IV.int IntKind.i64 0, IV.int IntKind.i64 0, IV.int IntKind.i64 0, IV.int IntKind.i64 0, IV.int IntKind.i64 0, IV.int IntKind.i64 0, IV.int IntKind.i64 0, IV.int IntKind.i64 0, IV.int IntKind.i64 0, IV.int IntKind.i64 0, IV.int IntKind.i64 0, IV.int IntKind.i64 0, IV.int IntKind.i64 0, IV.int IntKind.i64 0, IV.int IntKind.i64 0, IV.int IntKind.i64 0, IV.int IntKind.i64 0, IV.int IntKind.i64 0, IV.int IntKind.i64 0, IV.int IntKind.i64 0, IV.int IntKind.i64 0, IV.int IntKind.i64 0, IV.int IntKind.i64 0, IV.int IntKind.i64 0, IV.int IntKind.i64 0, IV.int IntKind.i64 0, IV.int IntKind.i64 0, IV.int IntKind.i64 0, IV.int IntKind.i64 0, IV.int IntKind.i64 0, IV.int IntKind.i64 0] = vec zeros := rfl
  rw [← z0] at eqS eqB eqF
  have hEX : exs lx = EX lx := by rw [X.E_]; rfl
  obtain ⟨M, hM⟩ : ∃ M : Int, M = nt (ll lx) := ⟨_, rfl⟩
  have hMl : M = lx.length := by rw [hM, K.nt_, X.ll_]
  have ln : A .len (EX lx) = M := by rw [X.len, hM]
  obtain ⟨LN, hLN⟩ : ∃ x : Int, x = m.live.length := ⟨_, rfl⟩
  have lnW : A .len (eWs m.live) = LN := by rw [hA, real_len, hLN]; simp [eWs]
  have hnn : noneB m = (decide (m.seen = zeros) && (decide (LN = 0) && decide (m.floor = zeros))) := by
    unfold noneB
    congr 2
    by_cases h0 : m.live.length = 0
    · rw [decide_eq_true h0, decide_eq_true (by omega)]
    · rw [decide_eq_false h0, decide_eq_false (by omega)]
  have x2 := h.x2
  clear hkg hkc h
  unfold chkM
  rw [hnn, show endsB m = decide (0 ≤ m.fr ∧ m.fr < 64 ∧ 0 ≤ m.to ∧ m.to < 64 ∧ m.fr ≠ m.to) from rfl]
  obtain ⟨mk, fr, to, ack, base, seen, live, floor⟩ := m
  dsimp only [msF, stF, vecF] at *
  rw [hEX]
  clear hnn
  generalize goodB ack = ga at *
  generalize goodB base = gb at *
  generalize goodB floor = gf at *
  generalize decide (seen = zeros) = bS at *
  generalize decide (base = zeros) = bB at *
  generalize decide (floor = zeros) = bF at *
  generalize canB seen live = cn at *
  generalize vec ack = va at *
  generalize vec base = vb at *
  generalize vec seen = vs at *
  generalize vec floor = vf at *
  generalize eWs live = lw at *
  by_cases hends : 0 ≤ fr ∧ fr < 64 ∧ 0 ≤ to ∧ to < 64 ∧ fr ≠ to
  · rw [decide_eq_true hends, Bool.true_and]
    obtain ⟨he1, he2, he3, he4, he5⟩ := hends
    by_cases hlen : lx.length ≤ 1024
    · rw [decide_eq_true hlen]
      cases ga with
      | false => rw [Bool.false_and, cond_false]; refine wpV_ofH (by ((try (conv => lhs; cbv)); (repeat ((first | (rewrite [ln]) | (rewrite [qa]) | (rewrite [K.ltF]; rotate_left; focus ((try simp only [K.df, X.df, V.df, true_and, and_true]) <;> omega)) | (rewrite [K.gtF]; rotate_left; focus ((try simp only [K.df, X.df, V.df, true_and, and_true]) <;> omega)) | (rewrite [K.eqF]; rotate_left; focus ((try simp only [K.df, X.df, V.df, true_and, and_true]) <;> omega))); (try (conv => lhs; cbv)))); (exact rfl))) ?_; (show finV _ _ _ = some _; ((try (conv => lhs; cbv)); (try (with_reducible rfl))); (try rfl))
      | true =>
        rw [Bool.true_and]
        cases gb with
        | false => rw [Bool.false_and, cond_false]; refine wpV_ofH (by ((try (conv => lhs; cbv)); (repeat ((first | (rewrite [ln]) | (rewrite [qa]) | (rewrite [qb]) | (rewrite [K.ltF]; rotate_left; focus ((try simp only [K.df, X.df, V.df, true_and, and_true]) <;> omega)) | (rewrite [K.gtF]; rotate_left; focus ((try simp only [K.df, X.df, V.df, true_and, and_true]) <;> omega)) | (rewrite [K.eqF]; rotate_left; focus ((try simp only [K.df, X.df, V.df, true_and, and_true]) <;> omega))); (try (conv => lhs; cbv)))); (exact rfl))) ?_; (show finV _ _ _ = some _; ((try (conv => lhs; cbv)); (try (with_reducible rfl))); (try rfl))
        | true =>
          rw [Bool.true_and]
          cases gf with
          | false => rw [Bool.false_and, cond_false]; refine wpV_ofH (by ((try (conv => lhs; cbv)); (repeat ((first | (rewrite [ln]) | (rewrite [qa]) | (rewrite [qb]) | (rewrite [qf]) | (rewrite [K.ltF]; rotate_left; focus ((try simp only [K.df, X.df, V.df, true_and, and_true]) <;> omega)) | (rewrite [K.gtF]; rotate_left; focus ((try simp only [K.df, X.df, V.df, true_and, and_true]) <;> omega)) | (rewrite [K.eqF]; rotate_left; focus ((try simp only [K.df, X.df, V.df, true_and, and_true]) <;> omega))); (try (conv => lhs; cbv)))); (exact rfl))) ?_; (show finV _ _ _ = some _; ((try (conv => lhs; cbv)); (try (with_reducible rfl))); (try rfl))
          | true =>
            rw [Bool.true_and, cond_true]
            generalize hR : (lx.all fun x => decide (chk x.1 = 0)) = R
            apply wpV_seq; refine wpV_ofH (by ((try (conv => lhs; cbv)); (exact rfl))) ?_
            apply wpV_seq; apply wpV_seq; refine wpV_ofH (by ((try (conv => lhs; cbv)); (repeat ((first | (rewrite [ln]) | (rewrite [K.ltF]; rotate_left; focus ((try simp only [K.df, X.df, V.df, true_and, and_true]) <;> omega)) | (rewrite [K.gtF]; rotate_left; focus ((try simp only [K.df, X.df, V.df, true_and, and_true]) <;> omega)) | (rewrite [K.eqF]; rotate_left; focus ((try simp only [K.df, X.df, V.df, true_and, and_true]) <;> omega))); (try (conv => lhs; cbv)))); (exact rfl))) ?_
            apply wpV_of (by rfl); show wpV _ _ _ _ _ _
            apply wpV_seq; apply wpV_seq; refine wpV_ofH (by ((try (conv => lhs; cbv)); (repeat ((first | (rewrite [qa]) | (rewrite [qb]) | (rewrite [qf])); (try (conv => lhs; cbv)))); (exact rfl))) ?_
            apply wpV_of (by rfl); show wpV _ _ _ _ _ _
            apply wpV_seq; apply wpV_seq; refine wpV_ofH (by ((try (conv => lhs; cbv)); (repeat ((first | (rewrite [ln])); (try (conv => lhs; cbv)))); (exact rfl))) ?_
            apply wpV_block
            refine wpV_loop lx.length (fun j st => ∃ J : Int, st = ⟨0, (u :: .one (.ptr 0 0) :: u :: u :: u :: u :: u :: u :: u :: u :: u :: u :: u :: u :: u :: u :: u :: u :: u :: u :: u :: u :: u :: u :: u :: u :: u :: u :: u :: u :: u :: u :: u :: u :: u :: u :: u :: u :: u :: u :: u :: u :: u :: u :: u :: u :: u :: u :: u :: u :: u :: u :: u :: u :: u :: .one (.iv (.sl b z (EX lx))) :: i64 M :: i64 J :: u :: u :: u :: u :: u :: u :: u :: u :: u :: u :: u :: u :: u :: u :: u :: u :: u :: u :: u :: u :: u :: u :: u :: u :: u :: u :: u :: u :: u :: u :: u :: u :: u :: u :: u :: u :: u :: u :: u :: u :: u :: u :: u :: u :: u :: u :: u :: u :: u :: u :: u :: u :: u :: u :: u :: u :: u :: u :: u :: u :: u :: u :: u :: u :: u :: u :: u :: u :: u :: u :: u :: []), [.var false [.iv (.int .i64 mk), .iv (.int .i64 fr), .iv (.int .i64 to), .iv (.arr 64 va), .iv (.arr 64 vb), .iv (.sl b z (EX lx)), .iv (.arr 64 vs), .iv (.sl b2 z2 lw), .iv (.arr 64 vf)]]⟩ ∧ J = j ∧ ((lx.drop j).all fun x => decide (chk x.1 = 0)) = R) (by omega) (by ((try (conv => lhs; cbv)); (try (with_reducible rfl)))) ⟨0, rfl, rfl, hR⟩ ?_
            rintro j hj st ⟨J, rfl, hJ, hgo⟩
            by_cases hjl : j < lx.length
            · obtain rfl : z = 8 := by
                rcases hz with h | ⟨h, h2⟩
                · exact h
                · rw [h2] at hjl; simp at hjl
              have g1 := X.get (l := lx) (J := J) (by omega)
              have hd : lx.drop j = ix lx J :: lx.drop (j + 1) := by
                rw [X.ix_, hJ, Int.toNat_natCast, List.drop_eq_getElem_cons (by omega), List.getD_eq_getElem?_getD, List.getElem?_eq_getElem (by omega)]; rfl
              have hm : ix lx J ∈ lx := by
                rw [X.ix_, hJ, Int.toNat_natCast, List.getD_eq_getElem?_getD, List.getElem?_eq_getElem hjl]; exact List.getElem_mem _
              have kk := qg _ hm
              have zz := x2 _ hm
              rw [hd, List.all_cons] at hgo
              generalize ix lx J = x at *
              obtain ⟨e, bb, zx⟩ := x
              dsimp only at kk zz hgo
              subst zz
              have kk := kk bb
              unfold exI at g1
              dsimp only [evF] at kk g1
              generalize chk e = c at *
              generalize eDs e.gone = gs at *
              obtain ⟨⟨r, n⟩, tt, kd, doc, f, txt, gone⟩ := e
              dsimp only at kk g1
              clear qg x2
              by_cases hc : c = 0
              · rw [decide_eq_true hc, Bool.true_and] at hgo
                subst hc
                refine wpV_ofH (by ((try (conv => lhs; cbv)); (repeat ((first | (rewrite [g1]) | (rewrite [kk]) | (rewrite [K.add]; rotate_left; focus ((try simp only [K.df, X.df, V.df, true_and, and_true]) <;> omega)) | (rewrite [K.ltT]; rotate_left; focus ((try simp only [K.df, X.df, V.df, true_and, and_true]) <;> omega)) | (rewrite [K.neF]; rotate_left; focus ((try simp only [K.df, X.df, V.df, true_and, and_true]) <;> omega))); (try (conv => lhs; cbv)))); (exact rfl))) ?_
                refine headQ_ofH (by ((try (conv => lhs; cbv)); (exact rfl))) ?_
                refine ⟨hjl, _, rfl, ?_, hgo⟩
                rw [K.pl_]; omega
              · rw [decide_eq_false hc, Bool.false_and] at hgo
                subst hgo
                rw [cond_false]
                refine wpV_ofH (by ((try (conv => lhs; cbv)); (repeat ((first | (rewrite [g1]) | (rewrite [kk]) | (rewrite [K.ltT]; rotate_left; focus ((try simp only [K.df, X.df, V.df, true_and, and_true]) <;> omega)) | (rewrite [K.neT]; rotate_left; focus ((try simp only [K.df, X.df, V.df, true_and, and_true]) <;> omega))); (try (conv => lhs; cbv)))); (exact rfl))) ?_
                show finQ _ _ _ _ _
                (show finV _ _ _ = some _; ((try (conv => lhs; cbv)); (try (with_reducible rfl))); (try rfl))
            · obtain rfl : j = lx.length := by omega
              rw [List.drop_of_length_le (Nat.le_refl _), List.all_nil] at hgo
              subst hgo
              rw [cond_true, ← hMl]
              have hM0 : 0 ≤ M := by omega
              have hL0 : 0 ≤ LN := by omega
              clear qg x2 hR hM hEX
              obtain ⟨nn, hnn⟩ : ∃ nn, nn = (bS && (decide (LN = 0) && bF)) := ⟨_, rfl⟩
              rw [← hnn]
              have cs : nn = true ∧ bS = true ∧ LN = 0 ∧ bF = true ∨ nn = false ∧ (bS = false ∨ bS = true ∧ 0 < LN ∨ bS = true ∧ LN = 0 ∧ bF = false) := by
                rw [hnn]
                cases bS <;> cases bF <;> (by_cases h0 : LN = 0) <;> simp [h0] <;> omega
              clear hnn hLN
              generalize hq : kindI mk nn M bB cn = q
              refine wpV_ofH (by ((try (conv => lhs; cbv)); (repeat ((first | (rewrite [K.ltF]; rotate_left; focus ((try simp only [K.df, X.df, V.df, true_and, and_true]) <;> omega))); (try (conv => lhs; cbv)))); (exact rfl))) ?_
              show wpV _ _ _ _ _ _
              rcases cs with ⟨rfl, rfl, rfl, rfl⟩ | ⟨rfl, cs⟩
              · rcases (show mk = 1 ∨ mk = 2 ∨ mk = 3 ∨ mk ≠ 1 ∧ mk ≠ 2 ∧ mk ≠ 3 by omega) with rfl | rfl | rfl | ⟨k1, k2, k3⟩
                · cases bB with
                  | false =>
                    obtain rfl : q = 1 := by rw [← hq]; simp [kindI]
                    refine wpV_ofH (by ((try (conv => lhs; cbv)); (repeat ((first | (rewrite [eqS]) | (rewrite [eqB]) | (rewrite [eqF]) | (rewrite [lnW]) | (rewrite [K.eqT]; rotate_left; focus ((try simp only [K.df, X.df, V.df, true_and, and_true]) <;> omega)) | (rewrite [K.gtF]; rotate_left; focus ((try simp only [K.df, X.df, V.df, true_and, and_true]) <;> omega)) | (rewrite [K.eqF]; rotate_left; focus ((try simp only [K.df, X.df, V.df, true_and, and_true]) <;> omega))); (try (conv => lhs; cbv)))); (exact rfl))) ?_
                    (show finV _ _ _ = some _; ((try (conv => lhs; cbv)); (try (with_reducible rfl))); (try rfl))
                  | true =>
                    rcases (show M = 0 ∨ 0 < M by omega) with rfl | hp
                    · obtain rfl : q = 0 := by rw [← hq]; simp [kindI]
                      refine wpV_ofH (by ((try (conv => lhs; cbv)); (repeat ((first | (rewrite [eqS]) | (rewrite [eqB]) | (rewrite [eqF]) | (rewrite [lnW]) | (rewrite [ln]) | (rewrite [K.eqT]; rotate_left; focus ((try simp only [K.df, X.df, V.df, true_and, and_true]) <;> omega)) | (rewrite [K.gtF]; rotate_left; focus ((try simp only [K.df, X.df, V.df, true_and, and_true]) <;> omega))); (try (conv => lhs; cbv)))); (exact rfl))) ?_
                      (show finV _ _ _ = some _; ((try (conv => lhs; cbv)); (try (with_reducible rfl))); (try rfl))
                    · have hp' : M ≠ 0 := by omega
                      obtain rfl : q = 1 := by rw [← hq]; simp [kindI, hp']
                      refine wpV_ofH (by ((try (conv => lhs; cbv)); (repeat ((first | (rewrite [eqS]) | (rewrite [eqB]) | (rewrite [eqF]) | (rewrite [lnW]) | (rewrite [ln]) | (rewrite [K.eqT]; rotate_left; focus ((try simp only [K.df, X.df, V.df, true_and, and_true]) <;> omega)) | (rewrite [K.gtF]; rotate_left; focus ((try simp only [K.df, X.df, V.df, true_and, and_true]) <;> omega)) | (rewrite [K.eqF]; rotate_left; focus ((try simp only [K.df, X.df, V.df, true_and, and_true]) <;> omega))); (try (conv => lhs; cbv)))); (exact rfl))) ?_
                      (show finV _ _ _ = some _; ((try (conv => lhs; cbv)); (try (with_reducible rfl))); (try rfl))
                · rcases (show M = 0 ∨ 0 < M by omega) with rfl | hp
                  · obtain rfl : q = 1 := by rw [← hq]; simp [kindI]
                    refine wpV_ofH (by ((try (conv => lhs; cbv)); (repeat ((first | (rewrite [eqS]) | (rewrite [eqB]) | (rewrite [eqF]) | (rewrite [lnW]) | (rewrite [ln]) | (rewrite [K.eqT]; rotate_left; focus ((try simp only [K.df, X.df, V.df, true_and, and_true]) <;> omega)) | (rewrite [K.gtF]; rotate_left; focus ((try simp only [K.df, X.df, V.df, true_and, and_true]) <;> omega)) | (rewrite [K.eqF]; rotate_left; focus ((try simp only [K.df, X.df, V.df, true_and, and_true]) <;> omega))); (try (conv => lhs; cbv)))); (exact rfl))) ?_
                    (show finV _ _ _ = some _; ((try (conv => lhs; cbv)); (try (with_reducible rfl))); (try rfl))
                  · obtain rfl : q = 0 := by rw [← hq]; simp [kindI, hp]
                    refine wpV_ofH (by ((try (conv => lhs; cbv)); (repeat ((first | (rewrite [eqS]) | (rewrite [eqB]) | (rewrite [eqF]) | (rewrite [lnW]) | (rewrite [ln]) | (rewrite [K.gtT]; rotate_left; focus ((try simp only [K.df, X.df, V.df, true_and, and_true]) <;> omega)) | (rewrite [K.eqT]; rotate_left; focus ((try simp only [K.df, X.df, V.df, true_and, and_true]) <;> omega)) | (rewrite [K.gtF]; rotate_left; focus ((try simp only [K.df, X.df, V.df, true_and, and_true]) <;> omega)) | (rewrite [K.eqF]; rotate_left; focus ((try simp only [K.df, X.df, V.df, true_and, and_true]) <;> omega))); (try (conv => lhs; cbv)))); (exact rfl))) ?_
                    (show finV _ _ _ = some _; ((try (conv => lhs; cbv)); (try (with_reducible rfl))); (try rfl))
                · cases cn with
                  | false =>
                    obtain rfl : q = 1 := by rw [← hq]; simp [kindI]
                    cases bB
                    · refine wpV_ofH (by ((try (conv => lhs; cbv)); (repeat ((first | (rewrite [eqS]) | (rewrite [eqB]) | (rewrite [eqF]) | (rewrite [lnW]) | (rewrite [K.eqT]; rotate_left; focus ((try simp only [K.df, X.df, V.df, true_and, and_true]) <;> omega)) | (rewrite [K.gtF]; rotate_left; focus ((try simp only [K.df, X.df, V.df, true_and, and_true]) <;> omega)) | (rewrite [K.eqF]; rotate_left; focus ((try simp only [K.df, X.df, V.df, true_and, and_true]) <;> omega))); (try (conv => lhs; cbv)))); (exact rfl))) ?_; (show finV _ _ _ = some _; ((try (conv => lhs; cbv)); (try (with_reducible rfl))); (try rfl))
                    refine wpV_ofH (by ((try (conv => lhs; cbv)); (repeat ((first | (rewrite [eqS]) | (rewrite [eqB]) | (rewrite [eqF]) | (rewrite [lnW]) | (rewrite [qc]) | (rewrite [K.eqT]; rotate_left; focus ((try simp only [K.df, X.df, V.df, true_and, and_true]) <;> omega)) | (rewrite [K.gtF]; rotate_left; focus ((try simp only [K.df, X.df, V.df, true_and, and_true]) <;> omega)) | (rewrite [K.eqF]; rotate_left; focus ((try simp only [K.df, X.df, V.df, true_and, and_true]) <;> omega))); (try (conv => lhs; cbv)))); (exact rfl))) ?_
                    (show finV _ _ _ = some _; ((try (conv => lhs; cbv)); (try (with_reducible rfl))); (try rfl))
                  | true =>
                    cases bB with
                    | false =>
                      obtain rfl : q = 1 := by rw [← hq]; simp [kindI]
                      refine wpV_ofH (by ((try (conv => lhs; cbv)); (repeat ((first | (rewrite [eqS]) | (rewrite [eqB]) | (rewrite [eqF]) | (rewrite [lnW]) | (rewrite [K.eqT]; rotate_left; focus ((try simp only [K.df, X.df, V.df, true_and, and_true]) <;> omega)) | (rewrite [K.gtF]; rotate_left; focus ((try simp only [K.df, X.df, V.df, true_and, and_true]) <;> omega)) | (rewrite [K.eqF]; rotate_left; focus ((try simp only [K.df, X.df, V.df, true_and, and_true]) <;> omega))); (try (conv => lhs; cbv)))); (exact rfl))) ?_
                      (show finV _ _ _ = some _; ((try (conv => lhs; cbv)); (try (with_reducible rfl))); (try rfl))
                    | true =>
                      obtain rfl : q = 0 := by rw [← hq]; simp [kindI]
                      refine wpV_ofH (by ((try (conv => lhs; cbv)); (repeat ((first | (rewrite [eqS]) | (rewrite [eqB]) | (rewrite [eqF]) | (rewrite [lnW]) | (rewrite [qc]) | (rewrite [K.eqT]; rotate_left; focus ((try simp only [K.df, X.df, V.df, true_and, and_true]) <;> omega)) | (rewrite [K.gtF]; rotate_left; focus ((try simp only [K.df, X.df, V.df, true_and, and_true]) <;> omega)) | (rewrite [K.eqF]; rotate_left; focus ((try simp only [K.df, X.df, V.df, true_and, and_true]) <;> omega))); (try (conv => lhs; cbv)))); (exact rfl))) ?_
                      (show finV _ _ _ = some _; ((try (conv => lhs; cbv)); (try (with_reducible rfl))); (try rfl))
                · obtain rfl : q = 1 := by rw [← hq]; simp [kindI, k1, k2, k3]
                  refine wpV_ofH (by ((try (conv => lhs; cbv)); (repeat ((first | (rewrite [eqS]) | (rewrite [eqB]) | (rewrite [eqF]) | (rewrite [lnW]) | (rewrite [K.gtF]; rotate_left; focus ((try simp only [K.df, X.df, V.df, true_and, and_true]) <;> omega)) | (rewrite [K.eqF]; rotate_left; focus ((try simp only [K.df, X.df, V.df, true_and, and_true]) <;> omega))); (try (conv => lhs; cbv)))); (exact rfl))) ?_
                  (show finV _ _ _ = some _; ((try (conv => lhs; cbv)); (try (with_reducible rfl))); (try rfl))
              · rcases cs with rfl | ⟨rfl, hl⟩ | ⟨rfl, rfl, rfl⟩
                all_goals
                  rcases (show mk = 1 ∨ mk = 2 ∨ mk = 3 ∨ mk ≠ 1 ∧ mk ≠ 2 ∧ mk ≠ 3 by omega) with rfl | rfl | rfl | ⟨k1, k2, k3⟩
                  · obtain rfl : q = 1 := by rw [← hq]; simp [kindI]
                    refine wpV_ofH (by ((try (conv => lhs; cbv)); (repeat ((first | (rewrite [eqS]) | (rewrite [eqB]) | (rewrite [eqF]) | (rewrite [lnW]) | (rewrite [K.gtT]; rotate_left; focus ((try simp only [K.df, X.df, V.df, true_and, and_true]) <;> omega)) | (rewrite [K.eqT]; rotate_left; focus ((try simp only [K.df, X.df, V.df, true_and, and_true]) <;> omega)) | (rewrite [K.gtF]; rotate_left; focus ((try simp only [K.df, X.df, V.df, true_and, and_true]) <;> omega)) | (rewrite [K.eqF]; rotate_left; focus ((try simp only [K.df, X.df, V.df, true_and, and_true]) <;> omega))); (try (conv => lhs; cbv)))); (exact rfl))) ?_
                    (show finV _ _ _ = some _; ((try (conv => lhs; cbv)); (try (with_reducible rfl))); (try rfl))
                  · obtain rfl : q = 1 := by rw [← hq]; simp [kindI]
                    refine wpV_ofH (by ((try (conv => lhs; cbv)); (repeat ((first | (rewrite [eqS]) | (rewrite [eqB]) | (rewrite [eqF]) | (rewrite [lnW]) | (rewrite [K.gtT]; rotate_left; focus ((try simp only [K.df, X.df, V.df, true_and, and_true]) <;> omega)) | (rewrite [K.eqT]; rotate_left; focus ((try simp only [K.df, X.df, V.df, true_and, and_true]) <;> omega)) | (rewrite [K.gtF]; rotate_left; focus ((try simp only [K.df, X.df, V.df, true_and, and_true]) <;> omega)) | (rewrite [K.eqF]; rotate_left; focus ((try simp only [K.df, X.df, V.df, true_and, and_true]) <;> omega))); (try (conv => lhs; cbv)))); (exact rfl))) ?_
                    (show finV _ _ _ = some _; ((try (conv => lhs; cbv)); (try (with_reducible rfl))); (try rfl))
                  · cases cn with
                    | false =>
                      obtain rfl : q = 1 := by rw [← hq]; simp [kindI]
                      cases bB
                      · refine wpV_ofH (by ((try (conv => lhs; cbv)); (repeat ((first | (rewrite [eqS]) | (rewrite [eqB]) | (rewrite [eqF]) | (rewrite [lnW]) | (rewrite [K.gtT]; rotate_left; focus ((try simp only [K.df, X.df, V.df, true_and, and_true]) <;> omega)) | (rewrite [K.eqT]; rotate_left; focus ((try simp only [K.df, X.df, V.df, true_and, and_true]) <;> omega)) | (rewrite [K.gtF]; rotate_left; focus ((try simp only [K.df, X.df, V.df, true_and, and_true]) <;> omega)) | (rewrite [K.eqF]; rotate_left; focus ((try simp only [K.df, X.df, V.df, true_and, and_true]) <;> omega))); (try (conv => lhs; cbv)))); (exact rfl))) ?_; (show finV _ _ _ = some _; ((try (conv => lhs; cbv)); (try (with_reducible rfl))); (try rfl))
                      refine wpV_ofH (by ((try (conv => lhs; cbv)); (repeat ((first | (rewrite [eqS]) | (rewrite [eqB]) | (rewrite [eqF]) | (rewrite [lnW]) | (rewrite [qc]) | (rewrite [K.gtT]; rotate_left; focus ((try simp only [K.df, X.df, V.df, true_and, and_true]) <;> omega)) | (rewrite [K.eqT]; rotate_left; focus ((try simp only [K.df, X.df, V.df, true_and, and_true]) <;> omega)) | (rewrite [K.gtF]; rotate_left; focus ((try simp only [K.df, X.df, V.df, true_and, and_true]) <;> omega)) | (rewrite [K.eqF]; rotate_left; focus ((try simp only [K.df, X.df, V.df, true_and, and_true]) <;> omega))); (try (conv => lhs; cbv)))); (exact rfl))) ?_
                      (show finV _ _ _ = some _; ((try (conv => lhs; cbv)); (try (with_reducible rfl))); (try rfl))
                    | true =>
                      cases bB with
                      | false =>
                        obtain rfl : q = 1 := by rw [← hq]; simp [kindI]
                        refine wpV_ofH (by ((try (conv => lhs; cbv)); (repeat ((first | (rewrite [eqS]) | (rewrite [eqB]) | (rewrite [eqF]) | (rewrite [lnW]) | (rewrite [K.gtT]; rotate_left; focus ((try simp only [K.df, X.df, V.df, true_and, and_true]) <;> omega)) | (rewrite [K.eqT]; rotate_left; focus ((try simp only [K.df, X.df, V.df, true_and, and_true]) <;> omega)) | (rewrite [K.gtF]; rotate_left; focus ((try simp only [K.df, X.df, V.df, true_and, and_true]) <;> omega)) | (rewrite [K.eqF]; rotate_left; focus ((try simp only [K.df, X.df, V.df, true_and, and_true]) <;> omega))); (try (conv => lhs; cbv)))); (exact rfl))) ?_
                        (show finV _ _ _ = some _; ((try (conv => lhs; cbv)); (try (with_reducible rfl))); (try rfl))
                      | true =>
                        obtain rfl : q = 0 := by rw [← hq]; simp [kindI]
                        refine wpV_ofH (by ((try (conv => lhs; cbv)); (repeat ((first | (rewrite [eqS]) | (rewrite [eqB]) | (rewrite [eqF]) | (rewrite [lnW]) | (rewrite [qc]) | (rewrite [K.gtT]; rotate_left; focus ((try simp only [K.df, X.df, V.df, true_and, and_true]) <;> omega)) | (rewrite [K.eqT]; rotate_left; focus ((try simp only [K.df, X.df, V.df, true_and, and_true]) <;> omega)) | (rewrite [K.gtF]; rotate_left; focus ((try simp only [K.df, X.df, V.df, true_and, and_true]) <;> omega)) | (rewrite [K.eqF]; rotate_left; focus ((try simp only [K.df, X.df, V.df, true_and, and_true]) <;> omega))); (try (conv => lhs; cbv)))); (exact rfl))) ?_
                        (show finV _ _ _ = some _; ((try (conv => lhs; cbv)); (try (with_reducible rfl))); (try rfl))
                  · obtain rfl : q = 1 := by rw [← hq]; simp [kindI, k1, k2, k3]
                    refine wpV_ofH (by ((try (conv => lhs; cbv)); (repeat ((first | (rewrite [eqS]) | (rewrite [eqB]) | (rewrite [eqF]) | (rewrite [lnW]) | (rewrite [K.gtT]; rotate_left; focus ((try simp only [K.df, X.df, V.df, true_and, and_true]) <;> omega)) | (rewrite [K.gtF]; rotate_left; focus ((try simp only [K.df, X.df, V.df, true_and, and_true]) <;> omega)) | (rewrite [K.eqF]; rotate_left; focus ((try simp only [K.df, X.df, V.df, true_and, and_true]) <;> omega))); (try (conv => lhs; cbv)))); (exact rfl))) ?_
                    (show finV _ _ _ = some _; ((try (conv => lhs; cbv)); (try (with_reducible rfl))); (try rfl))
    · rw [decide_eq_false hlen, Bool.and_false, Bool.and_false, Bool.and_false, cond_false]
      clear qg x2
      refine wpV_ofH (by ((try (conv => lhs; cbv)); (repeat ((first | (rewrite [ln]) | (rewrite [K.gtT]; rotate_left; focus ((try simp only [K.df, X.df, V.df, true_and, and_true]) <;> omega)) | (rewrite [K.ltF]; rotate_left; focus ((try simp only [K.df, X.df, V.df, true_and, and_true]) <;> omega)) | (rewrite [K.gtF]; rotate_left; focus ((try simp only [K.df, X.df, V.df, true_and, and_true]) <;> omega)) | (rewrite [K.eqF]; rotate_left; focus ((try simp only [K.df, X.df, V.df, true_and, and_true]) <;> omega))); (try (conv => lhs; cbv)))); (exact rfl))) ?_
      (show finV _ _ _ = some _; ((try (conv => lhs; cbv)); (try (with_reducible rfl))); (try rfl))
  · rw [decide_eq_false hends, Bool.false_and, cond_false]
    clear qg x2
    by_cases a1 : fr < 0
    · refine wpV_ofH (by ((try (conv => lhs; cbv)); (repeat ((first | (rewrite [K.ltT]; rotate_left; focus ((try simp only [K.df, X.df, V.df, true_and, and_true]) <;> omega))); (try (conv => lhs; cbv)))); (exact rfl))) ?_; (show finV _ _ _ = some _; ((try (conv => lhs; cbv)); (try (with_reducible rfl))); (try rfl))
    by_cases a2 : 63 < fr
    · refine wpV_ofH (by ((try (conv => lhs; cbv)); (repeat ((first | (rewrite [K.gtT]; rotate_left; focus ((try simp only [K.df, X.df, V.df, true_and, and_true]) <;> omega)) | (rewrite [K.ltF]; rotate_left; focus ((try simp only [K.df, X.df, V.df, true_and, and_true]) <;> omega))); (try (conv => lhs; cbv)))); (exact rfl))) ?_; (show finV _ _ _ = some _; ((try (conv => lhs; cbv)); (try (with_reducible rfl))); (try rfl))
    by_cases a3 : to < 0
    · refine wpV_ofH (by ((try (conv => lhs; cbv)); (repeat ((first | (rewrite [K.ltT]; rotate_left; focus ((try simp only [K.df, X.df, V.df, true_and, and_true]) <;> omega)) | (rewrite [K.ltF]; rotate_left; focus ((try simp only [K.df, X.df, V.df, true_and, and_true]) <;> omega)) | (rewrite [K.gtF]; rotate_left; focus ((try simp only [K.df, X.df, V.df, true_and, and_true]) <;> omega))); (try (conv => lhs; cbv)))); (exact rfl))) ?_; (show finV _ _ _ = some _; ((try (conv => lhs; cbv)); (try (with_reducible rfl))); (try rfl))
    by_cases a4 : 63 < to
    · refine wpV_ofH (by ((try (conv => lhs; cbv)); (repeat ((first | (rewrite [K.gtT]; rotate_left; focus ((try simp only [K.df, X.df, V.df, true_and, and_true]) <;> omega)) | (rewrite [K.ltF]; rotate_left; focus ((try simp only [K.df, X.df, V.df, true_and, and_true]) <;> omega)) | (rewrite [K.gtF]; rotate_left; focus ((try simp only [K.df, X.df, V.df, true_and, and_true]) <;> omega))); (try (conv => lhs; cbv)))); (exact rfl))) ?_; (show finV _ _ _ = some _; ((try (conv => lhs; cbv)); (try (with_reducible rfl))); (try rfl))
    have a5 : fr = to := by omega
    refine wpV_ofH (by ((try (conv => lhs; cbv)); (repeat ((first | (rewrite [K.eqT]; rotate_left; focus ((try simp only [K.df, X.df, V.df, true_and, and_true]) <;> omega)) | (rewrite [K.ltF]; rotate_left; focus ((try simp only [K.df, X.df, V.df, true_and, and_true]) <;> omega)) | (rewrite [K.gtF]; rotate_left; focus ((try simp only [K.df, X.df, V.df, true_and, and_true]) <;> omega))); (try (conv => lhs; cbv)))); (exact rfl))) ?_
    (show finV _ _ _ = some _; ((try (conv => lhs; cbv)); (try (with_reducible rfl))); (try rfl))
theorem n10bad (m : Msg) (lx : List EvX) (h : MsgOK m lx) (hc : chkM m lx ≠ 0) : ∃ k, ∀ b z b2 z2, (z = 8 ∨ z = 0 ∧ lx = []) → (z2 = 6 ∨ z2 = 0 ∧ m.live = []) → Pn k 10 [msF b z b2 z2 m lx] [] (.tup [(false, [.iv (.sl true 0 [])]), (false, [.iv (.int .i64 1)])]) [] := by
  obtain ⟨k, hk⟩ := n13 m lx h
  refine ⟨k + 1, fun b z b2 z2 hz hz2 => playN k rfl rfl fun A call hA hcall => ?_⟩
  obtain ⟨pl, mi, ml, nt, tn, ad, sb, K⟩ := kit hA
  obtain ⟨EX, ix, sn, ll, cc, sg, X⟩ := lkit hA K zeroX exI 96
  obtain ⟨W, gx, st', V⟩ := rkit hA
  have k1 := hk b z b2 z2 hz hz2 k (by omega)
  rw [← hcall] at k1
  rw [chkM_1or hc] at k1
  obtain ⟨mk, fr, to, ack, base, seen, live, floor⟩ := m
  dsimp only [msF] at *
  generalize vec ack = va at *
  generalize vec base = vb at *
  generalize vec seen = vs at *
  generalize vec floor = vf at *
  generalize eWs live = lw at *
  generalize exs lx = xs at *
  refine wpV_ofH (by ((try (conv => lhs; cbv)); (repeat ((first | (rewrite [k1]) | (rewrite [K.neT]; rotate_left; focus ((try simp only [K.df, X.df, V.df, true_and, and_true]) <;> omega))); (try (conv => lhs; cbv)))); (exact rfl))) ?_
  (show finV _ _ _ = some _; ((try (conv => lhs; cbv)); (try (with_reducible rfl))); (try rfl))
theorem n10 (m : Msg) (l : List Ev) (h : MsgOK m (argX l)) (hl : l.length ≤ 1000) (hcs : ∀ e, e ∈ l → chk e = 0) (hc : chkM m (argX l) = 0) : ∃ k, Pn k 10 [msF false 8 false 6 m (argX l)] [] (.tup [(false, [.slo 0 0 (sealB (bodyB m l)).length]), (false, [.iv (.int .i64 0)])]) [.arr false false 1 (by8 (sealB (bodyB m l)))] := by
  obtain ⟨f1, f2, f3, f4, f5, ga, gb, gf⟩ := chkM_0 hc
  have hkk := chkM_k hc
  have hm : chkM m (okL l) = 0 := by rw [chkM_flags m (okL l) (argX l) (by unfold okL argX; rw [List.map_map, List.map_map]; rfl)]; exact hc
  have hbl := body_len m l hm hl
  have hd : ∀ e, e ∈ l → e.doc.size ≤ 1000000000000000 ∧ e.gone.length ≤ 1000 := fun e he => by
    obtain ⟨c1, c2, c3, c4, c5, c6, c7, c8, c9, c10⟩ := chk_0 (hcs e he)
    have nm := name_size c4
    have := (gone_valid c5).1
    omega
  have len : ∀ x, (enc x).length ≤ 9 := fun x => by rw [enc_len]; have := nd_le x; omega
  obtain ⟨X3, h3⟩ : ∃ X, X = (enc m.k.toNat ++ enc m.fr.toNat) ++ enc m.to.toNat := ⟨_, rfl⟩
  have l3 : X3.length ≤ 27 := by rw [h3]; have := len m.k.toNat; have := len m.fr.toNat; have := len m.to.toNat; simp only [List.length_append]; omega
  obtain ⟨X4, h4⟩ : ∃ X, X = X3 ++ putB m.ack := ⟨_, rfl⟩
  have l4 : X4.length ≤ 1300 := by rw [h4, List.length_append]; have := putB_len m.ack; omega
  obtain ⟨kc, hkc⟩ := n13 m (argX l) h
  have both : ∀ {P : Nat → Bool → Prop}, (∀ t, ∃ k, ∀ n, k ≤ n → P n t) → ∃ k, ∀ n, k ≤ n → ∀ t, P n t := fun {P} hP => by
    obtain ⟨a, ha⟩ := hP true
    obtain ⟨b, hb⟩ := hP false
    exact ⟨a + b, fun n hn t => by cases t; exact hb n (by omega); exact ha n (by omega)⟩
  obtain ⟨k4, hk4⟩ := both (P := fun n t => play real (lookT tab) (fun _ => clonePr clones) n 28 [.one (.iv (.sl t 1 (by8 X3))), vecF m.ack] [] = some (.one (.slo 0 0 X4.length), [.arr false false 1 (by8 X4)])) (fun t => by
    have hk := n28 h.la ga X3 t 1 (.inr rfl) (by omega)
    rw [← h4] at hk
    exact ⟨_, hk⟩)
  have hbb := body_b m l hl hcs hm
  have hb0 : bodyB m l ≠ [] := fun h => by
    have := congrArg List.length h
    unfold bodyB at this
    rw [List.length_append, enc_len, List.length_nil] at this
    omega
  obtain ⟨ks, hks⟩ : ∃ k, Pn k 20 [.one (.iv (.sl true 1 (by8 (bodyB m l))))] [] (.one (.slo 0 0 (sealB (bodyB m l)).length)) [.arr false false 1 (by8 (sealB (bodyB m l)))] := ⟨_, n20 (bodyB m l) hb0 hbb true (by omega)⟩
  obtain ⟨ks2, hks2⟩ : ∃ k, Pn k 20 [.one (.iv (.sl false 1 (by8 (bodyB m l))))] [] (.one (.slo 0 0 (sealB (bodyB m l)).length)) [.arr false false 1 (by8 (sealB (bodyB m l)))] := ⟨_, n20 (bodyB m l) hb0 hbb false (by omega)⟩
  clear hbb hb0
  have e1 : argX l = l.map fun e => ((e, false, 2) : EvX) := rfl
  have ex : exs (argX l) = l.map evE := by unfold exs argX; rw [List.map_map]; rfl
  have bodyE : bodyB m l = X4 ++ (if m.k = 2 then putB m.base ++ evsA l else if m.k = 3 then stB m.seen m.live ++ (putB m.floor ++ evsA l) else []) := by
    rw [h4, h3]; unfold bodyB; simp only [List.append_assoc]
  obtain ⟨B, hB⟩ : ∃ B, B = bodyB m l := ⟨_, rfl⟩
  rw [← hB] at hks hks2 bodyE hbl ⊢
  have start : ∀ (N : Nat) (A : Ar) (call : CallT), 3000 ≤ N → kc ≤ N → k4 ≤ N → ks + ks2 ≤ N → A = real → call = play real (lookT tab) (fun _ => clonePr clones) N →
      call 13 [msF false 8 false 6 m (argX l)] [] = some (i64 0, []) ∧
      (∃ Y1 Y2 n1 n2, (call 27 [.one (.iv (.sl true 0 [])), i64 m.k] [] = some (.one (.slo 0 0 n1), [.arr false false 1 Y1])) ∧ A .seg Y1 0 n1 = Y1 ∧ (∀ t, call 27 [.one (.iv (.sl t 1 Y1)), i64 m.fr] [] = some (.one (.slo 0 0 n2), [.arr false false 1 Y2])) ∧ A .seg Y2 0 n2 = Y2 ∧
        (∀ t, call 27 [.one (.iv (.sl t 1 Y2)), i64 m.to] [] = some (.one (.slo 0 0 X3.length), [.arr false false 1 (by8 X3)]))) ∧ A .seg (by8 X3) 0 X3.length = by8 X3 ∧
      (∀ t, call 28 [.one (.iv (.sl t 1 (by8 X3))), vecF m.ack] [] = some (.one (.slo 0 0 X4.length), [.arr false false 1 (by8 X4)])) ∧ A .seg (by8 X4) 0 X4.length = by8 X4 ∧
      A .seg (by8 B) 0 B.length = by8 B ∧ (∀ t, call 20 [.one (.iv (.sl t 1 (by8 B)))] [] = some (.one (.slo 0 0 (sealB B).length), [.arr false false 1 (by8 (sealB B))])) := by
    intro N A call hN1 hN2 hN3 hN4 hA hcall
    refine ⟨?_, ⟨by8 (enc m.k.toNat), by8 (enc m.k.toNat ++ enc m.fr.toNat), (enc m.k.toNat).length, (enc m.k.toNat ++ enc m.fr.toNat).length, ?_, seg8 hA _, fun t => ?_, seg8 hA _, fun t => ?_⟩, seg8 hA _, fun t => ?_, seg8 hA _, seg8 hA _, fun t => ?_⟩
    · rw [hcall, ← hc]; exact hkc false 8 false 6 (.inl rfl) (.inl rfl) N hN2
    · rw [hcall]
      exact n27 [] true 0 (.inl rfl) m.k (by omega) (by simp) N (by omega)
    · rw [hcall]
      exact n27 (enc m.k.toNat) t 1 (.inr rfl) m.fr (by omega) (by have := len m.k.toNat; omega) N (by omega)
    · rw [hcall]
      have := n27 (enc m.k.toNat ++ enc m.fr.toNat) t 1 (.inr rfl) m.to (by omega) (by have := len m.k.toNat; have := len m.fr.toNat; rw [List.length_append]; omega) N (by omega)
      rw [← h3] at this
      exact this
    · rw [hcall]; exact hk4 N hN3 t
    · rw [hcall]; cases t
      · exact hks2 N (by omega)
      · exact hks N (by omega)
  rcases hkk with hk | hk | hk
  · obtain ⟨N, hN⟩ : ∃ N, N = kc + k4 + ks + ks2 + 3000 := ⟨_, rfl⟩
    refine ⟨N + 1, playN N rfl rfl fun A call hA hcall => ?_⟩
    obtain ⟨pl, mi, ml, nt, tn, ad, sb, K⟩ := kit hA
    obtain ⟨EX, ix, sn, ll, cc, sg, X⟩ := lkit hA K zeroX exI 96
    obtain ⟨W, gx, st', V⟩ := rkit hA
    obtain ⟨q12, ⟨Y1, Y2, n1, n2, p1, p2, p3, p4, p5⟩, p6, p7, p8, p9, p10⟩ := start N A call (by omega) (by omega) (by omega) (by omega) hA hcall
    have hX : B = X4 := by rw [bodyE, hk]; simp
    rw [hX] at p9 p10 ⊢
    clear start hks hks2 hk4 hkc h both hB bodyE h3 h4 e1
    obtain ⟨mk, fr, to, ack, base, seen, live, floor⟩ := m
    dsimp only [msF, vecF] at *
    subst hk
    generalize vec ack = va at *
    generalize vec base = vb at *
    generalize vec seen = vs at *
    generalize vec floor = vf at *
    generalize eWs live = lw at *
    generalize exs (argX l) = xs at *
    generalize by8 (sealB X4) = ys at *
    generalize (sealB X4).length = yn at *
    generalize by8 X3 = y3 at *
    generalize by8 X4 = y4 at *
    generalize X3.length = n3 at *
    generalize X4.length = n4 at *
    apply wpV_seq; refine wpV_ofH (by ((try (conv => lhs; cbv)); (exact rfl))) ?_
    apply wpV_seq; refine wpV_ofH (by ((try (conv => lhs; cbv)); (repeat ((first | (rewrite [q12]) | (rewrite [K.neF]; rotate_left; focus ((try simp only [K.df, X.df, V.df, true_and, and_true]) <;> omega))); (try (conv => lhs; cbv)))); (exact rfl))) ?_
    apply wpV_seq; refine wpV_ofH (by ((try (conv => lhs; cbv)); (repeat ((first | (rewrite [p1])); (try (conv => lhs; cbv)))); (exact rfl))) ?_
    apply wpV_seq; refine wpV_ofH (by ((try (conv => lhs; cbv)); (repeat ((first | (rewrite [p2]) | (rewrite [p3])); (try (conv => lhs; cbv)))); (exact rfl))) ?_
    apply wpV_seq; refine wpV_ofH (by ((try (conv => lhs; cbv)); (repeat ((first | (rewrite [p4]) | (rewrite [p5])); (try (conv => lhs; cbv)))); (exact rfl))) ?_
    apply wpV_seq; refine wpV_ofH (by ((try (conv => lhs; cbv)); (repeat ((first | (rewrite [p6]) | (rewrite [p7])); (try (conv => lhs; cbv)))); (exact rfl))) ?_
    refine wpV_ofH (by ((try (conv => lhs; cbv)); (repeat ((first | (rewrite [p9]) | (rewrite [p10]) | (rewrite [K.eqF]; rotate_left; focus ((try simp only [K.df, X.df, V.df, true_and, and_true]) <;> omega))); (try (conv => lhs; cbv)))); (exact rfl))) ?_
    (show finV _ _ _ = some _; ((try (conv => lhs; cbv)); (try (with_reducible rfl))); (try rfl))
  · have l5 : (X4 ++ putB m.base).length ≤ 3000 := by rw [List.length_append]; have := putB_len m.base; omega
    obtain ⟨k5, hk5⟩ := both (P := fun n t => play real (lookT tab) (fun _ => clonePr clones) n 28 [.one (.iv (.sl t 1 (by8 X4))), vecF m.base] [] = some (.one (.slo 0 0 (X4 ++ putB m.base).length), [.arr false false 1 (by8 (X4 ++ putB m.base))])) (fun t => ⟨_, n28 h.lb gb X4 t 1 (.inr rfl) (by omega)⟩)
    obtain ⟨k6, hk6⟩ := both (P := fun n t => play real (lookT tab) (fun _ => clonePr clones) n 29 [.one (.iv (.sl t 1 (by8 (X4 ++ putB m.base)))), .one (.iv (.sl false 8 (l.map evE)))] [] = some (.one (.slo 0 0 (X4 ++ putB m.base ++ evsA l).length), [.arr false false 1 (by8 (X4 ++ putB m.base ++ evsA l))])) (fun t => n29 (X4 ++ putB m.base) t false 1 (.inr rfl) l hl hd (by omega))
    obtain ⟨N, hN⟩ : ∃ N, N = kc + k4 + ks + ks2 + k5 + k6 + 3000 := ⟨_, rfl⟩
    refine ⟨N + 1, playN N rfl rfl fun A call hA hcall => ?_⟩
    obtain ⟨pl, mi, ml, nt, tn, ad, sb, K⟩ := kit hA
    obtain ⟨EX, ix, sn, ll, cc, sg, X⟩ := lkit hA K zeroX exI 96
    obtain ⟨W, gx, st', V⟩ := rkit hA
    obtain ⟨q12, ⟨Y1, Y2, n1, n2, p1, p2, p3, p4, p5⟩, p6, p7, p8, p9, p10⟩ := start N A call (by omega) (by omega) (by omega) (by omega) hA hcall
    have q5 := hk5 N (by omega)
    have q6 := hk6 N (by omega)
    rw [← hcall] at q5 q6
    have s5 := seg8 hA (X4 ++ putB m.base)
    have hX : B = X4 ++ putB m.base ++ evsA l := by rw [bodyE, hk]; simp
    rw [← hX] at q6
    dsimp only [msF] at q12 ⊢
    rw [ex] at q12 ⊢
    clear start hks hks2 hk4 hkc h both bodyE h3 h4 e1 hX hk5 hk6 hB
    obtain ⟨mk, fr, to, ack, base, seen, live, floor⟩ := m
    dsimp only [msF, vecF] at *
    subst hk
    generalize by8 (X4 ++ putB base) = y5 at *
    generalize (X4 ++ putB base).length = n5 at *
    generalize vec ack = va at *
    generalize vec base = vb at *
    generalize vec seen = vs at *
    generalize vec floor = vf at *
    generalize eWs live = lw at *
    generalize l.map evE = xs at *
    generalize by8 (sealB B) = ys at *
    generalize (sealB B).length = yn at *
    generalize by8 X3 = y3 at *
    generalize by8 X4 = y4 at *
    generalize by8 B = y6 at *
    generalize X3.length = n3 at *
    generalize X4.length = n4 at *
    generalize B.length = n6 at *
    apply wpV_seq; refine wpV_ofH (by ((try (conv => lhs; cbv)); (exact rfl))) ?_
    apply wpV_seq; refine wpV_ofH (by ((try (conv => lhs; cbv)); (repeat ((first | (rewrite [q12]) | (rewrite [K.neF]; rotate_left; focus ((try simp only [K.df, X.df, V.df, true_and, and_true]) <;> omega))); (try (conv => lhs; cbv)))); (exact rfl))) ?_
    apply wpV_seq; refine wpV_ofH (by ((try (conv => lhs; cbv)); (repeat ((first | (rewrite [p1])); (try (conv => lhs; cbv)))); (exact rfl))) ?_
    apply wpV_seq; refine wpV_ofH (by ((try (conv => lhs; cbv)); (repeat ((first | (rewrite [p2]) | (rewrite [p3])); (try (conv => lhs; cbv)))); (exact rfl))) ?_
    apply wpV_seq; refine wpV_ofH (by ((try (conv => lhs; cbv)); (repeat ((first | (rewrite [p4]) | (rewrite [p5])); (try (conv => lhs; cbv)))); (exact rfl))) ?_
    apply wpV_seq; refine wpV_ofH (by ((try (conv => lhs; cbv)); (repeat ((first | (rewrite [p6]) | (rewrite [p7])); (try (conv => lhs; cbv)))); (exact rfl))) ?_
    refine wpV_ofH (by ((try (conv => lhs; cbv)); (repeat ((first | (rewrite [p8]) | (rewrite [q5]) | (rewrite [s5]) | (rewrite [q6]) | (rewrite [p9]) | (rewrite [p10]) | (rewrite [K.eqT]; rotate_left; focus ((try simp only [K.df, X.df, V.df, true_and, and_true]) <;> omega)) | (rewrite [K.eqF]; rotate_left; focus ((try simp only [K.df, X.df, V.df, true_and, and_true]) <;> omega))); (try (conv => lhs; cbv)))); (exact rfl))) ?_
    (show finV _ _ _ = some _; ((try (conv => lhs; cbv)); (try (with_reducible rfl))); (try rfl))
  · have hcan := chkM_3 hc hk
    have ls := stB_len hcan
    have l5 : (X4 ++ stB m.seen m.live).length ≤ 2002000 := by rw [List.length_append]; omega
    obtain ⟨k5, hk5⟩ := both (P := fun n t => play real (lookT tab) (fun _ => clonePr clones) n 30 [.one (.iv (.sl t 1 (by8 X4))), stF false 6 m.seen m.live] [] = some (.one (.slo 0 0 (X4 ++ stB m.seen m.live).length), [.arr false false 1 (by8 (X4 ++ stB m.seen m.live))])) (fun t => by
      obtain ⟨k, hk⟩ := n30 X4 t 1 (.inr rfl) h.ls m.live (by omega) hcan
      exact ⟨k, hk false 6 (.inl rfl)⟩)
    obtain ⟨k6, hk6⟩ := both (P := fun n t => play real (lookT tab) (fun _ => clonePr clones) n 31 [.one (.iv (.sl t 1 (by8 (X4 ++ stB m.seen m.live)))), .agg [.iv (.sl false 8 (l.map evE)), .iv (.arr 64 (vec m.floor))]] [] = some (.one (.slo 0 0 (X4 ++ stB m.seen m.live ++ (putB m.floor ++ evsA l)).length), [.arr false false 1 (by8 (X4 ++ stB m.seen m.live ++ (putB m.floor ++ evsA l)))])) (fun t => n31 (X4 ++ stB m.seen m.live) t false 1 (.inr rfl) h.lf gf l hl hd (by omega))
    obtain ⟨N, hN⟩ : ∃ N, N = kc + k4 + ks + ks2 + k5 + k6 + 3000 := ⟨_, rfl⟩
    refine ⟨N + 1, playN N rfl rfl fun A call hA hcall => ?_⟩
    obtain ⟨pl, mi, ml, nt, tn, ad, sb, K⟩ := kit hA
    obtain ⟨EX, ix, sn, ll, cc, sg, X⟩ := lkit hA K zeroX exI 96
    obtain ⟨W, gx, st', V⟩ := rkit hA
    obtain ⟨q12, ⟨Y1, Y2, n1, n2, p1, p2, p3, p4, p5⟩, p6, p7, p8, p9, p10⟩ := start N A call (by omega) (by omega) (by omega) (by omega) hA hcall
    have q5 := hk5 N (by omega)
    have q6 := hk6 N (by omega)
    rw [← hcall] at q5 q6
    have s5 := seg8 hA (X4 ++ stB m.seen m.live)
    have hX : B = X4 ++ stB m.seen m.live ++ (putB m.floor ++ evsA l) := by rw [bodyE, hk]; simp
    rw [← hX] at q6
    dsimp only [msF] at q12 ⊢
    rw [ex] at q12 ⊢
    clear start hks hks2 hk4 hkc h both bodyE h3 h4 e1 hX hk5 hk6 hB hcan
    obtain ⟨mk, fr, to, ack, base, seen, live, floor⟩ := m
    dsimp only [msF, vecF, stF] at *
    subst hk
    generalize by8 (X4 ++ stB seen live) = y5 at *
    generalize (X4 ++ stB seen live).length = n5 at *
    generalize vec ack = va at *
    generalize vec base = vb at *
    generalize vec seen = vs at *
    generalize vec floor = vf at *
    generalize eWs live = lw at *
    generalize l.map evE = xs at *
    generalize by8 (sealB B) = ys at *
    generalize (sealB B).length = yn at *
    generalize by8 X3 = y3 at *
    generalize by8 X4 = y4 at *
    generalize by8 B = y6 at *
    generalize X3.length = n3 at *
    generalize X4.length = n4 at *
    generalize B.length = n6 at *
    apply wpV_seq; refine wpV_ofH (by ((try (conv => lhs; cbv)); (exact rfl))) ?_
    apply wpV_seq; refine wpV_ofH (by ((try (conv => lhs; cbv)); (repeat ((first | (rewrite [q12]) | (rewrite [K.neF]; rotate_left; focus ((try simp only [K.df, X.df, V.df, true_and, and_true]) <;> omega))); (try (conv => lhs; cbv)))); (exact rfl))) ?_
    apply wpV_seq; refine wpV_ofH (by ((try (conv => lhs; cbv)); (repeat ((first | (rewrite [p1])); (try (conv => lhs; cbv)))); (exact rfl))) ?_
    apply wpV_seq; refine wpV_ofH (by ((try (conv => lhs; cbv)); (repeat ((first | (rewrite [p2]) | (rewrite [p3])); (try (conv => lhs; cbv)))); (exact rfl))) ?_
    apply wpV_seq; refine wpV_ofH (by ((try (conv => lhs; cbv)); (repeat ((first | (rewrite [p4]) | (rewrite [p5])); (try (conv => lhs; cbv)))); (exact rfl))) ?_
    apply wpV_seq; refine wpV_ofH (by ((try (conv => lhs; cbv)); (repeat ((first | (rewrite [p6]) | (rewrite [p7])); (try (conv => lhs; cbv)))); (exact rfl))) ?_
    refine wpV_ofH (by ((try (conv => lhs; cbv)); (repeat ((first | (rewrite [p8]) | (rewrite [q5]) | (rewrite [s5]) | (rewrite [q6]) | (rewrite [p9]) | (rewrite [p10]) | (rewrite [K.eqT]; rotate_left; focus ((try simp only [K.df, X.df, V.df, true_and, and_true]) <;> omega)) | (rewrite [K.eqF]; rotate_left; focus ((try simp only [K.df, X.df, V.df, true_and, and_true]) <;> omega))); (try (conv => lhs; cbv)))); (exact rfl))) ?_
    (show finV _ _ _ = some _; ((try (conv => lhs; cbv)); (try (with_reducible rfl))); (try rfl))
end Go.Proofs.Ytlljgefgbglmbaa
