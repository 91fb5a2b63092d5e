/- A state behind an event, by the reference: gone through. -/
import Derived.Test.YtanpphoehajcgaaDPC
set_option linter.unusedSimpArgs false
set_option linter.unusedVariables false
set_option maxRecDepth 100000
set_option maxHeartbeats 4000000
set_option cbv.maxSteps 10000000
namespace Go.Proofs.Ytanpphoehajcgaa
open Go GoV

theorem chk_kind {e : Ev} (h : chk e = 0) : e.k = 1 ∨ e.k = 2 := by
  unfold chk at h
  split at h
  · omega
  · split at h
    · rename_i h2; exact .inr h2.1
    · split at h
      · omega
      · rename_i h3; exact .inl (by omega)
theorem keptW_take {gone : List (Int × Int)} {l : List Wr} {i : Nat} (hi : i < l.length) : keptW gone (l.take (i + 1)) = keptW gone (l.take i) ++ (if decide ((l.getD i zeroWr).d ∈ gone) = false then [l.getD i zeroWr] else []) := by
  rw [List.take_succ_eq_append_getElem hi, List.getD_eq_getElem?_getD, List.getElem?_eq_getElem hi]
  unfold keptW
  rw [List.filter_append]
  show _ ++ List.filter _ [l[i]] = _ ++ _
  cases h : decide ((l[i]).d ∈ gone) <;> simp [h]
theorem keptW_len (gone : List (Int × Int)) (l : List Wr) : (keptW gone l).length ≤ l.length := List.length_filter_le _ _
/-- The reference's answer: the vector, the writes. -/
def apV (v : List Int) (e : Ev) : List Int := withB v e.d
def apL (l : List Wr) (e : Ev) : List Wr := if e.k = 1 then putW (keptW e.gone l) (wOf e) else keptW e.gone l
theorem n20a {v : List Int} (hv : v.length = 64) (l : List Wr) (e : Ev) (b : Bool) (hd : e.doc.size ≤ 1000000000000000) (hg : e.gone.length ≤ 1000) (h0 : chk e ≠ 0 ∨ chk e = 0 ∧ hasB v e.d = true) :
    ∃ k, ∀ b2, Pn k 20 [stF b 6 v l, evF b2 2 e] [] (.tup [(true, [.iv (.arr 64 (vec v)), .iv (.sl b 6 (eWs l))]), (false, [.iv (.int .i64 (chk e))])]) [] := by
  obtain ⟨k1, h1⟩ := n16 e hd hg
  refine ⟨k1 + 100 + 1, fun b2 => playN (k1 + 100) rfl rfl fun A call hA hcall => ?_⟩
  obtain ⟨pl, mi, ml, nt, tn, ad, sb, K⟩ := kit hA
  obtain ⟨E, ix, sn, ll, cc, sg, D⟩ := lkit hA K zeroWr (fun w => [.int .i64 w.d.1, .int .i64 w.d.2, .int .i64 w.t, .str w.doc, .int .i64 w.f, .str w.txt]) 64
  obtain ⟨W, gx, st', V⟩ := rkit hA
  have k16 := h1 b2 2 (.inl rfl) (k1 + 100) (by omega)
  have k44 := n44 hv e.d.1 e.d.2 (k1 + 100) (by omega)
  rw [← hcall] at k16 k44
  obtain ⟨⟨er, en⟩, et, ek, edoc, efi, etxt, GG⟩ := e
  dsimp only [stF, evF, dotF, vecF] at *
  generalize chk _ = C at *
  generalize eDs GG = gs at *
  generalize eWs l = es at *
  generalize vec v = vs at *
  rcases h0 with h0 | ⟨h0, h2⟩
  · refine wpV_ofH (by ((try (conv => lhs; cbv)); (repeat ((first | (rewrite [k16]) | (rewrite [K.neT]; rotate_left; focus ((try simp only [K.df, D.df, V.df, true_and, and_true]) <;> omega))); (try (conv => lhs; cbv)))); (exact rfl))) ?_
    (show finV _ _ _ = some _; ((try (conv => lhs; cbv)); (try (with_reducible rfl))); (try rfl))
  · rw [h2] at k44
    obtain rfl := h0
    refine wpV_ofH (by ((try (conv => lhs; cbv)); (repeat ((first | (rewrite [k16]) | (rewrite [k44]) | (rewrite [K.neF]; rotate_left; focus ((try simp only [K.df, D.df, V.df, true_and, and_true]) <;> omega))); (try (conv => lhs; cbv)))); (exact rfl))) ?_
    (show finV _ _ _ = some _; ((try (conv => lhs; cbv)); (try (with_reducible rfl))); (try rfl))
theorem n20 {v : List Int} (hv : v.length = 64) (l : List Wr) (e : Ev) (b : Bool) (hd : e.doc.size ≤ 1000000000000000) (hg : e.gone.length ≤ 1000) (hl : l.length ≤ 900) (h0 : chk e = 0) (h2 : hasB v e.d = false) :
    ∃ k, ∀ b2, Pn k 20 [stF b 6 v l, evF b2 2 e] [] (.tup [(true, [.iv (.arr 64 (vec (apV v e))), .slo 0 0 (apL l e).length]), (false, [.iv (.int .i64 0)])]) [.arr false false 6 (eWs (apL l e))] := by
  obtain ⟨k1, h1⟩ := n16 e hd hg
  refine ⟨k1 + 2000 + 1, fun b2 => playN (k1 + 2000) rfl rfl fun A call hA hcall => ?_⟩
  obtain ⟨pl, mi, ml, nt, tn, ad, sb, K⟩ := kit hA
  obtain ⟨E, ix, sn, ll, cc, sg, D⟩ := lkit hA K zeroWr (fun w => [.int .i64 w.d.1, .int .i64 w.d.2, .int .i64 w.t, .str w.doc, .int .i64 w.f, .str w.txt]) 64
  obtain ⟨W, gx, st', V⟩ := rkit hA
  have hE : ∀ l, eWs l = E l := fun l => by rw [D.E_]; rfl
  have k16 := h1 b2 2 (.inl rfl) (k1 + 2000) (by omega)
  have k44 := n44 hv e.d.1 e.d.2 (k1 + 2000) (by omega)
  have k56 := n56 hv e.d.1 e.d.2 (k1 + 2000) (by omega)
  have k59 := n59 e b2 2 (k1 + 2000) (by omega)
  have k58 := fun t => n58 (keptW e.gone l) (wOf e) t (by have := keptW_len e.gone l; omega) (k1 + 2000) (by omega)
  have k57 : ∀ w : Wr, call 57 [.one (.iv (.sl b2 2 (eDs e.gone))), dotF w.d] [] = some (bl (decide (w.d ∈ e.gone)), []) := fun w => by rw [hcall]; exact n57 e.gone w.d b2 2 (.inl rfl) hg (k1 + 2000) (by omega)
  rw [h0] at k16
  rw [show (e.d.1, e.d.2) = e.d from rfl, h2] at k44
  rw [show withB v (e.d.1, e.d.2) = apV v e from rfl] at k56
  rw [← hcall] at k16 k44 k56 k59
  simp only [← hcall] at k58
  obtain ⟨N, hN⟩ : ∃ N, N = l.length := ⟨_, rfl⟩
  obtain ⟨M, hM⟩ : ∃ M : Int, M = nt (ll l) := ⟨_, rfl⟩
  have hMl : M = N := by rw [hM, K.nt_, D.ll_, hN]
  have ln : A .len (E l) = M := by rw [D.len, hM]
  have hkd := chk_kind h0
  obtain ⟨⟨er, en⟩, et, ek, edoc, efi, etxt, GG⟩ := e
  dsimp only [stF, evF, dotF, vecF, apL] at *
  rw [hE l]
  generalize eDs GG = gs at *
  generalize vec v = vs at *
  generalize vec (apV v _) = vs' at *
  apply wpV_seq; refine wpV_ofH (by ((try (conv => lhs; cbv)); (exact rfl))) ?_
  apply wpV_seq; apply wpV_seq; refine wpV_ofH (by ((try (conv => lhs; cbv)); (repeat ((first | (rewrite [k16])); (try (conv => lhs; cbv)))); (exact rfl))) ?_
  refine wpV_ofH (by ((try (conv => lhs; cbv)); (repeat ((first | (rewrite [K.neF]; rotate_left; focus ((try simp only [K.df, D.df, V.df, true_and, and_true]) <;> omega))); (try (conv => lhs; cbv)))); (exact rfl))) ?_
  apply wpV_seq; refine wpV_ofH (by ((try (conv => lhs; cbv)); (repeat ((first | (rewrite [k44])); (try (conv => lhs; cbv)))); (exact rfl))) ?_
  apply wpV_seq; refine wpV_ofH (by ((try (conv => lhs; cbv)); (repeat ((first | (rewrite [k56])); (try (conv => lhs; cbv)))); (exact rfl))) ?_
  apply wpV_seq; apply wpV_seq; refine wpV_ofH (by ((try (conv => lhs; cbv)); (repeat ((first | (rewrite [ln])); (try (conv => lhs; cbv)))); (exact rfl))) ?_
  apply wpV_block
  have hE0 : E [] = [] := by rw [D.E_]; rfl
  refine wpV_loop N (fun i st => ∃ (J : Int) (c : Nat) (m : List Wr), st = ⟨0, (u :: u :: u :: .one (.ptr 0 0) :: .one (.ptr 1 0) :: u :: u :: .one (.ptr 2 0) :: u :: u :: u :: u :: u :: u :: u :: u :: u :: u :: u :: u :: u :: u :: u :: u :: u :: u :: u :: u :: u :: .one (.iv (.sl b 6 (E l))) :: i64 M :: i64 J :: u :: u :: u :: u :: u :: u :: u :: u :: u :: u :: u :: u :: u :: u :: u :: u :: u :: u :: u :: u :: u :: u :: u :: u :: u :: u :: []), [.var false [.iv (.int .i64 er), .iv (.int .i64 en), .iv (.int .i64 et), .iv (.int .i64 ek), .iv (.str edoc), .iv (.int .i64 efi), .iv (.str etxt), .iv (.sl b2 2 gs)], .var false [.iv (.arr 64 [IV.int IntKind.i64 0, IV.int IntKind.i64 0, IV.int IntKind.i64 0, IV.int IntKind.i64 0, IV.int IntKind.i64 0, IV.int IntKind.i64 0, IV.int IntKind.i64 0, IV.int IntKind.i64 0, IV.int IntKind.i64 0, IV.int IntKind.i64 0, IV.int IntKind.i64 0, IV.int IntKind.i64 0, IV.int IntKind.i64 0, IV.int IntKind.i64 0, IV.int IntKind.i64 0, IV.int IntKind.i64 0, IV.int IntKind.i64 0, IV.int IntKind.i64 0, IV.int IntKind.i64 0, IV.int IntKind.i64 0, IV.int IntKind.i64 0, IV.int IntKind.i64 0, IV.int IntKind.i64 0, IV.int IntKind.i64 0, IV.int IntKind.i64 0, IV.int IntKind.i64 0, IV.int IntKind.i64 0, IV.int IntKind.i64 0, IV.int IntKind.i64 0, IV.int IntKind.i64 0, IV.int IntKind.i64 0, IV.int IntKind.i64 0, IV.int IntKind.i64 0, IV.int IntKind.i64 0, IV.int IntKind.i64 0, IV.int IntKind.i64 0, IV.int IntKind.i64 0, IV.int IntKind.i64 0, IV.int IntKind.i64 0, IV.int IntKind.i64 0, IV.int IntKind.i64 0, IV.int IntKind.i64 0, IV.int IntKind.i64 0, IV.int IntKind.i64 0, IV.int IntKind.i64 0, IV.int IntKind.i64 0, IV.int IntKind.i64 0, IV.int IntKind.i64 0, IV.int IntKind.i64 0, IV.int IntKind.i64 0, IV.int IntKind.i64 0, IV.int IntKind.i64 0, IV.int IntKind.i64 0, IV.int IntKind.i64 0, IV.int IntKind.i64 0, IV.int IntKind.i64 0, IV.int IntKind.i64 0, IV.int IntKind.i64 0, IV.int IntKind.i64 0, IV.int IntKind.i64 0, IV.int IntKind.i64 0, IV.int IntKind.i64 0, IV.int IntKind.i64 0, IV.int IntKind.i64 0]), .iv (.sl true 0 [])], .var false [.iv (.arr 64 vs'), .slo 3 0 c], .arr false false 6 (E m)]⟩ ∧ J = i ∧ m = keptW GG (l.take i) ∧ c = m.length) (by omega) (by ((try (conv => lhs; cbv)); (try (with_reducible rfl)))) ⟨0, 0, [], by rw [hE0], rfl, by simp [keptW], rfl⟩ ?_
  rintro i hi st ⟨J, c, m, rfl, hJ, hm, hc⟩
  have hml : m.length ≤ i := by rw [hm]; exact Nat.le_trans (keptW_len _ _) (by rw [List.length_take]; omega)
  by_cases him : i < N
  · have gx' := D.get (l := l) (J := J) (by omega)
    have hx : ix l J = l.getD i zeroWr := by rw [D.ix_, hJ]; rfl
    have hk2 := keptW_take (gone := GG) (l := l) (i := i) (by omega)
    rw [← hx, ← hm] at hk2
    have kk := k57 (ix l J)
    generalize ix l J = x at *
    generalize hB : decide (x.d ∈ GG) = B at *
    obtain ⟨⟨r, n⟩, tm, doc, fi, txt⟩ := x
    have ap := D.apo (l := m) (x := ⟨(r, n), tm, doc, fi, txt⟩) (b := 64) (n := c) ⟨hc, by omega⟩
    dsimp only at gx' kk ap
    cases B with
    | true =>
      rw [if_neg (by decide), List.append_nil] at hk2
      refine wpV_ofH (by ((try (conv => lhs; cbv)); (repeat ((first | (rewrite [gx']) | (rewrite [kk]) | (rewrite [K.add]; rotate_left; focus ((try simp only [K.df, D.df, V.df, true_and, and_true]) <;> omega)) | (rewrite [K.ltT]; rotate_left; focus ((try simp only [K.df, D.df, V.df, true_and, and_true]) <;> omega))); (try (conv => lhs; cbv)))); (exact rfl))) ?_
      refine headQ_ofH (by ((try (conv => lhs; cbv)); (exact rfl))) ?_
      refine ⟨him, _, _, m, rfl, ?_, hk2.symm, hc⟩
      rw [K.pl_]; omega
    | false =>
      rw [if_pos rfl] at hk2
      refine wpV_ofH (by ((try (conv => lhs; cbv)); (repeat ((first | (rewrite [gx']) | (rewrite [kk]) | (rewrite [ap]) | (rewrite [K.add]; rotate_left; focus ((try simp only [K.df, D.df, V.df, true_and, and_true]) <;> omega)) | (rewrite [D.ln]) | (rewrite [K.ltT]; rotate_left; focus ((try simp only [K.df, D.df, V.df, true_and, and_true]) <;> omega))); (try (conv => lhs; cbv)))); (exact rfl))) ?_
      refine headQ_ofH (by ((try (conv => lhs; cbv)); (exact rfl))) ?_
      refine ⟨him, _, _, _, rfl, ?_, ?_, ?_⟩
      · rw [K.pl_]; omega
      · rw [hk2, D.sn_]
      · rw [D.ll_]
  · obtain rfl : i = N := by omega
    rw [List.take_of_length_le (by omega)] at hm
    subst hm
    have sg0 : A .seg (E (keptW GG l)) 0 c = E (keptW GG l) := by rw [D.seg, D.sg_, List.drop_zero, List.take_of_length_le (by omega)]
    simp only [hE] at k58 ⊢
    refine wpV_ofH (by ((try (conv => lhs; cbv)); (repeat ((first | (rewrite [K.ltF]; rotate_left; focus ((try simp only [K.df, D.df, V.df, true_and, and_true]) <;> omega))); (try (conv => lhs; cbv)))); (exact rfl))) ?_
    show wpV _ _ _ _ _ _
    rcases hkd with hkd | hkd
    · subst hkd
      rw [if_pos rfl]
      generalize hR : putW (keptW GG l) (wOf _) = R at *
      dsimp only [wOf] at *
      generalize E (keptW GG l) = es at *
      obtain ⟨Rn, hRn⟩ : ∃ Rn, Rn = R.length := ⟨_, rfl⟩
      rw [← hRn] at k58 ⊢
      generalize E R = rs at *
      refine wpV_ofH (by ((try (conv => lhs; cbv)); (repeat ((first | (rewrite [k59]) | (rewrite [sg0]) | (rewrite [k58]) | (rewrite [K.eqT]; rotate_left; focus ((try simp only [K.df, D.df, V.df, true_and, and_true]) <;> omega))); (try (conv => lhs; cbv)))); (exact rfl))) ?_
      (show finV _ _ _ = some _; ((try (conv => lhs; cbv)); (try (with_reducible rfl))); (try rfl))
    · subst hkd
      rw [if_neg (by decide), ← hc]
      generalize E (keptW GG l) = es at *
      refine wpV_ofH (by ((try (conv => lhs; cbv)); (repeat ((first | (rewrite [K.eqF]; rotate_left; focus ((try simp only [K.df, D.df, V.df, true_and, and_true]) <;> omega))); (try (conv => lhs; cbv)))); (exact rfl))) ?_
      (show finV _ _ _ = some _; ((try (conv => lhs; cbv)); (try (with_reducible rfl))); (try rfl))
end Go.Proofs.Ytanpphoehajcgaa
