/- A dictionary built; texts that are the same: gone through. -/
import Derived.Test.YtinobfilomhhhaaSAE
set_option linter.unusedSimpArgs false
set_option linter.unusedVariables false
set_option maxRecDepth 100000
set_option maxHeartbeats 4000000
set_option cbv.maxSteps 10000000
namespace Go.Proofs.Ytinobfilomhhhaa
open Go GoV

theorem sc_le {A : Ar} (hA : A = real) (a b : ByteArray) : A .scmp .leq a b = !ltS b a := by
  have := sc_gt hA a b
  rw [hA] at this ⊢
  have h2 : (!(Op.bytesLess a.toList b.toList || a.toList == b.toList)) = ltS b a := this
  show (Op.bytesLess a.toList b.toList || a.toList == b.toList) = _
  rw [← h2, Bool.not_not]
theorem n33 (ws : List ByteArray) (i : Nat) (hi : i < ws.length) (hs : ∀ w, w ∈ ws.take (i + 1) → w.size ≤ 64) (hl : ws.length ≤ 100) :
    Pn 1010 33 [.one (.ptr 0 0), .one (.iv (.str (ws.getD i ⟨#[]⟩))), .one (.iv (.str (lastD (ws.take i)))), i64 i] (dcB (i : Nat) (heads (dic ws i)) (blks (dic ws i)) false false) (.tup []) (dcB ((i + 1 : Nat) : Int) (heads (dic ws (i + 1))) (blks (dic ws (i + 1))) (decide (i % 4 = 0)) (decide (i % 4 = 0))) := by
  have hf := flat_dic ws i (by omega)
  have hx : ws.getD i ⟨#[]⟩ = ws[i] := by rw [List.getD_eq_getElem?_getD, List.getElem?_eq_getElem hi]; rfl
  have hxm : ws[i] ∈ ws.take (i + 1) := by rw [List.take_succ_eq_append_getElem hi]; exact List.mem_append_right _ (List.mem_singleton_self _)
  have hxs := hs _ hxm
  rw [← hx] at hxs
  have hfl : (flat (dic ws i)).length = i := by rw [hf, List.length_take]; omega
  have hDl := flat_le (dic ws i)
  have hHl : (heads (dic ws i)).length = (dic ws i).length := by simp [heads]
  have hBl : (blks (dic ws i)).length = (dic ws i).length := by simp [blks]
  rw [show ((i + 1 : Nat) : Int) = (i : Nat) + 1 by omega]
  by_cases h4 : i % 4 = 0
  · rw [decide_eq_true h4]
    have e : dic ws (i + 1) = dic ws i ++ [(ws.getD i ⟨#[]⟩, [])] := by rw [dic, addD, if_pos h4]
    rw [e, (flat_new _ _).2.1, (flat_new _ _).2.2]
    intro m hm
    exact n33n _ _ _ _ _ i h4 (by omega) (by omega) (by omega) ⟨by omega, by omega⟩ m (by omega)
  · rw [decide_eq_false h4]
    have hne : flat (dic ws i) ≠ [] := by
      intro e
      have := congrArg List.length e
      rw [hfl] at this
      simp only [List.length_nil] at this
      omega
    obtain ⟨D0, b, hD⟩ := flat_ne hne
    have e : dic ws (i + 1) = D0 ++ [(b.1, b.2 ++ [ws.getD i ⟨#[]⟩])] := by
      rw [dic, addD, if_neg h4, hD, List.getLast?_concat, List.dropLast_concat]
    have hbm : b ∈ dic ws i := by rw [hD]; simp
    have hsz : ∀ w, w ∈ b.1 :: b.2 → w.size ≤ 64 := fun w hw => by
      have := flat_mem hbm hw
      rw [hf] at this
      exact hs w (List.take_subset_take_left _ (by omega) this)
    have hb2 := flat_len hbm
    have hlast : (lastD (ws.take i)).size ≤ 64 := by
      unfold lastD
      cases hg : (ws.take i).getLast? with
      | none => exact Nat.zero_le _
      | some w => exact hs w (List.take_subset_take_left _ (by omega) (List.mem_of_getLast? hg))
    have hel := encR_len b.1 b.2 fun w hw => hsz w (by simp [hw])
    have hss : (strO (encR b.1 b.2)).size = (encR b.1 b.2).length := by simp [strO, ByteArray.size]
    obtain ⟨f1, f2, f3⟩ := flat_old D0 b.1 b.2 (ws.getD i ⟨#[]⟩)
    have hbl : blks (D0 ++ [(b.1, b.2)]) = blks D0 ++ [strO (encR b.1 b.2)] := by simp [blks]
    rw [e, f2, f3, hbl, show D0 ++ [(b.1, b.2)] = dic ws i by rw [hD], hf]
    rw [List.set_append_right _ _ (by simp [blks]), show D0.length - (blks D0).length = 0 by simp [blks], List.set_cons_zero]
    rw [show blks (dic ws i) = blks D0 ++ [strO (encR b.1 b.2)] by rw [hD]; exact hbl]
    have hb0 : (blks D0).length ≤ 100 := by
      have : (dic ws i).length = D0.length + 1 := by rw [hD]; simp
      simp only [blks, List.length_map]; omega
    exact n33o _ _ (blks D0) _ _ _ i h4 (by omega) hxs hlast (by omega) (by omega) (by omega) ⟨by omega, by omega⟩
theorem n17 (f g : Bool) (l : List ByteArray) (hl : l.length ≤ 1000) : Pn 1301 17 [.one (.iv (.sl f 1 (eT l))), .one (.iv (.sl g 1 (eT l)))] [] (bl true) [] := by
  refine playN 1300 rfl rfl fun A call hA hcall => ?_
  obtain ⟨pl, mi, ml, nt, tn, ad, sb, K⟩ := kit hA
  obtain ⟨E, ix, sn, ll, cc, sg, D⟩ := lkit hA K (⟨#[]⟩ : ByteArray) (fun s => [.str s]) 16
  have hE : ∀ l, eT l = E l := fun l => by rw [D.E_]; rfl
  obtain ⟨M, hM⟩ : ∃ M : Int, M = nt (ll l) := ⟨_, rfl⟩
  have hMl : M = l.length := by rw [hM, K.nt_, D.ll_]
  have ln : A .len (E l) = M := by rw [D.len, hM]
  rw [hE]
  apply wpV_seq; refine wpV_ofH (by ((try (conv => lhs; cbv)); (exact rfl))) ?_
  apply wpV_seq; apply wpV_seq; refine wpV_ofH (by ((try (conv => lhs; cbv)); (repeat ((first | (rewrite [ln]) | (rewrite [K.neF]; rotate_left; focus ((try simp only [K.df, D.df, true_and, and_true]) <;> omega))); (try (conv => lhs; cbv)))); (exact rfl))) ?_
  refine wpV_ofH (by ((try (conv => lhs; cbv)); (exact rfl))) ?_
  apply wpV_seq; apply wpV_seq; refine wpV_ofH (by ((try (conv => lhs; cbv)); (repeat ((first | (rewrite [ln])); (try (conv => lhs; cbv)))); (exact rfl))) ?_
  apply wpV_block
  refine wpV_loop l.length (fun i st => ∃ J : Int, st = ⟨0, [.one (.iv (.sl f 1 (E l))), .one (.iv (.sl g 1 (E l))), u, u, u, u, u, u, u, u, u, u, i64 M, i64 J, u, u, u, u, u, u, u, u, u, u, u, u], []⟩ ∧ J = i) (by omega) (by ((try (conv => lhs; cbv)); (try (with_reducible rfl)))) ⟨0, rfl, rfl⟩ ?_
  rintro i hi st ⟨J, rfl, hJ⟩
  by_cases him : i < l.length
  · have gg := D.get (l := l) (J := J) (by omega)
    have ne := sc_ne hA (ix l J) (ix l J)
    rw [decide_eq_true rfl] at ne
    generalize ix l J = x at *
    try dsimp only at gg
    refine wpV_ofH (by ((try (conv => lhs; cbv)); (repeat ((first | (rewrite [gg]) | (rewrite [ne]) | (rewrite [K.add]; rotate_left; focus ((try simp only [K.df, D.df, true_and, and_true]) <;> omega)) | (rewrite [K.ltT]; rotate_left; focus ((try simp only [K.df, D.df, true_and, and_true]) <;> omega))); (try (conv => lhs; cbv)))); (exact rfl))) ?_
    refine headQ_ofH (by ((try (conv => lhs; cbv)); (exact rfl))) ?_
    refine ⟨him, _, rfl, ?_⟩
    rw [K.pl_]; omega
  · obtain rfl : i = l.length := by omega
    refine wpV_ofH (by ((try (conv => lhs; cbv)); (repeat ((first | (rewrite [K.ltF]; rotate_left; focus ((try simp only [K.df, D.df, true_and, and_true]) <;> omega))); (try (conv => lhs; cbv)))); (exact rfl))) ?_
    show wpV _ _ _ _ _ _
    refine wpV_ofH (by ((try (conv => lhs; cbv)); (exact rfl))) ?_
    (show finV _ _ _ = some _; ((try (conv => lhs; cbv)); (try (with_reducible rfl))); (try rfl))
/-- May a word stand behind these? -/
def okW (ws : List ByteArray) (i : Nat) : Prop := ltS (lastD (ws.take i)) (ws.getD i ⟨#[]⟩) = true ∧ (ws.getD i ⟨#[]⟩).size ≤ 64
theorem n14 (ws : List ByteArray) (f : Bool) (hl : ws.length ≤ 100) (m : Nat) (hm : m ≤ ws.length) (hok : ∀ i, i < m → okW ws i) (hend : m < ws.length → ¬ okW ws m) :
    Pn 1200 14 [.one (.iv (.sl f 1 (eT ws)))] [] (bif decide (m < ws.length) then .tup [(false, [.iv .nilp]), (false, [.iv (.int .i64 1)])] else .tup [(false, [.ptr 0 0]), (false, [.iv (.int .i64 0)])]) (bif decide (m < ws.length) then [] else dcB (ws.length : Nat) (heads (dic ws ws.length)) (blks (dic ws ws.length)) false false) := by
  refine playN 1199 rfl rfl fun A call hA hcall => ?_
  obtain ⟨pl, mi, ml, nt, tn, ad, sb, K⟩ := kit hA
  obtain ⟨E, ix, sn, ll, cc, sg, D⟩ := lkit hA K (⟨#[]⟩ : ByteArray) (fun s => [.str s]) 16
  have hE : ∀ l, eT l = E l := fun l => by rw [D.E_]; rfl
  obtain ⟨M, hM⟩ : ∃ M : Int, M = nt (ll ws) := ⟨_, rfl⟩
  have hMl : M = ws.length := by rw [hM, K.nt_, D.ll_]
  have ln : A .len (E ws) = M := by rw [D.len, hM]
  have k33 : ∀ i, i < m → call 33 [.one (.ptr 0 0), .one (.iv (.str (ws.getD i ⟨#[]⟩))), .one (.iv (.str (lastD (ws.take i)))), i64 i] (dcB (i : Nat) (heads (dic ws i)) (blks (dic ws i)) false false) = some (.tup [], dcB ((i + 1 : Nat) : Int) (heads (dic ws (i + 1))) (blks (dic ws (i + 1))) (decide (i % 4 = 0)) (decide (i % 4 = 0))) := fun i hi => by
    rw [hcall]
    refine n33 ws i (by omega) (fun w hw => ?_) hl 1199 (by omega)
    obtain ⟨k, hk, rfl⟩ := List.mem_iff_getElem.1 hw
    rw [List.length_take] at hk
    have := (hok k (by omega)).2
    rw [List.getD_eq_getElem?_getD, List.getElem?_eq_getElem (by omega)] at this
    rw [List.getElem_take]
    exact this
  obtain ⟨dl, hdl⟩ : ∃ dl : Nat → Nat, ∀ i, dl i = (heads (dic ws i)).length := ⟨_, fun _ => rfl⟩
  obtain ⟨dm, hdm⟩ : ∃ dm : Nat → Nat, ∀ i, dm i = (blks (dic ws i)).length := ⟨_, fun _ => rfl⟩
  obtain ⟨eh, heh⟩ : ∃ eh : Nat → List (List IV), ∀ i, eh i = eT (heads (dic ws i)) := ⟨_, fun _ => rfl⟩
  obtain ⟨eb, heb⟩ : ∃ eb : Nat → List (List IV), ∀ i, eb i = eT (blks (dic ws i)) := ⟨_, fun _ => rfl⟩
  obtain ⟨la, hla⟩ : ∃ la : Nat → ByteArray, ∀ i, la i = lastD (ws.take i) := ⟨_, fun _ => rfl⟩
  dsimp only [dcB] at k33 ⊢
  simp only [← hdl, ← hdm, ← heh, ← heb, ← hla] at k33 ⊢
  rw [hE, ← hMl]
  have h00 : dl 0 = 0 ∧ dm 0 = 0 ∧ eh 0 = [] ∧ eb 0 = [] ∧ la 0 = ⟨#[]⟩ := by rw [hdl, hdm, heh, heb, hla]; exact ⟨rfl, rfl, rfl, rfl, rfl⟩
  apply wpV_seq; refine wpV_ofH (by ((try (conv => lhs; cbv)); (exact rfl))) ?_
  apply wpV_seq; refine wpV_ofH (by ((try (conv => lhs; cbv)); (repeat ((first | (rewrite [ln]) | (rewrite [K.gtF]; rotate_left; focus ((try simp only [K.df, D.df, true_and, and_true]) <;> omega))); (try (conv => lhs; cbv)))); (exact rfl))) ?_
  apply wpV_seq; refine wpV_ofH (by ((try (conv => lhs; cbv)); (exact rfl))) ?_
  apply wpV_seq; refine wpV_ofH (by ((try (conv => lhs; cbv)); (exact rfl))) ?_
  apply wpV_seq; apply wpV_seq; refine wpV_ofH (by ((try (conv => lhs; cbv)); (repeat ((first | (rewrite [ln])); (try (conv => lhs; cbv)))); (exact rfl))) ?_
  apply wpV_block
  refine wpV_loop m (fun i st => ∃ (J : Int) (w : ByteArray) (a b : Nat) (e1 e2 : List (List IV)), st = ⟨0, [u, u, u, u, .one (.ptr 0 0), .one (.iv (.str w)), u, u, u, u, u, u, u, .one (.iv (.sl f 1 (E ws))), i64 M, i64 J, u, u, u, u, u, u, u, u, u, u, u, u, u, u, u, u, u, u, u, u], [.var false [.iv (.int .i64 J), .slo 1 0 a, .slo 2 0 b], .arr false false 1 e1, .arr false false 1 e2]⟩ ∧ J = i ∧ w = la i ∧ a = dl i ∧ b = dm i ∧ e1 = eh i ∧ e2 = eb i) (by omega) (by ((try (conv => lhs; cbv)); (try (with_reducible rfl)))) ⟨0, ⟨#[]⟩, 0, 0, [], [], rfl, rfl, h00.2.2.2.2.symm, h00.1.symm, h00.2.1.symm, h00.2.2.1.symm, h00.2.2.2.1.symm⟩ ?_
  rintro i hi st ⟨J, w, a, b, e1, e2, rfl, hJ, hw, ha, hb, he1, he2⟩
  by_cases hiw : i < ws.length
  · have gg := D.get (l := ws) (J := J) (by omega)
    have hx : ix ws J = ws.getD i ⟨#[]⟩ := by rw [D.ix_, hJ, Int.toNat_natCast]
    have sl := sc_le hA (ix ws J) w
    obtain ⟨X, hX⟩ : ∃ X : Int, X = (ix ws J).size := ⟨_, rfl⟩
    have sz : A .slen (ix ws J) = X := by rw [hA, real_slen, hX]
    by_cases him : i < m
    · obtain ⟨o1, o2⟩ := hok i him
      have k := k33 i him
      rw [← hw, ← ha, ← hb, ← he1, ← he2, ← hJ, ← hx] at k
      rw [← hla, ← hw, ← hx] at o1
      rw [← hx] at o2
      rw [o1] at sl
      have hX64 : X ≤ 64 := by omega
      obtain ⟨J1, hJ1⟩ : ∃ z : Int, z = ((i + 1 : Nat) : Int) := ⟨_, rfl⟩
      obtain ⟨dg, hdg⟩ : ∃ z, z = decide (i % 4 = 0) := ⟨_, rfl⟩
      obtain ⟨a', ha'⟩ : ∃ z, z = dl (i + 1) := ⟨_, rfl⟩
      obtain ⟨b', hb'⟩ : ∃ z, z = dm (i + 1) := ⟨_, rfl⟩
      obtain ⟨e1', he1'⟩ : ∃ z, z = eh (i + 1) := ⟨_, rfl⟩
      obtain ⟨e2', he2'⟩ : ∃ z, z = eb (i + 1) := ⟨_, rfl⟩
      have ad1 : A .ar .add .i64 J 1 = J1 := by rw [K.add (by omega), K.pl_]; omega
      rw [← ha', ← hb', ← he1', ← he2', ← hJ1, ← hdg] at k
      have hla1 : ix ws J = la (i + 1) := by
        rw [hx, hla, lastD, List.take_succ_eq_append_getElem hiw, List.getLast?_concat, List.getD_eq_getElem?_getD, List.getElem?_eq_getElem hiw]
      generalize ix ws J = x at *
      try dsimp only at gg
      clear k33 hdg
      cases dg
      all_goals
        refine wpV_ofH (by ((try (conv => lhs; cbv)); (repeat ((first | (rewrite [gg]) | (rewrite [sl]) | (rewrite [sz]) | (rewrite [k]) | (rewrite [ad1]) | (rewrite [K.ltT]; rotate_left; focus ((try simp only [K.df, D.df, true_and, and_true]) <;> omega)) | (rewrite [K.gtF]; rotate_left; focus ((try simp only [K.df, D.df, true_and, and_true]) <;> omega))); (try (conv => lhs; cbv)))); (exact rfl))) ?_
        refine headQ_ofH (by ((try (conv => lhs; cbv)); (exact rfl))) ?_
        exact ⟨him, _, _, _, _, _, _, rfl, hJ1, hla1, ha', hb', he1', he2'⟩
    · obtain rfl : i = m := by omega
      have hno := hend hiw
      rw [decide_eq_true hiw, cond_true, cond_true]
      unfold okW at hno
      rw [← hla, ← hw, ← hx] at hno
      clear k33
      generalize ix ws J = x at *
      try dsimp only at gg
      cases hc : ltS w x with
      | false =>
        rw [hc] at sl
        refine wpV_ofH (by ((try (conv => lhs; cbv)); (repeat ((first | (rewrite [gg]) | (rewrite [sl]) | (rewrite [K.ltT]; rotate_left; focus ((try simp only [K.df, D.df, true_and, and_true]) <;> omega))); (try (conv => lhs; cbv)))); (exact rfl))) ?_
        show finQ _ _ _ _ _
        (show finV _ _ _ = some _; ((try (conv => lhs; cbv)); (try (with_reducible rfl))); (try rfl))
      | true =>
        rw [hc] at sl
        have hX64 : 64 < X := by
          have : ¬ x.size ≤ 64 := fun h => hno ⟨hc, h⟩
          omega
        refine wpV_ofH (by ((try (conv => lhs; cbv)); (repeat ((first | (rewrite [gg]) | (rewrite [sl]) | (rewrite [sz]) | (rewrite [K.ltT]; rotate_left; focus ((try simp only [K.df, D.df, true_and, and_true]) <;> omega)) | (rewrite [K.gtT]; rotate_left; focus ((try simp only [K.df, D.df, true_and, and_true]) <;> omega))); (try (conv => lhs; cbv)))); (exact rfl))) ?_
        show finQ _ _ _ _ _
        (show finV _ _ _ = some _; ((try (conv => lhs; cbv)); (try (with_reducible rfl))); (try rfl))
  · obtain rfl : i = m := by omega
    have hme : i = ws.length := by omega
    rw [decide_eq_false hiw, cond_false, cond_false]
    have hJM : J = M := by omega
    rw [← hme, ← ha, ← hb, ← he1, ← he2, ← hJM]
    clear k33
    refine wpV_ofH (by ((try (conv => lhs; cbv)); (repeat ((first | (rewrite [K.ltF]; rotate_left; focus ((try simp only [K.df, D.df, true_and, and_true]) <;> omega))); (try (conv => lhs; cbv)))); (exact rfl))) ?_
    show wpV _ _ _ _ _ _
    refine wpV_ofH (by ((try (conv => lhs; cbv)); (exact rfl))) ?_
    (show finV _ _ _ = some _; ((try (conv => lhs; cbv)); (try (with_reducible rfl))); (try rfl))
end Go.Proofs.Ytinobfilomhhhaa
