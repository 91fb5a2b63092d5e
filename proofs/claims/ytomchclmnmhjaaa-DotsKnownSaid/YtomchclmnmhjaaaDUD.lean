/- What contexts have as one is what one of them has; the one form has what it had: the law of lists. -/
import Derived.Test.YtomchclmnmhjaaaDUL
set_option linter.unusedSimpArgs false
set_option linter.unusedVariables false
set_option maxRecDepth 100000
set_option maxHeartbeats 1000000
set_option cbv.maxSteps 10000000
namespace Go.Proofs.Ytomchclmnmhjaaa
open Go GoV

theorem law8 {va vb : List Int} (ha : va.length = 64) (hb : vb.length = 64) (la lb : List Dt) (d : Dt) : ∃ n, play real (lookT tab) prD n 8 [ctxF false va la, ctxF false vb lb, dotF d] [] = some (bl true, []) := by
  obtain ⟨kk, hk⟩ := q25
  by_cases hl : la.length ≤ 60 ∧ lb.length ≤ 60
  · obtain ⟨n, hn⟩ : ∃ n, n = kk + 5000 := ⟨_, rfl⟩
    refine ⟨n + 1, playQ n rfl rfl (fun A call hA hcall => ?_) (n + 1) (Nat.le_refl _)⟩
    obtain ⟨pl, mi, ml, nt, tn, ad, sb, K⟩ := kit hA
    obtain ⟨E, ix, sn, ll, cc, sg, D⟩ := lkit hA K ((0, 0) : Int × Int) (fun p => [.int .i64 p.1, .int .i64 p.2]) 16
    obtain ⟨W, gx, st', V⟩ := rkit hA
    obtain ⟨hla, hlb⟩ := hl
    have hu := un_len ha hb la lb
    have ta := tid_len ha la
    have k25 : call 25 [] [] = some (bl true, []) := by rw [hcall]; exact hk n (by omega)
    have kab := fun t t2 => h41 ha hb la lb t t2 (by omega) (by omega) n (by omega)
    have kba := fun t t2 => h41 hb ha lb la t t2 (by omega) (by omega) n (by omega)
    have kua := fun t t2 => h41 hu.1 ha (un va la vb lb).2 la t t2 (by omega) (by omega) n (by omega)
    rw [un_comm ha hb la lb] at kba
    rw [un_in ha hb la lb] at kua
    have k7u := fun t => h37 hu.1 (un va la vb lb).2 d t (by omega) n (by omega)
    have k7a := fun t => h37 ha la d t (by omega) n (by omega)
    have k7b := fun t => h37 hb lb d t (by omega) n (by omega)
    have k7t := fun t => h37 ta.1 (tid va la).2 d t (by omega) n (by omega)
    rw [kn_un ha hb la lb d] at k7u
    rw [kn_tid ha la d] at k7t
    have k34 := fun t => h34 ha la t (by omega) n (by omega)
    have k36 := fun t t2 => h36 hu.1 (un va la vb lb).2 t t2 (by omega) n (by omega)
    have k43 := fun t t2 => h43 ha hu.1 la (un va la vb lb).2 t t2 (by omega) (by omega) n (by omega)
    have hin : inB va la (un va la vb lb).1 (un va la vb lb).2 = true := by
      have e1 : tid (un va la vb lb).1 (un va la vb lb).2 = un va la vb lb := by
        have fa := tid_fin ha la
        have fb := tid_fin hb lb
        exact tid_tid (mxV_len fa.len fb.len) ((tid va la).2 ++ (tid vb lb).2)
      unfold inB
      rw [un_tid ha hu.1, e1, un_comm hu.1 ha, un_in ha hb la lb]
      simp
    rw [hin] at k43
    simp only [← hcall] at kab kba kua k7u k7a k7b k7t k34 k36 k43
    have su := segE hA (un va la vb lb).2
    have st := segE hA (tid va la).2
    have lna : A .len (eDs la) = (la.length : Int) := by rw [hA, real_len]; simp [eDs]
    have lnb : A .len (eDs lb) = (lb.length : Int) := by rw [hA, real_len]; simp [eDs]
    have bq : ∀ b, A .bq b b = true := fun b => by rw [hA, real_bq]; simp
    dsimp only [ctxF] at *
    have h1 : (la.length : Int) ≤ 60 := by omega
    have h2 : (lb.length : Int) ≤ 60 := by omega
    clear hu ta hin
    generalize un va la vb lb = u at *
    generalize tid va la = w at *
    generalize eDs u.2 = ue at *
    generalize u.2.length = uln at *
    generalize vec u.1 = uv at *
    generalize eDs w.2 = we at *
    generalize w.2.length = wln at *
    generalize vec w.1 = wv at *
    generalize (la.length : Int) = LA at *
    generalize (lb.length : Int) = LB at *
    generalize vec va = vva at *
    generalize vec vb = vvb at *
    generalize eDs la = ela at *
    generalize eDs lb = elb at *
    generalize knB va la d = ka at *
    generalize knB vb lb d = kb at *
    obtain ⟨r, nn⟩ := d
    (try dsimp only at *)
    apply wpV_seq; refine wpV_ofH (by ((try (conv => lhs; cbv)); (exact rfl))) ?_
    apply wpV_seq; refine wpV_ofH (by ((try (conv => lhs; cbv)); (repeat ((first | (rewrite [lna]) | (rewrite [lnb]) | (rewrite [K.gtF]; rotate_left; focus ((try simp only [K.df, D.df, V.df, true_and, and_true]) <;> omega))); (try (conv => lhs; cbv)))); (exact rfl))) ?_
    apply wpV_seq; refine wpV_ofH (by ((try (conv => lhs; cbv)); (repeat ((first | (rewrite [kab])); (try (conv => lhs; cbv)))); (exact rfl))) ?_
    cases ka with
    | true => refine wpV_ofH (by ((try (conv => lhs; cbv)); (repeat ((first | (rewrite [su]) | (rewrite [st]) | (rewrite [k7u]) | (rewrite [k7a]) | (rewrite [bq]) | (rewrite [k34]) | (rewrite [k7t]) | (rewrite [kba]) | (rewrite [k36]) | (rewrite [kua]) | (rewrite [k43]) | (rewrite [k25])); (try (conv => lhs; cbv)))); (exact rfl))) ?_; (show finV _ _ _ = some _; ((try (conv => lhs; cbv)); (try (with_reducible rfl))); (try rfl))
    | false =>
      cases kb with
      | true => refine wpV_ofH (by ((try (conv => lhs; cbv)); (repeat ((first | (rewrite [su]) | (rewrite [st]) | (rewrite [k7u]) | (rewrite [k7a]) | (rewrite [k7b]) | (rewrite [bq]) | (rewrite [k34]) | (rewrite [k7t]) | (rewrite [kba]) | (rewrite [k36]) | (rewrite [kua]) | (rewrite [k43]) | (rewrite [k25])); (try (conv => lhs; cbv)))); (exact rfl))) ?_; (show finV _ _ _ = some _; ((try (conv => lhs; cbv)); (try (with_reducible rfl))); (try rfl))
      | false => refine wpV_ofH (by ((try (conv => lhs; cbv)); (repeat ((first | (rewrite [su]) | (rewrite [st]) | (rewrite [k7u]) | (rewrite [k7a]) | (rewrite [k7b]) | (rewrite [bq]) | (rewrite [k34]) | (rewrite [k7t]) | (rewrite [kba]) | (rewrite [k36]) | (rewrite [kua]) | (rewrite [k43]) | (rewrite [k25])); (try (conv => lhs; cbv)))); (exact rfl))) ?_; (show finV _ _ _ = some _; ((try (conv => lhs; cbv)); (try (with_reducible rfl))); (try rfl))
  · refine ⟨kk + 1, playQ kk rfl rfl (fun A call hA hcall => ?_) (kk + 1) (Nat.le_refl _)⟩
    obtain ⟨pl, mi, ml, nt, tn, ad, sb, K⟩ := kit hA
    obtain ⟨E, ix, sn, ll, cc, sg, D⟩ := lkit hA K ((0, 0) : Int × Int) (fun p => [.int .i64 p.1, .int .i64 p.2]) 16
    obtain ⟨W, gx, st', V⟩ := rkit hA
    have k25 : call 25 [] [] = some (bl true, []) := by rw [hcall]; exact hk kk (by omega)
    have lna : A .len (eDs la) = (la.length : Int) := by rw [hA, real_len]; simp [eDs]
    have lnb : A .len (eDs lb) = (lb.length : Int) := by rw [hA, real_len]; simp [eDs]
    dsimp only [ctxF]
    obtain ⟨r, nn⟩ := d
    by_cases h1 : la.length ≤ 60
    · have h2 : (60 : Int) < lb.length := by omega
      have h1 : (la.length : Int) ≤ 60 := by omega
      generalize (la.length : Int) = LA at *
      generalize (lb.length : Int) = LB at *
      generalize vec va = vva at *
      generalize vec vb = vvb at *
      generalize eDs la = ela at *
      generalize eDs lb = elb at *
      clear hl
      refine wpV_ofH (by ((try (conv => lhs; cbv)); (repeat ((first | (rewrite [lna]) | (rewrite [lnb]) | (rewrite [k25]) | (rewrite [K.gtT]; rotate_left; focus ((try simp only [K.df, D.df, V.df, true_and, and_true]) <;> omega)) | (rewrite [K.gtF]; rotate_left; focus ((try simp only [K.df, D.df, V.df, true_and, and_true]) <;> omega))); (try (conv => lhs; cbv)))); (exact rfl))) ?_
      (show finV _ _ _ = some _; ((try (conv => lhs; cbv)); (try (with_reducible rfl))); (try rfl))
    · have h1 : (60 : Int) < la.length := by omega
      generalize (la.length : Int) = LA at *
      generalize (lb.length : Int) = LB at *
      generalize vec va = vva at *
      generalize vec vb = vvb at *
      generalize eDs la = ela at *
      generalize eDs lb = elb at *
      clear hl
      refine wpV_ofH (by ((try (conv => lhs; cbv)); (repeat ((first | (rewrite [lna]) | (rewrite [k25]) | (rewrite [K.gtT]; rotate_left; focus ((try simp only [K.df, D.df, V.df, true_and, and_true]) <;> omega))); (try (conv => lhs; cbv)))); (exact rfl))) ?_
      (show finV _ _ _ = some _; ((try (conv => lhs; cbv)); (try (with_reducible rfl))); (try rfl))
theorem lawV8 : ∀ xss, TyA [ctxSh, ctxSh, dotSh] xss → ∃ n, play real (lookT tab) prD n 8 (argsF [ctxSh, ctxSh, dotSh] xss) [] = some (.one (.iv (.bool true)), []) := by
  intro xss h
  rcases xss with _ | ⟨a, _ | ⟨b, _ | ⟨c, _ | ⟨e, r⟩⟩⟩⟩
  · exact h.elim
  · exact h.2.elim
  · exact h.2.2.elim
  · obtain ⟨h1, h2, h3, _⟩ := h
    obtain ⟨v, l, rfl, hv⟩ := ty_ctx h1
    obtain ⟨v2, l2, rfl, hv2⟩ := ty_ctx h2
    obtain ⟨d, rfl⟩ := ty_dot h3
    exact law8 hv hv2 l l2 d
  · exact h.2.2.2.elim
end Go.Proofs.Ytomchclmnmhjaaa
