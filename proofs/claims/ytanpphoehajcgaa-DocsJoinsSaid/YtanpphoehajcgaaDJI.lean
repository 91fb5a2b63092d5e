/- The joins of two states, the program's and the reference's: the law. -/
import Derived.Test.YtanpphoehajcgaaDJF
import Derived.Test.YtanpphoehajcgaaDJH
import Derived.Test.YtanpphoehajcgaaDAE
set_option linter.unusedSimpArgs false
set_option linter.unusedVariables false
set_option maxRecDepth 100000
set_option maxHeartbeats 4000000
set_option cbv.maxSteps 10000000
namespace Go.Proofs.Ytanpphoehajcgaa
open Go GoV

theorem awk : ∃ k, Pn k 10 [] [] (bl true) [] := by
  have h : Pl 10 [] (bl true) [] := ⟨100, by kernel_rfl⟩
  exact h.at pr_mono
theorem jn_ref {va vb : List Int} {la lb : List Wr} (ca : canB va la = true) (cb : canB vb lb = true) : cmpct (jnW va vb la lb) = refJ va vb la lb := by
  obtain ⟨pa, ha⟩ := canB_pw ca
  obtain ⟨pb, hb⟩ := canB_pw cb
  exact join_eq pa pb ha hb (fun x => (srtW_perm _).mem_iff) (srtW_srt _)
theorem smB_len {l : List Wr} (h : smB l = true) : l.length ≤ 120 := by
  unfold smB at h
  simp only [Bool.and_eq_true, decide_eq_true_eq] at h
  exact h.1
theorem law7 {va vb : List Int} (hva : va.length = 64) (hvb : vb.length = 64) (la lb : List Wr) (hda : ∀ w, w ∈ la → w.doc.size ≤ 1000000000000000) (hdb : ∀ w, w ∈ lb → w.doc.size ≤ 1000000000000000) :
    ∃ n, play real (lookT tab) prD n 7 [stF false 6 va la, stF false 6 vb lb] [] = some (bl true, []) := by
  obtain ⟨kw, hw⟩ := awk
  obtain ⟨k1, h1⟩ := n18 hva la hda
  obtain ⟨k2, h2⟩ := n18 hvb lb hdb
  obtain ⟨n, hn⟩ : ∃ n, n = kw + k1 + k2 + 7000 := ⟨_, rfl⟩
  refine ⟨n + 1, playQ n rfl rfl (fun A call hA hcall => ?_) (n + 1) (Nat.le_refl _)⟩
  obtain ⟨pl, mi, ml, nt, tn, ad, sb, K⟩ := kit hA
  obtain ⟨E, ix, sn, ll, cc, sg, D⟩ := lkit hA K zeroWr (fun w => [.int .i64 w.d.1, .int .i64 w.d.2, .int .i64 w.t, .str w.doc, .int .i64 w.f, .str w.txt]) 64
  obtain ⟨Wv, gx, st', V⟩ := rkit hA
  have a17 : call 17 [stF false 6 va la] [] = some (bl (smB la), []) := by rw [hcall]; exact lift (n17 va la false 6 (.inl rfl)) n (by omega)
  have b17 : call 17 [stF false 6 vb lb] [] = some (bl (smB lb), []) := by rw [hcall]; exact lift (n17 vb lb false 6 (.inl rfl)) n (by omega)
  have a18 : call 18 [stF false 6 va la] [] = some (bl (canB va la), []) := by rw [hcall]; exact lift (h1 false 6 (.inl rfl)) n (by omega)
  have b18 : call 18 [stF false 6 vb lb] [] = some (bl (canB vb lb), []) := by rw [hcall]; exact lift (h2 false 6 (.inl rfl)) n (by omega)
  have k10 : call 10 [] [] = some (bl true, []) := by rw [hcall]; exact lift hw n (by omega)
  cases s1 : smB la with
  | false =>
    rw [s1] at a17
    dsimp only [stF] at *
    generalize eWs la = wa at *
    generalize vec va = ya at *
    generalize eWs lb = wb at *
    generalize vec vb = yb at *
    refine wpV_ofH (by ((try (conv => lhs; cbv)); (repeat ((first | (rewrite [a17]) | (rewrite [k10])); (try (conv => lhs; cbv)))); (exact rfl))) ?_
    (show finV _ _ _ = some _; ((try (conv => lhs; cbv)); (try (with_reducible rfl))); (try rfl))
  | true =>
    rw [s1] at a17
    cases s2 : smB lb with
    | false =>
      rw [s2] at b17
      dsimp only [stF] at *
      generalize eWs la = wa at *
      generalize vec va = ya at *
      generalize eWs lb = wb at *
      generalize vec vb = yb at *
      refine wpV_ofH (by ((try (conv => lhs; cbv)); (repeat ((first | (rewrite [a17]) | (rewrite [b17]) | (rewrite [k10])); (try (conv => lhs; cbv)))); (exact rfl))) ?_
      (show finV _ _ _ = some _; ((try (conv => lhs; cbv)); (try (with_reducible rfl))); (try rfl))
    | true =>
      rw [s2] at b17
      cases c1 : canB va la with
      | false =>
        rw [c1] at a18
        dsimp only [stF] at *
        generalize eWs la = wa at *
        generalize vec va = ya at *
        generalize eWs lb = wb at *
        generalize vec vb = yb at *
        refine wpV_ofH (by ((try (conv => lhs; cbv)); (repeat ((first | (rewrite [a17]) | (rewrite [b17]) | (rewrite [a18]) | (rewrite [k10])); (try (conv => lhs; cbv)))); (exact rfl))) ?_
        (show finV _ _ _ = some _; ((try (conv => lhs; cbv)); (try (with_reducible rfl))); (try rfl))
      | true =>
        rw [c1] at a18
        cases c2 : canB vb lb with
        | false =>
          rw [c2] at b18
          dsimp only [stF] at *
          generalize eWs la = wa at *
          generalize vec va = ya at *
          generalize eWs lb = wb at *
          generalize vec vb = yb at *
          refine wpV_ofH (by ((try (conv => lhs; cbv)); (repeat ((first | (rewrite [a17]) | (rewrite [b17]) | (rewrite [a18]) | (rewrite [b18]) | (rewrite [k10])); (try (conv => lhs; cbv)))); (exact rfl))) ?_
          (show finV _ _ _ = some _; ((try (conv => lhs; cbv)); (try (with_reducible rfl))); (try rfl))
        | true =>
          rw [c2] at b18
          have m1 := smB_len s1
          have m2 := smB_len s2
          have k33 := h33 hva hvb la lb false false (by omega) (by omega) n (by omega)
          have k34 := lift (n34 hva hvb la lb false false (by omega) (by omega)) n (by omega)
          have je := jn_ref c1 c2
          have jl : (refJ va vb la lb).length ≤ 240 := by
            have h1 := jnW_len va vb la lb
            have h2 := lft_len vb la lb
            have h3 := lft_len va lb la
            rw [← je]
            have := cmpct_len (jnW va vb la lb)
            omega
          have k21 := fun x y => lift (n21 (mxV_len hva hvb) (refJ va vb la lb) x y 6 6 (.inl rfl) (.inl rfl) (by omega)) n (by omega)
          have s1' : A .seg (eWs (cmpct (jnW va vb la lb) ++ List.replicate ((jnW va vb la lb).length - (cmpct (jnW va vb la lb)).length) zeroWr)) 0 (cmpct (jnW va vb la lb)).length = eWs (cmpct (jnW va vb la lb)) := by
            rw [hA, real_seg]; unfold rSeg eWs
            rw [List.drop_zero, List.map_append, List.take_left' (by rw [List.length_map])]
          have s2' := segW hA (refJ va vb la lb) rfl
          rw [← hcall] at k33 k34
          simp only [← hcall] at k21
          generalize eWs (cmpct (jnW va vb la lb) ++ List.replicate ((jnW va vb la lb).length - (cmpct (jnW va vb la lb)).length) zeroWr) = ze at *
          rw [je] at k33 s1'
          dsimp only [stF] at *
          generalize eWs (refJ va vb la lb) = re at *
          generalize (refJ va vb la lb).length = rn at *
          generalize vec (mxV va vb) = mv at *
          generalize eWs la = wa at *
          generalize vec va = ya at *
          generalize eWs lb = wb at *
          generalize vec vb = yb at *
          apply wpV_seq; refine wpV_ofH (by ((try (conv => lhs; cbv)); (exact rfl))) ?_
          apply wpV_seq; refine wpV_ofH (by ((try (conv => lhs; cbv)); (repeat ((first | (rewrite [a17]) | (rewrite [b17]) | (rewrite [a18]) | (rewrite [b18])); (try (conv => lhs; cbv)))); (exact rfl))) ?_
          refine wpV_ofH (by ((try (conv => lhs; cbv)); (repeat ((first | (rewrite [k33]) | (rewrite [k34]) | (rewrite [s1']) | (rewrite [s2']) | (rewrite [k21]) | (rewrite [k10])); (try (conv => lhs; cbv)))); (exact rfl))) ?_
          (show finV _ _ _ = some _; ((try (conv => lhs; cbv)); (try (with_reducible rfl))); (try rfl))
theorem lawD : ∀ xss, TyA [stateSh, stateSh] xss → ∃ n, play real (lookT tab) prD n 7 (argsF [stateSh, stateSh] xss) [] = some (.one (.iv (.bool true)), []) := by
  intro xss h
  rcases xss with _ | ⟨a, _ | ⟨b, _ | ⟨c, r⟩⟩⟩
  · exact h.elim
  · exact h.2.elim
  · obtain ⟨h1, h2, _⟩ := h
    obtain ⟨va, la, rfl, hva, hla⟩ := ty_state h1
    obtain ⟨vb, lb, rfl, hvb, hlb⟩ := ty_state h2
    exact law7 hva hvb la lb hla hlb
  · exact h.2.2.elim
end Go.Proofs.Ytanpphoehajcgaa
