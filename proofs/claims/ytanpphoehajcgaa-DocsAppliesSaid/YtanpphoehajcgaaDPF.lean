/- A state behind an event can be; the law. -/
import Derived.Test.YtanpphoehajcgaaDPD
import Derived.Test.YtanpphoehajcgaaELHF
set_option linter.unusedSimpArgs false
set_option linter.unusedVariables false
set_option maxRecDepth 100000
set_option maxHeartbeats 4000000
set_option cbv.maxSteps 10000000
namespace Go.Proofs.Ytanpphoehajcgaa
open Go GoV

theorem cnGo_of {v : List Int} {l : List Wr} (hg : ∀ w, w ∈ l → goodW v w = true) (hp : l.Pairwise LW) : ∀ (k i : Nat), i + k ≤ l.length → cnGo v l k i = true
  | 0, _, _ => rfl
  | k + 1, i, h => by
    rw [cnGo, if_neg]
    · exact cnGo_of hg hp k (i + 1) (by omega)
    · have hi : i < l.length := by omega
      rw [List.getD_eq_getElem?_getD, List.getElem?_eq_getElem hi]
      simp only [Option.getD_some]
      rintro (h1 | ⟨h1, h2⟩)
      · rw [hg _ (List.getElem_mem _)] at h1; cases h1
      · have hi2 : i - 1 < l.length := by omega
        have := List.pairwise_iff_getElem.1 hp (i - 1) i hi2 hi (by omega)
        rw [List.getD_eq_getElem?_getD, List.getElem?_eq_getElem hi2] at h2
        simp only [Option.getD_some] at h2
        unfold LW at this
        omega
theorem canB_of {v : List Int} {l : List Wr} (h1 : goodB v = true) (h2 : l.length ≤ 4096) (hg : ∀ w, w ∈ l → goodW v w = true) (hp : l.Pairwise LW) : canB v l = true := by
  unfold canB
  rw [h1, decide_eq_true h2, cnGo_of hg hp _ _ (by omega)]; rfl
theorem withB_len (v : List Int) (d : Int × Int) : (withB v d).length = v.length := by unfold withB; split <;> simp
theorem withB_get {v : List Int} {d : Int × Int} (hv : v.length = 64) (hd : validB d = true) (i : Nat) : (withB v d).getD i 0 = if i = d.1.toNat then max (v.getD i 0) d.2 else v.getD i 0 := by
  have hr : 0 ≤ d.1 ∧ d.1 < 64 := by unfold validB at hd; simp only [decide_eq_true_eq] at hd; omega
  unfold withB
  rw [if_pos hd, List.getD_eq_getElem?_getD, List.getElem?_set]
  by_cases h : d.1.toNat = i
  · rw [if_pos h, if_pos (by omega), if_pos h.symm, ← h]; rfl
  · rw [if_neg h, if_neg (fun e => h e.symm), List.getD_eq_getElem?_getD]
theorem withB_good {v : List Int} {d : Int × Int} (hv : v.length = 64) (hg : goodB v = true) (hd : validB d = true) : goodB (withB v d) = true := by
  have hr : 1 ≤ d.2 ∧ d.2 ≤ 1073741824 := by unfold validB at hd; simp only [decide_eq_true_eq] at hd; omega
  unfold goodB
  refine List.all_eq_true.2 fun i hi => ?_
  have hi := List.mem_range.1 hi
  have h := goodB_get hg hi
  have h2 := withB_get hv hd i
  simp only [badB, Bool.not_eq_true', Bool.or_eq_false_iff, decide_eq_false_iff_not]
  split at h2 <;> omega
theorem hasB_with {v : List Int} {d d2 : Int × Int} (hv : v.length = 64) (hd : validB d = true) (h : hasB v d2 = true) : hasB (withB v d) d2 = true := by
  unfold hasB at h ⊢
  simp only [Bool.and_eq_true, decide_eq_true_eq] at h ⊢
  refine ⟨h.1, ?_⟩
  have h2 := withB_get hv hd d2.1.toNat
  split at h2 <;> omega
theorem hasB_own {v : List Int} {d : Int × Int} (hv : v.length = 64) (hd : validB d = true) : hasB (withB v d) d = true := by
  unfold hasB
  simp only [Bool.and_eq_true, decide_eq_true_eq]
  refine ⟨hd, ?_⟩
  have h2 := withB_get hv hd d.1.toNat
  rw [if_pos rfl] at h2
  omega
theorem chk_wr {e : Ev} (h : chk e = 0) (hk : e.k = 1) : chk ⟨e.d, e.t, 1, e.doc, e.f, e.txt, []⟩ = 0 := by
  obtain ⟨c1, c2, c3, c4, c5, _⟩ := chk_0 h
  have ht : textC e.f e.txt = 0 := by
    unfold chk at h
    split at h
    · cases h
    · rw [hk, if_neg (by rintro ⟨h, _⟩; cases h), if_neg (by simp)] at h
      exact h
  unfold chk
  dsimp only
  have hg : goneB e.d [] = true := rfl
  rw [if_neg (by
    rintro (h | h | h | h | h)
    · rw [c1] at h; cases h
    · omega
    · omega
    · rw [c4] at h; cases h
    · rw [hg] at h; cases h), if_neg (by rintro ⟨h, _⟩; cases h), if_neg (by simp)]
  exact ht
theorem apL_len (l : List Wr) (e : Ev) : (apL l e).length ≤ l.length + 1 := by
  have h := keptW_len e.gone l
  unfold apL
  split
  · rw [(putW_at (keptW e.gone l) (wOf e)).1]
    simp only [List.length_append, List.length_cons, List.length_take, List.length_drop]
    omega
  · omega
theorem ap_can {v : List Int} (hv : v.length = 64) {l : List Wr} {e : Ev} (hc : canB v l = true) (hl : l.length ≤ 900) (h0 : chk e = 0) (h2 : hasB v e.d = false) : canB (apV v e) (apL l e) = true := by
  obtain ⟨g1, g2, g3⟩ := canB_0 hc
  obtain ⟨p1, p2⟩ := canB_pw hc
  obtain ⟨c1, _⟩ := chk_0 h0
  have kp : (keptW e.gone l).Pairwise LW := p1.sublist List.filter_sublist
  have gw : ∀ w, goodW v w = true → goodW (apV v e) w = true := fun w h => by
    unfold goodW at h ⊢
    simp only [Bool.and_eq_true] at h ⊢
    exact ⟨h.1, hasB_with hv c1 h.2⟩
  have gk : ∀ w, w ∈ keptW e.gone l → goodW (apV v e) w = true := fun w hw => gw w (g3 w (List.mem_filter.1 hw).1)
  have hlen := apL_len l e
  refine canB_of (withB_good hv g1 c1) (by omega) ?_ ?_
  · intro w hw
    unfold apL at hw
    split at hw
    · rename_i hk
      rcases (putW_mem _ _ _).1 hw with h | rfl
      · exact gk w h
      · unfold goodW
        simp only [Bool.and_eq_true, decide_eq_true_eq]
        exact ⟨chk_wr h0 hk, hasB_own hv c1⟩
    · exact gk w hw
  · unfold apL
    split
    · refine putW_pw kp fun x hx => ?_
      rcases LW_tri x (wOf e) with h | h | h
      · exact .inl h
      · have := p2 x (List.mem_filter.1 hx).1
        have hd : x.d = e.d := h.2.2
        rw [hd, h2] at this; cases this
      · exact .inr h
    · exact kp
theorem awk : ∃ k, Qn k 10 [] [] (bl true) [] := by
  have h : play real (lookT tab) prJ 100 10 [] [] = some (bl true, []) := by kernel_rfl
  exact ⟨100, fun m hm => play_mono prJ_mono hm _ _ _ _ h⟩
theorem smB_len {l : List Wr} (h : smB l = true) : l.length ≤ 120 := by
  unfold smB at h
  simp only [Bool.and_eq_true, decide_eq_true_eq] at h
  exact h.1
theorem law4 {v : List Int} (hv : v.length = 64) (l : List Wr) (hdl : ∀ w, w ∈ l → w.doc.size ≤ 1000000000000000) (e : Ev) (hd : e.doc.size ≤ 1000000000000000) :
    ∃ n, play real (lookT tab) prJ n 4 [stF false 6 v l, evF false 2 e] [] = some (bl true, []) := by
  obtain ⟨kw, hw⟩ := awk
  obtain ⟨k1, h1⟩ := n18 hv l hdl
  obtain ⟨k2, h2⟩ : ∃ k, e.gone.length ≤ 1000 → l.length ≤ 900 → (chk e ≠ 0 ∨ chk e = 0 ∧ hasB v e.d = true) → Qn k 19 [stF false 6 v l, evF false 2 e] [] (.tup [(true, [.iv (.arr 64 (vec v)), .slo 0 0 l.length]), (false, [.iv (.int .i64 (chk e))])]) [.arr false false 6 (eWs l)] ∧ Pn k 20 [stF false 6 v l, evF false 2 e] [] (.tup [(true, [.iv (.arr 64 (vec v)), .iv (.sl false 6 (eWs l))]), (false, [.iv (.int .i64 (chk e))])]) [] := by
    by_cases hh : e.gone.length ≤ 1000 ∧ l.length ≤ 900 ∧ (chk e ≠ 0 ∨ chk e = 0 ∧ hasB v e.d = true)
    · obtain ⟨ka, h1⟩ := h19a hv l e false hd hh.1 hh.2.1 hh.2.2
      obtain ⟨kb, h2⟩ := n20a hv l e false hd hh.1 hh.2.2
      exact ⟨ka + kb, fun _ _ _ => ⟨fun m hm => h1 false m (by omega), fun m hm => h2 false m (by omega)⟩⟩
    · exact ⟨0, fun a b c => absurd ⟨a, b, c⟩ hh⟩
  obtain ⟨k3, h3⟩ : ∃ k, e.gone.length ≤ 1000 → l.length ≤ 900 → canB v l = true → chk e = 0 → hasB v e.d = false → Qn k 19 [stF false 6 v l, evF false 2 e] [] (.tup [(true, [.iv (.arr 64 (vec (apV v e))), .slo 0 0 (apL l e).length]), (false, [.iv (.int .i64 0)])]) [.arr false false 6 (eWs (apL l e ++ apZ l e))] ∧
      Pn k 20 [stF false 6 v l, evF false 2 e] [] (.tup [(true, [.iv (.arr 64 (vec (apV v e))), .slo 0 0 (apL l e).length]), (false, [.iv (.int .i64 0)])]) [.arr false false 6 (eWs (apL l e))] ∧ (∀ b z, (z = 6 ∨ z = 0 ∧ apL l e = []) → Pn k 18 [stF b z (apV v e) (apL l e)] [] (bl (canB (apV v e) (apL l e))) []) := by
    by_cases hh : e.gone.length ≤ 1000 ∧ l.length ≤ 900 ∧ canB v l = true ∧ chk e = 0 ∧ hasB v e.d = false
    · obtain ⟨ka, h1⟩ := h19 hv l (canB_pw hh.2.2.1).1 e false hd hh.1 hh.2.1 hh.2.2.2.1 hh.2.2.2.2
      obtain ⟨kb, h2⟩ := n20 hv l e false hd hh.1 hh.2.1 hh.2.2.2.1 hh.2.2.2.2
      obtain ⟨kc, h3⟩ := n18 (v := apV v e) (by unfold apV; rw [withB_len]; exact hv) (apL l e) (fun w hw => by
        unfold apL at hw
        split at hw
        · rcases (putW_mem _ _ _).1 hw with h | rfl
          · exact hdl w (List.mem_filter.1 h).1
          · exact hd
        · exact hdl w (List.mem_filter.1 hw).1)
      exact ⟨ka + kb + kc, fun _ _ _ _ _ => ⟨fun m hm => h1 false m (by omega), fun m hm => h2 false m (by omega), fun b z hz m hm => h3 b z hz m (by omega)⟩⟩
    · exact ⟨0, fun a b c d e => absurd ⟨a, b, c, d, e⟩ hh⟩
  obtain ⟨n, hn⟩ : ∃ n, n = kw + k1 + k2 + k3 + 7000 := ⟨_, rfl⟩
  refine ⟨n + 1, playQ n rfl rfl (fun A call hA hcall => ?_) (n + 1) (Nat.le_refl _)⟩
  obtain ⟨pl, mi, ml, nt, tn, ad, sb, K⟩ := kit hA
  obtain ⟨E, ix, sn, ll, cc, sg, D⟩ := lkit hA K zeroWr (fun w => [.int .i64 w.d.1, .int .i64 w.d.2, .int .i64 w.t, .str w.doc, .int .i64 w.f, .str w.txt]) 64
  obtain ⟨Wv, gx, st', V⟩ := rkit hA
  have a17 : call 17 [stF false 6 v l] [] = some (bl (smB l), []) := by rw [hcall]; exact lift (n17 v l false 6 (.inl rfl)) n (by omega)
  have a18 : call 18 [stF false 6 v l] [] = some (bl (canB v l), []) := by rw [hcall]; exact lift (h1 false 6 (.inl rfl)) n (by omega)
  have q9 : call 9 [.one (.iv (.sl true 1 [[.sl true 8 [evA e]]]))] [] = some (bl (fewB [e]), []) := by rw [hcall]; exact lift (n9 [e] true) n (by omega)
  have k10 : call 10 [] [] = some (bl true, []) := by rw [hcall]; exact hw n (by omega)
  unfold evA evI at q9
  cases s1 : smB l with
  | false =>
    rw [s1] at a17
    dsimp only [stF, evF] at *
    generalize eDs e.gone = gs at *
    generalize eWs l = wa at *
    generalize vec v = ya at *
    refine wpV_ofH (by ((try (conv => lhs; cbv)); (repeat ((first | (rewrite [a17]) | (rewrite [k10])); (try (conv => lhs; cbv)))); (exact rfl))) ?_
    (show finV _ _ _ = some _; ((try (conv => lhs; cbv)); (try (with_reducible rfl))); (try rfl))
  | true =>
    rw [s1] at a17
    cases s2 : fewB [e] with
    | false =>
      rw [s2] at q9
      dsimp only [stF, evF] at *
      generalize eDs e.gone = gs at *
      generalize eWs l = wa at *
      generalize vec v = ya at *
      refine wpV_ofH (by ((try (conv => lhs; cbv)); (repeat ((first | (rewrite [a17]) | (rewrite [q9]) | (rewrite [k10])); (try (conv => lhs; cbv)))); (exact rfl))) ?_
      (show finV _ _ _ = some _; ((try (conv => lhs; cbv)); (try (with_reducible rfl))); (try rfl))
    | true =>
      rw [s2] at q9
      have hg : e.gone.length ≤ 130 := by
        unfold fewB at s2
        simp only [Bool.and_eq_true] at s2
        exact fewGo_all s2.2 e (by simp)
      have hl := smB_len s1
      cases s3 : canB v l with
      | false =>
        rw [s3] at a18
        dsimp only [stF, evF] at *
        generalize eDs e.gone = gs at *
        generalize eWs l = wa at *
        generalize vec v = ya at *
        refine wpV_ofH (by ((try (conv => lhs; cbv)); (repeat ((first | (rewrite [a17]) | (rewrite [q9]) | (rewrite [a18]) | (rewrite [k10])); (try (conv => lhs; cbv)))); (exact rfl))) ?_
        (show finV _ _ _ = some _; ((try (conv => lhs; cbv)); (try (with_reducible rfl))); (try rfl))
      | true =>
        rw [s3] at a18
        by_cases hap : chk e = 0 ∧ hasB v e.d = false
        · obtain ⟨m1, m2, m3⟩ := h3 (by omega) (by omega) s3 hap.1 hap.2
          have hcan := ap_can hv s3 (by omega) hap.1 hap.2
          have k19 := m1 n (by omega)
          have k20 := lift m2 n (by omega)
          have k18 := fun b => lift (m3 b 6 (.inl rfl)) n (by omega)
          have hll := apL_len l e
          have k21 := fun x y => lift (n21 (v := apV v e) (by unfold apV; rw [withB_len]; exact hv) (apL l e) x y 6 6 (.inl rfl) (.inl rfl) (by omega)) n (by omega)
          have sg1 := segWr hA (apL l e) (apZ l e) rfl
          have sg2 := segWr hA (apL l e) [] rfl
          rw [List.append_nil] at sg2
          rw [hcan] at k18
          rw [← hcall] at k19 k20
          simp only [← hcall] at k18 k21
          dsimp only [stF, evF] at *
          generalize eWs (apL l e ++ apZ l e) = e2 at *
          generalize eWs (apL l e) = e1 at *
          generalize (apL l e).length = n1 at *
          generalize vec (apV v e) = v1 at *
          generalize eDs e.gone = gs at *
          generalize eWs l = wa at *
          generalize vec v = ya at *
          apply wpV_seq; refine wpV_ofH (by ((try (conv => lhs; cbv)); (exact rfl))) ?_
          apply wpV_seq; refine wpV_ofH (by ((try (conv => lhs; cbv)); (repeat ((first | (rewrite [a17]) | (rewrite [q9]) | (rewrite [a18])); (try (conv => lhs; cbv)))); (exact rfl))) ?_
          apply wpV_seq; refine wpV_ofH (by ((try (conv => lhs; cbv)); (repeat ((first | (rewrite [k19])); (try (conv => lhs; cbv)))); (exact rfl))) ?_
          apply wpV_seq; refine wpV_ofH (by ((try (conv => lhs; cbv)); (repeat ((first | (rewrite [k20])); (try (conv => lhs; cbv)))); (exact rfl))) ?_
          refine wpV_ofH (by ((try (conv => lhs; cbv)); (repeat ((first | (rewrite [sg1]) | (rewrite [sg2]) | (rewrite [k21]) | (rewrite [k18]) | (rewrite [k10]) | (rewrite [K.eqT]; rotate_left; focus ((try simp only [K.df, D.df, V.df, true_and, and_true]) <;> omega)) | (rewrite [K.neF]; rotate_left; focus ((try simp only [K.df, D.df, V.df, true_and, and_true]) <;> omega))); (try (conv => lhs; cbv)))); (exact rfl))) ?_
          (show finV _ _ _ = some _; ((try (conv => lhs; cbv)); (try (with_reducible rfl))); (try rfl))
        · have hnot : chk e ≠ 0 ∨ chk e = 0 ∧ hasB v e.d = true := by
            by_cases c : chk e = 0
            · exact .inr ⟨c, by cases hb : hasB v e.d with | true => rfl | false => exact absurd ⟨c, hb⟩ hap⟩
            · exact .inl c
          obtain ⟨m1, m2⟩ := h2 (by omega) (by omega) hnot
          have k19 := m1 n (by omega)
          have k20 := lift m2 n (by omega)
          have k18 := fun b => lift (h1 b 6 (.inl rfl)) n (by omega)
          have k21 := fun x y => lift (n21 hv l x y 6 6 (.inl rfl) (.inl rfl) (by omega)) n (by omega)
          have sg1 := segWr hA l [] rfl
          rw [List.append_nil] at sg1
          rw [s3] at k18
          rw [← hcall] at k19 k20
          simp only [← hcall] at k18 k21
          dsimp only [stF, evF] at *
          generalize chk e = C at *
          generalize eDs e.gone = gs at *
          generalize eWs l = wa at *
          generalize l.length = n1 at *
          generalize vec v = ya at *
          apply wpV_seq; refine wpV_ofH (by ((try (conv => lhs; cbv)); (exact rfl))) ?_
          apply wpV_seq; refine wpV_ofH (by ((try (conv => lhs; cbv)); (repeat ((first | (rewrite [a17]) | (rewrite [q9]) | (rewrite [a18])); (try (conv => lhs; cbv)))); (exact rfl))) ?_
          apply wpV_seq; refine wpV_ofH (by ((try (conv => lhs; cbv)); (repeat ((first | (rewrite [k19])); (try (conv => lhs; cbv)))); (exact rfl))) ?_
          apply wpV_seq; refine wpV_ofH (by ((try (conv => lhs; cbv)); (repeat ((first | (rewrite [k20])); (try (conv => lhs; cbv)))); (exact rfl))) ?_
          by_cases hC : C = 0
          · refine wpV_ofH (by ((try (conv => lhs; cbv)); (repeat ((first | (rewrite [sg1]) | (rewrite [k21]) | (rewrite [k18]) | (rewrite [k10]) | (rewrite [K.eqT]; rotate_left; focus ((try simp only [K.df, D.df, V.df, true_and, and_true]) <;> omega)) | (rewrite [K.neF]; rotate_left; focus ((try simp only [K.df, D.df, V.df, true_and, and_true]) <;> omega))); (try (conv => lhs; cbv)))); (exact rfl))) ?_
            (show finV _ _ _ = some _; ((try (conv => lhs; cbv)); (try (with_reducible rfl))); (try rfl))
          · refine wpV_ofH (by ((try (conv => lhs; cbv)); (repeat ((first | (rewrite [sg1]) | (rewrite [k21]) | (rewrite [k10]) | (rewrite [K.eqT]; rotate_left; focus ((try simp only [K.df, D.df, V.df, true_and, and_true]) <;> omega)) | (rewrite [K.neT]; rotate_left; focus ((try simp only [K.df, D.df, V.df, true_and, and_true]) <;> omega))); (try (conv => lhs; cbv)))); (exact rfl))) ?_
            (show finV _ _ _ = some _; ((try (conv => lhs; cbv)); (try (with_reducible rfl))); (try rfl))
def evSh : Sh := .pair dotSh (.pair iSh (.pair iSh (.pair .str (.pair iSh (.pair .str (.pair (.sl dotSh 16) .unit))))))
theorem ty_dots : ∀ {es : List (List IV)}, (∀ c, c ∈ es → TyI dotSh c) → ∃ l : List (Int × Int), es = eDs l
  | [], _ => ⟨[], rfl⟩
  | c :: r, h => by
    obtain ⟨l, rfl⟩ := ty_dots (es := r) fun c hc => h c (by simp [hc])
    obtain ⟨a1, b1, rfl, ⟨x, rfl, _⟩, ⟨a2, b2, rfl, ⟨y, rfl, _⟩, rfl⟩⟩ := h c (by simp)
    exact ⟨(x, y) :: l, rfl⟩
theorem ty_ev {c : List IV} (h : TyI evSh c) : ∃ e : Ev, c = evA e ∧ e.doc.size ≤ 1000000000000000 := by
  obtain ⟨y1, z1, rfl, ⟨a1, b1, rfl, ⟨r, rfl, _⟩, ⟨a2, b2, rfl, ⟨n, rfl, _⟩, rfl⟩⟩, ⟨y2, z2, rfl, ⟨t, rfl, _⟩, ⟨y3, z3, rfl, ⟨k, rfl, _⟩, ⟨y4, z4, rfl, ⟨d, rfl, hds⟩, ⟨y5, z5, rfl, ⟨f, rfl, _⟩, ⟨y6, z6, rfl, ⟨x, rfl, _⟩, ⟨y7, z7, rfl, ⟨g, rfl, hg, hd⟩, rfl⟩⟩⟩⟩⟩⟩⟩ := h
  obtain ⟨l, rfl⟩ := ty_dots hd
  exact ⟨⟨(r, n), t, k, d, f, x, l⟩, rfl, by unfold reachBytes at hds; dsimp only; omega⟩
theorem lawA : ∀ xss, TyA [stateSh, evSh] xss → ∃ n, play real (lookT tab) prJ n 4 (argsF [stateSh, evSh] xss) [] = some (.one (.iv (.bool true)), []) := by
  intro xss h
  rcases xss with _ | ⟨a, _ | ⟨b, _ | ⟨c, r⟩⟩⟩
  · exact h.elim
  · exact h.2.elim
  · obtain ⟨h1, h2, _⟩ := h
    obtain ⟨v, l, rfl, hv, hl⟩ := ty_state h1
    obtain ⟨e, rfl, he⟩ := ty_ev h2
    exact law4 hv l hl e he
  · exact h.2.2.elim
end Go.Proofs.Ytanpphoehajcgaa
