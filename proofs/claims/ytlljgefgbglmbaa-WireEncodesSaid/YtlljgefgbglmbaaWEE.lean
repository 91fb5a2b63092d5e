/- Which messages may be, and their bytes: the law of lists. -/
import Derived.Test.YtlljgefgbglmbaaWED
import Derived.Test.YtlljgefgbglmbaaELHT
set_option linter.unusedSimpArgs false
set_option linter.unusedVariables false
set_option maxRecDepth 100000
set_option maxHeartbeats 20000000
set_option cbv.maxSteps 10000000
namespace Go.Proofs.Ytlljgefgbglmbaa
open Go GoV

theorem q8 : ∃ k, Pn k 8 [] [] (bl true) [] := by
  have h : Pl 8 [] (bl true) [] := ⟨100, by kernel_rfl⟩
  exact h.at pr_mono
theorem n7 (m : Msg) (l : List Ev) : Pn 400 7 [msF false 8 false 6 m (argX l)] [] (bl (smB m.live && fewB l)) [] := by
  obtain ⟨N, hN⟩ : ∃ N, N = 399 := ⟨_, rfl⟩
  rw [show 400 = N + 1 by omega]
  refine playN N rfl rfl fun A call hA hcall => ?_
  obtain ⟨pl, mi, ml, nt, tn, ad, sb, K⟩ := kit hA
  obtain ⟨EX, ix, sn, ll, cc, sg, X⟩ := lkit hA K zeroX exI 96
  obtain ⟨W, gx, st', V⟩ := rkit hA
  have k1 := n18 m.seen m.live false 6 (.inl rfl) N (by omega)
  have k2 := n19 l true N (by omega)
  have k3 := n19 l false N (by omega)
  have ex : exs (argX l) = l.map evA := by unfold exs argX; rw [List.map_map]; rfl
  rw [← hcall] at k1 k2 k3
  rw [← ex] at k2 k3
  obtain ⟨mk, fr, to, ack, base, seen, live, floor⟩ := m
  dsimp only [msF, stF] at *
  generalize vec ack = va at *
  generalize vec base = vb at *
  generalize vec seen = vs at *
  generalize vec floor = vf at *
  generalize eWs live = lw at *
  generalize exs (argX l) = xs at *
  generalize fewB l = fb at *
  generalize smB live = sv at *
  cases sv with
  | false =>
    rw [Bool.false_and]
    refine wpV_ofH (by ((try (conv => lhs; cbv)); (repeat ((first | (rewrite [k1])); (try (conv => lhs; cbv)))); (exact rfl))) ?_
    (show finV _ _ _ = some _; ((try (conv => lhs; cbv)); (try (with_reducible rfl))); (try rfl))
  | true =>
    rw [Bool.true_and]
    refine wpV_ofH (by ((try (conv => lhs; cbv)); (repeat ((first | (rewrite [k1]) | (rewrite [k3])); (try (conv => lhs; cbv)))); (exact rfl))) ?_
    (show finV _ _ _ = some _; ((try (conv => lhs; cbv)); (try (with_reducible rfl))); (try rfl))
theorem held_arg {l : List Ev} (hl : l.length ≤ 1000) (hg : ∀ e, e ∈ l → e.gone.length ≤ 1000) : Held (argX l) := by
  refine ⟨fun x hx => ?_, fun x hx => ?_, by simp [argX]; omega⟩
  · obtain ⟨e, he, rfl⟩ := List.mem_map.1 hx; rfl
  · obtain ⟨e, he, rfl⟩ := List.mem_map.1 hx; exact hg e he
theorem law3 (m m' : Msg) (l l' : List Ev) (la : m.ack.length = 64) (lb : m.base.length = 64) (ls : m.seen.length = 64) (lf : m.floor.length = 64) (hd : ∀ e, e ∈ l → e.doc.size ≤ 1000000000000000) (hw : ∀ w, w ∈ m.live → w.doc.size ≤ 1000000000000000)
    (la' : m'.ack.length = 64) (lb' : m'.base.length = 64) (ls' : m'.seen.length = 64) (lf' : m'.floor.length = 64) :
    ∃ n, play real (lookT tab) (fun _ => clonePr clones) n 3 [msF false 8 false 6 m (argX l), msF false 8 false 6 m' (argX l')] [] = some (bl true, []) := by
  obtain ⟨ka, ha⟩ := q8
  have h7 := n7 m l
  have h7' := n7 m' l'
  cases hs : (smB m.live && fewB l) && (smB m'.live && fewB l') with
  | false =>
    obtain ⟨n, hn⟩ : ∃ n, n = ka + 500 := ⟨_, rfl⟩
    refine ⟨n + 1, playN n rfl rfl (fun A call hA hcall => ?_) (n + 1) (Nat.le_refl _)⟩
    obtain ⟨pl, mi, ml, nt, tn, ad, sb, K⟩ := kit hA
    obtain ⟨EX, ix, sn, ll, cc, sg, X⟩ := lkit hA K zeroX exI 96
    obtain ⟨W, gx, st', V⟩ := rkit hA
    have q7 := h7 n (by omega)
    have q7' := h7' n (by omega)
    have q8 := ha n (by omega)
    rw [← hcall] at q7 q7' q8
    generalize (smB m.live && fewB l) = f1 at *
    generalize (smB m'.live && fewB l') = f2 at *
    obtain ⟨mk, fr, to, ack, base, seen, live, floor⟩ := m
    obtain ⟨mk', fr', to', ack', base', seen', live', floor'⟩ := m'
    dsimp only [msF] at *
    generalize vec ack = va at *
    generalize vec base = vb at *
    generalize vec seen = vs at *
    generalize vec floor = vf at *
    generalize eWs live = lw at *
    generalize exs (argX l) = xs at *
    generalize vec ack' = va' at *
    generalize vec base' = vb' at *
    generalize vec seen' = vs' at *
    generalize vec floor' = vf' at *
    generalize eWs live' = lw' at *
    generalize exs (argX l') = xs' at *
    cases f1 with
    | false =>
      refine wpV_ofH (by ((try (conv => lhs; cbv)); (repeat ((first | (rewrite [q7]) | (rewrite [q8])); (try (conv => lhs; cbv)))); (exact rfl))) ?_
      (show finV _ _ _ = some _; ((try (conv => lhs; cbv)); (try (with_reducible rfl))); (try rfl))
    | true =>
      cases f2 with
      | true => cases hs
      | false =>
        refine wpV_ofH (by ((try (conv => lhs; cbv)); (repeat ((first | (rewrite [q7]) | (rewrite [q7']) | (rewrite [q8])); (try (conv => lhs; cbv)))); (exact rfl))) ?_
        (show finV _ _ _ = some _; ((try (conv => lhs; cbv)); (try (with_reducible rfl))); (try rfl))
  | true =>
    simp only [Bool.and_eq_true] at hs
    obtain ⟨⟨hs1, hf⟩, hs2, hf'⟩ := hs
    have hsm : (smB m.live && fewB l) = true := by rw [hs1, hf]; rfl
    have hsm' : (smB m'.live && fewB l') = true := by rw [hs2, hf']; rfl
    rw [hsm] at h7
    rw [hsm'] at h7'
    unfold fewB at hf hf'
    simp only [Bool.and_eq_true, decide_eq_true_eq] at hf hf'
    have hl : l.length ≤ 80 := hf.1
    have hg : ∀ e, e ∈ l → e.gone.length ≤ 130 := fewGo_all hf.2
    have hl' : l'.length ≤ 80 := hf'.1
    have hg' : ∀ e, e ∈ l' → e.gone.length ≤ 130 := fewGo_all hf'.2
    have hlv : m.live.length ≤ 120 := by unfold smB at hs1; simp only [Bool.and_eq_true, decide_eq_true_eq] at hs1; exact hs1.1
    have hlv' : m'.live.length ≤ 120 := by unfold smB at hs2; simp only [Bool.and_eq_true, decide_eq_true_eq] at hs2; exact hs2.1
    have h1 : MsgOK m (argX l) := ⟨la, lb, ls, lf, fun x hx => by
      obtain ⟨e, he, rfl⟩ := List.mem_map.1 hx
      exact ⟨hd e he, by have := hg e he; dsimp only; omega⟩, fun x hx => by
      obtain ⟨e, he, rfl⟩ := List.mem_map.1 hx
      rfl, hw⟩
    have hh := held_arg (l := l) (by omega) fun e he => by have := hg e he; omega
    have hh' := held_arg (l := l') (by omega) fun e he => by have := hg' e he; omega
    have h14 := n14g m m' (argX l) (argX l') ⟨la, lb, ls, lf, by omega⟩ ⟨la', lb', ls', lf', by omega⟩ hh hh' false false false false 8 8 6 6 (.inl rfl) (.inl rfl) (.inl rfl) (.inl rfl)
    have h15 := n15g m m' (argX l) (argX l') ⟨la, lb, ls, lf, by omega⟩ ⟨la', lb', ls', lf', by omega⟩ hh hh' false false false false 8 8 6 6 (.inl rfl) (.inl rfl) (.inl rfl) (.inl rfl)
    obtain ⟨k12, h12⟩ := n12 m (argX l) h1
    obtain ⟨k13, h13⟩ := n13 m (argX l) h1
    generalize msq m (argX l) m' (argX l') = sq at *
    by_cases hc : chkM m (argX l) = 0
    · have hcs : ∀ e, e ∈ l → chk e = 0 := fun e he => chkM_ev hc (e, false, 2) (List.mem_map.2 ⟨e, he, rfl⟩)
      obtain ⟨k9, h9⟩ := n9 m l h1 (by omega) hcs hc
      obtain ⟨k10, h10⟩ := n10 m l h1 (by omega) hcs hc
      obtain ⟨n, hn⟩ : ∃ n, n = ka + k9 + k10 + k12 + k13 + 8000 := ⟨_, rfl⟩
      refine ⟨n + 1, playN n rfl rfl (fun A call hA hcall => ?_) (n + 1) (Nat.le_refl _)⟩
      obtain ⟨pl, mi, ml, nt, tn, ad, sb, K⟩ := kit hA
      obtain ⟨EX, ix, sn, ll, cc, sg, X⟩ := lkit hA K zeroX exI 96
      obtain ⟨W, gx, st', V⟩ := rkit hA
      have q7 := h7 n (by omega)
      have q7' := h7' n (by omega)
      have q8 := ha n (by omega)
      have q9 := h9 n (by omega)
      have w10 := h10 n (by omega)
      have q12 := h12 false 8 false 6 (.inl rfl) (.inl rfl) n (by omega)
      have q13 := h13 false 8 false 6 (.inl rfl) (.inl rfl) n (by omega)
      have q14 := h14 n (by omega)
      have q15 := h15 n (by omega)
      have q11 := fun t t2 => n11 (sealB (bodyB m l)) t t2 1 1 (.inr rfl) (.inr rfl) n (by omega)
      have sB := seg8 hA (sealB (bodyB m l))
      have bq : A .bq sq sq = true := by rw [hA]; cases sq <;> rfl
      rw [← hcall] at q7 q7' q8 q9 w10 q12 q13 q14 q15
      simp only [← hcall] at q11
      rw [hc] at q12 q13
      clear h1 hh hh' h7 h7' h9 h10 h12 h13 h14 h15 ha hc hcs hsm hsm' hf hf' hs1 hs2 hg hg' hd hw
      generalize by8 (sealB (bodyB m l)) = ys at *
      generalize (sealB (bodyB m l)).length = yn at *
      obtain ⟨mk, fr, to, ack, base, seen, live, floor⟩ := m
      obtain ⟨mk', fr', to', ack', base', seen', live', floor'⟩ := m'
      dsimp only [msF] at *
      generalize vec ack = va at *
      generalize vec base = vb at *
      generalize vec seen = vs at *
      generalize vec floor = vf at *
      generalize eWs live = lw at *
      generalize exs (argX l) = xs at *
      generalize vec ack' = va' at *
      generalize vec base' = vb' at *
      generalize vec seen' = vs' at *
      generalize vec floor' = vf' at *
      generalize eWs live' = lw' at *
      generalize exs (argX l') = xs' at *
      apply wpV_seq; refine wpV_ofH (by ((try (conv => lhs; cbv)); (exact rfl))) ?_
      apply wpV_seq; apply wpV_seq; refine wpV_ofH (by ((try (conv => lhs; cbv)); (repeat ((first | (rewrite [q7]) | (rewrite [q7'])); (try (conv => lhs; cbv)))); (exact rfl))) ?_
      apply wpV_of (by rfl); show wpV _ _ _ _ _ _
      apply wpV_seq; refine wpV_ofH (by ((try (conv => lhs; cbv)); (repeat ((first | (rewrite [q9])); (try (conv => lhs; cbv)))); (exact rfl))) ?_
      apply wpV_seq; refine wpV_ofH (by ((try (conv => lhs; cbv)); (repeat ((first | (rewrite [w10])); (try (conv => lhs; cbv)))); (exact rfl))) ?_
      refine wpV_ofH (by ((try (conv => lhs; cbv)); (repeat ((first | (rewrite [sB]) | (rewrite [q11]) | (rewrite [q12]) | (rewrite [q13]) | (rewrite [q14]) | (rewrite [q15]) | (rewrite [bq]) | (rewrite [q8]) | (rewrite [K.eqT]; rotate_left; focus ((try simp only [K.df, X.df, V.df, true_and, and_true]) <;> omega))); (try (conv => lhs; cbv)))); (exact rfl))) ?_
      (show finV _ _ _ = some _; ((try (conv => lhs; cbv)); (try (with_reducible rfl))); (try rfl))
    · obtain ⟨k9, h9⟩ := n9bad m (argX l) h1 hc
      obtain ⟨k10, h10⟩ := n10bad m (argX l) h1 hc
      rw [chkM_1or hc] at h9
      obtain ⟨n, hn⟩ : ∃ n, n = ka + k9 + k10 + k12 + k13 + 8000 := ⟨_, rfl⟩
      refine ⟨n + 1, playN n rfl rfl (fun A call hA hcall => ?_) (n + 1) (Nat.le_refl _)⟩
      obtain ⟨pl, mi, ml, nt, tn, ad, sb, K⟩ := kit hA
      obtain ⟨EX, ix, sn, ll, cc, sg, X⟩ := lkit hA K zeroX exI 96
      obtain ⟨W, gx, st', V⟩ := rkit hA
      have q7 := h7 n (by omega)
      have q7' := h7' n (by omega)
      have q8 := ha n (by omega)
      have q9 := h9 false 8 false 6 (.inl rfl) (.inl rfl) n (by omega)
      have w10 := h10 false 8 false 6 (.inl rfl) (.inl rfl) n (by omega)
      have q12 := h12 false 8 false 6 (.inl rfl) (.inl rfl) n (by omega)
      have q13 := h13 false 8 false 6 (.inl rfl) (.inl rfl) n (by omega)
      have q14 := h14 n (by omega)
      have q15 := h15 n (by omega)
      have q11 := n11 [] true true 0 0 (.inl rfl) (.inl rfl) n (by omega)
      have bq : A .bq sq sq = true := by rw [hA]; cases sq <;> rfl
      rw [← hcall] at q7 q7' q8 q9 w10 q12 q13 q14 q15 q11
      rw [chkM_1or hc] at q12 q13
      rw [show by8 [] = [] from rfl] at q11
      clear h1 hh hh' h7 h7' h9 h10 h12 h13 h14 h15 ha hc hsm hsm' hf hf' hs1 hs2 hg hg' hd hw
      obtain ⟨mk, fr, to, ack, base, seen, live, floor⟩ := m
      obtain ⟨mk', fr', to', ack', base', seen', live', floor'⟩ := m'
      dsimp only [msF] at *
      generalize vec ack = va at *
      generalize vec base = vb at *
      generalize vec seen = vs at *
      generalize vec floor = vf at *
      generalize eWs live = lw at *
      generalize exs (argX l) = xs at *
      generalize vec ack' = va' at *
      generalize vec base' = vb' at *
      generalize vec seen' = vs' at *
      generalize vec floor' = vf' at *
      generalize eWs live' = lw' at *
      generalize exs (argX l') = xs' at *
      apply wpV_seq; refine wpV_ofH (by ((try (conv => lhs; cbv)); (exact rfl))) ?_
      apply wpV_seq; apply wpV_seq; refine wpV_ofH (by ((try (conv => lhs; cbv)); (repeat ((first | (rewrite [q7]) | (rewrite [q7'])); (try (conv => lhs; cbv)))); (exact rfl))) ?_
      apply wpV_of (by rfl); show wpV _ _ _ _ _ _
      apply wpV_seq; refine wpV_ofH (by ((try (conv => lhs; cbv)); (repeat ((first | (rewrite [q9])); (try (conv => lhs; cbv)))); (exact rfl))) ?_
      apply wpV_seq; refine wpV_ofH (by ((try (conv => lhs; cbv)); (repeat ((first | (rewrite [w10])); (try (conv => lhs; cbv)))); (exact rfl))) ?_
      refine wpV_ofH (by ((try (conv => lhs; cbv)); (repeat ((first | (rewrite [q11]) | (rewrite [q12]) | (rewrite [q13]) | (rewrite [q14]) | (rewrite [q15]) | (rewrite [bq]) | (rewrite [q8]) | (rewrite [K.eqT]; rotate_left; focus ((try simp only [K.df, X.df, V.df, true_and, and_true]) <;> omega))); (try (conv => lhs; cbv)))); (exact rfl))) ?_
      (show finV _ _ _ = some _; ((try (conv => lhs; cbv)); (try (with_reducible rfl))); (try rfl))
/-! ### Shapes -/
def evSh : Sh := .pair dotSh (.pair iSh (.pair iSh (.pair .str (.pair iSh (.pair .str (.pair (.sl dotSh 16) .unit))))))
def msgSh : Sh := .pair iSh (.pair iSh (.pair iSh (.pair vecSh (.pair vecSh (.pair (.sl evSh 96) (.pair stateSh (.pair vecSh .unit)))))))
theorem ty_dots : ∀ {es : List (List IV)}, (∀ c, c ∈ es → TyI dotSh c) → ∃ l : List (Int × Int), es = eDs l
  | [], _ => ⟨[], rfl⟩
  | c :: r, h => by
    obtain ⟨l, rfl⟩ := ty_dots (es := r) fun c hc => h c (by simp [hc])
    obtain ⟨a1, b1, rfl, ⟨x, rfl, _⟩, ⟨a2, b2, rfl, ⟨y, rfl, _⟩, rfl⟩⟩ := h c (by simp)
    exact ⟨(x, y) :: l, rfl⟩
theorem ty_ev {c : List IV} (h : TyI evSh c) : ∃ e : Ev, c = exI (e, false, 2) ∧ e.doc.size ≤ 1000000000000000 := by
  obtain ⟨y1, z1, rfl, ⟨a1, b1, rfl, ⟨r, rfl, _⟩, ⟨a2, b2, rfl, ⟨n, rfl, _⟩, rfl⟩⟩, ⟨y2, z2, rfl, ⟨t, rfl, _⟩, ⟨y3, z3, rfl, ⟨k, rfl, _⟩, ⟨y4, z4, rfl, ⟨d, rfl, hds⟩, ⟨y5, z5, rfl, ⟨f, rfl, _⟩, ⟨y6, z6, rfl, ⟨x, rfl, _⟩, ⟨y7, z7, rfl, ⟨g, rfl, hg, hd⟩, rfl⟩⟩⟩⟩⟩⟩⟩ := h
  obtain ⟨l, rfl⟩ := ty_dots hd
  exact ⟨⟨(r, n), t, k, d, f, x, l⟩, rfl, by unfold reachBytes at hds; dsimp only; omega⟩
theorem ty_evs : ∀ {es : List (List IV)}, (∀ c, c ∈ es → TyI evSh c) → ∃ l : List Ev, es = exs (argX l) ∧ ∀ e, e ∈ l → e.doc.size ≤ 1000000000000000
  | [], _ => ⟨[], rfl, fun e h => by simp at h⟩
  | c :: r, h => by
    obtain ⟨l, rfl, h2⟩ := ty_evs (es := r) fun c hc => h c (by simp [hc])
    obtain ⟨e, rfl, he⟩ := ty_ev (h c (by simp))
    refine ⟨e :: l, rfl, fun x hx => ?_⟩
    rcases List.mem_cons.1 hx with rfl | hx
    · exact he
    · exact h2 x hx
theorem lawE : ∀ xss, TyA [msgSh, msgSh] xss → ∃ n, play real (lookT tab) (fun _ => clonePr clones) n 3 (argsF [msgSh, msgSh] xss) [] = some (.one (.iv (.bool true)), []) := by
  intro xss h
  rcases xss with _ | ⟨a, _ | ⟨b, _ | ⟨c, r⟩⟩⟩
  · exact h.elim
  · exact h.2.elim
  · obtain ⟨h1, h2, _⟩ := h
    obtain ⟨y1, z1, rfl, ⟨k, rfl, _⟩, ⟨y2, z2, rfl, ⟨fr, rfl, _⟩, ⟨y3, z3, rfl, ⟨to, rfl, _⟩, ⟨y4, z4, rfl, ha, ⟨y5, z5, rfl, hb, ⟨y6, z6, rfl, ⟨es, rfl, _, he⟩, ⟨y7, z7, rfl, hst, ⟨y8, z8, rfl, hf, rfl⟩⟩⟩⟩⟩⟩⟩⟩ := h1
    obtain ⟨ack, rfl, la⟩ := ty_vec ha
    obtain ⟨base, rfl, lb⟩ := ty_vec hb
    obtain ⟨seen, live, rfl, ls, hw⟩ := ty_state hst
    obtain ⟨floor, rfl, lf⟩ := ty_vec hf
    obtain ⟨l, rfl, hd⟩ := ty_evs he
    obtain ⟨y1, z1, rfl, ⟨k', rfl, _⟩, ⟨y2, z2, rfl, ⟨fr', rfl, _⟩, ⟨y3, z3, rfl, ⟨to', rfl, _⟩, ⟨y4, z4, rfl, ha', ⟨y5, z5, rfl, hb', ⟨y6, z6, rfl, ⟨es', rfl, _, he'⟩, ⟨y7, z7, rfl, hst', ⟨y8, z8, rfl, hf', rfl⟩⟩⟩⟩⟩⟩⟩⟩ := h2
    obtain ⟨ack', rfl, la'⟩ := ty_vec ha'
    obtain ⟨base', rfl, lb'⟩ := ty_vec hb'
    obtain ⟨seen', live', rfl, ls', hw'⟩ := ty_state hst'
    obtain ⟨floor', rfl, lf'⟩ := ty_vec hf'
    obtain ⟨l', rfl, hd'⟩ := ty_evs he'
    exact law3 ⟨k, fr, to, ack, base, seen, live, floor⟩ ⟨k', fr', to', ack', base', seen', live', floor'⟩ l l' la lb ls lf hd hw la' lb' ls' lf'
  · exact h.2.2.elim
end Go.Proofs.Ytlljgefgbglmbaa
