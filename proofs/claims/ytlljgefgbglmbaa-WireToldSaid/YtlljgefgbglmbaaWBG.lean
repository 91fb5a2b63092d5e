/- What was written is read: the law of lists. -/
import Derived.Test.YtlljgefgbglmbaaWBF
set_option linter.unusedSimpArgs false
set_option linter.unusedVariables false
set_option maxRecDepth 100000
set_option maxHeartbeats 20000000
set_option cbv.maxSteps 10000000
namespace Go.Proofs.Ytlljgefgbglmbaa
open Go GoV

theorem q8 : ∃ k, Pn k 8 [] [] (bl true) [] := by
  have h : Pl 8 [] (bl true) [] := ⟨100, by kernel_rfl⟩
  exact h.at pr_mono
theorem n7 (m : Msg) (l : List Ev) : Pn 400 7 [msF false 8 false 6 m (argX l)] [] (bl (smB m.live && fewB l)) [] := by
  obtain ⟨N, hN⟩ : ∃ N, N = 399 := ⟨_, rfl⟩
  rw [show 400 = N + 1 by omega]
  refine playN N rfl rfl fun A call hA hcall => ?_
  obtain ⟨pl, mi, ml, nt, tn, ad, sb, K⟩ := kit hA
  obtain ⟨EX, ix, sn, ll, cc, sg, X⟩ := lkit hA K zeroX exI 96
  obtain ⟨W, gx, st', V⟩ := rkit hA
  have k1 := n18 m.seen m.live false 6 (.inl rfl) N (by omega)
  have k2 := n19 l true N (by omega)
  have k3 := n19 l false N (by omega)
  have ex : exs (argX l) = l.map evA := by unfold exs argX; rw [List.map_map]; rfl
  rw [← hcall] at k1 k2 k3
  rw [← ex] at k2 k3
  obtain ⟨mk, fr, to, ack, base, seen, live, floor⟩ := m
  dsimp only [msF, stF] at *
  generalize vec ack = va at *
  generalize vec base = vb at *
  generalize vec seen = vs at *
  generalize vec floor = vf at *
  generalize eWs live = lw at *
  generalize exs (argX l) = xs at *
  generalize fewB l = fb at *
  generalize smB live = sv at *
  cases sv with
  | false =>
    rw [Bool.false_and]
    refine wpV_ofH (by ((try (conv => lhs; cbv)); (repeat ((first | (rewrite [k1])); (try (conv => lhs; cbv)))); (exact rfl))) ?_
    (show finV _ _ _ = some _; ((try (conv => lhs; cbv)); (try (with_reducible rfl))); (try rfl))
  | true =>
    rw [Bool.true_and]
    refine wpV_ofH (by ((try (conv => lhs; cbv)); (repeat ((first | (rewrite [k1]) | (rewrite [k3])); (try (conv => lhs; cbv)))); (exact rfl))) ?_
    (show finV _ _ _ = some _; ((try (conv => lhs; cbv)); (try (with_reducible rfl))); (try rfl))
theorem sameX_arg {l : List Ev} (hl : l.length ≤ 1000) (hg : ∀ e, e ∈ l → e.gone.length ≤ 1000) : SameX (argX l) (okL l) := by
  refine ⟨by simp [argX, okL], by simp [argX]; omega, fun i hi => ?_⟩
  have hi' : i < l.length := by simpa [argX] using hi
  have e1 : (argX l).getD i zeroX = (l[i], false, 2) := by
    rw [List.getD_eq_getElem?_getD, List.getElem?_eq_getElem hi]; simp [argX]
  have e2 : (okL l).getD i zeroX = (l[i], l[i].gone.isEmpty, 2) := by
    rw [List.getD_eq_getElem?_getD, List.getElem?_eq_getElem (by simpa [okL] using hi')]; simp [okL]
  rw [e1, e2]
  exact ⟨rfl, rfl, rfl, hg _ (List.getElem_mem hi')⟩
theorem law5 (m : Msg) (l : List Ev) (la : m.ack.length = 64) (lb : m.base.length = 64) (ls : m.seen.length = 64) (lf : m.floor.length = 64) (hd : ∀ e, e ∈ l → e.doc.size ≤ 1000000000000000) (hw : ∀ w, w ∈ m.live → w.doc.size ≤ 1000000000000000) :
    ∃ n, play real (lookT tab) (fun _ => clonePr clones) n 5 [msF false 8 false 6 m (argX l)] [] = some (bl true, []) := by
  obtain ⟨ka, ha⟩ := q8
  have h7 := n7 m l
  cases hs : smB m.live && fewB l with
  | false =>
    obtain ⟨n, hn⟩ : ∃ n, n = ka + 500 := ⟨_, rfl⟩
    refine ⟨n + 1, playN n rfl rfl (fun A call hA hcall => ?_) (n + 1) (Nat.le_refl _)⟩
    obtain ⟨pl, mi, ml, nt, tn, ad, sb, K⟩ := kit hA
    obtain ⟨EX, ix, sn, ll, cc, sg, X⟩ := lkit hA K zeroX exI 96
    obtain ⟨W, gx, st', V⟩ := rkit hA
    have q7 := h7 n (by omega)
    have q8 := ha n (by omega)
    rw [hs] at q7
    rw [← hcall] at q7 q8
    obtain ⟨mk, fr, to, ack, base, seen, live, floor⟩ := m
    dsimp only [msF] at *
    generalize vec ack = va at *
    generalize vec base = vb at *
    generalize vec seen = vs at *
    generalize vec floor = vf at *
    generalize eWs live = lw at *
    generalize exs (argX l) = xs at *
    refine wpV_ofH (by ((try (conv => lhs; cbv)); (repeat ((first | (rewrite [q7]) | (rewrite [q8])); (try (conv => lhs; cbv)))); (exact rfl))) ?_
    (show finV _ _ _ = some _; ((try (conv => lhs; cbv)); (try (with_reducible rfl))); (try rfl))
  | true =>
    simp only [Bool.and_eq_true] at hs
    have hf := hs.2
    unfold fewB at hf
    simp only [Bool.and_eq_true, decide_eq_true_eq] at hf
    have hl : l.length ≤ 80 := hf.1
    have hg : ∀ e, e ∈ l → e.gone.length ≤ 130 := fewGo_all hf.2
    have hlv : m.live.length ≤ 120 := by have := hs.1; unfold smB at this; simp only [Bool.and_eq_true, decide_eq_true_eq] at this; exact this.1
    have h1 : MsgOK m (argX l) := ⟨la, lb, ls, lf, fun x hx => by
      obtain ⟨e, he, rfl⟩ := List.mem_map.1 hx
      exact ⟨hd e he, by have := hg e he; dsimp only; omega⟩, fun x hx => by
      obtain ⟨e, he, rfl⟩ := List.mem_map.1 hx
      rfl, hw⟩
    have h2 : MsgOK m (okL l) := ⟨la, lb, ls, lf, fun x hx => by
      obtain ⟨e, he, rfl⟩ := List.mem_map.1 hx
      exact ⟨hd e he, by have := hg e he; dsimp only; omega⟩, fun x hx => by
      obtain ⟨e, he, rfl⟩ := List.mem_map.1 hx
      rfl, hw⟩
    have hsm : (smB m.live && fewB l) = true := by rw [hs.1, hs.2]; rfl
    rw [hsm] at h7
    by_cases hc : chkM m (argX l) = 0
    · have hm : chkM m (okL l) = 0 := by rw [chkM_flags m (okL l) (argX l) (by unfold okL argX; rw [List.map_map, List.map_map]; rfl)]; exact hc
      have hcs : ∀ e, e ∈ l → chk e = 0 := fun e he => chkM_ev hc (e, false, 2) (List.mem_map.2 ⟨e, he, rfl⟩)
      obtain ⟨k9, h9⟩ := n9 m l h1 (by omega) hcs hc
      have hsx := sameX_arg (l := l) (by omega) (fun e he => by have := hg e he; omega)
      have sgx : ∀ A : Ar, A = real → A .seg (exs (okL l)) 0 l.length = exs (okL l) := fun A hA => by
        rw [hA, real_seg]; unfold rSeg; rw [List.drop_zero, List.take_of_length_le (by simp [exs, okL])]
      have sgw : ∀ A : Ar, A = real → A .seg (eWs m.live) 0 m.live.length = eWs m.live := fun A hA => by
        rw [hA, real_seg]; unfold rSeg; rw [List.drop_zero, List.take_of_length_le (by simp [eWs])]
      have zr : vec zeros = [IV.int IntKind.i64 0, IV.int IntKind.i64 0, IV.int IntKind.i64 0, IV.int IntKind.i64 0, IV.int IntKind.i64 0, IV.int IntKind.i64 0, IV.int IntKind.i64 0, IV.int IntKind.i64 0, IV.int IntKind.i64 0, IV.int IntKind.i64 0, IV.int IntKind.i64 0, IV.int IntKind.i64 0, IV.int IntKind.i64 0, IV.int IntKind.i64 0, IV.int IntKind.i64 0, IV.int IntKind.i64 0, IV.int IntKind.i64 0, IV.int IntKind.i64 0, IV.int IntKind.i64 0, IV.int IntKind.i64 0, IV.int IntKind.i64 0, IV.int IntKind.i64 0, IV.int IntKind.i64 0, IV.int IntKind.i64 0, IV.int IntKind.i64 0, IV.int IntKind.i64 0, IV.int IntKind.i64 0, IV.int IntKind.i64 0, IV.int IntKind.i64 0, IV.int IntKind.i64 0, IV.int IntKind.i64 0, IV.int IntKind.i64 0, IV.int IntKind.i64 0, IV.int IntKind.i64 0, IV.int IntKind.i64 0, IV.int IntKind.i64 0, IV.int IntKind.i64 0, IV.int IntKind.i64 0, IV.int IntKind.i64 0, IV.int IntKind.i64 0, IV.int IntKind.i64 0, IV.int IntKind.i64 0, IV.int IntKind.i64 0, IV.int IntKind.i64 0, IV.int IntKind.i64 0, IV.int IntKind.i64 0, IV.int IntKind.i64 0, IV.int IntKind.i64 0, IV.int IntKind.i64 0, IV.int IntKind.i64 0, IV.int IntKind.i64 0, IV.int IntKind.i64 0, IV.int IntKind.i64 0, IV.int IntKind.i64 0, IV.int IntKind.i64 0, IV.int IntKind.i64 0, IV.int IntKind.i64 0, IV.int IntKind.i64 0, IV.int IntKind.i64 0, IV.int IntKind.i64 0, IV.int IntKind.i64 0, IV.int IntKind.i64 0, IV.int IntKind.i64 0, IV.int IntKind.i64 0] := rfl
      rcases chkM_k hc with hk | hk | hk
      · obtain ⟨z1, z2, z3, z4, z5⟩ := chkM_1 hc hk
        have hl0 : l = [] := by
          cases l with
          | nil => rfl
          | cons a r => simp [argX] at z1
        subst hl0
        obtain ⟨kd, hkd⟩ := n16_1 m [] h2 (by simp) hcs hm hk
        have h14 := n14 m (argX []) (okL []) la lb ls lf (by omega) hsx false true false true 8 0 6 0 (.inl rfl) (.inr ⟨rfl, rfl⟩) (.inl rfl) (.inr ⟨rfl, z4⟩)
        obtain ⟨n, hn⟩ : ∃ n, n = ka + k9 + kd + 8000 := ⟨_, rfl⟩
        refine ⟨n + 1, playN n rfl rfl (fun A call hA hcall => ?_) (n + 1) (Nat.le_refl _)⟩
        obtain ⟨pl, mi, ml, nt, tn, ad, sb, K⟩ := kit hA
        obtain ⟨EX, ix, sn, ll, cc, sg, X⟩ := lkit hA K zeroX exI 96
        obtain ⟨W, gx, st', V⟩ := rkit hA
        have q7 := h7 n (by omega)
        have q8 := ha n (by omega)
        have q9 := h9 n (by omega)
        have q16 := fun t => hkd t n (by omega)
        have q14 := h14 n (by omega)
        have sB := seg8 hA (sealB (bodyB m []))
        rw [← hcall] at q7 q8 q9 q14
        simp only [← hcall] at q16
        clear h1 h2 hsx h7 h9 hkd h14 ha hc hm hcs sgx sgw hsm hs hf
        generalize by8 (sealB (bodyB m [])) = xs at *
        generalize (sealB (bodyB m [])).length = xn at *
        obtain ⟨mk, fr, to, ack, base, seen, live, floor⟩ := m
        dsimp only at *
        subst hk z2 z3 z4 z5
        simp only [msF, show exs (okL []) = [] from rfl, show exs (argX []) = [] from rfl, show eWs [] = [] from rfl, zr] at *
        generalize vec ack = va at *
        apply wpV_seq; refine wpV_ofH (by ((try (conv => lhs; cbv)); (exact rfl))) ?_
        apply wpV_seq; refine wpV_ofH (by ((try (conv => lhs; cbv)); (repeat ((first | (rewrite [q7])); (try (conv => lhs; cbv)))); (exact rfl))) ?_
        apply wpV_seq; refine wpV_ofH (by ((try (conv => lhs; cbv)); (repeat ((first | (rewrite [q9])); (try (conv => lhs; cbv)))); (exact rfl))) ?_
        apply wpV_seq; refine wpV_ofH (by ((try (conv => lhs; cbv)); (repeat ((first | (rewrite [K.ofN]) | (rewrite [K.neF]; rotate_left; focus ((try simp only [K.df, X.df, V.df, true_and, and_true]) <;> omega))); (try (conv => lhs; cbv)))); (exact rfl))) ?_
        apply wpV_seq; refine wpV_ofH (by ((try (conv => lhs; cbv)); (repeat ((first | (rewrite [sB]) | (rewrite [q16])); (try (conv => lhs; cbv)))); (exact rfl))) ?_
        refine wpV_ofH (by ((try (conv => lhs; cbv)); (repeat ((first | (rewrite [q14]) | (rewrite [q8]) | (rewrite [K.eqT]; rotate_left; focus ((try simp only [K.df, X.df, V.df, true_and, and_true]) <;> omega))); (try (conv => lhs; cbv)))); (exact rfl))) ?_
        (show finV _ _ _ = some _; ((try (conv => lhs; cbv)); (try (with_reducible rfl))); (try rfl))
      · obtain ⟨z3, z4, z5⟩ := chkM_2 hc hk
        obtain ⟨kd, hkd⟩ := n16_2 m l h2 (by omega) hcs hm hk
        have h14 := fun b => n14 m (argX l) (okL l) la lb ls lf (by omega) hsx false b false true 8 8 6 0 (.inl rfl) (.inl rfl) (.inl rfl) (.inr ⟨rfl, z4⟩)
        obtain ⟨n, hn⟩ : ∃ n, n = ka + k9 + kd + 8000 := ⟨_, rfl⟩
        refine ⟨n + 1, playN n rfl rfl (fun A call hA hcall => ?_) (n + 1) (Nat.le_refl _)⟩
        obtain ⟨pl, mi, ml, nt, tn, ad, sb, K⟩ := kit hA
        obtain ⟨EX, ix, sn, ll, cc, sg, X⟩ := lkit hA K zeroX exI 96
        obtain ⟨W, gx, st', V⟩ := rkit hA
        have q7 := h7 n (by omega)
        have q8 := ha n (by omega)
        have q9 := h9 n (by omega)
        have q16 := fun t => hkd t n (by omega)
        have q14 := fun b => h14 b n (by omega)
        have sB := seg8 hA (sealB (bodyB m l))
        have s2 := sgx A hA
        rw [← hcall] at q7 q8 q9
        simp only [← hcall] at q16 q14
        clear h1 h2 hsx h7 h9 hkd h14 ha hc hm hcs sgx sgw hsm hs hf
        generalize by8 (sealB (bodyB m l)) = xs at *
        generalize (sealB (bodyB m l)).length = xn at *
        obtain ⟨mk, fr, to, ack, base, seen, live, floor⟩ := m
        dsimp only at *
        subst hk z3 z4 z5
        simp only [msF, show eWs [] = [] from rfl, zr] at *
        generalize vec ack = va at *
        generalize vec base = vb at *
        generalize exs (okL l) = ys at *
        generalize exs (argX l) = ws at *
        generalize l.length = yn at *
        apply wpV_seq; refine wpV_ofH (by ((try (conv => lhs; cbv)); (exact rfl))) ?_
        apply wpV_seq; refine wpV_ofH (by ((try (conv => lhs; cbv)); (repeat ((first | (rewrite [q7])); (try (conv => lhs; cbv)))); (exact rfl))) ?_
        apply wpV_seq; refine wpV_ofH (by ((try (conv => lhs; cbv)); (repeat ((first | (rewrite [q9])); (try (conv => lhs; cbv)))); (exact rfl))) ?_
        apply wpV_seq; refine wpV_ofH (by ((try (conv => lhs; cbv)); (repeat ((first | (rewrite [K.ofN]) | (rewrite [K.neF]; rotate_left; focus ((try simp only [K.df, X.df, V.df, true_and, and_true]) <;> omega))); (try (conv => lhs; cbv)))); (exact rfl))) ?_
        apply wpV_seq; refine wpV_ofH (by ((try (conv => lhs; cbv)); (repeat ((first | (rewrite [sB]) | (rewrite [q16])); (try (conv => lhs; cbv)))); (exact rfl))) ?_
        refine wpV_ofH (by ((try (conv => lhs; cbv)); (repeat ((first | (rewrite [s2]) | (rewrite [q14]) | (rewrite [q8]) | (rewrite [K.eqT]; rotate_left; focus ((try simp only [K.df, X.df, V.df, true_and, and_true]) <;> omega))); (try (conv => lhs; cbv)))); (exact rfl))) ?_
        (show finV _ _ _ = some _; ((try (conv => lhs; cbv)); (try (with_reducible rfl))); (try rfl))
      · have z2 := chkM_3b hc hk
        obtain ⟨kd, hkd⟩ := n16_3 m l h2 (by omega) hcs hm hk
        have h14 := fun b b2 => n14 m (argX l) (okL l) la lb ls lf (by omega) hsx false b false b2 8 8 6 6 (.inl rfl) (.inl rfl) (.inl rfl) (.inl rfl)
        obtain ⟨n, hn⟩ : ∃ n, n = ka + k9 + kd + 8000 := ⟨_, rfl⟩
        refine ⟨n + 1, playN n rfl rfl (fun A call hA hcall => ?_) (n + 1) (Nat.le_refl _)⟩
        obtain ⟨pl, mi, ml, nt, tn, ad, sb, K⟩ := kit hA
        obtain ⟨EX, ix, sn, ll, cc, sg, X⟩ := lkit hA K zeroX exI 96
        obtain ⟨W, gx, st', V⟩ := rkit hA
        have q7 := h7 n (by omega)
        have q8 := ha n (by omega)
        have q9 := h9 n (by omega)
        have q16 := fun t => hkd t n (by omega)
        have q14 := fun b b2 => h14 b b2 n (by omega)
        have sB := seg8 hA (sealB (bodyB m l))
        have s2 := sgx A hA
        have s3 := sgw A hA
        rw [← hcall] at q7 q8 q9
        simp only [← hcall] at q16 q14
        clear h1 h2 hsx h7 h9 hkd h14 ha hc hm hcs sgx sgw hsm hs hf
        generalize by8 (sealB (bodyB m l)) = xs at *
        generalize (sealB (bodyB m l)).length = xn at *
        obtain ⟨mk, fr, to, ack, base, seen, live, floor⟩ := m
        dsimp only at *
        subst hk z2
        simp only [msF, zr] at *
        generalize vec ack = va at *
        generalize vec seen = vs at *
        generalize vec floor = vf at *
        generalize eWs live = lw at *
        generalize live.length = ln at *
        generalize exs (okL l) = ys at *
        generalize exs (argX l) = ws at *
        generalize l.length = yn at *
        apply wpV_seq; refine wpV_ofH (by ((try (conv => lhs; cbv)); (exact rfl))) ?_
        apply wpV_seq; refine wpV_ofH (by ((try (conv => lhs; cbv)); (repeat ((first | (rewrite [q7])); (try (conv => lhs; cbv)))); (exact rfl))) ?_
        apply wpV_seq; refine wpV_ofH (by ((try (conv => lhs; cbv)); (repeat ((first | (rewrite [q9])); (try (conv => lhs; cbv)))); (exact rfl))) ?_
        apply wpV_seq; refine wpV_ofH (by ((try (conv => lhs; cbv)); (repeat ((first | (rewrite [K.ofN]) | (rewrite [K.neF]; rotate_left; focus ((try simp only [K.df, X.df, V.df, true_and, and_true]) <;> omega))); (try (conv => lhs; cbv)))); (exact rfl))) ?_
        apply wpV_seq; refine wpV_ofH (by ((try (conv => lhs; cbv)); (repeat ((first | (rewrite [sB]) | (rewrite [q16])); (try (conv => lhs; cbv)))); (exact rfl))) ?_
        refine wpV_ofH (by ((try (conv => lhs; cbv)); (repeat ((first | (rewrite [s2]) | (rewrite [s3]) | (rewrite [q14]) | (rewrite [q8]) | (rewrite [K.eqT]; rotate_left; focus ((try simp only [K.df, X.df, V.df, true_and, and_true]) <;> omega))); (try (conv => lhs; cbv)))); (exact rfl))) ?_
        (show finV _ _ _ = some _; ((try (conv => lhs; cbv)); (try (with_reducible rfl))); (try rfl))
    · obtain ⟨k9, h9⟩ := n9bad m (argX l) h1 hc
      obtain ⟨n, hn⟩ : ∃ n, n = ka + k9 + 8000 := ⟨_, rfl⟩
      refine ⟨n + 1, playN n rfl rfl (fun A call hA hcall => ?_) (n + 1) (Nat.le_refl _)⟩
      obtain ⟨pl, mi, ml, nt, tn, ad, sb, K⟩ := kit hA
      obtain ⟨EX, ix, sn, ll, cc, sg, X⟩ := lkit hA K zeroX exI 96
      obtain ⟨W, gx, st', V⟩ := rkit hA
      have q7 := h7 n (by omega)
      have q8 := ha n (by omega)
      have q9 := h9 false 8 false 6 (.inl rfl) (.inl rfl) n (by omega)
      have l0 : A .len [] = 0 := by rw [hA]; rfl
      rw [← hcall] at q7 q8 q9
      clear h1 h2 h7 h9 ha
      generalize chkM m (argX l) = c at *
      obtain ⟨mk, fr, to, ack, base, seen, live, floor⟩ := m
      dsimp only [msF] at *
      generalize vec ack = va at *
      generalize vec base = vb at *
      generalize vec seen = vs at *
      generalize vec floor = vf at *
      generalize eWs live = lw at *
      generalize exs (argX l) = xs at *
      refine wpV_ofH (by ((try (conv => lhs; cbv)); (repeat ((first | (rewrite [q7]) | (rewrite [q9]) | (rewrite [l0]) | (rewrite [q8]) | (rewrite [K.eqT]; rotate_left; focus ((try simp only [K.df, X.df, V.df, true_and, and_true]) <;> omega)) | (rewrite [K.neT]; rotate_left; focus ((try simp only [K.df, X.df, V.df, true_and, and_true]) <;> omega))); (try (conv => lhs; cbv)))); (exact rfl))) ?_
      (show finV _ _ _ = some _; ((try (conv => lhs; cbv)); (try (with_reducible rfl))); (try rfl))
/-! ### Shapes -/
def evSh : Sh := .pair dotSh (.pair iSh (.pair iSh (.pair .str (.pair iSh (.pair .str (.pair (.sl dotSh 16) .unit))))))
def msgSh : Sh := .pair iSh (.pair iSh (.pair iSh (.pair vecSh (.pair vecSh (.pair (.sl evSh 96) (.pair stateSh (.pair vecSh .unit)))))))
theorem ty_dots : ∀ {es : List (List IV)}, (∀ c, c ∈ es → TyI dotSh c) → ∃ l : List (Int × Int), es = eDs l
  | [], _ => ⟨[], rfl⟩
  | c :: r, h => by
    obtain ⟨l, rfl⟩ := ty_dots (es := r) fun c hc => h c (by simp [hc])
    obtain ⟨a1, b1, rfl, ⟨x, rfl, _⟩, ⟨a2, b2, rfl, ⟨y, rfl, _⟩, rfl⟩⟩ := h c (by simp)
    exact ⟨(x, y) :: l, rfl⟩
theorem ty_ev {c : List IV} (h : TyI evSh c) : ∃ e : Ev, c = exI (e, false, 2) ∧ e.doc.size ≤ 1000000000000000 := by
  obtain ⟨y1, z1, rfl, ⟨a1, b1, rfl, ⟨r, rfl, _⟩, ⟨a2, b2, rfl, ⟨n, rfl, _⟩, rfl⟩⟩, ⟨y2, z2, rfl, ⟨t, rfl, _⟩, ⟨y3, z3, rfl, ⟨k, rfl, _⟩, ⟨y4, z4, rfl, ⟨d, rfl, hds⟩, ⟨y5, z5, rfl, ⟨f, rfl, _⟩, ⟨y6, z6, rfl, ⟨x, rfl, _⟩, ⟨y7, z7, rfl, ⟨g, rfl, hg, hd⟩, rfl⟩⟩⟩⟩⟩⟩⟩ := h
  obtain ⟨l, rfl⟩ := ty_dots hd
  exact ⟨⟨(r, n), t, k, d, f, x, l⟩, rfl, by unfold reachBytes at hds; dsimp only; omega⟩
theorem ty_evs : ∀ {es : List (List IV)}, (∀ c, c ∈ es → TyI evSh c) → ∃ l : List Ev, es = exs (argX l) ∧ ∀ e, e ∈ l → e.doc.size ≤ 1000000000000000
  | [], _ => ⟨[], rfl, fun e h => by simp at h⟩
  | c :: r, h => by
    obtain ⟨l, rfl, h2⟩ := ty_evs (es := r) fun c hc => h c (by simp [hc])
    obtain ⟨e, rfl, he⟩ := ty_ev (h c (by simp))
    refine ⟨e :: l, rfl, fun x hx => ?_⟩
    rcases List.mem_cons.1 hx with rfl | hx
    · exact he
    · exact h2 x hx
theorem lawW : ∀ xss, TyA [msgSh] xss → ∃ n, play real (lookT tab) (fun _ => clonePr clones) n 5 (argsF [msgSh] xss) [] = some (.one (.iv (.bool true)), []) := by
  intro xss h
  rcases xss with _ | ⟨a, _ | ⟨b, r⟩⟩
  · exact h.elim
  · obtain ⟨h1, _⟩ := h
    obtain ⟨y1, z1, rfl, ⟨k, rfl, _⟩, ⟨y2, z2, rfl, ⟨fr, rfl, _⟩, ⟨y3, z3, rfl, ⟨to, rfl, _⟩, ⟨y4, z4, rfl, ha, ⟨y5, z5, rfl, hb, ⟨y6, z6, rfl, ⟨es, rfl, _, he⟩, ⟨y7, z7, rfl, hst, ⟨y8, z8, rfl, hf, rfl⟩⟩⟩⟩⟩⟩⟩⟩ := h1
    obtain ⟨ack, rfl, la⟩ := ty_vec ha
    obtain ⟨base, rfl, lb⟩ := ty_vec hb
    obtain ⟨seen, live, rfl, ls, hw⟩ := ty_state hst
    obtain ⟨floor, rfl, lf⟩ := ty_vec hf
    obtain ⟨l, rfl, hd⟩ := ty_evs he
    exact law5 ⟨k, fr, to, ack, base, seen, live, floor⟩ l la lb ls lf hd hw
  · exact h.2.elim
end Go.Proofs.Ytlljgefgbglmbaa
