/- A message's bytes: plain, and gone through; messages held against each other. -/
import Derived.Test.YtlljgefgbglmbaaWBD
set_option linter.unusedSimpArgs false
set_option linter.unusedVariables false
set_option maxRecDepth 100000
set_option maxHeartbeats 20000000
set_option cbv.maxSteps 10000000
namespace Go.Proofs.Ytlljgefgbglmbaa
open Go GoV

theorem chkM_ok {m : Msg} {lx : List EvX} (h : chkM m lx = 0) : (endsB m && (goodB m.ack && (goodB m.base && (goodB m.floor && decide (lx.length ≤ 1024))))) = true ∧ (lx.all (fun x => decide (chk x.1 = 0))) = true ∧ kindI m.k (noneB m) lx.length (decide (m.base = zeros)) (canB m.seen m.live) = 0 := by
  unfold chkM at h
  cases h1 : (endsB m && (goodB m.ack && (goodB m.base && (goodB m.floor && decide (lx.length ≤ 1024))))) with
  | false => rw [h1, cond_false] at h; exact absurd h (by decide)
  | true =>
    rw [h1, cond_true] at h
    cases h2 : (lx.all (fun x => decide (chk x.1 = 0))) with
    | false => rw [h2, cond_false] at h; exact absurd h (by decide)
    | true => rw [h2, cond_true] at h; exact ⟨rfl, rfl, h⟩
theorem chkM_0 {m : Msg} {lx : List EvX} (h : chkM m lx = 0) : 0 ≤ m.fr ∧ m.fr < 64 ∧ 0 ≤ m.to ∧ m.to < 64 ∧ m.fr ≠ m.to ∧ goodB m.ack = true ∧ goodB m.base = true ∧ goodB m.floor = true := by
  have h1 := (chkM_ok h).1
  simp only [Bool.and_eq_true, endsB, decide_eq_true_eq] at h1
  exact ⟨h1.1.1, h1.1.2.1, h1.1.2.2.1, h1.1.2.2.2.1, h1.1.2.2.2.2, h1.2.1, h1.2.2.1, h1.2.2.2.1⟩
theorem chkM_ev {m : Msg} {lx : List EvX} (h : chkM m lx = 0) : ∀ x, x ∈ lx → chk x.1 = 0 := by
  intro x hx
  have := List.all_eq_true.1 (chkM_ok h).2.1 x hx
  simpa using this
theorem chkM_k {m : Msg} {lx : List EvX} (h : chkM m lx = 0) : m.k = 1 ∨ m.k = 2 ∨ m.k = 3 := by
  have h1 := (chkM_ok h).2.2
  unfold kindI at h1
  split at h1
  · rename_i h; exact .inl h.1
  · split at h1
    · rename_i h; exact .inr (.inl h.1)
    · split at h1
      · rename_i h; exact .inr (.inr h.1)
      · exact absurd h1 (by decide)
theorem chkM_33 {m : Msg} {lx : List EvX} (h : chkM m lx = 0) (hk : m.k = 3) : canB m.seen m.live = true ∧ m.base = zeros := by
  have h1 := (chkM_ok h).2.2
  unfold kindI at h1
  rw [hk] at h1
  rw [if_neg (by simp), if_neg (by simp)] at h1
  split at h1
  · rename_i h; exact ⟨h.2.1, by simpa using h.2.2⟩
  · simp at h1
theorem chkM_3 {m : Msg} {lx : List EvX} (h : chkM m lx = 0) (hk : m.k = 3) : canB m.seen m.live = true := (chkM_33 h hk).1
def bodyB (m : Msg) (l : List Ev) : List Nat := enc m.k.toNat ++ (enc m.fr.toNat ++ (enc m.to.toNat ++ (putB m.ack ++ (if m.k = 2 then putB m.base ++ evsA l else if m.k = 3 then stB m.seen m.live ++ (putB m.floor ++ evsA l) else []))))
theorem evsA_b {l : List Ev} (hl : l.length ≤ 1000) (h : ∀ e, e ∈ l → chk e = 0) : ∀ b, b ∈ evsA l → b < 256 := by
  intro b hb
  unfold evsA at hb
  rw [evsB_evL h _ (Nat.le_refl _), List.take_length] at hb
  rcases List.mem_append.1 hb with h1 | h1
  · exact enc_b _ (by omega) b h1
  · obtain ⟨e, he, h2⟩ := List.mem_flatMap.1 h1
    exact evB_b e (h e he) b h2
theorem body_b (m : Msg) (l : List Ev) (hl : l.length ≤ 1000) (hcs : ∀ e, e ∈ l → chk e = 0) (hc : chkM m (okL l) = 0) : ∀ b, b ∈ bodyB m l → b < 256 := by
  obtain ⟨f1, f2, f3, f4, f5, ga, gb, gf⟩ := chkM_0 hc
  have hk := chkM_k hc
  intro b hb
  unfold bodyB at hb
  simp only [List.mem_append] at hb
  rcases hb with h | h | h | h | h
  · exact enc_b _ (by omega) b h
  · exact enc_b _ (by omega) b h
  · exact enc_b _ (by omega) b h
  · exact putB_b ga b h
  · split at h
    · rcases List.mem_append.1 h with h | h
      · exact putB_b gb b h
      · exact evsA_b hl hcs b h
    · split at h
      · rename_i h3
        rcases List.mem_append.1 h with h | h
        · exact stB_b (chkM_3 hc h3) b h
        · rcases List.mem_append.1 h with h | h
          · exact putB_b gf b h
          · exact evsA_b hl hcs b h
      · simp at h
theorem evsA_len {l : List Ev} (hl : l.length ≤ 1000) : (evsA l).length ≤ 3000009 := by
  have := evsB_len l l.length
  unfold evsA
  rw [List.length_append, enc_len]
  have := nd_le l.length
  omega
theorem body_len (m : Msg) (l : List Ev) (hc : chkM m (okL l) = 0) (hl : l.length ≤ 1000) : (bodyB m l).length ≤ 10000000 := by
  have len : ∀ x, (enc x).length ≤ 9 := fun x => by rw [enc_len]; have := nd_le x; omega
  have a1 := len m.k.toNat
  have a2 := len m.fr.toNat
  have a3 := len m.to.toNat
  have a4 := putB_len m.ack
  have a5 := putB_len m.base
  have a6 := putB_len m.floor
  have a7 := evsA_len hl
  unfold bodyB
  simp only [List.length_append]
  split
  · rw [List.length_append]; omega
  · split
    · rename_i h3
      have a8 := stB_len (chkM_3 hc h3)
      simp only [List.length_append]; omega
    · simp only [List.length_nil]; omega
theorem chkM_flags (m : Msg) (lx ly : List EvX) (h : lx.map (·.1) = ly.map (·.1)) : chkM m lx = chkM m ly := by
  have h1 : lx.length = ly.length := by have := congrArg List.length h; simpa using this
  have h2 : (lx.all fun x => decide (chk x.1 = 0)) = (ly.all fun x => decide (chk x.1 = 0)) := by
    have : ∀ l : List EvX, (l.all fun x => decide (chk x.1 = 0)) = ((l.map (·.1)).all fun e => decide (chk e = 0)) := fun l => by rw [List.all_map]; rfl
    rw [this, this, h]
  unfold chkM
  rw [h1, h2]
/-- The bytes of a message, or why there are none. -/
theorem n9bad (m : Msg) (lx : List EvX) (h : MsgOK m lx) (hc : chkM m lx ≠ 0) : ∃ k, ∀ b z b2 z2, (z = 8 ∨ z = 0 ∧ lx = []) → (z2 = 6 ∨ z2 = 0 ∧ m.live = []) → Pn k 9 [msF b z b2 z2 m lx] [] (.tup [(false, [.iv (.sl true 0 [])]), (false, [.iv (.int .i64 (chkM m lx))])]) [] := by
  obtain ⟨k, hk⟩ := n12 m lx h
  refine ⟨k + 1, fun b z b2 z2 hz hz2 => playN k rfl rfl fun A call hA hcall => ?_⟩
  obtain ⟨pl, mi, ml, nt, tn, ad, sb, K⟩ := kit hA
  obtain ⟨EX, ix, sn, ll, cc, sg, X⟩ := lkit hA K zeroX exI 96
  obtain ⟨W, gx, st', V⟩ := rkit hA
  have k1 := hk b z b2 z2 hz hz2 k (by omega)
  rw [← hcall] at k1
  generalize chkM m lx = c at *
  obtain ⟨mk, fr, to, ack, base, seen, live, floor⟩ := m
  dsimp only [msF] at *
  generalize vec ack = va at *
  generalize vec base = vb at *
  generalize vec seen = vs at *
  generalize vec floor = vf at *
  generalize eWs live = lw at *
  generalize exs lx = xs at *
  refine wpV_ofH (by ((try (conv => lhs; cbv)); (repeat ((first | (rewrite [k1]) | (rewrite [K.neT]; rotate_left; focus ((try simp only [K.df, X.df, V.df, true_and, and_true]) <;> omega))); (try (conv => lhs; cbv)))); (exact rfl))) ?_
  (show finV _ _ _ = some _; ((try (conv => lhs; cbv)); (try (with_reducible rfl))); (try rfl))
def argX (l : List Ev) : List EvX := l.map fun e => (e, false, 2)
theorem n9 (m : Msg) (l : List Ev) (h : MsgOK m (argX l)) (hl : l.length ≤ 1000) (hcs : ∀ e, e ∈ l → chk e = 0) (hc : chkM m (argX l) = 0) : ∃ k, Pn k 9 [msF false 8 false 6 m (argX l)] [] (.tup [(false, [.slo 0 0 (sealB (bodyB m l)).length]), (false, [.iv (.int .i64 0)])]) [.arr false false 1 (by8 (sealB (bodyB m l)))] := by
  obtain ⟨f1, f2, f3, f4, f5, ga, gb, gf⟩ := chkM_0 hc
  have hkk := chkM_k hc
  have hm : chkM m (okL l) = 0 := by rw [chkM_flags m (okL l) (argX l) (by unfold okL argX; rw [List.map_map, List.map_map]; rfl)]; exact hc
  have hbl := body_len m l hm hl
  have hd : ∀ e, e ∈ l → e.doc.size ≤ 1000000000000000 ∧ e.gone.length ≤ 1000 := fun e he => by
    obtain ⟨c1, c2, c3, c4, c5, c6, c7, c8, c9, c10⟩ := chk_0 (hcs e he)
    have nm := name_size c4
    have := (gone_valid c5).1
    omega
  have len : ∀ x, (enc x).length ≤ 9 := fun x => by rw [enc_len]; have := nd_le x; omega
  obtain ⟨X3, h3⟩ : ∃ X, X = (enc m.k.toNat ++ enc m.fr.toNat) ++ enc m.to.toNat := ⟨_, rfl⟩
  have l3 : X3.length ≤ 27 := by rw [h3]; have := len m.k.toNat; have := len m.fr.toNat; have := len m.to.toNat; simp only [List.length_append]; omega
  obtain ⟨X4, h4⟩ : ∃ X, X = X3 ++ putB m.ack := ⟨_, rfl⟩
  have l4 : X4.length ≤ 1300 := by rw [h4, List.length_append]; have := putB_len m.ack; omega
  obtain ⟨kc, hkc⟩ := n12 m (argX l) h
  have both : ∀ {P : Nat → Bool → Prop}, (∀ t, ∃ k, ∀ n, k ≤ n → P n t) → ∃ k, ∀ n, k ≤ n → ∀ t, P n t := fun {P} hP => by
    obtain ⟨a, ha⟩ := hP true
    obtain ⟨b, hb⟩ := hP false
    exact ⟨a + b, fun n hn t => by cases t; exact hb n (by omega); exact ha n (by omega)⟩
  obtain ⟨k4, hk4⟩ := both (P := fun n t => play real (lookT tab) (fun _ => clonePr clones) n 22 [.one (.iv (.sl t 1 (by8 X3))), vecF m.ack] [] = some (.one (.slo 0 0 X4.length), [.arr false false 1 (by8 X4)])) (fun t => by
    obtain ⟨k, hk⟩ := n22 h.la ga X3 t 1 (.inr rfl) (by omega)
    rw [← h4] at hk
    exact ⟨k, hk⟩)
  obtain ⟨ks, hks⟩ := n26 (bodyB m l) true (by omega)
  obtain ⟨ks2, hks2⟩ := n26 (bodyB m l) false (by omega)
  have e1 : argX l = l.map fun e => ((e, false, 2) : EvX) := rfl
  have ex : exs (argX l) = l.map evE := by unfold exs argX; rw [List.map_map]; rfl
  have bodyE : bodyB m l = X4 ++ (if m.k = 2 then putB m.base ++ evsA l else if m.k = 3 then stB m.seen m.live ++ (putB m.floor ++ evsA l) else []) := by
    rw [h4, h3]; unfold bodyB; simp only [List.append_assoc]
  obtain ⟨B, hB⟩ : ∃ B, B = bodyB m l := ⟨_, rfl⟩
  rw [← hB] at hks hks2 bodyE hbl ⊢
  have start : ∀ (N : Nat) (A : Ar) (call : CallT), 3000 ≤ N → kc ≤ N → k4 ≤ N → ks + ks2 ≤ N → A = real → call = play real (lookT tab) (fun _ => clonePr clones) N →
      call 12 [msF false 8 false 6 m (argX l)] [] = some (i64 0, []) ∧
      (∃ Y1 Y2 n1 n2, (call 21 [.one (.iv (.sl true 0 [])), i64 m.k] [] = some (.one (.slo 0 0 n1), [.arr false false 1 Y1])) ∧ A .seg Y1 0 n1 = Y1 ∧ (∀ t, call 21 [.one (.iv (.sl t 1 Y1)), i64 m.fr] [] = some (.one (.slo 0 0 n2), [.arr false false 1 Y2])) ∧ A .seg Y2 0 n2 = Y2 ∧
        (∀ t, call 21 [.one (.iv (.sl t 1 Y2)), i64 m.to] [] = some (.one (.slo 0 0 X3.length), [.arr false false 1 (by8 X3)]))) ∧ A .seg (by8 X3) 0 X3.length = by8 X3 ∧
      (∀ t, call 22 [.one (.iv (.sl t 1 (by8 X3))), vecF m.ack] [] = some (.one (.slo 0 0 X4.length), [.arr false false 1 (by8 X4)])) ∧ A .seg (by8 X4) 0 X4.length = by8 X4 ∧
      A .seg (by8 B) 0 B.length = by8 B ∧ (∀ t, call 26 [.one (.iv (.sl t 1 (by8 B)))] [] = some (.one (.slo 0 0 (sealB B).length), [.arr false false 1 (by8 (sealB B))])) := by
    intro N A call hN1 hN2 hN3 hN4 hA hcall
    refine ⟨?_, ⟨by8 (enc m.k.toNat), by8 (enc m.k.toNat ++ enc m.fr.toNat), (enc m.k.toNat).length, (enc m.k.toNat ++ enc m.fr.toNat).length, ?_, seg8 hA _, fun t => ?_, seg8 hA _, fun t => ?_⟩, seg8 hA _, fun t => ?_, seg8 hA _, seg8 hA _, fun t => ?_⟩
    · rw [hcall, ← hc]; exact hkc false 8 false 6 (.inl rfl) (.inl rfl) N hN2
    · rw [hcall]
      have := n21 [] true 0 (.inl rfl) (x := m.k.toNat) (by omega) (by simp) N (by omega)
      rw [Int.toNat_of_nonneg (by omega)] at this
      exact this
    · rw [hcall]
      have := n21 (enc m.k.toNat) t 1 (.inr rfl) (x := m.fr.toNat) (by omega) (by have := len m.k.toNat; omega) N (by omega)
      rw [Int.toNat_of_nonneg (by omega)] at this
      exact this
    · rw [hcall]
      have := n21 (enc m.k.toNat ++ enc m.fr.toNat) t 1 (.inr rfl) (x := m.to.toNat) (by omega) (by have := len m.k.toNat; have := len m.fr.toNat; rw [List.length_append]; omega) N (by omega)
      rw [Int.toNat_of_nonneg (by omega), ← h3] at this
      exact this
    · rw [hcall]; exact hk4 N hN3 t
    · rw [hcall]; cases t
      · exact hks2 N (by omega)
      · exact hks N (by omega)
  rcases hkk with hk | hk | hk
  · obtain ⟨N, hN⟩ : ∃ N, N = kc + k4 + ks + ks2 + 3000 := ⟨_, rfl⟩
    refine ⟨N + 1, playN N rfl rfl fun A call hA hcall => ?_⟩
    obtain ⟨pl, mi, ml, nt, tn, ad, sb, K⟩ := kit hA
    obtain ⟨EX, ix, sn, ll, cc, sg, X⟩ := lkit hA K zeroX exI 96
    obtain ⟨W, gx, st', V⟩ := rkit hA
    obtain ⟨q12, ⟨Y1, Y2, n1, n2, p1, p2, p3, p4, p5⟩, p6, p7, p8, p9, p10⟩ := start N A call (by omega) (by omega) (by omega) (by omega) hA hcall
    have hX : B = X4 := by rw [bodyE, hk]; simp
    rw [hX] at p9 p10 ⊢
    clear start hks hks2 hk4 hkc h both hB bodyE h3 h4 e1
    obtain ⟨mk, fr, to, ack, base, seen, live, floor⟩ := m
    dsimp only [msF, vecF] at *
    subst hk
    generalize vec ack = va at *
    generalize vec base = vb at *
    generalize vec seen = vs at *
    generalize vec floor = vf at *
    generalize eWs live = lw at *
    generalize exs (argX l) = xs at *
    generalize by8 (sealB X4) = ys at *
    generalize (sealB X4).length = yn at *
    generalize by8 X3 = y3 at *
    generalize by8 X4 = y4 at *
    generalize X3.length = n3 at *
    generalize X4.length = n4 at *
    apply wpV_seq; refine wpV_ofH (by ((try (conv => lhs; cbv)); (exact rfl))) ?_
    apply wpV_seq; refine wpV_ofH (by ((try (conv => lhs; cbv)); (repeat ((first | (rewrite [q12]) | (rewrite [K.neF]; rotate_left; focus ((try simp only [K.df, X.df, V.df, true_and, and_true]) <;> omega))); (try (conv => lhs; cbv)))); (exact rfl))) ?_
    apply wpV_seq; refine wpV_ofH (by ((try (conv => lhs; cbv)); (repeat ((first | (rewrite [p1]) | (rewrite [p2]) | (rewrite [p3]) | (rewrite [p4]) | (rewrite [p5])); (try (conv => lhs; cbv)))); (exact rfl))) ?_
    apply wpV_seq; refine wpV_ofH (by ((try (conv => lhs; cbv)); (repeat ((first | (rewrite [p6]) | (rewrite [p7])); (try (conv => lhs; cbv)))); (exact rfl))) ?_
    refine wpV_ofH (by ((try (conv => lhs; cbv)); (repeat ((first | (rewrite [p9]) | (rewrite [p10]) | (rewrite [K.eqF]; rotate_left; focus ((try simp only [K.df, X.df, V.df, true_and, and_true]) <;> omega))); (try (conv => lhs; cbv)))); (exact rfl))) ?_
    (show finV _ _ _ = some _; ((try (conv => lhs; cbv)); (try (with_reducible rfl))); (try rfl))
  · have l5 : (X4 ++ putB m.base).length ≤ 3000 := by rw [List.length_append]; have := putB_len m.base; omega
    obtain ⟨k5, hk5⟩ := both (P := fun n t => play real (lookT tab) (fun _ => clonePr clones) n 22 [.one (.iv (.sl t 1 (by8 X4))), vecF m.base] [] = some (.one (.slo 0 0 (X4 ++ putB m.base).length), [.arr false false 1 (by8 (X4 ++ putB m.base))])) (fun t => n22 h.lb gb X4 t 1 (.inr rfl) (by omega))
    obtain ⟨k6, hk6⟩ := both (P := fun n t => play real (lookT tab) (fun _ => clonePr clones) n 23 [.one (.iv (.sl t 1 (by8 (X4 ++ putB m.base)))), .one (.iv (.sl false 8 (l.map evE)))] [] = some (.one (.slo 0 0 (X4 ++ putB m.base ++ evsA l).length), [.arr false false 1 (by8 (X4 ++ putB m.base ++ evsA l))])) (fun t => n23 (X4 ++ putB m.base) t false 1 (.inr rfl) l hl hd (by omega))
    obtain ⟨N, hN⟩ : ∃ N, N = kc + k4 + ks + ks2 + k5 + k6 + 3000 := ⟨_, rfl⟩
    refine ⟨N + 1, playN N rfl rfl fun A call hA hcall => ?_⟩
    obtain ⟨pl, mi, ml, nt, tn, ad, sb, K⟩ := kit hA
    obtain ⟨EX, ix, sn, ll, cc, sg, X⟩ := lkit hA K zeroX exI 96
    obtain ⟨W, gx, st', V⟩ := rkit hA
    obtain ⟨q12, ⟨Y1, Y2, n1, n2, p1, p2, p3, p4, p5⟩, p6, p7, p8, p9, p10⟩ := start N A call (by omega) (by omega) (by omega) (by omega) hA hcall
    have q5 := hk5 N (by omega)
    have q6 := hk6 N (by omega)
    rw [← hcall] at q5 q6
    have s5 := seg8 hA (X4 ++ putB m.base)
    have hX : B = X4 ++ putB m.base ++ evsA l := by rw [bodyE, hk]; simp
    rw [← hX] at q6
    dsimp only [msF] at q12 ⊢
    rw [ex] at q12 ⊢
    clear start hks hks2 hk4 hkc h both bodyE h3 h4 e1 hX hk5 hk6 hB
    obtain ⟨mk, fr, to, ack, base, seen, live, floor⟩ := m
    dsimp only [msF, vecF] at *
    subst hk
    generalize by8 (X4 ++ putB base) = y5 at *
    generalize (X4 ++ putB base).length = n5 at *
    generalize vec ack = va at *
    generalize vec base = vb at *
    generalize vec seen = vs at *
    generalize vec floor = vf at *
    generalize eWs live = lw at *
    generalize l.map evE = xs at *
    generalize by8 (sealB B) = ys at *
    generalize (sealB B).length = yn at *
    generalize by8 X3 = y3 at *
    generalize by8 X4 = y4 at *
    generalize by8 B = y6 at *
    generalize X3.length = n3 at *
    generalize X4.length = n4 at *
    generalize B.length = n6 at *
    apply wpV_seq; refine wpV_ofH (by ((try (conv => lhs; cbv)); (exact rfl))) ?_
    apply wpV_seq; refine wpV_ofH (by ((try (conv => lhs; cbv)); (repeat ((first | (rewrite [q12]) | (rewrite [K.neF]; rotate_left; focus ((try simp only [K.df, X.df, V.df, true_and, and_true]) <;> omega))); (try (conv => lhs; cbv)))); (exact rfl))) ?_
    apply wpV_seq; refine wpV_ofH (by ((try (conv => lhs; cbv)); (repeat ((first | (rewrite [p1]) | (rewrite [p2]) | (rewrite [p3]) | (rewrite [p4]) | (rewrite [p5])); (try (conv => lhs; cbv)))); (exact rfl))) ?_
    apply wpV_seq; refine wpV_ofH (by ((try (conv => lhs; cbv)); (repeat ((first | (rewrite [p6]) | (rewrite [p7])); (try (conv => lhs; cbv)))); (exact rfl))) ?_
    refine wpV_ofH (by ((try (conv => lhs; cbv)); (repeat ((first | (rewrite [p8]) | (rewrite [q5]) | (rewrite [s5]) | (rewrite [q6]) | (rewrite [p9]) | (rewrite [p10]) | (rewrite [K.eqT]; rotate_left; focus ((try simp only [K.df, X.df, V.df, true_and, and_true]) <;> omega))); (try (conv => lhs; cbv)))); (exact rfl))) ?_
    (show finV _ _ _ = some _; ((try (conv => lhs; cbv)); (try (with_reducible rfl))); (try rfl))
  · have hcan := chkM_3 hc hk
    have ls := stB_len hcan
    have l5 : (X4 ++ stB m.seen m.live).length ≤ 2002000 := by rw [List.length_append]; omega
    obtain ⟨k5, hk5⟩ := both (P := fun n t => play real (lookT tab) (fun _ => clonePr clones) n 25 [.one (.iv (.sl t 1 (by8 X4))), stF false 6 m.seen m.live] [] = some (.one (.slo 0 0 (X4 ++ stB m.seen m.live).length), [.arr false false 1 (by8 (X4 ++ stB m.seen m.live))])) (fun t => by
      obtain ⟨k, hk⟩ := n25 X4 t 1 (.inr rfl) h.ls m.live (by omega) hcan
      exact ⟨k, hk false 6 (.inl rfl)⟩)
    obtain ⟨k6, hk6⟩ := both (P := fun n t => play real (lookT tab) (fun _ => clonePr clones) n 24 [.one (.iv (.sl t 1 (by8 (X4 ++ stB m.seen m.live)))), .agg [.iv (.sl false 8 (l.map evE)), .iv (.arr 64 (vec m.floor))]] [] = some (.one (.slo 0 0 (X4 ++ stB m.seen m.live ++ (putB m.floor ++ evsA l)).length), [.arr false false 1 (by8 (X4 ++ stB m.seen m.live ++ (putB m.floor ++ evsA l)))])) (fun t => n24 (X4 ++ stB m.seen m.live) t false 1 (.inr rfl) h.lf gf l hl hd (by omega))
    obtain ⟨N, hN⟩ : ∃ N, N = kc + k4 + ks + ks2 + k5 + k6 + 3000 := ⟨_, rfl⟩
    refine ⟨N + 1, playN N rfl rfl fun A call hA hcall => ?_⟩
    obtain ⟨pl, mi, ml, nt, tn, ad, sb, K⟩ := kit hA
    obtain ⟨EX, ix, sn, ll, cc, sg, X⟩ := lkit hA K zeroX exI 96
    obtain ⟨W, gx, st', V⟩ := rkit hA
    obtain ⟨q12, ⟨Y1, Y2, n1, n2, p1, p2, p3, p4, p5⟩, p6, p7, p8, p9, p10⟩ := start N A call (by omega) (by omega) (by omega) (by omega) hA hcall
    have q5 := hk5 N (by omega)
    have q6 := hk6 N (by omega)
    rw [← hcall] at q5 q6
    have s5 := seg8 hA (X4 ++ stB m.seen m.live)
    have hX : B = X4 ++ stB m.seen m.live ++ (putB m.floor ++ evsA l) := by rw [bodyE, hk]; simp
    rw [← hX] at q6
    dsimp only [msF] at q12 ⊢
    rw [ex] at q12 ⊢
    clear start hks hks2 hk4 hkc h both bodyE h3 h4 e1 hX hk5 hk6 hB hcan
    obtain ⟨mk, fr, to, ack, base, seen, live, floor⟩ := m
    dsimp only [msF, vecF, stF] at *
    subst hk
    generalize by8 (X4 ++ stB seen live) = y5 at *
    generalize (X4 ++ stB seen live).length = n5 at *
    generalize vec ack = va at *
    generalize vec base = vb at *
    generalize vec seen = vs at *
    generalize vec floor = vf at *
    generalize eWs live = lw at *
    generalize l.map evE = xs at *
    generalize by8 (sealB B) = ys at *
    generalize (sealB B).length = yn at *
    generalize by8 X3 = y3 at *
    generalize by8 X4 = y4 at *
    generalize by8 B = y6 at *
    generalize X3.length = n3 at *
    generalize X4.length = n4 at *
    generalize B.length = n6 at *
    apply wpV_seq; refine wpV_ofH (by ((try (conv => lhs; cbv)); (exact rfl))) ?_
    apply wpV_seq; refine wpV_ofH (by ((try (conv => lhs; cbv)); (repeat ((first | (rewrite [q12]) | (rewrite [K.neF]; rotate_left; focus ((try simp only [K.df, X.df, V.df, true_and, and_true]) <;> omega))); (try (conv => lhs; cbv)))); (exact rfl))) ?_
    apply wpV_seq; refine wpV_ofH (by ((try (conv => lhs; cbv)); (repeat ((first | (rewrite [p1]) | (rewrite [p2]) | (rewrite [p3]) | (rewrite [p4]) | (rewrite [p5])); (try (conv => lhs; cbv)))); (exact rfl))) ?_
    apply wpV_seq; refine wpV_ofH (by ((try (conv => lhs; cbv)); (repeat ((first | (rewrite [p6]) | (rewrite [p7])); (try (conv => lhs; cbv)))); (exact rfl))) ?_
    refine wpV_ofH (by ((try (conv => lhs; cbv)); (repeat ((first | (rewrite [p8]) | (rewrite [q5]) | (rewrite [s5]) | (rewrite [q6]) | (rewrite [p9]) | (rewrite [p10]) | (rewrite [K.eqT]; rotate_left; focus ((try simp only [K.df, X.df, V.df, true_and, and_true]) <;> omega)) | (rewrite [K.eqF]; rotate_left; focus ((try simp only [K.df, X.df, V.df, true_and, and_true]) <;> omega))); (try (conv => lhs; cbv)))); (exact rfl))) ?_
    (show finV _ _ _ = some _; ((try (conv => lhs; cbv)); (try (with_reducible rfl))); (try rfl))
end Go.Proofs.Ytlljgefgbglmbaa
