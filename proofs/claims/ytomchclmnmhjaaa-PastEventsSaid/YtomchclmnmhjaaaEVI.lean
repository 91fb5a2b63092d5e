/- An event that may be is read as it was written: the law of lists. -/
import Derived.Test.YtomchclmnmhjaaaEVH
set_option linter.unusedSimpArgs false
set_option linter.unusedVariables false
set_option maxRecDepth 100000
set_option maxHeartbeats 1000000
set_option cbv.maxSteps 10000000
namespace Go.Proofs.Ytomchclmnmhjaaa
open Go GoV

theorem p54 : ∃ k, Pn k 54 [] [] (bl true) [] := by
  have h : Pl 54 [] (bl true) [] := ⟨100, by kernel_rfl⟩
  exact h.at pr_mono
theorem evB_len (e : Ev) (hc : chk e = 0) : 1 ≤ (evB e).length ∧ (evB e).length ≤ 3000 := by
  obtain ⟨c1, c2, c3, c4, c5, c6, c7, c8, c9, c10⟩ := chk_0 hc
  have nm := name_size c4
  obtain ⟨g1, g2⟩ := gone_valid c5
  have len : ∀ x, (enc x).length ≤ 9 := fun x => by rw [enc_len]; have := nd_le x; omega
  have t1 := textB_len e.doc
  have t2 := textB_len e.txt
  have d := dsB_len e.gone e.gone.length
  have a1 := len e.d.1.toNat
  have a2 := len e.d.2.toNat
  have a3 := len e.t.toNat
  have a4 := len e.k.toNat
  have a5 := len e.f.toNat
  have a6 := len e.gone.length
  have b1 := enc_len e.d.1.toNat
  unfold evB hdB
  simp only [List.length_append]
  omega
theorem enc_b (x : Nat) (hx : x < 2 ^ 64) : ∀ b, b ∈ enc x → b < 256 := by
  intro b hb
  simp only [enc, List.mem_cons] at hb
  rcases hb with rfl | h
  · exact fst8_lt hx
  · exact tl_lt _ _ _ h
theorem textB_b (s : ByteArray) (h : s.size < 2 ^ 64) : ∀ b, b ∈ textB s → b < 256 := by
  intro b hb
  rcases List.mem_append.1 hb with h1 | h1
  · exact enc_b _ h b h1
  · exact sbl_lt s b h1
theorem evB_b (e : Ev) (hc : chk e = 0) : ∀ b, b ∈ evB e → b < 256 := by
  obtain ⟨c1, c2, c3, c4, c5, c6, c7, c8, c9, c10⟩ := chk_0 hc
  have nm := name_size c4
  have v0 := valid_0 c1
  obtain ⟨g1, g2⟩ := gone_valid c5
  have hds : ∀ i, i ≤ e.gone.length → ∀ b, b ∈ dsB e.gone i → b < 256 := by
    intro i
    induction i with
    | zero => intro _ b hb; simp [dsB] at hb
    | succ i ih =>
      intro hi b hb
      have v := valid_0 (g2 i (by omega))
      simp only [dsB, List.mem_append] at hb
      rcases hb with h | h | h
      · exact ih (by omega) b h
      · exact enc_b _ (by omega) b h
      · exact enc_b _ (by omega) b h
  intro b hb
  unfold evB hdB at hb
  simp only [List.mem_append] at hb
  rcases hb with ((h | h) | h | h | h | h | h | h) | h
  · exact enc_b _ (by omega) b h
  · exact enc_b _ (by omega) b h
  · exact enc_b _ (by omega) b h
  · exact enc_b _ (by omega) b h
  · exact textB_b _ (by omega) b h
  · exact enc_b _ (by omega) b h
  · exact textB_b _ (by omega) b h
  · exact enc_b _ (by omega) b h
  · exact hds _ (Nat.le_refl _) b h
theorem law15 (e : Ev) (hd : e.doc.size ≤ 1000000000000000) (W : List Nat) (hW : W.length ≤ 140737488351232) (hW8 : ∀ b, b ∈ W → b < 256) :
    ∃ n, play real (lookT tab) (fun _ => clonePr clones) n 15 [evF false 2 e, .one (.iv (.sl false 1 (by8 W)))] [] = some (bl true, []) := by
  obtain ⟨ka, ha⟩ := p54
  obtain ⟨k1, h1⟩ : ∃ k, e.gone.length ≤ 1000 → chk e ≠ 0 → Pn k 70 [.one (.iv (.sl true 0 (by8 []))), evF false 2 e] [] (.one (.slo 0 0 0)) [.arr false false 1 (by8 [])] := by
    by_cases hg : e.gone.length ≤ 1000
    · by_cases hc : chk e = 0
      · exact ⟨0, fun _ h => absurd hc h⟩
      · obtain ⟨k, hk⟩ := n70bad [] true 0 (.inl rfl) e hd hg (by simp) hc
        exact ⟨k, fun _ _ => hk false 2 (.inl rfl)⟩
    · exact ⟨0, fun h => absurd h hg⟩
  obtain ⟨k2, h2⟩ : ∃ k, chk e = 0 → Pn k 70 [.one (.iv (.sl true 0 (by8 []))), evF false 2 e] [] (.one (.slo 0 0 (evB e).length)) [.arr false false 1 (by8 (evB e))] := by
    by_cases hc : chk e = 0
    · obtain ⟨k, hk⟩ := n70 [] true 0 (.inl rfl) e (by simp) hc
      exact ⟨k, fun _ => hk false 2 (.inl rfl)⟩
    · exact ⟨0, fun h => absurd h hc⟩
  obtain ⟨k3, h3⟩ : ∃ k, chk e = 0 → Pn k 71 [rp] (rdS true (by8 (evB e ++ W)) (.ok false 0 (evB e ++ W).length)) (evV 2 (e, .ok true (evB e).length W.length)) (rdS true (by8 (evB e ++ W)) (.ok true (evB e).length W.length) ++ evK (e, .ok true (evB e).length W.length)) := by
    by_cases hc : chk e = 0
    · have hl := evB_len e hc
      have hb := evB_b e hc
      obtain ⟨k, hk⟩ := n71 (evB e ++ W) (fun b h => by rcases List.mem_append.1 h with h | h; exact hb b h; exact hW8 b h) (by rw [List.length_append]; omega) false 0 (evB e ++ W).length (by omega)
      obtain ⟨q, _⟩ := evS_enc (bs := evB e ++ W) (W := W) (o := 0) (f := false) hc (by simp)
      rw [q, Nat.zero_add] at hk
      exact ⟨k, fun _ => hk⟩
    · exact ⟨0, fun h => absurd h hc⟩
  obtain ⟨n, hn⟩ : ∃ n, n = ka + k1 + k2 + k3 + 2000 := ⟨_, rfl⟩
  refine ⟨n + 1, playN n rfl rfl (fun A call hA hcall => ?_) (n + 1) (Nat.le_refl _)⟩
  obtain ⟨pl, mi, ml, nt, tn, ad, sb, K⟩ := kit hA
  obtain ⟨E, ix, sn, ll, cc, sg, D⟩ := lkit hA K ((0, 0) : Int × Int) (fun p => [.int .i64 p.1, .int .i64 p.2]) 16
  have q53 : call 53 [.one (.iv (.sl true 1 [[.sl true 8 [evA e]]]))] [] = some (bl (fewB [e]), []) := by rw [hcall]; exact n53 [e] true n (by omega)
  have q54 : call 54 [] [] = some (bl true, []) := by rw [hcall]; exact ha n (by omega)
  unfold evA evI at q53
  have e0 : by8 [] = [] := rfl
  cases hf : fewB [e] with
  | false =>
    rw [hf] at q53
    dsimp only [evF]
    generalize eDs e.gone = gs at *
    obtain ⟨⟨r, nn⟩, t, kd, doc, f, txt, gone⟩ := e
    dsimp only at q53 ⊢
    refine wpV_ofH (by ((try (conv => lhs; cbv)); (repeat ((first | (rewrite [q53]) | (rewrite [q54])); (try (conv => lhs; cbv)))); (exact rfl))) ?_
    (show finV _ _ _ = some _; ((try (conv => lhs; cbv)); (try (with_reducible rfl))); (try rfl))
  | true =>
    rw [hf] at q53
    have hg : e.gone.length ≤ 130 := by
      unfold fewB at hf
      simp only [Bool.and_eq_true] at hf
      exact fewGo_all hf.2 e (by simp)
    by_cases hc : chk e = 0
    · have q70 : call 70 [.one (.iv (.sl true 0 [])), evF false 2 e] [] = some (.one (.slo 0 0 (evB e).length), [.arr false false 1 (by8 (evB e))]) := by rw [hcall]; exact h2 hc n (by omega)
      have q71 := h3 hc n (by omega)
      rw [← hcall, evV_ok, evK_ok] at q71
      have hl := evB_len e hc
      have q45 : call 45 [.one (.iv (.sl (A .isE (by8 (evB e ++ W))) 1 (by8 (evB e ++ W))))] [] = some (rp, rd (by8 (evB e ++ W)) 0 (evB e ++ W).length false) := by
        rw [hcall]
        have := n45 (by8 (evB e ++ W)) (A .isE (by8 (evB e ++ W))) 1 (.inr rfl) (by rw [by8_len, List.length_append]; omega) n (by omega)
        rw [by8_len] at this
        exact this
      have q47 : call 47 [rp] (rdS true (by8 (evB e ++ W)) (.ok true (evB e).length W.length)) = some (i64 0, rdS true (by8 (evB e ++ W)) (.ok true (evB e).length W.length)) := by rw [hcall]; exact n47 _ (.ok true (evB e).length W.length) n (by omega)
      have q48 : call 48 [rp] (rdS true (by8 (evB e ++ W)) (.ok true (evB e).length W.length)) = some (i64 (W.length : Int), rdS true (by8 (evB e ++ W)) (.ok true (evB e).length W.length)) := by rw [hcall]; exact n48 _ (.ok true (evB e).length W.length) n (by omega)
      have q69 : ∀ b2, call 69 [.one (.iv (.sl true 8 [evI false 2 e])), .one (.iv (.sl true 8 [evI b2 2 e]))] [] = some (bl true, []) := fun b2 => by rw [hcall]; exact n69 e false b2 true true 2 2 (.inl rfl) (.inl rfl) (by omega) n (by omega)
      have l1 : A .ofN (evB e).length = nt (evB e).length := K.ofN _
      have a1 : A .apo 1 0 (evB e).length (by8 (evB e)) (by8 W) = some (true, by8 (evB e ++ W)) := by
        rw [hA, real_apo]; unfold rApo room
        rw [if_pos (by rw [by8_len]; omega), if_pos ⟨by rw [by8_len]; omega, .inl rfl⟩, by8_app]; rfl
      have l2 : A .ln (by8 (evB e ++ W)) = (evB e ++ W).length := by rw [hA]; exact by8_len _
      have s1 := seg8 hA (evB e ++ W)
      have lW : A .len (by8 W) = (W.length : Int) := by rw [hA, real_len, by8_len]
      have sgl : A .seg (eDs e.gone) 0 e.gone.length = eDs e.gone := by
        rw [hA, real_seg]; unfold rSeg; rw [List.drop_zero, List.take_of_length_le (by simp [eDs])]
      dsimp only [rd, rdS, evF, evI] at *
      generalize (W.length : Int) = WL at *
      generalize W.length = wl at *
      generalize by8 W = ws at *
      generalize by8 (evB e ++ W) = es at *
      generalize (evB e ++ W).length = el at *
      generalize by8 (evB e) = xs at *
      generalize hbl : (evB e).length = xl at *
      generalize e.gone.length = gn at *
      generalize eDs e.gone = gs at *
      obtain ⟨⟨r, nn⟩, t, kd, doc, f, txt, gone⟩ := e
      dsimp only at q53 q69 q70 q71 ⊢
      apply wpV_seq; refine wpV_ofH (by ((try (conv => lhs; cbv)); (exact rfl))) ?_
      apply wpV_seq; refine wpV_ofH (by ((try (conv => lhs; cbv)); (repeat ((first | (rewrite [q53])); (try (conv => lhs; cbv)))); (exact rfl))) ?_
      apply wpV_seq; refine wpV_ofH (by ((try (conv => lhs; cbv)); (repeat ((first | (rewrite [q70])); (try (conv => lhs; cbv)))); (exact rfl))) ?_
      apply wpV_seq; refine wpV_ofH (by ((try (conv => lhs; cbv)); (repeat ((first | (rewrite [K.ofN]) | (rewrite [K.eqF]; rotate_left; focus ((try simp only [K.df, D.df, true_and, and_true]) <;> omega))); (try (conv => lhs; cbv)))); (exact rfl))) ?_
      apply wpV_seq; refine wpV_ofH (by ((try (conv => lhs; cbv)); (repeat ((first | (rewrite [a1]) | (rewrite [l2]) | (rewrite [s1]) | (rewrite [q45])); (try (conv => lhs; cbv)))); (exact rfl))) ?_
      apply wpV_seq; refine wpV_ofH (by ((try (conv => lhs; cbv)); (repeat ((first | (rewrite [q71])); (try (conv => lhs; cbv)))); (exact rfl))) ?_
      refine wpV_ofH (by ((try (conv => lhs; cbv)); (repeat ((first | (rewrite [q47]) | (rewrite [q48]) | (rewrite [lW]) | (rewrite [sgl]) | (rewrite [q69]) | (rewrite [q54]) | (rewrite [K.eqT]; rotate_left; focus ((try simp only [K.df, D.df, true_and, and_true]) <;> omega))); (try (conv => lhs; cbv)))); (exact rfl))) ?_
      (show finV _ _ _ = some _; ((try (conv => lhs; cbv)); (try (with_reducible rfl))); (try rfl))
    · have q70 : call 70 [.one (.iv (.sl true 0 [])), evF false 2 e] [] = some (.one (.slo 0 0 0), [.arr false false 1 []]) := by rw [hcall]; exact h1 (by omega) hc n (by omega)
      have l0 : A .ofN 0 = 0 := by rw [hA]; rfl
      dsimp only [evF] at *
      generalize eDs e.gone = gs at *
      obtain ⟨⟨r, nn⟩, t, kd, doc, f, txt, gone⟩ := e
      dsimp only at q53 q70 ⊢
      refine wpV_ofH (by ((try (conv => lhs; cbv)); (repeat ((first | (rewrite [q53]) | (rewrite [q70]) | (rewrite [l0]) | (rewrite [q54]) | (rewrite [K.eqT]; rotate_left; focus ((try simp only [K.df, D.df, true_and, and_true]) <;> omega))); (try (conv => lhs; cbv)))); (exact rfl))) ?_
      (show finV _ _ _ = some _; ((try (conv => lhs; cbv)); (try (with_reducible rfl))); (try rfl))
/-! ### Shapes -/
def iSh : Sh := .int .i64
def dotSh : Sh := .pair iSh (.pair iSh .unit)
def evSh : Sh := .pair dotSh (.pair iSh (.pair iSh (.pair .str (.pair iSh (.pair .str (.pair (.sl dotSh 16) .unit))))))
def byteSh : Sh := .sl (.int .u8) 1
theorem ty_dots : ∀ {es : List (List IV)}, (∀ c, c ∈ es → TyI dotSh c) → ∃ l : List (Int × Int), es = eDs l
  | [], _ => ⟨[], rfl⟩
  | c :: r, h => by
    obtain ⟨l, rfl⟩ := ty_dots (es := r) fun c hc => h c (by simp [hc])
    obtain ⟨a1, b1, rfl, ⟨x, rfl, _⟩, ⟨a2, b2, rfl, ⟨y, rfl, _⟩, rfl⟩⟩ := h c (by simp)
    exact ⟨(x, y) :: l, rfl⟩
theorem ty_ev {c : List IV} (h : TyI evSh c) : ∃ e : Ev, c = evA e ∧ e.doc.size ≤ 1000000000000000 := by
  obtain ⟨y1, z1, rfl, ⟨a1, b1, rfl, ⟨r, rfl, _⟩, ⟨a2, b2, rfl, ⟨n, rfl, _⟩, rfl⟩⟩, ⟨y2, z2, rfl, ⟨t, rfl, _⟩, ⟨y3, z3, rfl, ⟨k, rfl, _⟩, ⟨y4, z4, rfl, ⟨d, rfl, hds⟩, ⟨y5, z5, rfl, ⟨f, rfl, _⟩, ⟨y6, z6, rfl, ⟨x, rfl, _⟩, ⟨y7, z7, rfl, ⟨g, rfl, hg, hd⟩, rfl⟩⟩⟩⟩⟩⟩⟩ := h
  obtain ⟨l, rfl⟩ := ty_dots hd
  exact ⟨⟨(r, n), t, k, d, f, x, l⟩, rfl, by unfold reachBytes at hds; dsimp only; omega⟩
theorem ty_bytes {xs : List IV} (h : TyI byteSh xs) : ∃ W : List Nat, xs = [.sl false 1 (by8 W)] ∧ W.length ≤ 140737488351232 ∧ ∀ b, b ∈ W → b < 256 := by
  obtain ⟨es, rfl, hl, he⟩ := h
  have : ∃ W : List Nat, es = by8 W ∧ ∀ b, b ∈ W → b < 256 := by
    clear hl
    induction es with
    | nil => exact ⟨[], rfl, fun b hb => by simp at hb⟩
    | cons y r ih =>
      obtain ⟨W, rfl, h8⟩ := ih fun z hz => he z (by simp [hz])
      obtain ⟨n, hn, hw⟩ := he y (by simp)
      have h2 : 0 ≤ n ∧ n < 256 := by
        simp [Lit.wf, IntKind.min, IntKind.max, IntKind.signed, IntKind.bits] at hw
        omega
      refine ⟨n.toNat :: W, ?_, fun b hb => ?_⟩
      · rw [hn]
        simp only [by8, List.map_cons, Int.toNat_of_nonneg h2.1]
      · rcases List.mem_cons.1 hb with rfl | h
        · omega
        · exact h8 b h
  obtain ⟨W, rfl, h8⟩ := this
  rw [by8_len] at hl
  exact ⟨W, rfl, by unfold reachBytes at hl; omega, h8⟩
theorem lawV : ∀ xss, TyA [evSh, byteSh] xss → ∃ n, play real (lookT tab) (fun _ => clonePr clones) n 15 (argsF [evSh, byteSh] xss) [] = some (.one (.iv (.bool true)), []) := by
  intro xss h
  rcases xss with _ | ⟨a, _ | ⟨b, _ | ⟨c, r⟩⟩⟩
  · exact h.elim
  · exact h.2.elim
  · obtain ⟨h1, h2, _⟩ := h
    obtain ⟨e, rfl, he⟩ := ty_ev h1
    obtain ⟨y, rfl, hy, hy8⟩ := ty_bytes h2
    exact law15 e he y hy hy8
  · exact h.2.2.elim
end Go.Proofs.Ytomchclmnmhjaaa
