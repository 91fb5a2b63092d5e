/- Any state's bytes behind any others, and a state of any bytes: the law of lists. -/
import Derived.Test.YtanpphoehajcgaaGreatDZC
set_option linter.unusedSimpArgs false
set_option linter.unusedVariables false
set_option maxRecDepth 100000
set_option maxHeartbeats 20000000
set_option cbv.maxSteps 10000000
namespace Go.Proofs.YtanpphoehajcgaaGreat
open Go GoV

theorem stS_len (bs : List Nat) (s : RS) : (stS bs s).1.2.length ≤ 4096 ∧ (stS bs s).1.1.length = 64 := by
  have h1 : (st2 bs s).1 ≤ 4096 := by have := (numS_lt bs 4096 (st1 bs s).2).2; unfold st2; omega
  have h2 := wrGo_len (bs := bs) (n := (st2 bs s).1) (l := []) (s := (st2 bs s).2)
  have h3 : zeros.length = 64 := by simp [zeros]
  unfold stS
  split
  · exact ⟨Nat.zero_le _, h3⟩
  · split
    · exact ⟨Nat.zero_le _, h3⟩
    · refine ⟨?_, vecS_len bs s⟩
      show (st3 bs s).1.length ≤ 4096
      unfold st3
      simp only [List.length_nil] at h2
      omega
theorem q6 : ∃ k, Pn k 6 [] [] (bl true) [] := by
  have h : Pl 6 [] (bl true) [] := ⟨100, by kernel_rfl⟩
  exact h.at pr_mono
theorem law3 {v : List Int} (hv : v.length = 64) (l : List Wr) (hd : ∀ w, w ∈ l → w.doc.size ≤ 1000000000000000) (W C : List Nat) (hW : W.length ≤ 140737488351232) (hC : C.length ≤ 140737488351232) (hC8 : ∀ b, b ∈ C → b < 256) :
    ∃ n, play real (lookT tab) (fun _ => clonePr clones) n 3 [.one (.iv (.sl false 1 (by8 W))), stF false 6 v l, .one (.iv (.sl false 1 (by8 C)))] [] = some (bl true, []) := by
  obtain ⟨ka, ha⟩ := q6
  obtain ⟨P, kp, hp1, hp2, hpl⟩ : ∃ (P : List Nat) (kp : Nat), (Pn kp 10 [.one (.iv (.sl false 1 (by8 W))), stF false 6 v l] [] (.one (.slo 0 0 P.length)) [.arr false false 1 (by8 P)]) ∧ (∀ (t : Bool), Pn kp 11 [.one (.iv (.sl t 1 (by8 W))), stF false 6 v l] [] (.one (.slo 0 0 P.length)) [.arr false false 1 (by8 P)]) ∧ True := by
    cases hg : canB v l with
    | false =>
      obtain ⟨k, hk⟩ := n10bad W false 1 (.inr rfl) hv l hd (by omega) hg
      obtain ⟨k2, hk2⟩ := n11bad W true 1 (.inr rfl) hv l hd (by omega) hg
      obtain ⟨k3, hk3⟩ := n11bad W false 1 (.inr rfl) hv l hd (by omega) hg
      exact ⟨W, k + k2 + k3, fun m hm => hk false 6 (.inl rfl) m (by omega), fun t => by cases t; exact fun m hm => hk3 false 6 (.inl rfl) m (by omega); exact fun m hm => hk2 false 6 (.inl rfl) m (by omega), trivial⟩
    | true =>
      obtain ⟨k, hk⟩ := n10 W false 1 (.inr rfl) hv l (by omega) hg
      obtain ⟨k2, hk2⟩ := n11 W true 1 (.inr rfl) hv l (by omega) hg
      obtain ⟨k3, hk3⟩ := n11 W false 1 (.inr rfl) hv l (by omega) hg
      exact ⟨W ++ stB v l, k + k2 + k3, fun m hm => hk false 6 (.inl rfl) m (by omega), fun t => by cases t; exact fun m hm => hk3 false 6 (.inl rfl) m (by omega); exact fun m hm => hk2 false 6 (.inl rfl) m (by omega), trivial⟩
  obtain ⟨kr, hkr⟩ := n13 C hC8 (by omega) false 0 C.length (by omega)
  obtain ⟨kq, hkq⟩ := n14 C hC8 (by omega) false 0 C.length (by omega)
  obtain ⟨n, hn⟩ : ∃ n, n = ka + kp + kr + kq + 7000 := ⟨_, rfl⟩
  refine ⟨n + 1, playN n rfl rfl (fun A call hA hcall => ?_) (n + 1) (Nat.le_refl _)⟩
  obtain ⟨pl, mi, ml, nt, tn, ad, sb, K⟩ := kit hA
  obtain ⟨EX, ix, sn, ll, cc, sg, X⟩ := lkit hA K zeroWr (fun w => [.int .i64 w.d.1, .int .i64 w.d.2, .int .i64 w.t, .str w.doc, .int .i64 w.f, .str w.txt]) 64
  obtain ⟨Wv, gx, st', V⟩ := rkit hA
  obtain ⟨zs, hzs⟩ : ∃ zs : ByteArray → Nat, ∀ s, zs s = s.size := ⟨_, fun _ => rfl⟩
  have q5 : call 5 [stF false 6 v l] [] = some (bl (smB l), []) := by rw [hcall]; exact n5 v l false 6 (.inl rfl) n (by omega)
  have q6 : call 6 [] [] = some (bl true, []) := by rw [hcall]; exact ha n (by omega)
  have k1 : call 7 [.one (.iv (.sl false 1 (by8 W)))] [] = some (.one (.slo 0 0 W.length), [.arr false false 1 (by8 W)]) := by rw [hcall]; exact n7 W _ 1 (.inr rfl) (by omega) n (by omega)
  have k2 : call 8 [.one (.iv (.sl false 1 (by8 C)))] [] = some (rp, rd (by8 C) 0 C.length false) := by
    rw [hcall]
    have := n8 (by8 C) false 1 (.inr rfl) (by rw [by8_len]; omega) n (by omega)
    rw [by8_len] at this
    exact this
  have k3 : call 7 [.one (.iv (.sl false 1 (by8 C)))] [] = some (.one (.slo 0 0 C.length), [.arr false false 1 (by8 C)]) := by rw [hcall]; exact n7 C _ 1 (.inr rfl) (by omega) n (by omega)
  have k4 : call 10 [.one (.iv (.sl false 1 (by8 W))), stF false 6 v l] [] = some (.one (.slo 0 0 P.length), [.arr false false 1 (by8 P)]) := by rw [hcall]; exact hp1 n (by omega)
  have k5 : ∀ t, call 11 [.one (.iv (.sl t 1 (by8 W))), stF false 6 v l] [] = some (.one (.slo 0 0 P.length), [.arr false false 1 (by8 P)]) := fun t => by rw [hcall]; exact hp2 t n (by omega)
  have k6 : ∀ (l : List Nat) t t2, call 9 [.one (.iv (.sl t 1 (by8 l))), .one (.iv (.sl t2 1 (by8 l)))] [] = some (bl true, []) := fun l t t2 => by rw [hcall]; exact n9 l t t2 1 1 (.inr rfl) (.inr rfl) n (by omega)
  have k6P := k6 P
  have k6W := k6 W
  clear k6
  have k7 := hkr n (by omega)
  have k8 := hkq n (by omega)
  rw [← hcall] at k7 k8
  have k9 : call 15 [rp] (rdS (stS C (.ok false 0 C.length)).2.isOk (by8 C) (stS C (.ok false 0 C.length)).2) = some (i64 (stS C (.ok false 0 C.length)).2.err, rdS (stS C (.ok false 0 C.length)).2.isOk (by8 C) (stS C (.ok false 0 C.length)).2) := by rw [hcall]; exact n15 _ _ n (by omega)
  have k10 : call 16 [rp] (rdS (stS C (.ok false 0 C.length)).2.isOk (by8 C) (stS C (.ok false 0 C.length)).2) = some (i64 (stS C (.ok false 0 C.length)).2.left, rdS (stS C (.ok false 0 C.length)).2.isOk (by8 C) (stS C (.ok false 0 C.length)).2) := by rw [hcall]; exact n16 _ _ n (by omega)
  obtain ⟨hsl, hsv⟩ := stS_len C (.ok false 0 C.length)
  have hfit := stS_fits (bs := C) (s := .ok false 0 C.length) (by show 0 + C.length = C.length; omega)
  have l0 : A .len [] = 0 := by rw [hA]; rfl
  have sgP : A .seg (by8 P) 0 P.length = by8 P := seg0 hA (by rw [by8_len])
  have sgW : A .seg (by8 W) 0 W.length = by8 W := seg0 hA (by rw [by8_len])
  obtain ⟨CL, hCL⟩ : ∃ x : Int, x = C.length := ⟨_, rfl⟩
  have lC : A .len (by8 C) = CL := by rw [hA, real_len, by8_len, hCL]
  have k12 : ∀ (v' : List Int) (l' : List Wr) (b b2 : Bool) (z z2 : Nat), v'.length = 64 → (z = 6 ∨ z = 0 ∧ l' = []) → (z2 = 6 ∨ z2 = 0 ∧ l' = []) → l'.length ≤ 5000 → call 12 [stF b z v' l', stF b2 z2 v' l'] [] = some (bl true, []) := fun v' l' b b2 z z2 h1 h2 h3 h4 => by rw [hcall]; exact n12 h1 l' b b2 z z2 h2 h3 h4 n (by omega)
  clear hkr hkq hp1 hp2 hpl ha hn
  cases hs : smB l with
  | false =>
    rw [hs] at q5
    dsimp only [stF] at *
    generalize eWs l = ws at *
    generalize vec v = vs at *
    refine wpV_ofH (by ((try (conv => lhs; cbv)); (repeat ((first | (rewrite [q5]) | (rewrite [q6])); (try (conv => lhs; cbv)))); (exact rfl))) ?_
    (show finV _ _ _ = some _; ((try (conv => lhs; cbv)); (try (with_reducible rfl))); (try rfl))
  | true =>
    rw [hs] at q5
    by_cases h4 : C.length ≤ 4096
    · have hc4 : CL ≤ 4096 := by omega
      generalize stS C (.ok false 0 C.length) = R at *
      obtain ⟨⟨rv, rl⟩, rs⟩ := R
      dsimp only at hsl hsv hfit k9 k10 k7 k8
      cases rs with
      | ok f o n2 =>
        rw [stV_ok, stK_ok] at k7 k8
        have on : A .ofN n2 = (n2 : Int) := by rw [hA]; rfl
        have k12' := fun b b2 => k12 rv rl b b2 6 6 hsv (.inl rfl) (.inl rfl) (by omega)
        have sgl : A .seg (eWs rl) 0 rl.length = eWs rl := by
          rw [hA, real_seg]; unfold rSeg; rw [List.drop_zero, List.take_of_length_le (by simp [eWs])]
        dsimp only [RS.isOk, cond_true, cond_false, rdS, rdR, RS.err, RS.left, rd, stF, List.cons_append, List.nil_append] at *
        clear k12 hsl hsv hfit
        generalize (n2 : Int) = NN at *
        generalize vec v = vs at *
        generalize vec rv = ys at *
        generalize eWs l = gs at *
        generalize eWs rl = hs' at *
        generalize rl.length = rn at *
        generalize by8 W = ws at *
        generalize by8 C = cs at *
        generalize by8 P = ps at *
        generalize P.length = pn at *
        generalize W.length = wn at *
        generalize C.length = cn at *
        apply wpV_seq; refine wpV_ofH (by ((try (conv => lhs; cbv)); (exact rfl))) ?_
        apply wpV_seq; refine wpV_ofH (by ((try (conv => lhs; cbv)); (repeat ((first | (rewrite [q5]) | (rewrite [lC]) | (rewrite [K.gtF]; rotate_left; focus ((try simp only [K.df, X.df, V.df, hzs, true_and, and_true]) <;> omega))); (try (conv => lhs; cbv)))); (exact rfl))) ?_
        apply wpV_seq; refine wpV_ofH (by ((try (conv => lhs; cbv)); (repeat ((first | (rewrite [k1])); (try (conv => lhs; cbv)))); (exact rfl))) ?_
        apply wpV_seq; refine wpV_ofH (by ((try (conv => lhs; cbv)); (repeat ((first | (rewrite [k2]) | (rewrite [k3])); (try (conv => lhs; cbv)))); (exact rfl))) ?_
        refine wpV_ofH (by ((try (conv => lhs; cbv)); (repeat ((first | (rewrite [k4]) | (rewrite [sgW]) | (rewrite [k5]) | (rewrite [sgP]) | (rewrite [k6P]) | (rewrite [k6W]) | (rewrite [k7]) | (rewrite [k8]) | (rewrite [sgl]) | (rewrite [k12']) | (rewrite [k9]) | (rewrite [k10]) | (rewrite [on]) | (rewrite [q6]) | (rewrite [K.eqT]; rotate_left; focus ((try simp only [K.df, X.df, V.df, hzs, true_and, and_true]) <;> omega))); (try (conv => lhs; cbv)))); (exact rfl))) ?_
        (show finV _ _ _ = some _; ((try (conv => lhs; cbv)); (try (with_reducible rfl))); (try rfl))
      | er f e =>
        have he : e ≠ 0 := hfit
        rw [stV_er he, stK_er he] at k7 k8
        have k12' := k12 zeros [] true true 0 0 (by simp [zeros]) (.inr ⟨rfl, rfl⟩) (.inr ⟨rfl, rfl⟩) (by simp)
        have hz : ((0 : Nat) : Int) = 0 := rfl
        have e0 : eWs [] = [] := rfl
        dsimp only [RS.isOk, cond_true, cond_false, rdS, rdR, RS.err, RS.left, rd, stF, List.cons_append, List.nil_append, List.append_nil] at *
        rw [hz] at k10
        rw [e0] at k12'
        clear k12 hsl hsv hfit
        generalize vec v = vs at *
        generalize vec zeros = ys at *
        generalize eWs l = gs at *
        generalize by8 W = ws at *
        generalize by8 C = cs at *
        generalize by8 P = ps at *
        generalize P.length = pn at *
        generalize W.length = wn at *
        generalize C.length = cn at *
        apply wpV_seq; refine wpV_ofH (by ((try (conv => lhs; cbv)); (exact rfl))) ?_
        apply wpV_seq; refine wpV_ofH (by ((try (conv => lhs; cbv)); (repeat ((first | (rewrite [q5]) | (rewrite [lC]) | (rewrite [K.gtF]; rotate_left; focus ((try simp only [K.df, X.df, V.df, hzs, true_and, and_true]) <;> omega))); (try (conv => lhs; cbv)))); (exact rfl))) ?_
        apply wpV_seq; refine wpV_ofH (by ((try (conv => lhs; cbv)); (repeat ((first | (rewrite [k1])); (try (conv => lhs; cbv)))); (exact rfl))) ?_
        apply wpV_seq; refine wpV_ofH (by ((try (conv => lhs; cbv)); (repeat ((first | (rewrite [k2]) | (rewrite [k3])); (try (conv => lhs; cbv)))); (exact rfl))) ?_
        refine wpV_ofH (by ((try (conv => lhs; cbv)); (repeat ((first | (rewrite [k4]) | (rewrite [sgW]) | (rewrite [k5]) | (rewrite [sgP]) | (rewrite [k6P]) | (rewrite [k6W]) | (rewrite [k7]) | (rewrite [k8]) | (rewrite [k12']) | (rewrite [k9]) | (rewrite [k10]) | (rewrite [l0]) | (rewrite [q6]) | (rewrite [K.eqT]; rotate_left; focus ((try simp only [K.df, X.df, V.df, hzs, true_and, and_true]) <;> omega))); (try (conv => lhs; cbv)))); (exact rfl))) ?_
        (show finV _ _ _ = some _; ((try (conv => lhs; cbv)); (try (with_reducible rfl))); (try rfl))
    · have hc4 : 4096 < CL := by omega
      dsimp only [stF] at *
      generalize eWs l = ws at *
      generalize vec v = vs at *
      generalize by8 C = cs at *
      generalize by8 W = ws' at *
      refine wpV_ofH (by ((try (conv => lhs; cbv)); (repeat ((first | (rewrite [q5]) | (rewrite [lC]) | (rewrite [q6]) | (rewrite [K.gtT]; rotate_left; focus ((try simp only [K.df, X.df, V.df, hzs, true_and, and_true]) <;> omega))); (try (conv => lhs; cbv)))); (exact rfl))) ?_
      (show finV _ _ _ = some _; ((try (conv => lhs; cbv)); (try (with_reducible rfl))); (try rfl))
theorem lawZ : ∀ xss, TyA [byteSh, stateSh, byteSh] xss → ∃ n, play real (lookT tab) (fun _ => clonePr clones) n 3 (argsF [byteSh, stateSh, byteSh] xss) [] = some (.one (.iv (.bool true)), []) := by
  intro xss h
  rcases xss with _ | ⟨a, _ | ⟨b, _ | ⟨c, _ | ⟨d, r⟩⟩⟩⟩
  · exact h.elim
  · exact h.2.elim
  · exact h.2.2.elim
  · obtain ⟨h1, h2, h3, _⟩ := h
    obtain ⟨x, rfl, hx, hx8⟩ := ty_bytes h1
    obtain ⟨v, l, rfl, hv, hl⟩ := ty_state h2
    obtain ⟨y, rfl, hy, hy8⟩ := ty_bytes h3
    exact law3 hv l hl x y hx hy hy8
  · exact h.2.2.2.elim
end Go.Proofs.YtanpphoehajcgaaGreat
