/- A vector's bytes are read as it, and nothing behind them: the law of lists. -/
import Derived.Test.YtomchclmnmhjaaaCDJ
set_option linter.unusedSimpArgs false
set_option linter.unusedVariables false
set_option maxRecDepth 100000
set_option maxHeartbeats 1000000
set_option cbv.maxSteps 10000000
namespace Go.Proofs.Ytomchclmnmhjaaa
open Go GoV

theorem eqL_vec : ∀ {v w : List Int}, v.length = w.length → rEqL (List.replicate v.length .int) (vec v) (vec w) = some (decide (v = w))
  | [], [], _ => rfl
  | [], _ :: _, h => by simp at h
  | _ :: _, [], h => by simp at h
  | x :: r, y :: s, h => by
    have ih := eqL_vec (v := r) (w := s) (by simpa using h)
    simp only [vec] at ih
    simp only [vec, List.length_cons, List.replicate_succ, List.map_cons, rEqL, rEqK, if_true, Option.bind_some, ih, List.cons.injEq]
    by_cases e : x = y <;> by_cases f : r = s <;> simp [e, f]
theorem vec_plain (v : List Int) : (vec v).all plainI = true := by
  simp [vec, plainI]
theorem flat_vec {v : List Int} (h : v.length = 64) : flatI [.arr 64 (vec v)] = some (vec v) := by
  have hl : (vec v).length = 64 := by simpa [vec] using h
  rw [flatI, if_pos ⟨hl, vec_plain v⟩]
  simp [flatI]
theorem eqv_vec {v w : List Int} (h : v.length = 64) (h' : w.length = 64) : real .eqv [.int, .int, .int, .int, .int, .int, .int, .int, .int, .int, .int, .int, .int, .int, .int, .int, .int, .int, .int, .int, .int, .int, .int, .int, .int, .int, .int, .int, .int, .int, .int, .int, .int, .int, .int, .int, .int, .int, .int, .int, .int, .int, .int, .int, .int, .int, .int, .int, .int, .int, .int, .int, .int, .int, .int, .int, .int, .int, .int, .int, .int, .int, .int, .int] [.arr 64 (vec v)] [.arr 64 (vec w)] = some (decide (v = w)) := by
  show rEqv _ _ _ = _
  rw [rEqv, flat_vec h, flat_vec h']
  simp only [Option.bind_some]
  have := eqL_vec (v := v) (w := w) (by omega)
  rw [h] at this
  exact this
theorem apoW {A : Ar} (hA : A = real) {es ys : List (List IV)} {n : Nat} (hn : n = es.length) (h : es.length + ys.length ≤ 211106232532992) : A .apo 1 0 n es ys = some (true, es ++ ys) := by
  rw [hA, real_apo, hn]
  unfold rApo room
  rw [if_pos (by simp), if_pos ⟨by simpa using h, .inl rfl⟩]
  rfl
theorem n25 : ∃ k, Pn k 25 [] [] (bl true) [] := p25.at pr_mono
theorem law9 {v : List Int} (hv : v.length = 64) (W : List Nat) (hW : W.length ≤ 140737488351232) : ∃ n, play real (lookT tab) (fun _ => clonePr clones) n 9 [vecF v, .one (.iv (.sl false 1 (by8 W)))] [] = some (bl true, []) := by
  obtain ⟨ka, ha⟩ := n25
  obtain ⟨kb, hb⟩ := n32 hv
  cases hg : goodB v with
  | false =>
    obtain ⟨kc, hc⟩ := n44bad hv hg [] true 0 (.inl rfl) (by simp)
    obtain ⟨n, hn⟩ : ∃ n, n = ka + kb + kc := ⟨_, rfl⟩
    refine ⟨n + 1, playN n rfl rfl (fun A call hA hcall => ?_) (n + 1) (Nat.le_refl _)⟩
    have k1 := hb n (by omega)
    have k2 := hc n (by omega)
    have k3 := ha n (by omega)
    rw [hg] at k1
    rw [← hcall] at k1 k2 k3
    have o0 := ofNR hA (x := 0) (n := 0) rfl
    have e0 := eqT hA (a := 0) (b := 0) rfl
    change call 44 [.one (.iv (.sl true 0 [])), vecF v] [] = some (.one (.slo 0 0 0), [.arr false false 1 []]) at k2
    dsimp only [vecF] at k1 k2 ⊢
    generalize vec v = xs at *
    generalize by8 W = es at *
    apply wpV_seq; refine wpV_of (by ((conv => lhs; cbv); (try (with_reducible rfl)))) ?_
    refine wpV_of (by ((conv => lhs; cbv); (repeat ((first | rewrite [k1] | rewrite [k2] | rewrite [o0] | rewrite [e0] | rewrite [k3]); (try (conv => lhs; cbv)))); (try (with_reducible rfl)))) ?_
    (show finV _ _ _ = some _; ((conv => lhs; cbv); (try (with_reducible rfl))); (try rfl))
  | true =>
    obtain ⟨kc, hc⟩ := n44 hv hg [] true 0 (.inl rfl) (by simp)
    have pl := putB_len v
    obtain ⟨n, hn⟩ : ∃ n, n = ka + kb + kc + 1200 := ⟨_, rfl⟩
    refine ⟨n + 1, playN n rfl rfl (fun A call hA hcall => ?_) (n + 1) (Nat.le_refl _)⟩
    have k1 := hb n (by omega)
    have k2 := hc n (by omega)
    have k3 := ha n (by omega)
    obtain ⟨ES, hES⟩ : ∃ ES, ES = by8 (putB v ++ W) := ⟨_, rfl⟩
    obtain ⟨N, hN⟩ : ∃ N, N = (putB v ++ W).length := ⟨_, rfl⟩
    have lES : ES.length = N := by rw [hES, hN, by8_len]
    have hNb : N ≤ 150000000000000 := by rw [hN, List.length_append]; omega
    have k4 := n45 ES (A .isE ES) 1 (.inr rfl) (by omega) n (by omega)
    have k5 := n46 hv hg [] W false (by simp only [List.length_nil]; omega) n (by omega)
    rw [List.nil_append, List.nil_append] at k5
    rw [List.nil_append] at k2
    rw [← hES, ← hN] at k5
    change play real (lookT tab) (fun _ => clonePr clones) n 46 [rp] (rd ES 0 N false) = some (vecF v, rd ES (putB v).length W.length true) at k5
    have k6 := n47 ES (putB v).length W.length true n (by omega)
    have k7 := n48 ES (putB v).length W.length true n (by omega)
    rw [lES] at k4
    rw [hg] at k1
    rw [← hcall] at k1 k2 k3 k4 k5 k6 k7
    have a1 := apoW hA (es := by8 (putB v)) (ys := by8 W) (n := (putB v).length) (by rw [by8_len]) (by rw [by8_len, by8_len]; omega)
    rw [← by8_app, ← hES] at a1
    have l1 : A .ln ES = N := by rw [hA]; exact lES
    have s1 := seg0 hA (es := ES) (n := N) lES.symm
    have eq := eqv_vec hv hv
    rw [decide_eq_true rfl, ← hA] at eq
    have e0 := eqT hA (a := 0) (b := 0) rfl
    have l2 : A .len (by8 W) = (W.length : Int) := by rw [hA, real_len, by8_len]
    have e1 := eqT hA (a := (W.length : Int)) (b := (W.length : Int)) rfl
    change call 44 [.one (.iv (.sl true 0 [])), vecF v] [] = some (.one (.slo 0 0 (putB v).length), [.arr false false 1 (by8 (putB v))]) at k2
    dsimp only [vecF] at k1 k2 k5 ⊢
    clear hES hN
    generalize vec v = xs at *
    generalize by8 W = es at *
    generalize by8 (putB v) = ps at *
    generalize (putB v).length = pn at *
    generalize (W.length : Int) = WL at *
    generalize W.length = wn at *
    apply wpV_seq; refine wpV_of (by ((conv => lhs; cbv); (try (with_reducible rfl)))) ?_
    apply wpV_seq; refine wpV_of (by ((conv => lhs; cbv); (repeat ((first | rewrite [k1]); (try (conv => lhs; cbv)))); (try (with_reducible rfl)))) ?_
    apply wpV_seq; refine wpV_of (by ((conv => lhs; cbv); (repeat ((first | rewrite [k2] | rewrite [a1] | rewrite [l1] | rewrite [s1] | rewrite [k4]); (try (conv => lhs; cbv)))); (try (with_reducible rfl)))) ?_
    refine wpV_of (by ((conv => lhs; cbv); (repeat ((first | rewrite [k5] | rewrite [eq] | rewrite [k6] | rewrite [e0] | rewrite [k7] | rewrite [l2] | rewrite [e1] | rewrite [k3]); (try (conv => lhs; cbv)))); (try (with_reducible rfl)))) ?_
    (show finV _ _ _ = some _; ((conv => lhs; cbv); (try (with_reducible rfl))); (try rfl))
/-! ### Shapes -/
def iSh : Sh := .int .i64
def vecSh : Sh := .row 64 iSh
theorem ty_int {xs : List IV} (h : TyI iSh xs) : ∃ n, xs = [.int .i64 n] := by
  obtain ⟨n, h, _⟩ := h; exact ⟨n, h⟩
theorem ty_vec {xs : List IV} (h : TyI vecSh xs) : ∃ v : List Int, xs = [.arr 64 (vec v)] ∧ v.length = 64 := by
  obtain ⟨ys, rfl, hl, hy⟩ := h
  have : ∃ v : List Int, ys = vec v := by
    clear hl
    induction ys with
    | nil => exact ⟨[], rfl⟩
    | cons y r ih =>
      obtain ⟨n, hn⟩ := ty_int (hy y (by simp))
      obtain ⟨v, rfl⟩ := ih fun z hz => hy z (by simp [hz])
      simp only [List.cons.injEq, and_true] at hn
      subst hn
      exact ⟨n :: v, rfl⟩
  obtain ⟨v, rfl⟩ := this
  exact ⟨v, rfl, by simpa [vec] using hl⟩
def byteSh : Sh := .sl (.int .u8) 1
theorem ty_bytes {xs : List IV} (h : TyI byteSh xs) : ∃ W : List Nat, xs = [.sl false 1 (by8 W)] ∧ W.length ≤ 140737488351232 := by
  obtain ⟨es, rfl, hl, he⟩ := h
  have : ∃ W : List Nat, es = by8 W := by
    clear hl
    induction es with
    | nil => exact ⟨[], rfl⟩
    | cons y r ih =>
      obtain ⟨W, rfl⟩ := ih fun z hz => he z (by simp [hz])
      obtain ⟨n, hn, hw⟩ := he y (by simp)
      refine ⟨n.toNat :: W, ?_⟩
      have : 0 ≤ n := by
        simp [Lit.wf, IntKind.min, IntKind.max, IntKind.signed, IntKind.bits] at hw
        omega
      rw [hn]
      simp only [by8, List.map_cons, Int.toNat_of_nonneg this]
  obtain ⟨W, rfl⟩ := this
  rw [by8_len] at hl
  exact ⟨W, rfl, by unfold reachBytes at hl; omega⟩
theorem lawV : ∀ xss, TyA [vecSh, byteSh] xss → ∃ n, play real (lookT tab) (fun _ => clonePr clones) n 9 (argsF [vecSh, byteSh] xss) [] = some (.one (.iv (.bool true)), []) := by
  intro xss h
  rcases xss with _ | ⟨a, _ | ⟨b, _ | ⟨c, r⟩⟩⟩
  · exact h.elim
  · exact h.2.elim
  · obtain ⟨h1, h2, _⟩ := h
    obtain ⟨x, rfl, hx⟩ := ty_vec h1
    obtain ⟨y, rfl, hy⟩ := ty_bytes h2
    exact law9 hx y hy
  · exact h.2.2.elim
end Go.Proofs.Ytomchclmnmhjaaa
