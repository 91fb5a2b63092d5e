/- Any vector's bytes behind any others, and a vector of any bytes: the law of lists. -/
import Derived.Test.YtomchclmnmhjaaaCGT
set_option linter.unusedSimpArgs false
set_option linter.unusedVariables false
set_option maxRecDepth 100000
set_option maxHeartbeats 1000000
set_option cbv.maxSteps 10000000
namespace Go.Proofs.Ytomchclmnmhjaaa
open Go GoV

theorem rNums_by8 : ∀ a : List Nat, rNums (by8 a) = some (a.map fun (n : Nat) => (n : Int))
  | [] => rfl
  | x :: r => by
    have := rNums_by8 r
    simp only [by8] at this
    simp only [by8, List.map_cons, rNums, this, Option.bind_some]
theorem n50 (a : List Nat) (t t2 : Bool) (z z2 : Nat) (hz : z = 0 ∨ z = 1) (hz2 : z2 = 0 ∨ z2 = 1) :
    Pn 1 50 [.one (.iv (.sl t z (by8 a))), .one (.iv (.sl t2 z2 (by8 a)))] [] (bl true) [] := by
  refine playN 0 rfl rfl fun A call hA hcall => ?_
  obtain ⟨s, hs⟩ : ∃ s, A .b2s (by8 a) = some s := by
    rw [hA, real_b2s]; unfold rB2s; rw [rNums_by8]; exact ⟨_, rfl⟩
  have c1 : A .scmp .eql s s = true := by rw [hA, real_scmp]; simp [rScmp]
  generalize by8 a = es at *
  rcases hz with rfl | rfl <;> rcases hz2 with rfl | rfl
  all_goals
    refine wpV_of (by ((conv => lhs; cbv); (repeat ((first | rewrite [hs] | rewrite [c1]); (try (conv => lhs; cbv)))); (try (with_reducible rfl)))) ?_
    (show finV _ _ _ = some _; ((conv => lhs; cbv); (repeat ((first | rewrite [c1]); (try (conv => lhs; cbv)))); (try (with_reducible rfl))); (try rfl))
theorem n49 (a : List Nat) (t : Bool) (z : Nat) (hz : z = 0 ∨ z = 1) (h : a.length ≤ 211106232532992) : Pn 1 49 [.one (.iv (.sl t z (by8 a)))] [] (.one (.slo 0 0 a.length)) [.arr false false 1 (by8 a)] := by
  intro m hm
  obtain ⟨m, rfl⟩ : ∃ k, m = k + 1 := ⟨m - 1, by omega⟩
  have e1 : real .app 1 [] (by8 a) = some (false, by8 a) := appn rfl _ (by rw [by8_len]; exact h)
  have e2 : real .ln (by8 a) = a.length := by8_len a
  have hk : okE z 1 = true := by rcases hz with rfl | rfl <;> rfl
  have hT : lookT tab 49 = none := rfl
  simp only [play, hT]
  have hc : ∀ vs bs, clonePr clones 49 vs bs = cloneV 1 1 vs bs := fun vs bs => by simp only [clones, clonePr]; rfl
  rw [hc]
  simp only [cloneV, hk, cond_true, e1, e2]
theorem eqL_vec : ∀ {v w : List Int}, v.length = w.length → rEqL (List.replicate v.length .int) (vec v) (vec w) = some (decide (v = w))
  | [], [], _ => rfl
  | [], _ :: _, h => by simp at h
  | _ :: _, [], h => by simp at h
  | x :: r, y :: s, h => by
    have ih := eqL_vec (v := r) (w := s) (by simpa using h)
    simp only [vec] at ih
    simp only [vec, List.length_cons, List.replicate_succ, List.map_cons, rEqL, rEqK, if_true, Option.bind_some, ih, List.cons.injEq]
    by_cases e : x = y <;> by_cases f : r = s <;> simp [e, f]
theorem vec_plain (v : List Int) : (vec v).all plainI = true := by
  simp [vec, plainI]
theorem flat_vec {v : List Int} (h : v.length = 64) : flatI [.arr 64 (vec v)] = some (vec v) := by
  have hl : (vec v).length = 64 := by simpa [vec] using h
  rw [flatI, if_pos ⟨hl, vec_plain v⟩]
  simp [flatI]
theorem eqv_vec {v w : List Int} (h : v.length = 64) (h' : w.length = 64) : real .eqv [.int, .int, .int, .int, .int, .int, .int, .int, .int, .int, .int, .int, .int, .int, .int, .int, .int, .int, .int, .int, .int, .int, .int, .int, .int, .int, .int, .int, .int, .int, .int, .int, .int, .int, .int, .int, .int, .int, .int, .int, .int, .int, .int, .int, .int, .int, .int, .int, .int, .int, .int, .int, .int, .int, .int, .int, .int, .int, .int, .int, .int, .int, .int, .int] [.arr 64 (vec v)] [.arr 64 (vec w)] = some (decide (v = w)) := by
  show rEqv _ _ _ = _
  rw [rEqv, flat_vec h, flat_vec h']
  simp only [Option.bind_some]
  have := eqL_vec (v := v) (w := w) (by omega)
  rw [h] at this
  exact this
theorem n25 : ∃ k, Pn k 25 [] [] (bl true) [] := p25.at pr_mono
theorem law10 {v : List Int} (hv : v.length = 64) (W C : List Nat) (hW : W.length ≤ 140737488351232) (hC : C.length ≤ 140737488351232) (hC8 : ∀ b, b ∈ C → b < 256) :
    ∃ n, play real (lookT tab) (fun _ => clonePr clones) n 10 [.one (.iv (.sl false 1 (by8 W))), vecF v, .one (.iv (.sl false 1 (by8 C)))] [] = some (bl true, []) := by
  obtain ⟨ka, ha⟩ := n25
  obtain ⟨P, kp, hp1, hp2, hpl⟩ : ∃ (P : List Nat) (kp : Nat), (∀ (t : Bool), Pn kp 44 [.one (.iv (.sl t 1 (by8 W))), vecF v] [] (.one (.slo 0 0 P.length)) [.arr false false 1 (by8 P)]) ∧ (∀ (t : Bool), Pn 1200 51 [.one (.iv (.sl t 1 (by8 W))), vecF v] [] (.one (.slo 0 0 P.length)) [.arr false false 1 (by8 P)]) ∧ True := by
    cases hg : goodB v with
    | false =>
      obtain ⟨k, hk⟩ := n44bad hv hg W true 1 (.inr rfl) (by omega)
      obtain ⟨k2, hk2⟩ := n44bad hv hg W false 1 (.inr rfl) (by omega)
      exact ⟨W, k + k2, fun t => by cases t; exact fun m hm => hk2 m (by omega); exact fun m hm => hk m (by omega), fun t => n51bad hv hg W t 1 (.inr rfl) (by omega), trivial⟩
    | true =>
      obtain ⟨k, hk⟩ := n44 hv hg W true 1 (.inr rfl) (by omega)
      obtain ⟨k2, hk2⟩ := n44 hv hg W false 1 (.inr rfl) (by omega)
      exact ⟨W ++ putB v, k + k2, fun t => by cases t; exact fun m hm => hk2 m (by omega); exact fun m hm => hk m (by omega), fun t => n51 hv hg W t 1 (.inr rfl) (by omega), trivial⟩
  obtain ⟨n, hn⟩ : ∃ n, n = ka + kp + 1300 := ⟨_, rfl⟩
  refine ⟨n + 1, playN n rfl rfl (fun A call hA hcall => ?_) (n + 1) (Nat.le_refl _)⟩
  obtain ⟨pl, mi, ml, nt, tn, ad, sb, K⟩ := kit hA
  obtain ⟨E, ix, sn, ll, cc, sg, B⟩ := lkit hA K (0 : Nat) (fun b => [.int .u8 (nt b)]) 1
  have k1 : call 49 [.one (.iv (.sl false 1 (by8 W)))] [] = some (.one (.slo 0 0 W.length), [.arr false false 1 (by8 W)]) := by rw [hcall]; exact n49 W _ 1 (.inr rfl) (by omega) n (by omega)
  have k2 : call 45 [.one (.iv (.sl false 1 (by8 C)))] [] = some (rp, rd (by8 C) 0 C.length false) := by
    rw [hcall]
    have := n45 (by8 C) false 1 (.inr rfl) (by rw [by8_len]; omega) n (by omega)
    rw [by8_len] at this
    exact this
  have k3 : call 49 [.one (.iv (.sl false 1 (by8 C)))] [] = some (.one (.slo 0 0 C.length), [.arr false false 1 (by8 C)]) := by rw [hcall]; exact n49 C _ 1 (.inr rfl) (by omega) n (by omega)
  have k4 : call 44 [.one (.iv (.sl false 1 (by8 W))), vecF v] [] = some (.one (.slo 0 0 P.length), [.arr false false 1 (by8 P)]) := by rw [hcall]; exact hp1 false n (by omega)
  have k5 : ∀ t, call 51 [.one (.iv (.sl t 1 (by8 W))), vecF v] [] = some (.one (.slo 0 0 P.length), [.arr false false 1 (by8 P)]) := fun t => by rw [hcall]; exact hp2 t n (by omega)
  have k6 : ∀ (l : List Nat) t t2, call 50 [.one (.iv (.sl t 1 (by8 l))), .one (.iv (.sl t2 1 (by8 l)))] [] = some (bl true, []) := fun l t t2 => by rw [hcall]; exact n50 l t t2 1 1 (.inr rfl) (.inr rfl) n (by omega)
  have k6P := k6 P
  have k6W := k6 W
  clear k6
  have k7 : call 46 [rp] (rdS true (by8 C) (.ok false 0 C.length)) = some (vecF (vecS C (.ok false 0 C.length)).1, rdS true (by8 C) (vecS C (.ok false 0 C.length)).2) := by rw [hcall]; exact n46 C hC8 false 0 C.length (by omega) n (by omega)
  have k8 : call 52 [rp] (rdR true (by8 C) (.ok false 0 C.length)) = some (vecF (vecS C (.ok false 0 C.length)).1, rdR true (by8 C) (vecS C (.ok false 0 C.length)).2) := by rw [hcall]; exact n52 C hC8 false 0 C.length (by omega) n (by omega)
  have k9 : call 47 [rp] (rdS (vecS C (.ok false 0 C.length)).2.isOk (by8 C) (vecS C (.ok false 0 C.length)).2) = some (i64 (vecS C (.ok false 0 C.length)).2.err, rdS (vecS C (.ok false 0 C.length)).2.isOk (by8 C) (vecS C (.ok false 0 C.length)).2) := by rw [hcall]; exact n47 _ _ n (by omega)
  have k10 : call 48 [rp] (rdS (vecS C (.ok false 0 C.length)).2.isOk (by8 C) (vecS C (.ok false 0 C.length)).2) = some (i64 (vecS C (.ok false 0 C.length)).2.left, rdS (vecS C (.ok false 0 C.length)).2.isOk (by8 C) (vecS C (.ok false 0 C.length)).2) := by rw [hcall]; exact n48 _ _ n (by omega)
  have k11 := ha n (by omega)
  rw [← hcall] at k11
  have hvl := vecS_len C (.ok false 0 C.length)
  have eq := eqv_vec hvl hvl
  rw [decide_eq_true rfl, ← hA] at eq
  have l0 : A .len [] = 0 := by rw [hA]; rfl
  have sgP : A .seg (by8 P) 0 P.length = by8 P := seg0 hA (by rw [by8_len])
  have sgW : A .seg (by8 W) 0 W.length = by8 W := seg0 hA (by rw [by8_len])
  generalize vecS C (.ok false 0 C.length) = R at *
  obtain ⟨rv, rs⟩ := R
  dsimp only [vecF] at *
  dsimp only [rdS, rdR, cond_true] at k7 k8
  generalize vec v = xs at *
  generalize vec rv = ys at *
  generalize by8 W = ws at *
  generalize by8 C = cs at *
  generalize by8 P = ps at *
  generalize P.length = pn at *
  generalize W.length = wn at *
  generalize C.length = cn at *
  cases rs with
  | ok f o n2 =>
    have on : A .ofN n2 = (n2 : Int) := by rw [hA]; rfl
    dsimp only [RS.isOk, cond_true, cond_false, rdS, rdR, RS.err, RS.left] at k7 k8 k9 k10
    generalize (n2 : Int) = NN at *
    apply wpV_seq; refine wpV_ofH (by ((try (conv => lhs; cbv)); (exact rfl))) ?_
    apply wpV_seq; refine wpV_ofH (by ((try (conv => lhs; cbv)); (repeat ((first | (rewrite [k1])); (try (conv => lhs; cbv)))); (exact rfl))) ?_
    apply wpV_seq; refine wpV_ofH (by ((try (conv => lhs; cbv)); (repeat ((first | (rewrite [k2]) | (rewrite [k3])); (try (conv => lhs; cbv)))); (exact rfl))) ?_
    apply wpV_seq; refine wpV_ofH (by ((try (conv => lhs; cbv)); (repeat ((first | (rewrite [k4]) | (rewrite [sgW]) | (rewrite [k5]) | (rewrite [sgP]) | (rewrite [k6P]) | (rewrite [k6W]) | (rewrite [k7]) | (rewrite [k8]) | (rewrite [eq]) | (rewrite [k9]) | (rewrite [k10]) | (rewrite [on]) | (rewrite [k11]) | (rewrite [K.eqT]; rotate_left; focus ((try simp only [K.df, B.df, true_and, and_true]) <;> omega))); (try (conv => lhs; cbv)))); (exact rfl))) ?_
    refine wpV_ofH (by ((try (conv => lhs; cbv)); (exact rfl))) ?_
    (show finV _ _ _ = some _; ((try (conv => lhs; cbv)); (try (with_reducible rfl))); (try rfl))
  | er f e =>
    have hz : ((0 : Nat) : Int) = 0 := rfl
    dsimp only [RS.isOk, cond_true, cond_false, rdS, rdR, RS.err, RS.left] at k7 k8 k9 k10
    rw [hz] at k10
    apply wpV_seq; refine wpV_ofH (by ((try (conv => lhs; cbv)); (exact rfl))) ?_
    apply wpV_seq; refine wpV_ofH (by ((try (conv => lhs; cbv)); (repeat ((first | (rewrite [k1])); (try (conv => lhs; cbv)))); (exact rfl))) ?_
    apply wpV_seq; refine wpV_ofH (by ((try (conv => lhs; cbv)); (repeat ((first | (rewrite [k2]) | (rewrite [k3])); (try (conv => lhs; cbv)))); (exact rfl))) ?_
    apply wpV_seq; refine wpV_ofH (by ((try (conv => lhs; cbv)); (repeat ((first | (rewrite [k4]) | (rewrite [sgW]) | (rewrite [k5]) | (rewrite [sgP]) | (rewrite [k6P]) | (rewrite [k6W]) | (rewrite [k7]) | (rewrite [k8]) | (rewrite [eq]) | (rewrite [k9]) | (rewrite [k10]) | (rewrite [l0]) | (rewrite [k11]) | (rewrite [K.eqT]; rotate_left; focus ((try simp only [K.df, B.df, true_and, and_true]) <;> omega))); (try (conv => lhs; cbv)))); (exact rfl))) ?_
    refine wpV_ofH (by ((try (conv => lhs; cbv)); (exact rfl))) ?_
    (show finV _ _ _ = some _; ((try (conv => lhs; cbv)); (try (with_reducible rfl))); (try rfl))
/-! ### Shapes -/
def iSh : Sh := .int .i64
def vecSh : Sh := .row 64 iSh
theorem ty_int {xs : List IV} (h : TyI iSh xs) : ∃ n, xs = [.int .i64 n] := by
  obtain ⟨n, h, _⟩ := h; exact ⟨n, h⟩
theorem ty_vec {xs : List IV} (h : TyI vecSh xs) : ∃ v : List Int, xs = [.arr 64 (vec v)] ∧ v.length = 64 := by
  obtain ⟨ys, rfl, hl, hy⟩ := h
  have : ∃ v : List Int, ys = vec v := by
    clear hl
    induction ys with
    | nil => exact ⟨[], rfl⟩
    | cons y r ih =>
      obtain ⟨n, hn⟩ := ty_int (hy y (by simp))
      obtain ⟨v, rfl⟩ := ih fun z hz => hy z (by simp [hz])
      simp only [List.cons.injEq, and_true] at hn
      subst hn
      exact ⟨n :: v, rfl⟩
  obtain ⟨v, rfl⟩ := this
  exact ⟨v, rfl, by simpa [vec] using hl⟩
def byteSh : Sh := .sl (.int .u8) 1
theorem ty_bytes {xs : List IV} (h : TyI byteSh xs) : ∃ W : List Nat, xs = [.sl false 1 (by8 W)] ∧ W.length ≤ 140737488351232 ∧ ∀ b, b ∈ W → b < 256 := by
  obtain ⟨es, rfl, hl, he⟩ := h
  have : ∃ W : List Nat, es = by8 W ∧ ∀ b, b ∈ W → b < 256 := by
    clear hl
    induction es with
    | nil => exact ⟨[], rfl, fun b hb => by simp at hb⟩
    | cons y r ih =>
      obtain ⟨W, rfl, h8⟩ := ih fun z hz => he z (by simp [hz])
      obtain ⟨n, hn, hw⟩ := he y (by simp)
      have h2 : 0 ≤ n ∧ n < 256 := by
        simp [Lit.wf, IntKind.min, IntKind.max, IntKind.signed, IntKind.bits] at hw
        omega
      refine ⟨n.toNat :: W, ?_, fun b hb => ?_⟩
      · rw [hn]
        simp only [by8, List.map_cons, Int.toNat_of_nonneg h2.1]
      · rcases List.mem_cons.1 hb with rfl | h
        · omega
        · exact h8 b h
  obtain ⟨W, rfl, h8⟩ := this
  rw [by8_len] at hl
  exact ⟨W, rfl, by unfold reachBytes at hl; omega, h8⟩
theorem lawV : ∀ xss, TyA [byteSh, vecSh, byteSh] xss → ∃ n, play real (lookT tab) (fun _ => clonePr clones) n 10 (argsF [byteSh, vecSh, byteSh] xss) [] = some (.one (.iv (.bool true)), []) := by
  intro xss h
  rcases xss with _ | ⟨a, _ | ⟨b, _ | ⟨c, _ | ⟨d, r⟩⟩⟩⟩
  · exact h.elim
  · exact h.2.elim
  · exact h.2.2.elim
  · obtain ⟨h1, h2, h3, _⟩ := h
    obtain ⟨y, rfl, hy, _⟩ := ty_bytes h1
    obtain ⟨x, rfl, hx⟩ := ty_vec h2
    obtain ⟨w, rfl, hw, hw8⟩ := ty_bytes h3
    exact law10 hx y w hy hw hw8
  · exact h.2.2.2.elim
end Go.Proofs.Ytomchclmnmhjaaa
