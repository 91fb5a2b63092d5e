/- Dots: which may be, how two stand, what a vector has: as equations. -/
import Derived.Test.YtomchclmnmhjaaaDDCode
set_option linter.unusedSimpArgs false
set_option linter.unusedVariables false
set_option maxRecDepth 100000
set_option maxHeartbeats 1000000
namespace Go.Proofs.Ytomchclmnmhjaaa
open Go GoV

def vec (v : List Int) : List IV := v.map (.int .i64 ·)
abbrev dotF (r n : Int) : FV := .agg [.iv (.int .i64 r), .iv (.int .i64 n)]
abbrev vecF (v : List Int) : FV := .agg [.iv (.arr 64 (vec v))]
def validB (r n : Int) : Bool := decide (r ≥ 0) && (decide (r < 64) && (decide (n ≥ 1) && decide (n ≤ 1073741824)))
theorem p25 : Pl 25 [] (bl true) [] := ⟨100, by kernel_rfl⟩

theorem w18 (A : Ar) (call : CallT) (it : IterT) (r n : Int) {b1 b2 b3 b4 : Bool} (h1 : A .cmp .geq r 0 = b1) (h2 : A .cmp .lss r 64 = b2) (h3 : A .cmp .geq n 1 = b3) (h4 : A .cmp .leq n 1073741824 = b4) :
    wpV A call it v18.body ⟨0, padE 21 [dotF r n], []⟩ (finQ A v18 (bl (b1 && (b2 && (b3 && b4))), [])) := by
  cases b1 <;> cases b2 <;> cases b3 <;> cases b4 <;> (refine wpV_of (by ((conv => lhs; cbv); (repeat ((first | rewrite [h1] | rewrite [h2] | rewrite [h3] | rewrite [h4]); (try (conv => lhs; cbv)))); (try (with_reducible rfl)))) ?_; (show finV _ _ _ = some _; ((conv => lhs; cbv); (repeat ((first | rewrite [h4]); (try (conv => lhs; cbv)))); (try (with_reducible rfl))); (try rfl)))
theorem w19 (A : Ar) (call : CallT) (it : IterT) (r n : Int) {b1 b2 b3 b4 : Bool} (h1 : A .cmp .geq r 0 = b1) (h2 : A .cmp .leq r 63 = b2) (h3 : A .cmp .geq n 1 = b3) (h4 : A .cmp .leq n 1073741824 = b4) :
    wpV A call it v19.body ⟨0, padE 21 [dotF r n], []⟩ (finQ A v19 (bl (b1 && (b2 && (b3 && b4))), [])) := by
  cases b1 <;> cases b2 <;> cases b3 <;> cases b4 <;> (refine wpV_of (by ((conv => lhs; cbv); (repeat ((first | rewrite [h1] | rewrite [h2] | rewrite [h3] | rewrite [h4]); (try (conv => lhs; cbv)))); (try (with_reducible rfl)))) ?_; (show finV _ _ _ = some _; ((conv => lhs; cbv); (repeat ((first | rewrite [h4]); (try (conv => lhs; cbv)))); (try (with_reducible rfl))); (try rfl)))
theorem p18 (r n : Int) : Pl 18 [dotF r n] (bl (validB r n)) [] :=
  Plays.wp (vf := v18) rfl rfl ⟨0, fun A call hA _ => by subst hA; exact w18 real call _ r n (geq_real _ _) (lss_real _ _) (geq_real _ _) (leq_real _ _)⟩
theorem p19 (r n : Int) : Pl 19 [dotF r n] (bl (validB r n)) [] :=
  Plays.wp (vf := v19) rfl rfl ⟨0, fun A call hA _ => by
    subst hA
    have h : decide (r ≤ 63) = decide (r < 64) := by simp; omega
    have := w19 real call (iterN 0) r n (geq_real _ _) (leq_real _ _) (geq_real _ _) (leq_real _ _)
    rw [h] at this
    exact this⟩
theorem w21 (A : Ar) (call : CallT) (it : IterT) (xs : List IV) (r n : Int) {b c : Bool} {k : Nat} {x : Int} (hc : call 18 [dotF r n] [] = some (bl b, [])) (h1 : b = true → A .at_ r 64 = some k) (h2 : b = true → A .getc xs r = some (.int .i64 x)) (h3 : A .cmp .leq n x = c) :
    wpV A call it v21.body ⟨0, padE 16 [.agg [.iv (.arr 64 xs)], dotF r n], []⟩ (finQ A v21 (bl (b && c), [])) := by
  cases b
  · refine wpV_of (by ((conv => lhs; cbv); (repeat ((first | rewrite [hc]); (try (conv => lhs; cbv)))); (try (with_reducible rfl)))) ?_
    (show finV _ _ _ = some _; ((conv => lhs; cbv); (try (with_reducible rfl))); (try rfl))
  · refine wpV_of (by ((conv => lhs; cbv); (repeat ((first | rewrite [hc] | rewrite [h1 rfl] | rewrite [h2 rfl] | rewrite [h3]); (try (conv => lhs; cbv)))); (try (with_reducible rfl)))) ?_
    (show finV _ _ _ = some _; ((conv => lhs; cbv); (repeat ((first | rewrite [h3]); (try (conv => lhs; cbv)))); (try (with_reducible rfl))); (try rfl))
theorem w22 (A : Ar) (call : CallT) (it : IterT) (xs : List IV) (r n : Int) {b c : Bool} {k : Nat} {x : Int} (hc : call 19 [dotF r n] [] = some (bl b, [])) (h1 : b = true → A .at_ r 64 = some k) (h2 : b = true → A .getc xs r = some (.int .i64 x)) (h3 : A .cmp .geq x n = c) :
    wpV A call it v22.body ⟨0, padE 16 [.agg [.iv (.arr 64 xs)], dotF r n], []⟩ (finQ A v22 (bl (b && c), [])) := by
  cases b
  · refine wpV_of (by ((conv => lhs; cbv); (repeat ((first | rewrite [hc]); (try (conv => lhs; cbv)))); (try (with_reducible rfl)))) ?_
    (show finV _ _ _ = some _; ((conv => lhs; cbv); (try (with_reducible rfl))); (try rfl))
  · refine wpV_of (by ((conv => lhs; cbv); (repeat ((first | rewrite [hc] | rewrite [h1 rfl] | rewrite [h2 rfl] | rewrite [h3]); (try (conv => lhs; cbv)))); (try (with_reducible rfl)))) ?_
    (show finV _ _ _ = some _; ((conv => lhs; cbv); (repeat ((first | rewrite [h3]); (try (conv => lhs; cbv)))); (try (with_reducible rfl))); (try rfl))
def hasB (v : List Int) (r n : Int) : Bool := validB r n && decide (n ≤ v.getD r.toNat 0)
theorem validB_range {r n : Int} (h : validB r n = true) : 0 ≤ r ∧ r < 64 ∧ 1 ≤ n ∧ n ≤ 1073741824 := by
  simp [validB] at h; omega
theorem at_real {r : Int} {n : Nat} (h0 : 0 ≤ r) (h : r < n) : real .at_ r n = some r.toNat := by
  rw [real_at]; simp [rIdx, h0, h]
theorem getc_real {v : List Int} {r : Int} (h0 : 0 ≤ r) (h : r < v.length) : real .getc (vec v) r = some (.int .i64 (v.getD r.toNat 0)) := by
  have hl : r.toNat < v.length := by omega
  rw [real_getc, if_pos h0, vec, List.getElem?_map, List.getElem?_eq_getElem hl, List.getD_eq_getElem?_getD, List.getElem?_eq_getElem hl]
  rfl
theorem p21 {v : List Int} (hv : v.length = 64) (r n : Int) : Pl 21 [vecF v, dotF r n] (bl (hasB v r n)) [] := by
  obtain ⟨n0, h0⟩ := p18 r n
  refine Plays.wp (vf := v21) rfl rfl ⟨n0, fun A call hA hcall => ?_⟩
  subst hA; subst hcall
  exact w21 real _ _ _ r n h0 (fun h => at_real (validB_range h).1 (validB_range h).2.1) (fun h => getc_real (validB_range h).1 (by rw [hv]; exact (validB_range h).2.1)) (leq_real _ _)
theorem p22 {v : List Int} (hv : v.length = 64) (r n : Int) : Pl 22 [vecF v, dotF r n] (bl (hasB v r n)) [] := by
  obtain ⟨n0, h0⟩ := p19 r n
  refine Plays.wp (vf := v22) rfl rfl ⟨n0, fun A call hA hcall => ?_⟩
  subst hA; subst hcall
  exact w22 real _ _ _ r n h0 (fun h => at_real (validB_range h).1 (validB_range h).2.1) (fun h => getc_real (validB_range h).1 (by rw [hv]; exact (validB_range h).2.1)) (geq_real _ _)
theorem w23 (A : Ar) (call : CallT) (it : IterT) (xs xs' : List IV) (r n : Int) {b : Bool} {k : Nat} {x : Int} (hc : call 18 [dotF r n] [] = some (bl b, [])) (h1 : b = true → A .at_ r 64 = some k) (h2 : b = true → A .getc xs r = some (.int .i64 x)) (h3 : b = true → A .setc xs r (.int .i64 (A .mx x n)) = some xs') :
    wpV A call it v23.body ⟨0, padE 18 [.agg [.iv (.arr 64 xs)], dotF r n], []⟩ (finQ A v23 (.agg [.iv (.arr 64 (bif b then xs' else xs))], [])) := by
  cases b
  · refine wpV_of (by ((conv => lhs; cbv); (repeat ((first | rewrite [hc]); (try (conv => lhs; cbv)))); (try (with_reducible rfl)))) ?_
    (show finV _ _ _ = some _; ((conv => lhs; cbv); (try (with_reducible rfl))); (try rfl))
  · refine wpV_of (by ((conv => lhs; cbv); (repeat ((first | rewrite [hc] | rewrite [h1 rfl] | rewrite [h2 rfl] | rewrite [h3 rfl]); (try (conv => lhs; cbv)))); (try (with_reducible rfl)))) ?_
    (show finV _ _ _ = some _; ((conv => lhs; cbv); (try (with_reducible rfl))); (try rfl))
theorem w24 (A : Ar) (call : CallT) (it : IterT) (xs xs' : List IV) (r n : Int) {b c : Bool} {k : Nat} {x : Int} (hc : call 19 [dotF r n] [] = some (bl b, [])) (h1 : b = true → A .at_ r 64 = some k) (h2 : b = true → A .getc xs r = some (.int .i64 x)) (h4 : A .cmp .lss x n = c) (h3 : b = true → c = true → A .setc xs r (.int .i64 n) = some xs') :
    wpV A call it v24.body ⟨0, padE 22 [.agg [.iv (.arr 64 xs)], dotF r n], []⟩ (finQ A v24 (.agg [.iv (.arr 64 (bif b && c then xs' else xs))], [])) := by
  cases b
  · refine wpV_of (by ((conv => lhs; cbv); (repeat ((first | rewrite [hc]); (try (conv => lhs; cbv)))); (try (with_reducible rfl)))) ?_
    (show finV _ _ _ = some _; ((conv => lhs; cbv); (try (with_reducible rfl))); (try rfl))
  · cases c
    · refine wpV_of (by ((conv => lhs; cbv); (repeat ((first | rewrite [hc] | rewrite [h1 rfl] | rewrite [h2 rfl] | rewrite [h4]); (try (conv => lhs; cbv)))); (try (with_reducible rfl)))) ?_
      (show finV _ _ _ = some _; ((conv => lhs; cbv); (try (with_reducible rfl))); (try rfl))
    · refine wpV_of (by ((conv => lhs; cbv); (repeat ((first | rewrite [hc] | rewrite [h1 rfl] | rewrite [h2 rfl] | rewrite [h4] | rewrite [h3 rfl rfl]); (try (conv => lhs; cbv)))); (try (with_reducible rfl)))) ?_
      (show finV _ _ _ = some _; ((conv => lhs; cbv); (try (with_reducible rfl))); (try rfl))
def withB (v : List Int) (r n : Int) : List Int := if validB r n then v.set r.toNat (max (v.getD r.toNat 0) n) else v
theorem mx_real (a b : Int) : real .mx a b = max a b := by
  rw [real_mx]; omega
theorem setc_real {v : List Int} {r : Int} (h0 : 0 ≤ r) (h : r < v.length) (x : Int) : real .setc (vec v) r (.int .i64 x) = some (vec (v.set r.toNat x)) := by
  rw [real_setc, if_pos ⟨h0, by simpa [vec] using h, rfl⟩]
  simp [vec, List.map_set]
theorem p23 {v : List Int} (hv : v.length = 64) (r n : Int) : Pl 23 [vecF v, dotF r n] (vecF (withB v r n)) [] := by
  obtain ⟨n0, h0⟩ := p18 r n
  refine Plays.wp (vf := v23) rfl rfl ⟨n0, fun A call hA hcall => ?_⟩
  subst hA; subst hcall
  have := w23 real _ (iterN n0) _ (vec (v.set r.toNat (max (v.getD r.toNat 0) n))) r n h0 (fun h => at_real (validB_range h).1 (validB_range h).2.1) (fun h => getc_real (validB_range h).1 (by rw [hv]; exact (validB_range h).2.1))
    (fun h => by rw [mx_real]; exact setc_real (validB_range h).1 (by rw [hv]; exact (validB_range h).2.1) _)
  unfold withB
  cases hb : validB r n <;> rw [hb] at this <;> exact this
theorem p24 {v : List Int} (hv : v.length = 64) (r n : Int) : Pl 24 [vecF v, dotF r n] (vecF (withB v r n)) [] := by
  obtain ⟨n0, h0⟩ := p19 r n
  refine Plays.wp (vf := v24) rfl rfl ⟨n0, fun A call hA hcall => ?_⟩
  subst hA; subst hcall
  have := w24 real _ (iterN n0) _ (vec (v.set r.toNat n)) r n h0 (fun h => at_real (validB_range h).1 (validB_range h).2.1) (fun h => getc_real (validB_range h).1 (by rw [hv]; exact (validB_range h).2.1)) (lss_real _ _)
    (fun h _ => setc_real (validB_range h).1 (by rw [hv]; exact (validB_range h).2.1) _)
  have he : (bif validB r n && decide (v.getD r.toNat 0 < n) then vec (v.set r.toNat n) else vec v) = vec (withB v r n) := by
    unfold withB
    cases hb : validB r n with
    | false => simp
    | true =>
      have hlt : r.toNat < v.length := by have := validB_range hb; omega
      by_cases hc : v.getD r.toNat 0 < n
      · rw [decide_eq_true hc]
        simp only [Bool.true_and, cond_true, if_true]
        rw [show max (v.getD r.toNat 0) n = n by omega]
      · rw [decide_eq_false hc]
        simp only [Bool.and_false, cond_false, if_true]
        rw [show max (v.getD r.toNat 0) n = v.getD r.toNat 0 by omega]
        congr 1
        apply List.ext_getElem?
        intro i
        rw [List.getElem?_set]
        by_cases e : r.toNat = i
        · subst e; simp [hlt]
        · simp [e]
  rw [he] at this
  exact this

/-! ### How two dots stand -/
theorem w113 (A : Ar) (call : CallT) (it : IterT) (x : Int) (h : A .cmp .neq x x = false) : wpV A call it v113.body ⟨0, padE 6 [i64 x], []⟩ (finQ A v113 (bl false, [])) := by
  refine wpV_of (by ((conv => lhs; cbv); (repeat ((first | rewrite [h]); (try (conv => lhs; cbv)))); (try (with_reducible rfl)))) ?_
  (show finV _ _ _ = some _; ((conv => lhs; cbv); (repeat ((first | rewrite [h]); (try (conv => lhs; cbv)))); (try (with_reducible rfl))); (try rfl))
theorem p113 (x : Int) : Pl 113 [i64 x] (bl false) [] := Plays.wp (vf := v113) rfl rfl ⟨0, fun A call hA _ => by subst hA; exact w113 real call _ x (by rw [neq_real]; simp)⟩
def cmpI (x y : Int) : Int := if x < y then -1 else if x > y then 1 else 0
theorem w77 (A : Ar) (call : CallT) (it : IterT) (x y : Int) {b c : Bool} (h1 : call 113 [i64 x] [] = some (bl false, [])) (h2 : call 113 [i64 y] [] = some (bl false, [])) (h3 : A .cmp .lss x y = b) (h4 : A .cmp .gtr x y = c) :
    wpV A call it v77.body ⟨0, padE 20 [i64 x, i64 y], []⟩ (finQ A v77 (i64 (bif b then -1 else bif c then 1 else 0), [])) := by
  cases b <;> cases c <;> (refine wpV_of (by ((conv => lhs; cbv); (repeat ((first | rewrite [h1] | rewrite [h2] | rewrite [h3] | rewrite [h4]); (try (conv => lhs; cbv)))); (try (with_reducible rfl)))) ?_; (show finV _ _ _ = some _; ((conv => lhs; cbv); (try (with_reducible rfl))); (try rfl)))
theorem p77 (x y : Int) : Pl 77 [i64 x, i64 y] (i64 (cmpI x y)) [] := by
  obtain ⟨n1, h1⟩ := (p113 x).at pr_mono
  obtain ⟨n2, h2⟩ := (p113 y).at pr_mono
  refine Plays.wp (vf := v77) rfl rfl ⟨max n1 n2, fun A call hA hcall => ?_⟩
  subst hA; subst hcall
  have := w77 real _ (iterN (max n1 n2)) x y (h1 (max n1 n2) (by omega)) (h2 (max n1 n2) (by omega)) (lss_real _ _) (gtr_real _ _)
  have he : (bif decide (x < y) then (-1 : Int) else bif decide (x > y) then 1 else 0) = cmpI x y := by
    unfold cmpI
    by_cases h : x < y
    · simp [h]
    · by_cases h' : x > y <;> simp [h, h']
  rw [he] at this
  exact this
def N76 (L : List (List IV)) (len i : Int) : St := ⟨0, [u, u, u, i64 0, u, u, .one (.iv (.sl true 1 L)), i64 len, i64 i, u, u, u, u, u, u, u, u, u], []⟩
theorem w76 (A : Ar) (call : CallT) (n : Nat) (hn : 2 < n) (L : List (List IV)) (x y : Int) (ix : Nat → Int) (hi0 : ix 0 = 0) {b c : Bool} (h1 : ∀ i, i < 2 → A .cmp .lss (ix i) (A .len L) = true) (h1' : A .cmp .lss (ix 2) (A .len L) = false)
    (h2 : A .get L (ix 0) = some [.int .i64 x]) (h3 : A .get L (ix 1) = some [.int .i64 y]) (h4 : ∀ i, i < 2 → A .ar .add .i64 (ix i) 1 = ix (i + 1)) (h5 : A .cmp .neq x 0 = b) (h6 : A .cmp .neq y 0 = c) :
    wpV A call (iterN n) v76.body ⟨0, padE 18 [.one (.iv (.sl true 1 L))], []⟩ (finQ A v76 (i64 (bif b then x else bif c then y else 0), [])) := by
  apply wpV_seq; refine wpV_of (by ((conv => lhs; cbv); (try (with_reducible rfl)))) ?_
  apply wpV_seq; refine wpV_of (by ((conv => lhs; cbv); (try (with_reducible rfl)))) ?_
  apply wpV_seq; apply wpV_seq; refine wpV_of (by ((conv => lhs; cbv); (try (with_reducible rfl)))) ?_
  apply wpV_block
  refine wpV_loop 2 (fun i s => s = N76 L (A .len L) (ix i) ∧ (1 ≤ i → b = false) ∧ (2 ≤ i → c = false)) hn (by ((conv => lhs; cbv); (try (with_reducible rfl)))) ⟨by rw [hi0]; rfl, by omega, by omega⟩ ?_
  rintro i hi s ⟨rfl, g1, g2⟩
  rcases Nat.lt_or_ge i 1 with hc | hc
  · obtain rfl : i = 0 := by omega
    cases b with
    | true =>
      refine wpV_of (by ((conv => lhs; cbv); (repeat ((first | rewrite [h1 0 (by omega)] | rewrite [h2] | rewrite [h5]); (try (conv => lhs; cbv)))); (try (with_reducible rfl)))) ?_
      (show finV _ _ _ = some _; ((conv => lhs; cbv); (try (with_reducible rfl))); (try rfl))
    | false =>
      refine wpV_of (by ((conv => lhs; cbv); (repeat ((first | rewrite [h1 0 (by omega)] | rewrite [h2] | rewrite [h5]); (try (conv => lhs; cbv)))); (try (with_reducible rfl)))) ?_
      refine headQ_of (by ((conv => lhs; cbv); (try (with_reducible rfl)))) ?_
      exact ⟨by omega, by rw [h4 0 (by omega)]; rfl, fun _ => rfl, by omega⟩
  · obtain rfl := g1 hc
    rcases Nat.lt_or_ge i 2 with hc2 | hc2
    · obtain rfl : i = 1 := by omega
      cases c with
      | true =>
        refine wpV_of (by ((conv => lhs; cbv); (repeat ((first | rewrite [h1 1 (by omega)] | rewrite [h3] | rewrite [h6]); (try (conv => lhs; cbv)))); (try (with_reducible rfl)))) ?_
        (show finV _ _ _ = some _; ((conv => lhs; cbv); (try (with_reducible rfl))); (try rfl))
      | false =>
        refine wpV_of (by ((conv => lhs; cbv); (repeat ((first | rewrite [h1 1 (by omega)] | rewrite [h3] | rewrite [h6]); (try (conv => lhs; cbv)))); (try (with_reducible rfl)))) ?_
        refine headQ_of (by ((conv => lhs; cbv); (try (with_reducible rfl)))) ?_
        exact ⟨by omega, by rw [h4 1 (by omega)]; rfl, fun _ => rfl, fun _ => rfl⟩
    · obtain rfl : i = 2 := by omega
      obtain rfl := g2 (by omega)
      refine wpV_of (by ((conv => lhs; cbv); (repeat ((first | rewrite [h1']); (try (conv => lhs; cbv)))); (try (with_reducible rfl)))) ?_
      show wpV _ _ _ _ _ _
      refine wpV_of (by ((conv => lhs; cbv); (try (with_reducible rfl)))) ?_
      (show finV _ _ _ = some _; ((conv => lhs; cbv); (try (with_reducible rfl))); (try rfl))
def orI (x y : Int) : Int := if x ≠ 0 then x else y
theorem p76 (x y : Int) : Pl 76 [.one (.iv (.sl true 1 [[.int .i64 x], [.int .i64 y]]))] (i64 (orI x y)) [] := by
  refine Plays.wp (vf := v76) rfl rfl ⟨3, fun A call hA _ => ?_⟩
  subst hA
  have := w76 real call 3 (by omega) [[.int .i64 x], [.int .i64 y]] x y (fun i => (i : Int)) rfl (fun i hi => by rw [lss_real, real_len]; simp; omega) (by rw [lss_real, real_len]; simp) (get_real _ 0 rfl) (get_real _ 1 rfl)
    (fun i hi => by rw [add_real (by unfold inI; omega)]; simp) (neq_real _ _) (neq_real _ _)
  have he : (bif decide (x ≠ 0) then x else bif decide (y ≠ 0) then y else 0) = orI x y := by
    unfold orI
    by_cases h : x = 0
    · by_cases h' : y = 0 <;> simp [h, h']
    · simp [h]
  rw [he] at this
  exact this
theorem w17 (A : Ar) (call : CallT) (it : IterT) (a b c d x y z : Int) (h1 : call 77 [i64 a, i64 c] [] = some (i64 x, [])) (h2 : call 77 [i64 b, i64 d] [] = some (i64 y, [])) (h3 : call 76 [.one (.iv (.sl true 1 [[.int .i64 x], [.int .i64 y]]))] [] = some (i64 z, [])) :
    wpV A call it v17.body ⟨0, padE 17 [dotF a b, dotF c d], []⟩ (finQ A v17 (i64 z, [])) := by
  refine wpV_of (by ((conv => lhs; cbv); (repeat ((first | rewrite [h1] | rewrite [h2] | rewrite [h3]); (try (conv => lhs; cbv)))); (try (with_reducible rfl)))) ?_
  (show finV _ _ _ = some _; ((conv => lhs; cbv); (try (with_reducible rfl))); (try rfl))
def cmpD (a b c d : Int) : Int := orI (cmpI a c) (cmpI b d)
theorem p17 (a b c d : Int) : Pl 17 [dotF a b, dotF c d] (i64 (cmpD a b c d)) [] := by
  obtain ⟨n1, h1⟩ := (p77 a c).at pr_mono
  obtain ⟨n2, h2⟩ := (p77 b d).at pr_mono
  obtain ⟨n3, h3⟩ := (p76 (cmpI a c) (cmpI b d)).at pr_mono
  refine Plays.wp (vf := v17) rfl rfl ⟨n1 + n2 + n3, fun A call hA hcall => ?_⟩
  subst hA; subst hcall
  exact w17 real _ _ a b c d _ _ _ (h1 (n1 + n2 + n3) (by omega)) (h2 (n1 + n2 + n3) (by omega)) (h3 (n1 + n2 + n3) (by omega))
def lessB (a b c d : Int) : Bool := decide (a < c) || (decide (a = c) && decide (b < d))
theorem w20 (A : Ar) (call : CallT) (it : IterT) (a b c d : Int) {x y z : Bool} (h1 : A .cmp .lss a c = x) (h2 : A .cmp .eql a c = y) (h3 : A .cmp .lss b d = z) :
    wpV A call it v20.body ⟨0, padE 24 [dotF a b, dotF c d], []⟩ (finQ A v20 (bl (x || (y && z)), [])) := by
  cases x <;> cases y <;> cases z <;> (refine wpV_of (by ((conv => lhs; cbv); (repeat ((first | rewrite [h1] | rewrite [h2] | rewrite [h3]); (try (conv => lhs; cbv)))); (try (with_reducible rfl)))) ?_; (show finV _ _ _ = some _; ((conv => lhs; cbv); (repeat ((first | rewrite [h1] | rewrite [h2] | rewrite [h3]); (try (conv => lhs; cbv)))); (try (with_reducible rfl))); (try rfl)))
theorem p20 (a b c d : Int) : Pl 20 [dotF a b, dotF c d] (bl (lessB a b c d)) [] :=
  Plays.wp (vf := v20) rfl rfl ⟨0, fun A call hA _ => by subst hA; exact w20 real call _ a b c d (lss_real _ _) (eql_real _ _) (lss_real _ _)⟩

/-! ### The statement's own code -/
theorem w3 (A : Ar) (call : CallT) (it : IterT) (a b c d z : Int) (xs ys : List IV) {va lt gt h : Bool} (k17 : call 17 [dotF a b, dotF c d] [] = some (i64 z, [])) (k18 : call 18 [dotF a b] [] = some (bl va, [])) (k19 : call 19 [dotF a b] [] = some (bl va, []))
    (k20 : call 20 [dotF a b, dotF c d] [] = some (bl lt, [])) (k20' : call 20 [dotF c d, dotF a b] [] = some (bl gt, [])) (c1 : A .cmp .lss z 0 = lt) (c2 : A .cmp .gtr z 0 = gt) (q : ∀ t, A .bq t t = true) (c3 : A .cmp .geq z (-1) = true) (c4 : A .cmp .leq z 1 = true)
    (k21 : call 21 [.agg [.iv (.arr 64 xs)], dotF a b] [] = some (bl h, [])) (k22 : call 22 [.agg [.iv (.arr 64 xs)], dotF a b] [] = some (bl h, [])) (k23 : call 23 [.agg [.iv (.arr 64 xs)], dotF a b] [] = some (.agg [.iv (.arr 64 ys)], [])) (k24 : call 24 [.agg [.iv (.arr 64 xs)], dotF a b] [] = some (.agg [.iv (.arr 64 ys)], []))
    (e : A .eqv [.int, .int, .int, .int, .int, .int, .int, .int, .int, .int, .int, .int, .int, .int, .int, .int, .int, .int, .int, .int, .int, .int, .int, .int, .int, .int, .int, .int, .int, .int, .int, .int, .int, .int, .int, .int, .int, .int, .int, .int, .int, .int, .int, .int, .int, .int, .int, .int, .int, .int, .int, .int, .int, .int, .int, .int, .int, .int, .int, .int, .int, .int, .int, .int] [.arr 64 ys] [.arr 64 ys] = some true) (k25 : call 25 [] [] = some (bl true, [])) :
    wpV A call it v3.body ⟨0, padE 63 [dotF a b, dotF c d, .agg [.iv (.arr 64 xs)]], []⟩ (finQ A v3 (bl true, [])) := by
  apply wpV_seq; refine wpV_of (by ((conv => lhs; cbv); (try (with_reducible rfl)))) ?_
  apply wpV_seq; refine wpV_of (by ((conv => lhs; cbv); (repeat ((first | rewrite [k17]); (try (conv => lhs; cbv)))); (try (with_reducible rfl)))) ?_
  apply wpV_seq; refine wpV_of (by ((conv => lhs; cbv); (repeat ((first | rewrite [k18] | rewrite [k19] | rewrite [q va] | rewrite [c1] | rewrite [k20] | rewrite [q lt] | rewrite [c2] | rewrite [k20'] | rewrite [q gt] | rewrite [c3] | rewrite [c4]); (try (conv => lhs; cbv)))); (try (with_reducible rfl)))) ?_
  refine wpV_of (by ((conv => lhs; cbv); (repeat ((first | rewrite [c4] | rewrite [k21] | rewrite [k22] | rewrite [q h] | rewrite [k23] | rewrite [k24] | rewrite [e] | rewrite [k25]); (try (conv => lhs; cbv)))); (try (with_reducible rfl)))) ?_
  (show finV _ _ _ = some _; ((conv => lhs; cbv); (try (with_reducible rfl))); (try rfl))
end Go.Proofs.Ytomchclmnmhjaaa
