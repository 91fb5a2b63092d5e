/- The document's vectors, and which vectors may be: as equations. -/
import Derived.Test.YtomchclmnmhjaaaDVV
set_option linter.unusedSimpArgs false
set_option linter.unusedVariables false
set_option maxRecDepth 100000
set_option maxHeartbeats 1000000
namespace Go.Proofs.Ytomchclmnmhjaaa
open Go GoV

def N29 (Y b : List IV) (i : Int) : St := ⟨0, [u, u, .one (.ptr 0 0), u, .one (.ptr 1 0), u, u, .agg [.iv (.arr 64 b)], i64 i, u, u, u, u, u, u, u, u, u, u, u, u, u], [.var false [.iv (.arr 64 Y)], .var false [.iv (.arr 64 (List.replicate 64 (.int .i64 0)))]]⟩
theorem w29 (A : Ar) (call : CallT) (n : Nat) (hn : 64 < n) (b : List IV) (Y : Nat → List IV) (x y ix : Nat → Int) (k : Nat → Nat) (hi0 : ix 0 = 0)
    (h1 : ∀ i, i < 64 → A .cmp .lss (ix i) 64 = true) (h1' : A .cmp .lss (ix 64) 64 = false) (h2 : ∀ i, i < 64 → A .at_ (ix i) 64 = some (k i)) (h3 : ∀ i, i < 64 → A .getc (Y i) (ix i) = some (.int .i64 (x i))) (h4 : ∀ i, i < 64 → A .getc b (ix i) = some (.int .i64 (y i)))
    (h6 : ∀ i, i < 64 → (A .cmp .gtr (y i) (x i) = true ∧ A .setc (Y i) (ix i) (.int .i64 (y i)) = some (Y (i + 1))) ∨ (A .cmp .gtr (y i) (x i) = false ∧ Y i = Y (i + 1))) (h7 : ∀ i, i < 64 → A .ar .add .i64 (ix i) 1 = ix (i + 1)) :
    wpV A call (iterN n) v29.body ⟨0, padE 22 [.agg [.iv (.arr 64 (Y 0))], .agg [.iv (.arr 64 b)]], []⟩ (finQ A v29 (.agg [.iv (.arr 64 (Y 64))], [])) := by
  apply wpV_seq; refine wpV_of (by ((conv => lhs; cbv); (try (with_reducible rfl)))) ?_
  apply wpV_seq; apply wpV_seq; refine wpV_of (by ((conv => lhs; cbv); (try (with_reducible rfl)))) ?_
  apply wpV_block
  refine wpV_loop 64 (fun i s => s = N29 (Y i) b (ix i)) hn (by ((conv => lhs; cbv); (try (with_reducible rfl)))) (by rw [hi0]; rfl) ?_
  rintro i hi s rfl
  by_cases him : i < 64
  · rcases h6 i him with ⟨c1, c2⟩ | ⟨c1, c2⟩
    · refine wpV_of (by ((conv => lhs; cbv); (repeat ((first | rewrite [h1 i him] | rewrite [h4 i him] | rewrite [h2 i him] | rewrite [h3 i him] | rewrite [c1] | rewrite [c2]); (try (conv => lhs; cbv)))); (try (with_reducible rfl)))) ?_
      refine headQ_of (by ((conv => lhs; cbv); (try (with_reducible rfl)))) ?_
      exact ⟨him, by rw [h7 i him]; rfl⟩
    · refine wpV_of (by ((conv => lhs; cbv); (repeat ((first | rewrite [h1 i him] | rewrite [h4 i him] | rewrite [h2 i him] | rewrite [h3 i him] | rewrite [c1]); (try (conv => lhs; cbv)))); (try (with_reducible rfl)))) ?_
      refine headQ_of (by ((conv => lhs; cbv); (try (with_reducible rfl)))) ?_
      exact ⟨him, by rw [h7 i him, c2]; rfl⟩
  · obtain rfl : i = 64 := by omega
    refine wpV_of (by ((conv => lhs; cbv); (repeat ((first | rewrite [h1']); (try (conv => lhs; cbv)))); (try (with_reducible rfl)))) ?_
    show wpV _ _ _ _ _ _
    refine wpV_of (by ((conv => lhs; cbv); (try (with_reducible rfl)))) ?_
    (show finV _ _ _ = some _; ((conv => lhs; cbv); (try (with_reducible rfl))); (try rfl))
theorem w30 (A : Ar) (call : CallT) (n : Nat) (hn : 64 < n) (b : List IV) (Y : Nat → List IV) (x y ix : Nat → Int) (k : Nat → Nat) (hi0 : ix 0 = 0)
    (h1 : ∀ i, i < 64 → A .cmp .lss (ix i) 64 = true) (h1' : A .cmp .lss (ix 64) 64 = false) (h2 : ∀ i, i < 64 → A .at_ (ix i) 64 = some (k i)) (h3 : ∀ i, i < 64 → A .getc (Y i) (ix i) = some (.int .i64 (x i))) (h4 : ∀ i, i < 64 → A .getc b (ix i) = some (.int .i64 (y i)))
    (h6 : ∀ i, i < 64 → (A .cmp .lss (y i) (x i) = true ∧ A .setc (Y i) (ix i) (.int .i64 (y i)) = some (Y (i + 1))) ∨ (A .cmp .lss (y i) (x i) = false ∧ Y i = Y (i + 1))) (h7 : ∀ i, i < 64 → A .ar .add .i64 (ix i) 1 = ix (i + 1)) :
    wpV A call (iterN n) v30.body ⟨0, padE 22 [.agg [.iv (.arr 64 (Y 0))], .agg [.iv (.arr 64 b)]], []⟩ (finQ A v30 (.agg [.iv (.arr 64 (Y 64))], [])) := by
  apply wpV_seq; refine wpV_of (by ((conv => lhs; cbv); (try (with_reducible rfl)))) ?_
  apply wpV_seq; apply wpV_seq; refine wpV_of (by ((conv => lhs; cbv); (try (with_reducible rfl)))) ?_
  apply wpV_block
  refine wpV_loop 64 (fun i s => s = N29 (Y i) b (ix i)) hn (by ((conv => lhs; cbv); (try (with_reducible rfl)))) (by rw [hi0]; rfl) ?_
  rintro i hi s rfl
  by_cases him : i < 64
  · rcases h6 i him with ⟨c1, c2⟩ | ⟨c1, c2⟩
    · refine wpV_of (by ((conv => lhs; cbv); (repeat ((first | rewrite [h1 i him] | rewrite [h4 i him] | rewrite [h2 i him] | rewrite [h3 i him] | rewrite [c1] | rewrite [c2]); (try (conv => lhs; cbv)))); (try (with_reducible rfl)))) ?_
      refine headQ_of (by ((conv => lhs; cbv); (try (with_reducible rfl)))) ?_
      exact ⟨him, by rw [h7 i him]; rfl⟩
    · refine wpV_of (by ((conv => lhs; cbv); (repeat ((first | rewrite [h1 i him] | rewrite [h4 i him] | rewrite [h2 i him] | rewrite [h3 i him] | rewrite [c1]); (try (conv => lhs; cbv)))); (try (with_reducible rfl)))) ?_
      refine headQ_of (by ((conv => lhs; cbv); (try (with_reducible rfl)))) ?_
      exact ⟨him, by rw [h7 i him, c2]; rfl⟩
  · obtain rfl : i = 64 := by omega
    refine wpV_of (by ((conv => lhs; cbv); (repeat ((first | rewrite [h1']); (try (conv => lhs; cbv)))); (try (with_reducible rfl)))) ?_
    show wpV _ _ _ _ _ _
    refine wpV_of (by ((conv => lhs; cbv); (try (with_reducible rfl)))) ?_
    (show finV _ _ _ = some _; ((conv => lhs; cbv); (try (with_reducible rfl))); (try rfl))
theorem mix_skip (op : Int → Int → Int) (a b : List Int) {i : Nat} (h : i < 64) (e : op (a.getD i 0) (b.getD i 0) = a.getD i 0) : mixI op a b i = mixI op a b (i + 1) := by
  apply List.map_congr_left
  intro j hj
  by_cases c : j < i
  · simp [c, show j < i + 1 by omega]
  · by_cases d : j = i
    · subst d
      rw [if_neg c, if_pos (by omega), e]
    · simp [c, show ¬ j < i + 1 by omega]
theorem p29 {a b : List Int} (ha : a.length = 64) (hb : b.length = 64) : Pl 29 [vecF a, vecF b] (vecF (joinI a b)) [] := by
  refine Plays.wp (vf := v29) rfl rfl ⟨65, fun A call hA _ => ?_⟩
  subst hA
  have := w29 real call 65 (by omega) (vec b) (fun i => vec (mixI max a b i)) (fun i => a.getD i 0) (fun i => b.getD i 0) (fun i => (i : Int)) (fun i => i) rfl
    (fun i hi => by rw [lss_real]; simp; omega) (by rw [lss_real]; simp) (fun i hi => by rw [at_real (by omega) (by omega)]; simp) (fun i hi => by rw [getc_nat (by rw [mix_len]; exact hi), mix_get max a b hi]) (fun i hi => getc_nat (by omega))
    (fun i hi => by
      rw [gtr_real]
      by_cases h : b.getD i 0 > a.getD i 0
      · refine .inl ⟨decide_eq_true h, ?_⟩
        rw [setc_real (by omega) (by rw [mix_len]; omega)]
        simp only [Int.toNat_natCast]
        have := mix_set max a b hi
        rw [show max (a.getD i 0) (b.getD i 0) = b.getD i 0 by omega] at this
        rw [this]
      · exact .inr ⟨decide_eq_false h, by rw [mix_skip max a b hi (by omega)]⟩) (fun i hi => inc_real (by omega))
  rw [mix_zero max b ha, mix_last] at this
  exact this
theorem p30 {a b : List Int} (ha : a.length = 64) (hb : b.length = 64) : Pl 30 [vecF a, vecF b] (vecF (meetI a b)) [] := by
  refine Plays.wp (vf := v30) rfl rfl ⟨65, fun A call hA _ => ?_⟩
  subst hA
  have := w30 real call 65 (by omega) (vec b) (fun i => vec (mixI min a b i)) (fun i => a.getD i 0) (fun i => b.getD i 0) (fun i => (i : Int)) (fun i => i) rfl
    (fun i hi => by rw [lss_real]; simp; omega) (by rw [lss_real]; simp) (fun i hi => by rw [at_real (by omega) (by omega)]; simp) (fun i hi => by rw [getc_nat (by rw [mix_len]; exact hi), mix_get min a b hi]) (fun i hi => getc_nat (by omega))
    (fun i hi => by
      rw [lss_real]
      by_cases h : b.getD i 0 < a.getD i 0
      · refine .inl ⟨decide_eq_true h, ?_⟩
        rw [setc_real (by omega) (by rw [mix_len]; omega)]
        simp only [Int.toNat_natCast]
        have := mix_set min a b hi
        rw [show min (a.getD i 0) (b.getD i 0) = b.getD i 0 by omega] at this
        rw [this]
      · exact .inr ⟨decide_eq_false h, by rw [mix_skip min a b hi (by omega)]⟩) (fun i hi => inc_real (by omega))
  rw [mix_zero min b ha, mix_last] at this
  exact this

theorem all_t {g : Nat → Bool} {n : Nat} (h : ∀ j, j < n → g j = false) : ((List.range n).all fun i => !(g i)) = true := by
  simp only [List.all_eq_true, List.mem_range]
  intro i hi
  rw [h i hi]; rfl
theorem all_f {g : Nat → Bool} {n i : Nat} (hi : i < n) (h : g i = true) : ((List.range n).all fun i => !(g i)) = false := by
  rw [← Bool.not_eq_true]
  intro hc
  simp only [List.all_eq_true, List.mem_range] at hc
  have := hc i hi
  rw [h] at this; cases this
def N31 (a b : List IV) (i : Int) : St := ⟨0, [u, u, u, .one (.ptr 0 0), u, u, u, .agg [.iv (.arr 64 a)], i64 i, u, u, u, u, u, u, u, u, u], [.var false [.iv (.arr 64 b)]]⟩
theorem w31 (A : Ar) (call : CallT) (n : Nat) (hn : 64 < n) (a b : List IV) (x y ix : Nat → Int) (k : Nat → Nat) (g : Nat → Bool) (hi0 : ix 0 = 0) (h1 : ∀ i, i < 64 → A .cmp .lss (ix i) 64 = true) (h1' : A .cmp .lss (ix 64) 64 = false) (h2 : ∀ i, i < 64 → A .at_ (ix i) 64 = some (k i))
    (h3 : ∀ i, i < 64 → A .getc a (ix i) = some (.int .i64 (x i))) (h4 : ∀ i, i < 64 → A .getc b (ix i) = some (.int .i64 (y i))) (h5 : ∀ i, i < 64 → A .cmp .gtr (x i) (y i) = g i) (h7 : ∀ i, i < 64 → A .ar .add .i64 (ix i) 1 = ix (i + 1)) :
    wpV A call (iterN n) v31.body ⟨0, padE 18 [.agg [.iv (.arr 64 a)], .agg [.iv (.arr 64 b)]], []⟩ (finQ A v31 (bl ((List.range 64).all fun i => !(g i)), [])) := by
  apply wpV_seq; refine wpV_of (by ((conv => lhs; cbv); (try (with_reducible rfl)))) ?_
  apply wpV_seq; apply wpV_seq; refine wpV_of (by ((conv => lhs; cbv); (try (with_reducible rfl)))) ?_
  apply wpV_block
  refine wpV_loop 64 (fun i s => s = N31 a b (ix i) ∧ ∀ j, j < i → g j = false) hn (by ((conv => lhs; cbv); (try (with_reducible rfl)))) ⟨by rw [hi0]; rfl, by omega⟩ ?_
  rintro i hi s ⟨rfl, hg⟩
  by_cases him : i < 64
  · have h5i := h5 i him
    cases hgi : g i with
    | true =>
      rw [hgi] at h5i
      rw [all_f him hgi]
      refine wpV_of (by ((conv => lhs; cbv); (repeat ((first | rewrite [h1 i him] | rewrite [h3 i him] | rewrite [h2 i him] | rewrite [h4 i him] | rewrite [h5i]); (try (conv => lhs; cbv)))); (try (with_reducible rfl)))) ?_
      (show finV _ _ _ = some _; ((conv => lhs; cbv); (try (with_reducible rfl))); (try rfl))
    | false =>
      rw [hgi] at h5i
      refine wpV_of (by ((conv => lhs; cbv); (repeat ((first | rewrite [h1 i him] | rewrite [h3 i him] | rewrite [h2 i him] | rewrite [h4 i him] | rewrite [h5i]); (try (conv => lhs; cbv)))); (try (with_reducible rfl)))) ?_
      refine headQ_of (by ((conv => lhs; cbv); (try (with_reducible rfl)))) ?_
      refine ⟨him, by rw [h7 i him]; rfl, fun j hj => ?_⟩
      rcases Nat.lt_succ_iff_lt_or_eq.1 hj with h | rfl
      · exact hg j h
      · exact hgi
  · obtain rfl : i = 64 := by omega
    rw [all_t hg]
    refine wpV_of (by ((conv => lhs; cbv); (repeat ((first | rewrite [h1']); (try (conv => lhs; cbv)))); (try (with_reducible rfl)))) ?_
    show wpV _ _ _ _ _ _
    refine wpV_of (by ((conv => lhs; cbv); (try (with_reducible rfl)))) ?_
    (show finV _ _ _ = some _; ((conv => lhs; cbv); (try (with_reducible rfl))); (try rfl))
def withinB (a b : List Int) : Bool := (List.range 64).all fun i => !(decide (a.getD i 0 > b.getD i 0))
theorem p31 {a b : List Int} (ha : a.length = 64) (hb : b.length = 64) : Pl 31 [vecF a, vecF b] (bl (withinB a b)) [] := by
  refine Plays.wp (vf := v31) rfl rfl ⟨65, fun A call hA _ => ?_⟩
  subst hA
  exact w31 real call 65 (by omega) (vec a) (vec b) (fun i => a.getD i 0) (fun i => b.getD i 0) (fun i => (i : Int)) (fun i => i) (fun i => decide (a.getD i 0 > b.getD i 0)) rfl
    (fun i hi => by rw [lss_real]; simp; omega) (by rw [lss_real]; simp) (fun i hi => by rw [at_real (by omega) (by omega)]; simp) (fun i hi => getc_nat (by omega)) (fun i hi => getc_nat (by omega)) (fun i hi => gtr_real _ _) (fun i hi => inc_real (by omega))
def N33 (a : List IV) (i : Int) : St := ⟨0, [u, u, u, u, u, .agg [.iv (.arr 64 a)], i64 i, u, u, u, u, u, u, u, u, u], []⟩
theorem w33 (A : Ar) (call : CallT) (n : Nat) (hn : 64 < n) (a : List IV) (x ix : Nat → Int) (p q : Nat → Bool) (hi0 : ix 0 = 0) (h1 : ∀ i, i < 64 → A .cmp .lss (ix i) 64 = true) (h1' : A .cmp .lss (ix 64) 64 = false)
    (h3 : ∀ i, i < 64 → A .getc a (ix i) = some (.int .i64 (x i))) (h5 : ∀ i, i < 64 → A .cmp .lss (x i) 0 = p i) (h6 : ∀ i, i < 64 → A .cmp .gtr (x i) 1073741824 = q i) (h7 : ∀ i, i < 64 → A .ar .add .i64 (ix i) 1 = ix (i + 1)) :
    wpV A call (iterN n) v33.body ⟨0, padE 16 [.agg [.iv (.arr 64 a)]], []⟩ (finQ A v33 (bl ((List.range 64).all fun i => !(p i || q i)), [])) := by
  apply wpV_seq; refine wpV_of (by ((conv => lhs; cbv); (try (with_reducible rfl)))) ?_
  apply wpV_seq; apply wpV_seq; refine wpV_of (by ((conv => lhs; cbv); (try (with_reducible rfl)))) ?_
  apply wpV_block
  refine wpV_loop 64 (fun i s => s = N33 a (ix i) ∧ ∀ j, j < i → (p j || q j) = false) hn (by ((conv => lhs; cbv); (try (with_reducible rfl)))) ⟨by rw [hi0]; rfl, by omega⟩ ?_
  rintro i hi s ⟨rfl, hg⟩
  by_cases him : i < 64
  · have h5i := h5 i him
    have h6i := h6 i him
    cases hp : p i with
    | true =>
      rw [hp] at h5i
      rw [all_f (g := fun i => p i || q i) him (by simp [hp])]
      refine wpV_of (by ((conv => lhs; cbv); (repeat ((first | rewrite [h1 i him] | rewrite [h3 i him] | rewrite [h5i]); (try (conv => lhs; cbv)))); (try (with_reducible rfl)))) ?_
      (show finV _ _ _ = some _; ((conv => lhs; cbv); (try (with_reducible rfl))); (try rfl))
    | false =>
      rw [hp] at h5i
      cases hq : q i with
      | true =>
        rw [hq] at h6i
        rw [all_f (g := fun i => p i || q i) him (by simp [hq])]
        refine wpV_of (by ((conv => lhs; cbv); (repeat ((first | rewrite [h1 i him] | rewrite [h3 i him] | rewrite [h5i] | rewrite [h6i]); (try (conv => lhs; cbv)))); (try (with_reducible rfl)))) ?_
        (show finV _ _ _ = some _; ((conv => lhs; cbv); (try (with_reducible rfl))); (try rfl))
      | false =>
        rw [hq] at h6i
        refine wpV_of (by ((conv => lhs; cbv); (repeat ((first | rewrite [h1 i him] | rewrite [h3 i him] | rewrite [h5i] | rewrite [h6i]); (try (conv => lhs; cbv)))); (try (with_reducible rfl)))) ?_
        refine headQ_of (by ((conv => lhs; cbv); (try (with_reducible rfl)))) ?_
        refine ⟨him, by rw [h7 i him]; rfl, fun j hj => ?_⟩
        rcases Nat.lt_succ_iff_lt_or_eq.1 hj with h | rfl
        · exact hg j h
        · rw [hp, hq]; rfl
  · obtain rfl : i = 64 := by omega
    rw [all_t (g := fun i => p i || q i) hg]
    refine wpV_of (by ((conv => lhs; cbv); (repeat ((first | rewrite [h1']); (try (conv => lhs; cbv)))); (try (with_reducible rfl)))) ?_
    show wpV _ _ _ _ _ _
    refine wpV_of (by ((conv => lhs; cbv); (try (with_reducible rfl)))) ?_
    (show finV _ _ _ = some _; ((conv => lhs; cbv); (try (with_reducible rfl))); (try rfl))
def badB (n : Int) : Bool := decide (n < 0) || decide (n > 1073741824)
def goodB (a : List Int) : Bool := (List.range 64).all fun i => !(badB (a.getD i 0))
theorem p33 {a : List Int} (ha : a.length = 64) : Pl 33 [vecF a] (bl (goodB a)) [] := by
  refine Plays.wp (vf := v33) rfl rfl ⟨65, fun A call hA _ => ?_⟩
  subst hA
  exact w33 real call 65 (by omega) (vec a) (fun i => a.getD i 0) (fun i => (i : Int)) (fun i => decide (a.getD i 0 < 0)) (fun i => decide (a.getD i 0 > 1073741824)) rfl
    (fun i hi => by rw [lss_real]; simp; omega) (by rw [lss_real]; simp) (fun i hi => getc_nat (by omega)) (fun i hi => lss_real _ _) (fun i hi => gtr_real _ _) (fun i hi => inc_real (by omega))

theorem w115 (A : Ar) (call : CallT) (it : IterT) (x : Int) {p q : Bool} (h1 : A .cmp .lss x 0 = p) (h2 : A .cmp .gtr x 1073741824 = q) : wpV A call it v115.body ⟨0, padE 9 [i64 x], []⟩ (finQ A v115 (bl (p || q), [])) := by
  cases p <;> cases q <;> (refine wpV_of (by ((conv => lhs; cbv); (repeat ((first | rewrite [h1] | rewrite [h2]); (try (conv => lhs; cbv)))); (try (with_reducible rfl)))) ?_; (show finV _ _ _ = some _; ((conv => lhs; cbv); (repeat ((first | rewrite [h1] | rewrite [h2]); (try (conv => lhs; cbv)))); (try (with_reducible rfl))); (try rfl)))
theorem p115 (x : Int) : Pl 115 [i64 x] (bl (badB x)) [] := Plays.wp (vf := v115) rfl rfl ⟨0, fun A call hA _ => by subst hA; exact w115 real call _ x (lss_real _ _) (gtr_real _ _)⟩
def N138 (es : List (List IV)) (g : Nat) (len i : Int) : St := ⟨0, [.one (.iv (.sl true 1 es)), .one (.iv (.fn g)), u, u, u, u, u, i64 len, i64 i, u, u, u, u, u, u, u, u, u, u], []⟩
theorem w138 (A : Ar) (call : CallT) (n : Nat) (hn : 64 < n) (es : List (List IV)) (f : Nat) (x ix : Nat → Int) (g : Nat → Bool) (hi0 : ix 0 = 0) (h1 : ∀ i, i < 64 → A .cmp .lss (ix i) (A .len es) = true) (h1' : A .cmp .lss (ix 64) (A .len es) = false)
    (h3 : ∀ i, i < 64 → A .get es (ix i) = some [.int .i64 (x i)]) (h5 : ∀ i, i < 64 → call f [i64 (x i)] [] = some (bl (g i), [])) (h7 : ∀ i, i < 64 → A .ar .add .i64 (ix i) 1 = ix (i + 1)) :
    wpV A call (iterN n) v138.body ⟨0, padE 19 [.one (.iv (.sl true 1 es)), .one (.iv (.fn f))], []⟩ (fun ex s => ∃ r, (∃ z, r = (i64 z, ([] : List Blk)) ∧ ((∃ i, i < 64 ∧ g i = true ∧ z = ix i) ∨ ((∀ i, i < 64 → g i = false) ∧ z = -1))) ∧ finV A v138 (ex, s) = some r) := by
  apply wpV_seq; refine wpV_of (by ((conv => lhs; cbv); (try (with_reducible rfl)))) ?_
  apply wpV_seq; apply wpV_seq; refine wpV_of (by ((conv => lhs; cbv); (try (with_reducible rfl)))) ?_
  apply wpV_block
  refine wpV_loop 64 (fun i s => s = N138 es f (A .len es) (ix i) ∧ ∀ j, j < i → g j = false) hn (by ((conv => lhs; cbv); (try (with_reducible rfl)))) ⟨by rw [hi0]; rfl, by omega⟩ ?_
  rintro i hi s ⟨rfl, hg⟩
  by_cases him : i < 64
  · have h5i := h5 i him
    cases hgi : g i with
    | true =>
      rw [hgi] at h5i
      refine wpV_of (by ((conv => lhs; cbv); (repeat ((first | rewrite [h1 i him] | rewrite [h3 i him] | rewrite [h5i]); (try (conv => lhs; cbv)))); (try (with_reducible rfl)))) ?_
      exact ⟨_, ⟨ix i, rfl, .inl ⟨i, him, hgi, rfl⟩⟩, by (show finV _ _ _ = some _; ((conv => lhs; cbv); (try (with_reducible rfl))); (try rfl))⟩
    | false =>
      rw [hgi] at h5i
      refine wpV_of (by ((conv => lhs; cbv); (repeat ((first | rewrite [h1 i him] | rewrite [h3 i him] | rewrite [h5i]); (try (conv => lhs; cbv)))); (try (with_reducible rfl)))) ?_
      refine headQ_of (by ((conv => lhs; cbv); (try (with_reducible rfl)))) ?_
      refine ⟨him, by rw [h7 i him]; rfl, fun j hj => ?_⟩
      rcases Nat.lt_succ_iff_lt_or_eq.1 hj with h | rfl
      · exact hg j h
      · exact hgi
  · obtain rfl : i = 64 := by omega
    refine wpV_of (by ((conv => lhs; cbv); (repeat ((first | rewrite [h1']); (try (conv => lhs; cbv)))); (try (with_reducible rfl)))) ?_
    show wpV _ _ _ _ _ _
    refine wpV_of (by ((conv => lhs; cbv); (try (with_reducible rfl)))) ?_
    exact ⟨_, ⟨-1, rfl, .inr ⟨hg, rfl⟩⟩, by (show finV _ _ _ = some _; ((conv => lhs; cbv); (try (with_reducible rfl))); (try rfl))⟩
theorem w114 (A : Ar) (call : CallT) (it : IterT) (es : List (List IV)) (f : Nat) (z : Int) {t : Bool} (h : call 138 [.one (.iv (.sl true 1 es)), .one (.iv (.fn f))] [] = some (i64 z, [])) (h1 : A .cmp .geq z 0 = t) :
    wpV A call it v114.body ⟨0, padE 9 [.one (.iv (.sl true 1 es)), .one (.iv (.fn f))], []⟩ (finQ A v114 (bl t, [])) := by
  cases t <;> (refine wpV_of (by ((conv => lhs; cbv); (repeat ((first | rewrite [h]); (try (conv => lhs; cbv)))); (try (with_reducible rfl)))) ?_; (show finV _ _ _ = some _; ((conv => lhs; cbv); (repeat ((first | rewrite [h1]); (try (conv => lhs; cbv)))); (try (with_reducible rfl))); (try rfl)))
theorem w81 (A : Ar) (call : CallT) (it : IterT) (xs : List IV) {t : Bool} (h : call 114 [.one (.iv (.sl true 1 (A .chunk 1 xs))), .one (.iv (.fn 115))] [] = some (bl t, [])) :
    wpV A call it v81.body ⟨0, padE 6 [.agg [.iv (.arr 64 xs)]], []⟩ (finQ A v81 (bl (!t), [])) := by
  cases t <;> (refine wpV_of (by ((conv => lhs; cbv); (repeat ((first | rewrite [h]); (try (conv => lhs; cbv)))); (try (with_reducible rfl)))) ?_; (show finV _ _ _ = some _; ((conv => lhs; cbv); (try (with_reducible rfl))); (try rfl)))
theorem w32 (A : Ar) (call : CallT) (it : IterT) (xs : List IV) {t : Bool} (h : call 81 [.agg [.iv (.arr 64 xs)]] [] = some (bl t, [])) :
    wpV A call it v32.body ⟨0, padE 5 [.agg [.iv (.arr 64 xs)]], []⟩ (finQ A v32 (bl t, [])) := by
  refine wpV_of (by ((conv => lhs; cbv); (repeat ((first | rewrite [h]); (try (conv => lhs; cbv)))); (try (with_reducible rfl)))) ?_
  (show finV _ _ _ = some _; ((conv => lhs; cbv); (try (with_reducible rfl))); (try rfl))
theorem p32 {a : List Int} (ha : a.length = 64) : Pl 32 [vecF a] (bl (goodB a)) [] := by
  have h138 : ∃ r, (∃ z, r = (i64 z, ([] : List Blk)) ∧ ((∃ i, i < 64 ∧ badB (a.getD i 0) = true ∧ z = (i : Int)) ∨ ((∀ i, i < 64 → badB (a.getD i 0) = false) ∧ z = -1))) ∧ Plays (lookT tab) (fun _ => clonePr clones) 138 [.one (.iv (.sl true 1 (real .chunk 1 (vec a)))), .one (.iv (.fn 115))] [] r := by
    obtain ⟨k, hk⟩ := Plays.all pr_mono (T := lookT tab) (pr := fun _ => clonePr clones) (f := 115) (vs := fun i => [i64 (a.getD i 0)]) (bs := fun _ => []) (r := fun i => (bl (badB (a.getD i 0)), [])) (m := 64) (fun i _ => p115 _)
    refine Plays.wpE (vf := v138) rfl rfl ⟨max k 65, fun A call hA hcall => ?_⟩
    subst hA; subst hcall
    have hch : real .chunk 1 (vec a) = a.map fun x => [.int .i64 x] := by rw [real_chunk]; simp [vec]
    rw [hch]
    exact w138 real _ (max k 65) (by omega) _ 115 (fun i => a.getD i 0) (fun i => (i : Int)) (fun i => badB (a.getD i 0)) rfl (fun i hi => by rw [lss_real, real_len]; simp; omega) (by rw [lss_real, real_len]; simp; omega)
      (fun i hi => get_real _ i (by simp [show i < a.length by omega])) (fun i hi => hk _ (by omega) i hi) (fun i hi => inc_real (by omega))
  obtain ⟨r, ⟨z, rfl, hz⟩, h138⟩ := h138
  have hgb : (!(decide (z ≥ 0))) = goodB a := by
    rcases hz with ⟨i, hi, hb, rfl⟩ | ⟨hb, rfl⟩
    · rw [goodB, all_f (g := fun i => badB (a.getD i 0)) hi hb]
      simp
    · rw [goodB, all_t (g := fun i => badB (a.getD i 0)) hb]
      simp
  have h114 : Pl 114 [.one (.iv (.sl true 1 (real .chunk 1 (vec a)))), .one (.iv (.fn 115))] (bl (decide (z ≥ 0))) [] := by
    obtain ⟨n, h⟩ := h138
    exact Plays.wp (vf := v114) rfl rfl ⟨n, fun A call hA hcall => by subst hA; subst hcall; exact w114 real _ _ _ 115 z h (geq_real _ _)⟩
  have h81 : Pl 81 [vecF a] (bl (!(decide (z ≥ 0)))) [] := by
    obtain ⟨n, h⟩ := h114
    exact Plays.wp (vf := v81) rfl rfl ⟨n, fun A call hA hcall => by subst hA; subst hcall; exact w81 real _ _ _ h⟩
  rw [hgb] at h81
  obtain ⟨n, h⟩ := h81
  exact Plays.wp (vf := v32) rfl rfl ⟨n, fun A call hA hcall => by subst hA; subst hcall; exact w32 real _ _ _ h⟩
end Go.Proofs.Ytomchclmnmhjaaa
