/- Small functions of layer 8, as equations. -/
import Derived.Test.YtomchclmnmhjaaaPXCode
set_option linter.unusedSimpArgs false
set_option linter.unusedVariables false
set_option maxRecDepth 100000
namespace Go.Proofs.Ytomchclmnmhjaaa
open Go GoV

def vec (v : List Int) : List IV := v.map (.int .i64 ·)
abbrev dotF (r n : Int) : FV := .agg [.iv (.int .i64 r), .iv (.int .i64 n)]
abbrev vecF (v : List Int) : FV := .agg [.iv (.arr 64 (vec v))]
def validB (r n : Int) : Bool := decide (r ≥ 0) && (decide (r < 64) && (decide (n ≥ 1) && decide (n ≤ 1073741824)))

theorem e18 (A : Ar) (call : CallT) (it : IterT) (r n : Int) {b1 b2 b3 b4 : Bool} (h1 : A .cmp .geq r 0 = b1) (h2 : A .cmp .lss r 64 = b2) (h3 : A .cmp .geq n 1 = b3) (h4 : A .cmp .leq n 1073741824 = b4) :
    bodyV A call it v18 [dotF r n] [] = some (bl (b1 && (b2 && (b3 && b4))), []) := by
  conv => lhs; cbv
  rewrite [h1]
  cases b1 <;> (conv => lhs; cbv) <;> try rfl
  rewrite [h2]
  cases b2 <;> (conv => lhs; cbv) <;> try rfl
  rewrite [h3]
  cases b3 <;> (conv => lhs; cbv) <;> try rfl
  rewrite [h4]
  rfl
theorem e19 (A : Ar) (call : CallT) (it : IterT) (r n : Int) {b1 b2 b3 b4 : Bool} (h1 : A .cmp .geq r 0 = b1) (h2 : A .cmp .leq r 63 = b2) (h3 : A .cmp .geq n 1 = b3) (h4 : A .cmp .leq n 1073741824 = b4) :
    bodyV A call it v19 [dotF r n] [] = some (bl (b1 && (b2 && (b3 && b4))), []) := by
  conv => lhs; cbv
  rewrite [h1]
  cases b1 <;> (conv => lhs; cbv) <;> try rfl
  rewrite [h2]
  cases b2 <;> (conv => lhs; cbv) <;> try rfl
  rewrite [h3]
  cases b3 <;> (conv => lhs; cbv) <;> try rfl
  rewrite [h4]
  rfl
theorem p18 (r n : Int) : Pl 18 [dotF r n] (bl (validB r n)) [] :=
  Plays.body pr_mono (vf := v18) rfl ⟨0, e18 real _ _ r n (geq_real _ _) (lss_real _ _) (geq_real _ _) (leq_real _ _)⟩
theorem p19 (r n : Int) : Pl 19 [dotF r n] (bl (validB r n)) [] := by
  have h : decide (r ≤ 63) = decide (r < 64) := by simp; omega
  exact Plays.body pr_mono (vf := v19) rfl ⟨0, by rw [e19 real _ _ r n (geq_real _ _) (leq_real _ _) (geq_real _ _) (leq_real _ _), h]; rfl⟩

theorem e21 (A : Ar) (call : CallT) (it : IterT) (xs : List IV) (r n : Int) {b c : Bool} {k : Nat} {x : Int} (hc : call 18 [dotF r n] [] = some (bl b, [])) (h1 : b = true → A .at_ r 64 = some k) (h2 : b = true → A .getc xs r = some (.int .i64 x)) (h3 : A .cmp .leq n x = c) :
    bodyV A call it v21 [.agg [.iv (.arr 64 xs)], dotF r n] [] = some (bl (b && c), []) := by
  conv => lhs; cbv
  rewrite [hc]
  conv => lhs; cbv
  cases b
  · conv => lhs; cbv
    try rfl
  · conv => lhs; cbv
    rewrite [h1 rfl]
    conv => lhs; cbv
    rewrite [h2 rfl]
    conv => lhs; cbv
    rewrite [h3]
    rfl
theorem e22 (A : Ar) (call : CallT) (it : IterT) (xs : List IV) (r n : Int) {b c : Bool} {k : Nat} {x : Int} (hc : call 19 [dotF r n] [] = some (bl b, [])) (h1 : b = true → A .at_ r 64 = some k) (h2 : b = true → A .getc xs r = some (.int .i64 x)) (h3 : A .cmp .geq x n = c) :
    bodyV A call it v22 [.agg [.iv (.arr 64 xs)], dotF r n] [] = some (bl (b && c), []) := by
  conv => lhs; cbv
  rewrite [hc]
  conv => lhs; cbv
  cases b
  · conv => lhs; cbv
    try rfl
  · conv => lhs; cbv
    rewrite [h1 rfl]
    conv => lhs; cbv
    rewrite [h2 rfl]
    conv => lhs; cbv
    rewrite [h3]
    rfl
def hasB (v : List Int) (r n : Int) : Bool := validB r n && decide (n ≤ v.getD r.toNat 0)
theorem validB_range {r n : Int} (h : validB r n = true) : 0 ≤ r ∧ r < 64 ∧ 1 ≤ n ∧ n ≤ 1073741824 := by
  simp [validB] at h; omega
theorem at_real {r : Int} {n : Nat} (h0 : 0 ≤ r) (h : r < n) : real .at_ r n = some r.toNat := by
  rw [real_at]; simp [rIdx, h0, h]
theorem getc_real {v : List Int} {r : Int} (h0 : 0 ≤ r) (h : r < v.length) : real .getc (vec v) r = some (.int .i64 (v.getD r.toNat 0)) := by
  have hl : r.toNat < v.length := by omega
  rw [real_getc, if_pos h0, vec, List.getElem?_map, List.getElem?_eq_getElem hl, List.getD_eq_getElem?_getD, List.getElem?_eq_getElem hl]
  rfl
theorem p21 {v : List Int} (hv : v.length = 64) (r n : Int) : Pl 21 [vecF v, dotF r n] (bl (hasB v r n)) [] := by
  obtain ⟨n0, h0⟩ := p18 r n
  refine Plays.body pr_mono (vf := v21) rfl ⟨n0, ?_⟩
  exact e21 real _ _ _ r n h0 (fun h => at_real (validB_range h).1 (validB_range h).2.1) (fun h => getc_real (validB_range h).1 (by rw [hv]; exact (validB_range h).2.1)) (leq_real _ _)
theorem p22 {v : List Int} (hv : v.length = 64) (r n : Int) : Pl 22 [vecF v, dotF r n] (bl (hasB v r n)) [] := by
  obtain ⟨n0, h0⟩ := p19 r n
  refine Plays.body pr_mono (vf := v22) rfl ⟨n0, ?_⟩
  exact e22 real _ _ _ r n h0 (fun h => at_real (validB_range h).1 (validB_range h).2.1) (fun h => getc_real (validB_range h).1 (by rw [hv]; exact (validB_range h).2.1)) (geq_real _ _)

theorem e23 (A : Ar) (call : CallT) (it : IterT) (xs xs' : List IV) (r n : Int) {b : Bool} {k : Nat} {x : Int} (hc : call 18 [dotF r n] [] = some (bl b, [])) (h1 : b = true → A .at_ r 64 = some k) (h2 : b = true → A .getc xs r = some (.int .i64 x)) (h3 : b = true → A .setc xs r (.int .i64 (A .mx x n)) = some xs') :
    bodyV A call it v23 [.agg [.iv (.arr 64 xs)], dotF r n] [] = some (.agg [.iv (.arr 64 (bif b then xs' else xs))], []) := by
  conv => lhs; cbv
  rewrite [hc]
  conv => lhs; cbv
  cases b
  · conv => lhs; cbv
    try rfl
  · conv => lhs; cbv
    repeat ((first | rewrite [h1 rfl] | rewrite [h2 rfl] | rewrite [h3 rfl]); (try (conv => lhs; cbv)))
    try rfl
def withB (v : List Int) (r n : Int) : List Int := if validB r n then v.set r.toNat (max (v.getD r.toNat 0) n) else v
theorem withB_len (v : List Int) (r n : Int) : (withB v r n).length = v.length := by unfold withB; split <;> simp
theorem mx_real (a b : Int) : real .mx a b = max a b := by
  rw [real_mx]; omega
theorem setc_real {v : List Int} {r : Int} (h0 : 0 ≤ r) (h : r < v.length) (x : Int) : real .setc (vec v) r (.int .i64 x) = some (vec (v.set r.toNat x)) := by
  rw [real_setc, if_pos ⟨h0, by simpa [vec] using h, rfl⟩]
  simp [vec, List.map_set]
theorem p23 {v : List Int} (hv : v.length = 64) (r n : Int) : Pl 23 [vecF v, dotF r n] (vecF (withB v r n)) [] := by
  obtain ⟨n0, h0⟩ := p18 r n
  refine Plays.body pr_mono (vf := v23) rfl ⟨n0, ?_⟩
  rw [e23 real _ _ _ (vec (v.set r.toNat (max (v.getD r.toNat 0) n))) r n h0 (fun h => at_real (validB_range h).1 (validB_range h).2.1) (fun h => getc_real (validB_range h).1 (by rw [hv]; exact (validB_range h).2.1))
    (fun h => by rw [mx_real]; exact setc_real (validB_range h).1 (by rw [hv]; exact (validB_range h).2.1) _)]
  unfold withB
  cases validB r n <;> rfl

def N31 (a b : List IV) (i : Int) : St := ⟨0, [u, u, u, .one (.ptr 0 0), u, u, u, .agg [.iv (.arr 64 a)], i64 i, u, u, u, u, u, u, u, u, u], [.var false [.iv (.arr 64 b)]]⟩
theorem r31 (A : Ar) (call : CallT) (it : IterT) (a b : List IV) (i x y : Int) {k : Nat} (h1 : A .cmp .lss i 64 = true) (h2 : A .getc a i = some (.int .i64 x)) (h3 : A .at_ i 64 = some k) (h4 : A .getc b i = some (.int .i64 y)) (h5 : A .cmp .gtr x y = false) :
    stepH A call it false [3, 7, 8] l31_0 (N31 a b i) = some (.normal, N31 a b (A .ar .add .i64 i 1)) := by
  conv => lhs; cbv
  rewrite [h1]
  conv => lhs; cbv
  rewrite [h2]
  conv => lhs; cbv
  rewrite [h3]
  conv => lhs; cbv
  rewrite [h4]
  conv => lhs; cbv
  rewrite [h5]
  conv => lhs; cbv
  try rfl
theorem q31 (A : Ar) (call : CallT) (it : IterT) (a b : List IV) (i x y : Int) {k : Nat} (h1 : A .cmp .lss i 64 = true) (h2 : A .getc a i = some (.int .i64 x)) (h3 : A .at_ i 64 = some k) (h4 : A .getc b i = some (.int .i64 y)) (h5 : A .cmp .gtr x y = true) :
    ∃ s, stepH A call it false [3, 7, 8] l31_0 (N31 a b i) = some (.ret, s) ∧ finV A v31 (.ret, s) = some (bl false, []) := by
  apply Exists.intro
  apply And.intro
  · conv => lhs; cbv
    repeat ((first | rewrite [h1] | rewrite [h2] | rewrite [h3] | rewrite [h4] | rewrite [h5]); (try (conv => lhs; cbv)))
    try rfl
  · rfl
theorem x31 (A : Ar) (call : CallT) (it : IterT) (a b : List IV) (i : Int) (h1 : A .cmp .lss i 64 = false) :
    ∃ s, stepH A call it false [3, 7, 8] l31_0 (N31 a b i) = some (.exit 0, s) ∧ ∃ s2, crun A call it (.seq (.region false [⟨some 4, .mov none (.k (.one (.iv (.bool true)))), [], none⟩]) .ret) s = some (.ret, s2) ∧ finV A v31 (.ret, s2) = some (bl true, []) := by
  apply Exists.intro
  apply And.intro
  · conv => lhs; cbv
    rewrite [h1]
    conv => lhs; cbv
    try rfl
  · apply Exists.intro
    apply And.intro
    · conv => lhs; cbv
      try rfl
    · rfl
def withinB (a b : List Int) : Bool := (List.range 64).all fun i => decide (a.getD i 0 ≤ b.getD i 0)
theorem getc_nat {v : List Int} {i : Nat} (h : i < v.length) : real .getc (vec v) (i : Int) = some (.int .i64 (v.getD i 0)) := by
  rw [getc_real (by omega) (by omega)]; simp
theorem p31 {a b : List Int} (ha : a.length = 64) (hb : b.length = 64) : Pl 31 [vecF a, vecF b] (bl (withinB a b)) [] := by
  obtain ⟨m, h1, h2, h3⟩ := first_fail (p := fun i => a.getD i 0 ≤ b.getD i 0) 64
  refine Plays.body pr_mono (vf := v31) rfl ⟨65, ?_⟩
  have hstep : ∀ i, i < m → stepH real (play real (lookT tab) (fun _ => clonePr clones) 65) (iterN 65) false [3, 7, 8] l31_0 (N31 (vec a) (vec b) (i : Int)) = some (.normal, N31 (vec a) (vec b) ((i + 1 : Nat) : Int)) := by
    intro i hi
    have := h2 i hi
    rw [r31 real _ _ (vec a) (vec b) i (a.getD i 0) (b.getD i 0) (k := i) (by rw [lss_real]; simp; omega) (getc_nat (by omega)) (by rw [at_real (by omega) (by omega)]; simp) (getc_nat (by omega)) (by rw [gtr_real]; simpa using this)]
    rw [add_real (by unfold inI; omega)]
    simp
  have h0 : ∀ (A : Ar) (call : CallT) (it : IterT) (X Y : List IV), ∃ s0, crun A call it (.region false [⟨some 2, .box (.t 0), [], none⟩, ⟨some 3, .box (.t 1), [], none⟩, ⟨some 4, .mov none (.k (.one (.iv (.bool false)))), [], none⟩]) ⟨0, padE 18 [.agg [.iv (.arr 64 X)], .agg [.iv (.arr 64 Y)]], []⟩ = some (.normal, s0) ∧
      ∃ s1, crun A call it (.region false [⟨some 7, .load true 64 (.t 2), [], none⟩, ⟨some 8, .mov none (.k (.one (.iv (.int .i64 0)))), [], none⟩]) s0 = some (.normal, s1) ∧ headV false [3, 7, 8] s1 = some (N31 X Y 0) := by
    intro A call it X Y
    apply Exists.intro
    apply And.intro
    · conv => lhs; cbv
      try rfl
    · apply Exists.intro
      apply And.intro
      · conv => lhs; cbv
        try rfl
      · conv => lhs; cbv
        try rfl
  obtain ⟨s0, g1, s1, g2, g3⟩ := h0 real (play real (lookT tab) (fun _ => clonePr clones) 65) (iterN 65) (vec a) (vec b)
  rcases Nat.lt_or_ge m 64 with hm | hm
  · have hn : ¬ a.getD m 0 ≤ b.getD m 0 := by
      rcases h3 with h3 | h3
      · omega
      · exact h3
    obtain ⟨s, k1, k2⟩ := q31 real (play real (lookT tab) (fun _ => clonePr clones) 65) (iterN 65) (vec a) (vec b) m (a.getD m 0) (b.getD m 0) (k := m) (by rw [lss_real]; simp; omega) (getc_nat (by omega)) (by rw [at_real (by omega) (by omega)]; simp) (getc_nat (by omega)) (by rw [gtr_real]; exact decide_eq_true (by omega))
    have hw : withinB a b = false := by
      rw [← Bool.not_eq_true]
      intro h
      simp only [withinB, List.all_eq_true, List.mem_range, decide_eq_true_eq] at h
      exact hn (h m hm)
    rw [hw]
    exact bodyV_run rfl (crun_seq g1 (crun_seq_out (crun_seq g2 (crun_block_ret (loop_run (m := m) g3 hstep k1 (by simp) (by omega)))) (by simp))) k2
  · have : m = 64 := by omega
    subst this
    obtain ⟨s, k1, s2, k2, k3⟩ := x31 real (play real (lookT tab) (fun _ => clonePr clones) 65) (iterN 65) (vec a) (vec b) (64 : Nat) (by rw [lss_real]; simp)
    have hw : withinB a b = true := by
      simp only [withinB, List.all_eq_true, List.mem_range, decide_eq_true_eq]
      exact h2
    rw [hw]
    exact bodyV_run rfl (crun_seq g1 (crun_seq (crun_seq g2 (crun_block (loop_run (m := 64) g3 hstep k1 (by simp) (by omega)))) k2)) k3
end Go.Proofs.Ytomchclmnmhjaaa
