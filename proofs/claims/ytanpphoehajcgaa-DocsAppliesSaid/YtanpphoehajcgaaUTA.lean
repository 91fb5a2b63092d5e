/- Numbers as facts; small functions of layer 3. -/
import Derived.Test.YtanpphoehajcgaaCGE
set_option linter.unusedSimpArgs false
set_option linter.unusedVariables false
set_option maxRecDepth 100000
set_option maxHeartbeats 1000000
namespace Go.Proofs.Ytanpphoehajcgaa
open Go GoV


theorem e132 (A : Ar) (call : CallT) (it : IterT) (r : Int) {b1 b2 b3 b4 : Bool} (h1 : A .cmp .geq r 0 = b1) (h2 : A .cmp .lss r 55296 = b2) (h3 : A .cmp .gtr r 57343 = b3) (h4 : A .cmp .leq r 1114111 = b4) :
    bodyV A call it v132 [i64 r] [] = some (bl ((b1 && b2) || (b3 && b4)), []) := by
  conv => lhs; cbv
  rewrite [h1]
  cases b1 <;> (conv => lhs; cbv)
  · rewrite [h3]
    cases b3 <;> (conv => lhs; cbv) <;> try rfl
    rewrite [h4]
    rfl
  · rewrite [h2]
    cases b2 <;> (conv => lhs; cbv) <;> try rfl
    rewrite [h3]
    cases b3 <;> (conv => lhs; cbv) <;> try rfl
    rewrite [h4]
    rfl
theorem e111 (A : Ar) (call : CallT) (it : IterT) (r : Int) {b1 b2 b3 b4 : Bool} (h1 : A .cmp .geq r 0 = b1) (h2 : A .cmp .leq r 1114111 = b2) (h3 : A .cmp .lss r 55296 = b3) (h4 : A .cmp .gtr r 57343 = b4) :
    bodyV A call it v111 [i64 r] [] = some (bl (b1 && (b2 && (b3 || b4))), []) := by
  conv => lhs; cbv
  rewrite [h1]
  cases b1 <;> (conv => lhs; cbv) <;> try rfl
  rewrite [h2]
  cases b2 <;> (conv => lhs; cbv) <;> try rfl
  rewrite [h3]
  cases b3 <;> (conv => lhs; cbv) <;> try rfl
  rewrite [h4]
  rfl
/-- A sign's number. -/
def isSign (r : Int) : Bool := decide (0 ≤ r ∧ r ≤ 1114111 ∧ (r < 55296 ∨ 57343 < r))
theorem p132 (r : Int) : Pl 132 [i64 r] (bl (isSign r)) [] := by
  have h := e132 real (play real (lookT tab) (fun _ => clonePr clones) 0) (iterN 0) r (geq_real _ _) (lss_real _ _) (gtr_real _ _) (leq_real _ _)
  have e : ((decide (r ≥ 0) && decide (r < 55296)) || (decide (r > 57343) && decide (r ≤ 1114111))) = isSign r := by
    rw [Bool.eq_iff_iff]; simp only [isSign, Bool.or_eq_true, Bool.and_eq_true, decide_eq_true_eq]; omega
  rw [e] at h
  exact Plays.body pr_mono (vf := v132) rfl ⟨0, h⟩
theorem p111 (r : Int) : Pl 111 [i64 r] (bl (isSign r)) [] := by
  have h := e111 real (play real (lookT tab) (fun _ => clonePr clones) 0) (iterN 0) r (geq_real _ _) (leq_real _ _) (lss_real _ _) (gtr_real _ _)
  have e : (decide (r ≥ 0) && (decide (r ≤ 1114111) && (decide (r < 55296) || decide (r > 57343)))) = isSign r := by
    rw [Bool.eq_iff_iff]; simp only [isSign, Bool.or_eq_true, Bool.and_eq_true, decide_eq_true_eq]; try omega
  rw [e] at h
  exact Plays.body pr_mono (vf := v111) rfl ⟨0, h⟩
theorem p112 {b : Int} (h0 : 0 ≤ b) (h1 : b < 256) : Pl 112 [u8 b] (i64 (b % 64)) [] := by
  refine Plays.wp (vf := v112) rfl rfl ⟨0, fun A call hA hcall => ?_⟩
  obtain ⟨m, hm⟩ : ∃ m, m = b % 64 := ⟨_, rfl⟩
  rw [← hm]
  apply wpV_seq; refine wpV_of (by ((conv => lhs; cbv); (try (with_reducible rfl)))) ?_
  (refine wpV_of (by ((conv => lhs; cbv); (repeat ((first | rewrite [ckI hA (a := b) (by omega)] | rewrite [nzR hA (a := 64) (by decide)] | rewrite [remR hA h0 hm]); (try (conv => lhs; cbv)))); (try (with_reducible rfl)))) ?_; (show finV _ _ _ = some _; ((conv => lhs; cbv); (repeat ((first | rewrite [ckI hA (a := b) (by omega)] | rewrite [nzR hA (a := 64) (by decide)] | rewrite [remR hA h0 hm]); (try (conv => lhs; cbv)))); (try (with_reducible rfl))); (try rfl)))
/-! ### The shape that a byte begins -/
def fS (b : Int) : Int := if b < 128 then 1 else if b < 192 then 0 else if b < 224 then 2 else if b < 240 then 3 else if b < 248 then 4 else 0
def fB (b : Int) : Int := if b < 128 then b else if b < 192 then 0 else if b < 224 then b % 32 else if b < 240 then b % 16 else if b < 248 then b % 8 else 0
def fL (b : Int) : Int := if b < 128 then 0 else if b < 192 then 0 else if b < 224 then 128 else if b < 240 then 2048 else if b < 248 then 65536 else 0
theorem and_u8 (m : Int) (k : Nat) (hm : ∀ x : Fin 256, real .ar .and .u8 (x.val : Int) m = ((x.val % k : Nat) : Int)) {b : Int} (h0 : 0 ≤ b) (h1 : b < 256) : real .ar .and .u8 b m = b % k := by
  have h := hm ⟨b.toNat, by omega⟩
  simp only [Int.toNat_of_nonneg h0] at h
  rw [h, Int.natCast_emod, Int.toNat_of_nonneg h0]
theorem and31 {b : Int} (h0 : 0 ≤ b) (h1 : b < 256) : real .ar .and .u8 b 31 = b % 32 := and_u8 31 32 (by decide +kernel) h0 h1
theorem and15 {b : Int} (h0 : 0 ≤ b) (h1 : b < 256) : real .ar .and .u8 b 15 = b % 16 := and_u8 15 16 (by decide +kernel) h0 h1
theorem and7 {b : Int} (h0 : 0 ≤ b) (h1 : b < 256) : real .ar .and .u8 b 7 = b % 8 := and_u8 7 8 (by decide +kernel) h0 h1
theorem and63 {b : Int} (h0 : 0 ≤ b) (h1 : b < 256) : real .ar .and .u8 b 63 = b % 64 := and_u8 63 64 (by decide +kernel) h0 h1
theorem and192' : ∀ x : Fin 256, real .ar .and .u8 (x.val : Int) 192 = (x.val : Int) / 64 * 64 := by decide +kernel
theorem and192 {b : Int} (h0 : 0 ≤ b) (h1 : b < 256) : real .ar .and .u8 b 192 = b / 64 * 64 := by
  have h := and192' ⟨b.toNat, by omega⟩
  simp only [Int.toNat_of_nonneg h0] at h
  exact h
abbrev shF (a b c : Int) : FV := .agg [.iv (.int .i64 a), .iv (.int .i64 b), .iv (.int .i64 c)]
theorem p110 {b : Int} (h0 : 0 ≤ b) (h1 : b < 256) : Pl 110 [u8 b] (shF (fS b) (fB b) (fL b)) [] := by
  refine Plays.wp (vf := v110) rfl rfl ⟨0, fun A call hA hcall => ?_⟩
  by_cases c1 : b < 128
  · rw [show fS b = 1 by simp [fS, c1], show fB b = b by simp [fB, c1], show fL b = 0 by simp [fL, c1]]
    (refine wpV_of (by ((conv => lhs; cbv); (repeat ((first | rewrite [ltT hA c1] | rewrite [ckI hA (a := b) (by omega)]); (try (conv => lhs; cbv)))); (try (with_reducible rfl)))) ?_; (show finV _ _ _ = some _; ((conv => lhs; cbv); (repeat ((first | rewrite [ltT hA c1] | rewrite [ckI hA (a := b) (by omega)]); (try (conv => lhs; cbv)))); (try (with_reducible rfl))); (try rfl)))
  by_cases c2 : b < 192
  · rw [show fS b = 0 by simp [fS, c1, c2], show fB b = 0 by simp [fB, c1, c2], show fL b = 0 by simp [fL, c1, c2]]
    (refine wpV_of (by ((conv => lhs; cbv); (repeat ((first | rewrite [ltF hA (a := b) (b := 128) (by omega)] | rewrite [ltT hA c2]); (try (conv => lhs; cbv)))); (try (with_reducible rfl)))) ?_; (show finV _ _ _ = some _; ((conv => lhs; cbv); (repeat ((first | rewrite [ltF hA (a := b) (b := 128) (by omega)] | rewrite [ltT hA c2]); (try (conv => lhs; cbv)))); (try (with_reducible rfl))); (try rfl)))
  by_cases c3 : b < 224
  · rw [show fS b = 2 by simp [fS, c1, c2, c3], show fB b = b % 32 by simp [fB, c1, c2, c3], show fL b = 128 by simp [fL, c1, c2, c3]]
    have h := and31 h0 h1
    rw [← hA] at h
    obtain ⟨m, hm⟩ : ∃ m, m = b % 32 := ⟨_, rfl⟩
    rw [← hm] at h ⊢
    (refine wpV_of (by ((conv => lhs; cbv); (repeat ((first | rewrite [ltF hA (a := b) (b := 128) (by omega)] | rewrite [ltF hA (a := b) (b := 192) (by omega)] | rewrite [ltT hA c3] | rewrite [h] | rewrite [ckI hA (a := m) (by omega)]); (try (conv => lhs; cbv)))); (try (with_reducible rfl)))) ?_; (show finV _ _ _ = some _; ((conv => lhs; cbv); (repeat ((first | rewrite [ltF hA (a := b) (b := 128) (by omega)] | rewrite [ltF hA (a := b) (b := 192) (by omega)] | rewrite [ltT hA c3] | rewrite [h] | rewrite [ckI hA (a := m) (by omega)]); (try (conv => lhs; cbv)))); (try (with_reducible rfl))); (try rfl)))
  by_cases c4 : b < 240
  · rw [show fS b = 3 by simp [fS, c1, c2, c3, c4], show fB b = b % 16 by simp [fB, c1, c2, c3, c4], show fL b = 2048 by simp [fL, c1, c2, c3, c4]]
    have h := and15 h0 h1
    rw [← hA] at h
    obtain ⟨m, hm⟩ : ∃ m, m = b % 16 := ⟨_, rfl⟩
    rw [← hm] at h ⊢
    (refine wpV_of (by ((conv => lhs; cbv); (repeat ((first | rewrite [ltF hA (a := b) (b := 128) (by omega)] | rewrite [ltF hA (a := b) (b := 192) (by omega)] | rewrite [ltF hA (a := b) (b := 224) (by omega)] | rewrite [ltT hA c4] | rewrite [h] | rewrite [ckI hA (a := m) (by omega)]); (try (conv => lhs; cbv)))); (try (with_reducible rfl)))) ?_; (show finV _ _ _ = some _; ((conv => lhs; cbv); (repeat ((first | rewrite [ltF hA (a := b) (b := 128) (by omega)] | rewrite [ltF hA (a := b) (b := 192) (by omega)] | rewrite [ltF hA (a := b) (b := 224) (by omega)] | rewrite [ltT hA c4] | rewrite [h] | rewrite [ckI hA (a := m) (by omega)]); (try (conv => lhs; cbv)))); (try (with_reducible rfl))); (try rfl)))
  by_cases c5 : b < 248
  · rw [show fS b = 4 by simp [fS, c1, c2, c3, c4, c5], show fB b = b % 8 by simp [fB, c1, c2, c3, c4, c5], show fL b = 65536 by simp [fL, c1, c2, c3, c4, c5]]
    have h := and7 h0 h1
    rw [← hA] at h
    obtain ⟨m, hm⟩ : ∃ m, m = b % 8 := ⟨_, rfl⟩
    rw [← hm] at h ⊢
    (refine wpV_of (by ((conv => lhs; cbv); (repeat ((first | rewrite [ltF hA (a := b) (b := 128) (by omega)] | rewrite [ltF hA (a := b) (b := 192) (by omega)] | rewrite [ltF hA (a := b) (b := 224) (by omega)] | rewrite [ltF hA (a := b) (b := 240) (by omega)] | rewrite [ltT hA c5] | rewrite [h] | rewrite [ckI hA (a := m) (by omega)]); (try (conv => lhs; cbv)))); (try (with_reducible rfl)))) ?_; (show finV _ _ _ = some _; ((conv => lhs; cbv); (repeat ((first | rewrite [ltF hA (a := b) (b := 128) (by omega)] | rewrite [ltF hA (a := b) (b := 192) (by omega)] | rewrite [ltF hA (a := b) (b := 224) (by omega)] | rewrite [ltF hA (a := b) (b := 240) (by omega)] | rewrite [ltT hA c5] | rewrite [h] | rewrite [ckI hA (a := m) (by omega)]); (try (conv => lhs; cbv)))); (try (with_reducible rfl))); (try rfl)))
  · rw [show fS b = 0 by simp [fS, c1, c2, c3, c4, c5], show fB b = 0 by simp [fB, c1, c2, c3, c4, c5], show fL b = 0 by simp [fL, c1, c2, c3, c4, c5]]
    (refine wpV_of (by ((conv => lhs; cbv); (repeat ((first | rewrite [ltF hA (a := b) (b := 128) (by omega)] | rewrite [ltF hA (a := b) (b := 192) (by omega)] | rewrite [ltF hA (a := b) (b := 224) (by omega)] | rewrite [ltF hA (a := b) (b := 240) (by omega)] | rewrite [ltF hA (a := b) (b := 248) (by omega)]); (try (conv => lhs; cbv)))); (try (with_reducible rfl)))) ?_; (show finV _ _ _ = some _; ((conv => lhs; cbv); (repeat ((first | rewrite [ltF hA (a := b) (b := 128) (by omega)] | rewrite [ltF hA (a := b) (b := 192) (by omega)] | rewrite [ltF hA (a := b) (b := 224) (by omega)] | rewrite [ltF hA (a := b) (b := 240) (by omega)] | rewrite [ltF hA (a := b) (b := 248) (by omega)]); (try (conv => lhs; cbv)))); (try (with_reducible rfl))); (try rfl)))
/-! ### The bytes of a sign -/
def bytesOf (r : Int) : List Int :=
  if isSign r = false then [] else if r ≤ 127 then [r] else if r ≤ 2047 then [192 + r / 64, 128 + r % 64] else if r ≤ 65535 then [224 + r / 4096, 128 + r / 64 % 64, 128 + r % 64] else [240 + r / 262144, 128 + r / 4096 % 64, 128 + r / 64 % 64, 128 + r % 64]
def encB (l : List Int) : List (List IV) := l.map fun n => [.int .u8 n]
def zB (r : Int) : Nat := bif isSign r then 1 else 0
theorem p113 (r : Int) : Pl 113 [i64 r] (.one (.iv (.sl true (zB r) (encB (bytesOf r))))) [] := by
  obtain ⟨n, h132⟩ := p132 r
  refine Plays.wp (vf := v113) rfl rfl ⟨n, fun A call hA hcall => ?_⟩
  rw [← hcall] at h132
  cases hs : isSign r with
  | false =>
    rw [hs] at h132
    rw [show bytesOf r = [] by simp [bytesOf, hs], show zB r = 0 by simp [zB, hs]]
    (refine wpV_of (by ((conv => lhs; cbv); (repeat ((first | rewrite [h132]); (try (conv => lhs; cbv)))); (try (with_reducible rfl)))) ?_; (show finV _ _ _ = some _; ((conv => lhs; cbv); (repeat ((first | rewrite [h132]); (try (conv => lhs; cbv)))); (try (with_reducible rfl))); (try rfl)))
  | true =>
    rw [hs] at h132
    have hr : 0 ≤ r ∧ r ≤ 1114111 := by simp only [isSign, decide_eq_true_eq] at hs; omega
    rw [show zB r = 1 by simp [zB, hs]]
    by_cases c1 : r ≤ 127
    · rw [show bytesOf r = [r] by simp [bytesOf, hs, c1]]
      (refine wpV_of (by ((conv => lhs; cbv); (repeat ((first | rewrite [h132] | rewrite [leT hA c1] | rewrite [ckU hA (a := r) (by omega) (by omega)]); (try (conv => lhs; cbv)))); (try (with_reducible rfl)))) ?_; (show finV _ _ _ = some _; ((conv => lhs; cbv); (repeat ((first | rewrite [h132] | rewrite [leT hA c1] | rewrite [ckU hA (a := r) (by omega) (by omega)]); (try (conv => lhs; cbv)))); (try (with_reducible rfl))); (try rfl)))
    obtain ⟨m1, hm1⟩ : ∃ m, m = r % 64 := ⟨_, rfl⟩
    obtain ⟨n1, hn1⟩ : ∃ m, m = 128 + m1 := ⟨_, rfl⟩
    obtain ⟨q1, hq1⟩ : ∃ m, m = r / 64 := ⟨_, rfl⟩
    have k1 := leF hA (a := r) (b := 127) (by omega)
    have k64 := nzR hA (a := 64) (by decide)
    have e1 := remR hA (a := r) (b := 64) (by omega) hm1
    have e2 := addR hA (a := 128) (b := m1) hn1 (by omega)
    have e3 := ckU hA (a := n1) (by omega) (by omega)
    have e4 := quoR hA (a := r) (b := 64) (by omega) hq1 (by omega)
    by_cases c2 : r ≤ 2047
    · obtain ⟨a1, ha1⟩ : ∃ m, m = 192 + q1 := ⟨_, rfl⟩
      rw [show bytesOf r = [a1, n1] by simp [bytesOf, hs, c1, c2, ha1, hn1, hq1, hm1]]
      have e5 := addR hA (a := 192) (b := q1) ha1 (by omega)
      have e6 := ckU hA (a := a1) (by omega) (by omega)
      (refine wpV_of (by ((conv => lhs; cbv); (repeat ((first | rewrite [h132] | rewrite [k1] | rewrite [leT hA c2] | rewrite [k64] | rewrite [e1] | rewrite [e2] | rewrite [e3] | rewrite [e4] | rewrite [e5] | rewrite [e6]); (try (conv => lhs; cbv)))); (try (with_reducible rfl)))) ?_; (show finV _ _ _ = some _; ((conv => lhs; cbv); (repeat ((first | rewrite [h132] | rewrite [k1] | rewrite [leT hA c2] | rewrite [k64] | rewrite [e1] | rewrite [e2] | rewrite [e3] | rewrite [e4] | rewrite [e5] | rewrite [e6]); (try (conv => lhs; cbv)))); (try (with_reducible rfl))); (try rfl)))
    have k2 := leF hA (a := r) (b := 2047) (by omega)
    obtain ⟨m2, hm2⟩ : ∃ m, m = q1 % 64 := ⟨_, rfl⟩
    obtain ⟨n2, hn2⟩ : ∃ m, m = 128 + m2 := ⟨_, rfl⟩
    obtain ⟨q2, hq2⟩ : ∃ m, m = r / 4096 := ⟨_, rfl⟩
    have g1 := remR hA (a := q1) (b := 64) (by omega) hm2
    have g2 := addR hA (a := 128) (b := m2) hn2 (by omega)
    have g3 := ckU hA (a := n2) (by omega) (by omega)
    have g4 := quoR hA (a := r) (b := 4096) (by omega) hq2 (by omega)
    have k4096 := nzR hA (a := 4096) (by decide)
    by_cases c3 : r ≤ 65535
    · obtain ⟨a1, ha1⟩ : ∃ m, m = 224 + q2 := ⟨_, rfl⟩
      rw [show bytesOf r = [a1, n2, n1] by simp [bytesOf, hs, c1, c2, c3, ha1, hn1, hq1, hm1, hn2, hm2, hq2]]
      have e5 := addR hA (a := 224) (b := q2) ha1 (by omega)
      have e6 := ckU hA (a := a1) (by omega) (by omega)
      (refine wpV_of (by ((conv => lhs; cbv); (repeat ((first | rewrite [h132] | rewrite [k1] | rewrite [k2] | rewrite [leT hA c3] | rewrite [k64] | rewrite [k4096] | rewrite [e1] | rewrite [e2] | rewrite [e3] | rewrite [e4] | rewrite [g1] | rewrite [g2] | rewrite [g3] | rewrite [g4] | rewrite [e5] | rewrite [e6]); (try (conv => lhs; cbv)))); (try (with_reducible rfl)))) ?_; (show finV _ _ _ = some _; ((conv => lhs; cbv); (repeat ((first | rewrite [h132] | rewrite [k1] | rewrite [k2] | rewrite [leT hA c3] | rewrite [k64] | rewrite [k4096] | rewrite [e1] | rewrite [e2] | rewrite [e3] | rewrite [e4] | rewrite [g1] | rewrite [g2] | rewrite [g3] | rewrite [g4] | rewrite [e5] | rewrite [e6]); (try (conv => lhs; cbv)))); (try (with_reducible rfl))); (try rfl)))
    have k3 := leF hA (a := r) (b := 65535) (by omega)
    obtain ⟨m3, hm3⟩ : ∃ m, m = q2 % 64 := ⟨_, rfl⟩
    obtain ⟨n3, hn3⟩ : ∃ m, m = 128 + m3 := ⟨_, rfl⟩
    obtain ⟨q3, hq3⟩ : ∃ m, m = r / 262144 := ⟨_, rfl⟩
    have f1 := remR hA (a := q2) (b := 64) (by omega) hm3
    have f2 := addR hA (a := 128) (b := m3) hn3 (by omega)
    have f3 := ckU hA (a := n3) (by omega) (by omega)
    have f4 := quoR hA (a := r) (b := 262144) (by omega) hq3 (by omega)
    have k262144 := nzR hA (a := 262144) (by decide)
    obtain ⟨a1, ha1⟩ : ∃ m, m = 240 + q3 := ⟨_, rfl⟩
    rw [show bytesOf r = [a1, n3, n2, n1] by simp [bytesOf, hs, c1, c2, c3, ha1, hn1, hq1, hm1, hn2, hm2, hq2, hn3, hm3, hq3]]
    have e5 := addR hA (a := 240) (b := q3) ha1 (by omega)
    have e6 := ckU hA (a := a1) (by omega) (by omega)
    (refine wpV_of (by ((conv => lhs; cbv); (repeat ((first | rewrite [h132] | rewrite [k1] | rewrite [k2] | rewrite [k3] | rewrite [k64] | rewrite [k4096] | rewrite [k262144] | rewrite [e1] | rewrite [e2] | rewrite [e3] | rewrite [e4] | rewrite [g1] | rewrite [g2] | rewrite [g3] | rewrite [g4] | rewrite [f1] | rewrite [f2] | rewrite [f3] | rewrite [f4] | rewrite [e5] | rewrite [e6]); (try (conv => lhs; cbv)))); (try (with_reducible rfl)))) ?_; (show finV _ _ _ = some _; ((conv => lhs; cbv); (repeat ((first | rewrite [h132] | rewrite [k1] | rewrite [k2] | rewrite [k3] | rewrite [k64] | rewrite [k4096] | rewrite [k262144] | rewrite [e1] | rewrite [e2] | rewrite [e3] | rewrite [e4] | rewrite [g1] | rewrite [g2] | rewrite [g3] | rewrite [g4] | rewrite [f1] | rewrite [f2] | rewrite [f3] | rewrite [f4] | rewrite [e5] | rewrite [e6]); (try (conv => lhs; cbv)))); (try (with_reducible rfl))); (try rfl)))
end Go.Proofs.Ytanpphoehajcgaa
