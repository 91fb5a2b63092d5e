/- Numbers as facts; small functions of layer 3. -/
import Derived.Test.YtlljgefgbglmbaaCGE
set_option linter.unusedSimpArgs false
set_option linter.unusedVariables false
set_option maxRecDepth 100000
set_option maxHeartbeats 1000000
namespace Go.Proofs.Ytlljgefgbglmbaa
open Go GoV


theorem e122 (A : Ar) (call : CallT) (it : IterT) (r : Int) {b1 b2 b3 b4 : Bool} (h1 : A .cmp .geq r 0 = b1) (h2 : A .cmp .leq r 1114111 = b2) (h3 : A .cmp .lss r 55296 = b3) (h4 : A .cmp .gtr r 57343 = b4) :
    bodyV A call it v122 [i64 r] [] = some (bl (b1 && (b2 && (b3 || b4))), []) := by
  conv => lhs; cbv
  rewrite [h1]
  cases b1 <;> (conv => lhs; cbv) <;> try rfl
  rewrite [h2]
  cases b2 <;> (conv => lhs; cbv) <;> try rfl
  rewrite [h3]
  cases b3 <;> (conv => lhs; cbv) <;> try rfl
  rewrite [h4]
  rfl
/-- A sign's number. -/
def isSign (r : Int) : Bool := decide (0 ≤ r ∧ r ≤ 1114111 ∧ (r < 55296 ∨ 57343 < r))
theorem p122 (r : Int) : Pl 122 [i64 r] (bl (isSign r)) [] := by
  have h := e122 real (play real (lookT tab) (fun _ => clonePr clones) 0) (iterN 0) r (geq_real _ _) (leq_real _ _) (lss_real _ _) (gtr_real _ _)
  have e : (decide (r ≥ 0) && (decide (r ≤ 1114111) && (decide (r < 55296) || decide (r > 57343)))) = isSign r := by
    rw [Bool.eq_iff_iff]; simp only [isSign, Bool.or_eq_true, Bool.and_eq_true, decide_eq_true_eq]; try omega
  rw [e] at h
  exact Plays.body pr_mono (vf := v122) rfl ⟨0, h⟩
/-! ### The shape that a byte begins -/
def fS (b : Int) : Int := if b < 128 then 1 else if b < 192 then 0 else if b < 224 then 2 else if b < 240 then 3 else if b < 248 then 4 else 0
def fB (b : Int) : Int := if b < 128 then b else if b < 192 then 0 else if b < 224 then b % 32 else if b < 240 then b % 16 else if b < 248 then b % 8 else 0
def fL (b : Int) : Int := if b < 128 then 0 else if b < 192 then 0 else if b < 224 then 128 else if b < 240 then 2048 else if b < 248 then 65536 else 0
theorem and_u8 (m : Int) (k : Nat) (hm : ∀ x : Fin 256, real .ar .and .u8 (x.val : Int) m = ((x.val % k : Nat) : Int)) {b : Int} (h0 : 0 ≤ b) (h1 : b < 256) : real .ar .and .u8 b m = b % k := by
  have h := hm ⟨b.toNat, by omega⟩
  simp only [Int.toNat_of_nonneg h0] at h
  rw [h, Int.natCast_emod, Int.toNat_of_nonneg h0]
theorem and31 {b : Int} (h0 : 0 ≤ b) (h1 : b < 256) : real .ar .and .u8 b 31 = b % 32 := and_u8 31 32 (by decide +kernel) h0 h1
theorem and15 {b : Int} (h0 : 0 ≤ b) (h1 : b < 256) : real .ar .and .u8 b 15 = b % 16 := and_u8 15 16 (by decide +kernel) h0 h1
theorem and7 {b : Int} (h0 : 0 ≤ b) (h1 : b < 256) : real .ar .and .u8 b 7 = b % 8 := and_u8 7 8 (by decide +kernel) h0 h1
theorem and63 {b : Int} (h0 : 0 ≤ b) (h1 : b < 256) : real .ar .and .u8 b 63 = b % 64 := and_u8 63 64 (by decide +kernel) h0 h1
theorem and192' : ∀ x : Fin 256, real .ar .and .u8 (x.val : Int) 192 = (x.val : Int) / 64 * 64 := by decide +kernel
theorem and192 {b : Int} (h0 : 0 ≤ b) (h1 : b < 256) : real .ar .and .u8 b 192 = b / 64 * 64 := by
  have h := and192' ⟨b.toNat, by omega⟩
  simp only [Int.toNat_of_nonneg h0] at h
  exact h
abbrev shF (a b c : Int) : FV := .agg [.iv (.int .i64 a), .iv (.int .i64 b), .iv (.int .i64 c)]
theorem p121 {b : Int} (h0 : 0 ≤ b) (h1 : b < 256) : Pl 121 [u8 b] (shF (fS b) (fB b) (fL b)) [] := by
  refine Plays.wp (vf := v121) rfl rfl ⟨0, fun A call hA hcall => ?_⟩
  by_cases c1 : b < 128
  · rw [show fS b = 1 by simp [fS, c1], show fB b = b by simp [fB, c1], show fL b = 0 by simp [fL, c1]]
    (refine wpV_of (by ((conv => lhs; cbv); (repeat ((first | rewrite [ltT hA c1] | rewrite [ckI hA (a := b) (by omega)]); (try (conv => lhs; cbv)))); (try (with_reducible rfl)))) ?_; (show finV _ _ _ = some _; ((conv => lhs; cbv); (repeat ((first | rewrite [ltT hA c1] | rewrite [ckI hA (a := b) (by omega)]); (try (conv => lhs; cbv)))); (try (with_reducible rfl))); (try rfl)))
  by_cases c2 : b < 192
  · rw [show fS b = 0 by simp [fS, c1, c2], show fB b = 0 by simp [fB, c1, c2], show fL b = 0 by simp [fL, c1, c2]]
    (refine wpV_of (by ((conv => lhs; cbv); (repeat ((first | rewrite [ltF hA (a := b) (b := 128) (by omega)] | rewrite [ltT hA c2]); (try (conv => lhs; cbv)))); (try (with_reducible rfl)))) ?_; (show finV _ _ _ = some _; ((conv => lhs; cbv); (repeat ((first | rewrite [ltF hA (a := b) (b := 128) (by omega)] | rewrite [ltT hA c2]); (try (conv => lhs; cbv)))); (try (with_reducible rfl))); (try rfl)))
  by_cases c3 : b < 224
  · rw [show fS b = 2 by simp [fS, c1, c2, c3], show fB b = b % 32 by simp [fB, c1, c2, c3], show fL b = 128 by simp [fL, c1, c2, c3]]
    have h := and31 h0 h1
    rw [← hA] at h
    obtain ⟨m, hm⟩ : ∃ m, m = b % 32 := ⟨_, rfl⟩
    rw [← hm] at h ⊢
    (refine wpV_of (by ((conv => lhs; cbv); (repeat ((first | rewrite [ltF hA (a := b) (b := 128) (by omega)] | rewrite [ltF hA (a := b) (b := 192) (by omega)] | rewrite [ltT hA c3] | rewrite [h] | rewrite [ckI hA (a := m) (by omega)]); (try (conv => lhs; cbv)))); (try (with_reducible rfl)))) ?_; (show finV _ _ _ = some _; ((conv => lhs; cbv); (repeat ((first | rewrite [ltF hA (a := b) (b := 128) (by omega)] | rewrite [ltF hA (a := b) (b := 192) (by omega)] | rewrite [ltT hA c3] | rewrite [h] | rewrite [ckI hA (a := m) (by omega)]); (try (conv => lhs; cbv)))); (try (with_reducible rfl))); (try rfl)))
  by_cases c4 : b < 240
  · rw [show fS b = 3 by simp [fS, c1, c2, c3, c4], show fB b = b % 16 by simp [fB, c1, c2, c3, c4], show fL b = 2048 by simp [fL, c1, c2, c3, c4]]
    have h := and15 h0 h1
    rw [← hA] at h
    obtain ⟨m, hm⟩ : ∃ m, m = b % 16 := ⟨_, rfl⟩
    rw [← hm] at h ⊢
    (refine wpV_of (by ((conv => lhs; cbv); (repeat ((first | rewrite [ltF hA (a := b) (b := 128) (by omega)] | rewrite [ltF hA (a := b) (b := 192) (by omega)] | rewrite [ltF hA (a := b) (b := 224) (by omega)] | rewrite [ltT hA c4] | rewrite [h] | rewrite [ckI hA (a := m) (by omega)]); (try (conv => lhs; cbv)))); (try (with_reducible rfl)))) ?_; (show finV _ _ _ = some _; ((conv => lhs; cbv); (repeat ((first | rewrite [ltF hA (a := b) (b := 128) (by omega)] | rewrite [ltF hA (a := b) (b := 192) (by omega)] | rewrite [ltF hA (a := b) (b := 224) (by omega)] | rewrite [ltT hA c4] | rewrite [h] | rewrite [ckI hA (a := m) (by omega)]); (try (conv => lhs; cbv)))); (try (with_reducible rfl))); (try rfl)))
  by_cases c5 : b < 248
  · rw [show fS b = 4 by simp [fS, c1, c2, c3, c4, c5], show fB b = b % 8 by simp [fB, c1, c2, c3, c4, c5], show fL b = 65536 by simp [fL, c1, c2, c3, c4, c5]]
    have h := and7 h0 h1
    rw [← hA] at h
    obtain ⟨m, hm⟩ : ∃ m, m = b % 8 := ⟨_, rfl⟩
    rw [← hm] at h ⊢
    (refine wpV_of (by ((conv => lhs; cbv); (repeat ((first | rewrite [ltF hA (a := b) (b := 128) (by omega)] | rewrite [ltF hA (a := b) (b := 192) (by omega)] | rewrite [ltF hA (a := b) (b := 224) (by omega)] | rewrite [ltF hA (a := b) (b := 240) (by omega)] | rewrite [ltT hA c5] | rewrite [h] | rewrite [ckI hA (a := m) (by omega)]); (try (conv => lhs; cbv)))); (try (with_reducible rfl)))) ?_; (show finV _ _ _ = some _; ((conv => lhs; cbv); (repeat ((first | rewrite [ltF hA (a := b) (b := 128) (by omega)] | rewrite [ltF hA (a := b) (b := 192) (by omega)] | rewrite [ltF hA (a := b) (b := 224) (by omega)] | rewrite [ltF hA (a := b) (b := 240) (by omega)] | rewrite [ltT hA c5] | rewrite [h] | rewrite [ckI hA (a := m) (by omega)]); (try (conv => lhs; cbv)))); (try (with_reducible rfl))); (try rfl)))
  · rw [show fS b = 0 by simp [fS, c1, c2, c3, c4, c5], show fB b = 0 by simp [fB, c1, c2, c3, c4, c5], show fL b = 0 by simp [fL, c1, c2, c3, c4, c5]]
    (refine wpV_of (by ((conv => lhs; cbv); (repeat ((first | rewrite [ltF hA (a := b) (b := 128) (by omega)] | rewrite [ltF hA (a := b) (b := 192) (by omega)] | rewrite [ltF hA (a := b) (b := 224) (by omega)] | rewrite [ltF hA (a := b) (b := 240) (by omega)] | rewrite [ltF hA (a := b) (b := 248) (by omega)]); (try (conv => lhs; cbv)))); (try (with_reducible rfl)))) ?_; (show finV _ _ _ = some _; ((conv => lhs; cbv); (repeat ((first | rewrite [ltF hA (a := b) (b := 128) (by omega)] | rewrite [ltF hA (a := b) (b := 192) (by omega)] | rewrite [ltF hA (a := b) (b := 224) (by omega)] | rewrite [ltF hA (a := b) (b := 240) (by omega)] | rewrite [ltF hA (a := b) (b := 248) (by omega)]); (try (conv => lhs; cbv)))); (try (with_reducible rfl))); (try rfl)))
/-! ### The bytes of a sign -/
def bytesOf (r : Int) : List Int :=
  if isSign r = false then [] else if r ≤ 127 then [r] else if r ≤ 2047 then [192 + r / 64, 128 + r % 64] else if r ≤ 65535 then [224 + r / 4096, 128 + r / 64 % 64, 128 + r % 64] else [240 + r / 262144, 128 + r / 4096 % 64, 128 + r / 64 % 64, 128 + r % 64]
def encB (l : List Int) : List (List IV) := l.map fun n => [.int .u8 n]
end Go.Proofs.Ytlljgefgbglmbaa
