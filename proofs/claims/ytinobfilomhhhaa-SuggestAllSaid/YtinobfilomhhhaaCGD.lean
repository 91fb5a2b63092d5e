/- How many places a number has, and how many bytes it needs: gone through. -/
import Derived.Test.YtinobfilomhhhaaCGC
set_option linter.unusedSimpArgs false
set_option linter.unusedVariables false
set_option maxRecDepth 100000
set_option maxHeartbeats 1000000
set_option cbv.maxSteps 10000000
namespace Go.Proofs.Ytinobfilomhhhaa
open Go GoV

abbrev u64 (x : Int) : FV := .one (.iv (.int .u64 x))
abbrev u8 (x : Int) : FV := .one (.iv (.int .u8 x))
theorem tab8 {A : Ar} (hA : A = real) {x : Nat} (h : x < 256) : ∃ L : Nat, IsLen x L ∧ L ≤ 8 ∧ A .sidx ⟨#[0, 1, 2, 2, 3, 3, 3, 3, 4, 4, 4, 4, 4, 4, 4, 4, 5, 5, 5, 5, 5, 5, 5, 5, 5, 5, 5, 5, 5, 5, 5, 5, 6, 6, 6, 6, 6, 6, 6, 6, 6, 6, 6, 6, 6, 6, 6, 6, 6, 6, 6, 6, 6, 6, 6, 6, 6, 6, 6, 6, 6, 6, 6, 6, 7, 7, 7, 7, 7, 7, 7, 7, 7, 7, 7, 7, 7, 7, 7, 7, 7, 7, 7, 7, 7, 7, 7, 7, 7, 7, 7, 7, 7, 7, 7, 7, 7, 7, 7, 7, 7, 7, 7, 7, 7, 7, 7, 7, 7, 7, 7, 7, 7, 7, 7, 7, 7, 7, 7, 7, 7, 7, 7, 7, 7, 7, 7, 7, 8, 8, 8, 8, 8, 8, 8, 8, 8, 8, 8, 8, 8, 8, 8, 8, 8, 8, 8, 8, 8, 8, 8, 8, 8, 8, 8, 8, 8, 8, 8, 8, 8, 8, 8, 8, 8, 8, 8, 8, 8, 8, 8, 8, 8, 8, 8, 8, 8, 8, 8, 8, 8, 8, 8, 8, 8, 8, 8, 8, 8, 8, 8, 8, 8, 8, 8, 8, 8, 8, 8, 8, 8, 8, 8, 8, 8, 8, 8, 8, 8, 8, 8, 8, 8, 8, 8, 8, 8, 8, 8, 8, 8, 8, 8, 8, 8, 8, 8, 8, 8, 8, 8, 8, 8, 8, 8, 8, 8, 8, 8, 8, 8, 8, 8, 8, 8, 8, 8, 8, 8, 8, 8, 8, 8, 8, 8, 8]⟩ (x : Int) = some (L : Int) := by
  rw [hA]
  have : ∀ x : Fin 256, ∃ L : Fin 9, ((x.val = 0 ∧ L.val = 0) ∨ (0 < L.val ∧ 2 ^ (L.val - 1) ≤ x.val ∧ x.val < 2 ^ L.val)) ∧ real .sidx ⟨#[0, 1, 2, 2, 3, 3, 3, 3, 4, 4, 4, 4, 4, 4, 4, 4, 5, 5, 5, 5, 5, 5, 5, 5, 5, 5, 5, 5, 5, 5, 5, 5, 6, 6, 6, 6, 6, 6, 6, 6, 6, 6, 6, 6, 6, 6, 6, 6, 6, 6, 6, 6, 6, 6, 6, 6, 6, 6, 6, 6, 6, 6, 6, 6, 7, 7, 7, 7, 7, 7, 7, 7, 7, 7, 7, 7, 7, 7, 7, 7, 7, 7, 7, 7, 7, 7, 7, 7, 7, 7, 7, 7, 7, 7, 7, 7, 7, 7, 7, 7, 7, 7, 7, 7, 7, 7, 7, 7, 7, 7, 7, 7, 7, 7, 7, 7, 7, 7, 7, 7, 7, 7, 7, 7, 7, 7, 7, 7, 8, 8, 8, 8, 8, 8, 8, 8, 8, 8, 8, 8, 8, 8, 8, 8, 8, 8, 8, 8, 8, 8, 8, 8, 8, 8, 8, 8, 8, 8, 8, 8, 8, 8, 8, 8, 8, 8, 8, 8, 8, 8, 8, 8, 8, 8, 8, 8, 8, 8, 8, 8, 8, 8, 8, 8, 8, 8, 8, 8, 8, 8, 8, 8, 8, 8, 8, 8, 8, 8, 8, 8, 8, 8, 8, 8, 8, 8, 8, 8, 8, 8, 8, 8, 8, 8, 8, 8, 8, 8, 8, 8, 8, 8, 8, 8, 8, 8, 8, 8, 8, 8, 8, 8, 8, 8, 8, 8, 8, 8, 8, 8, 8, 8, 8, 8, 8, 8, 8, 8, 8, 8, 8, 8, 8, 8, 8, 8]⟩ ((x.val : Nat) : Int) = some ((L.val : Nat) : Int) := by decide +kernel
  obtain ⟨L, h1, h2⟩ := this ⟨x, h⟩
  exact ⟨L.val, h1, by omega, h2⟩
theorem n102 {x : Nat} (h : x < 256) : ∃ L : Nat, IsLen x L ∧ L ≤ 8 ∧ Pn 1 102 [u8 x] [] (i64 L) [] := by
  obtain ⟨L, h1, h2, h3⟩ := tab8 (A := real) rfl h
  refine ⟨L, h1, h2, playN 0 rfl rfl fun A call hA hcall => ?_⟩
  rw [← hA] at h3
  obtain ⟨T, hT⟩ : ∃ T : ByteArray, T = ⟨#[0, 1, 2, 2, 3, 3, 3, 3, 4, 4, 4, 4, 4, 4, 4, 4, 5, 5, 5, 5, 5, 5, 5, 5, 5, 5, 5, 5, 5, 5, 5, 5, 6, 6, 6, 6, 6, 6, 6, 6, 6, 6, 6, 6, 6, 6, 6, 6, 6, 6, 6, 6, 6, 6, 6, 6, 6, 6, 6, 6, 6, 6, 6, 6, 7, 7, 7, 7, 7, 7, 7, 7, 7, 7, 7, 7, 7, 7, 7, 7, 7, 7, 7, 7, 7, 7, 7, 7, 7, 7, 7, 7, 7, 7, 7, 7, 7, 7, 7, 7, 7, 7, 7, 7, 7, 7, 7, 7, 7, 7, 7, 7, 7, 7, 7, 7, 7, 7, 7, 7, 7, 7, 7, 7, 7, 7, 7, 7, 8, 8, 8, 8, 8, 8, 8, 8, 8, 8, 8, 8, 8, 8, 8, 8, 8, 8, 8, 8, 8, 8, 8, 8, 8, 8, 8, 8, 8, 8, 8, 8, 8, 8, 8, 8, 8, 8, 8, 8, 8, 8, 8, 8, 8, 8, 8, 8, 8, 8, 8, 8, 8, 8, 8, 8, 8, 8, 8, 8, 8, 8, 8, 8, 8, 8, 8, 8, 8, 8, 8, 8, 8, 8, 8, 8, 8, 8, 8, 8, 8, 8, 8, 8, 8, 8, 8, 8, 8, 8, 8, 8, 8, 8, 8, 8, 8, 8, 8, 8, 8, 8, 8, 8, 8, 8, 8, 8, 8, 8, 8, 8, 8, 8, 8, 8, 8, 8, 8, 8, 8, 8, 8, 8, 8, 8, 8, 8]⟩ := ⟨_, rfl⟩
  rw [← hT] at h3
  (conv at hT => rhs; cbv)
  rw [hT] at h3
  clear hT
  have h4 := ckI64 hA (a := L) (by omega)
  generalize (L : Int) = Z at *
  generalize (x : Int) = X at *
  refine wpV_of (by ((conv => lhs; cbv); (repeat ((first | rewrite [h3] | rewrite [h4]); (try (conv => lhs; cbv)))); (try (with_reducible rfl)))) ?_
  (show finV _ _ _ = some _; ((conv => lhs; cbv); (repeat ((first | rewrite [h4]); (try (conv => lhs; cbv)))); (try (with_reducible rfl))); (try rfl))
theorem n101 {x : Nat} (h : x < 256) : ∃ L : Nat, IsLen x L ∧ L ≤ 8 ∧ Pn 2 101 [u8 x] [] (i64 ((8 - L : Nat) : Int)) [] := by
  obtain ⟨L, h1, h2, h3⟩ := n102 h
  refine ⟨L, h1, h2, playN 1 rfl rfl fun A call hA hcall => ?_⟩
  have k1 := h3 1 (by omega)
  rw [← hcall] at k1
  have s1 := subR hA (a := 8) (b := (L : Int)) (c := ((8 - L : Nat) : Int)) (by omega) (by omega)
  generalize ((8 - L : Nat) : Int) = W at *
  generalize (L : Int) = Z at *
  generalize (x : Int) = X at *
  refine wpV_of (by ((conv => lhs; cbv); (repeat ((first | rewrite [k1] | rewrite [s1]); (try (conv => lhs; cbv)))); (try (with_reducible rfl)))) ?_
  (show finV _ _ _ = some _; ((conv => lhs; cbv); (repeat ((first | rewrite [s1]); (try (conv => lhs; cbv)))); (try (with_reducible rfl))); (try rfl))
theorem w72 {A : Ar} (call : CallT) (it : IterT) (x y z v : Int) (n1 n2 n3 L R : Int)
    (g1 : (A .cmp .geq x 4294967296 = true ∧ A .ar .shr .u64 x 32 = y ∧ n1 = 32) ∨ (A .cmp .geq x 4294967296 = false ∧ y = x ∧ n1 = 0))
    (g2 : (A .cmp .geq y 65536 = true ∧ A .ar .shr .u64 y 16 = z ∧ A .ar .add .i64 n1 16 = n2) ∨ (A .cmp .geq y 65536 = false ∧ z = y ∧ n2 = n1))
    (g3 : (A .cmp .geq z 256 = true ∧ A .ar .shr .u64 z 8 = v ∧ A .ar .add .i64 n2 8 = n3) ∨ (A .cmp .geq z 256 = false ∧ v = z ∧ n3 = n2))
    (q : A .nn 32 = true ∧ A .nn 16 = true ∧ A .nn 8 = true) (hv : A .ck .u8 v = v) (hs : A .sidx ⟨#[0, 1, 2, 2, 3, 3, 3, 3, 4, 4, 4, 4, 4, 4, 4, 4, 5, 5, 5, 5, 5, 5, 5, 5, 5, 5, 5, 5, 5, 5, 5, 5, 6, 6, 6, 6, 6, 6, 6, 6, 6, 6, 6, 6, 6, 6, 6, 6, 6, 6, 6, 6, 6, 6, 6, 6, 6, 6, 6, 6, 6, 6, 6, 6, 7, 7, 7, 7, 7, 7, 7, 7, 7, 7, 7, 7, 7, 7, 7, 7, 7, 7, 7, 7, 7, 7, 7, 7, 7, 7, 7, 7, 7, 7, 7, 7, 7, 7, 7, 7, 7, 7, 7, 7, 7, 7, 7, 7, 7, 7, 7, 7, 7, 7, 7, 7, 7, 7, 7, 7, 7, 7, 7, 7, 7, 7, 7, 7, 8, 8, 8, 8, 8, 8, 8, 8, 8, 8, 8, 8, 8, 8, 8, 8, 8, 8, 8, 8, 8, 8, 8, 8, 8, 8, 8, 8, 8, 8, 8, 8, 8, 8, 8, 8, 8, 8, 8, 8, 8, 8, 8, 8, 8, 8, 8, 8, 8, 8, 8, 8, 8, 8, 8, 8, 8, 8, 8, 8, 8, 8, 8, 8, 8, 8, 8, 8, 8, 8, 8, 8, 8, 8, 8, 8, 8, 8, 8, 8, 8, 8, 8, 8, 8, 8, 8, 8, 8, 8, 8, 8, 8, 8, 8, 8, 8, 8, 8, 8, 8, 8, 8, 8, 8, 8, 8, 8, 8, 8, 8, 8, 8, 8, 8, 8, 8, 8, 8, 8, 8, 8, 8, 8, 8, 8, 8, 8]⟩ v = some L) (hL : A .ck .i64 L = L) (hr : A .ar .add .i64 n3 L = R) :
    wpV A call it v72.body ⟨0, padE 25 [u64 x], []⟩ (finQ A v72 (i64 R, [])) := by
  obtain ⟨q1, q2, q3⟩ := q
  obtain ⟨T, hT⟩ : ∃ T : ByteArray, T = ⟨#[0, 1, 2, 2, 3, 3, 3, 3, 4, 4, 4, 4, 4, 4, 4, 4, 5, 5, 5, 5, 5, 5, 5, 5, 5, 5, 5, 5, 5, 5, 5, 5, 6, 6, 6, 6, 6, 6, 6, 6, 6, 6, 6, 6, 6, 6, 6, 6, 6, 6, 6, 6, 6, 6, 6, 6, 6, 6, 6, 6, 6, 6, 6, 6, 7, 7, 7, 7, 7, 7, 7, 7, 7, 7, 7, 7, 7, 7, 7, 7, 7, 7, 7, 7, 7, 7, 7, 7, 7, 7, 7, 7, 7, 7, 7, 7, 7, 7, 7, 7, 7, 7, 7, 7, 7, 7, 7, 7, 7, 7, 7, 7, 7, 7, 7, 7, 7, 7, 7, 7, 7, 7, 7, 7, 7, 7, 7, 7, 8, 8, 8, 8, 8, 8, 8, 8, 8, 8, 8, 8, 8, 8, 8, 8, 8, 8, 8, 8, 8, 8, 8, 8, 8, 8, 8, 8, 8, 8, 8, 8, 8, 8, 8, 8, 8, 8, 8, 8, 8, 8, 8, 8, 8, 8, 8, 8, 8, 8, 8, 8, 8, 8, 8, 8, 8, 8, 8, 8, 8, 8, 8, 8, 8, 8, 8, 8, 8, 8, 8, 8, 8, 8, 8, 8, 8, 8, 8, 8, 8, 8, 8, 8, 8, 8, 8, 8, 8, 8, 8, 8, 8, 8, 8, 8, 8, 8, 8, 8, 8, 8, 8, 8, 8, 8, 8, 8, 8, 8, 8, 8, 8, 8, 8, 8, 8, 8, 8, 8, 8, 8, 8, 8, 8, 8, 8, 8]⟩ := ⟨_, rfl⟩
  rw [← hT] at hs
  (conv at hT => rhs; cbv)
  rw [hT] at hs
  clear hT
  rcases g1 with ⟨a1, a2, rfl⟩ | ⟨a1, rfl, rfl⟩ <;> rcases g2 with ⟨b1, b2, b3⟩ | ⟨b1, rfl, rfl⟩ <;> rcases g3 with ⟨c1, c2, c3⟩ | ⟨c1, rfl, rfl⟩
  · refine wpV_of (by ((conv => lhs; cbv); (repeat ((first | rewrite [a1] | rewrite [q1] | rewrite [a2] | rewrite [b1] | rewrite [q2] | rewrite [b2] | rewrite [b3] | rewrite [c1] | rewrite [q3] | rewrite [c2] | rewrite [c3] | rewrite [hv] | rewrite [hs] | rewrite [hL] | rewrite [hr]); (try (conv => lhs; cbv)))); (try (with_reducible rfl)))) ?_; (show finV _ _ _ = some _; ((conv => lhs; cbv); (repeat ((first | rewrite [b3] | rewrite [c3] | rewrite [hL] | rewrite [hr]); (try (conv => lhs; cbv)))); (try (with_reducible rfl))); (try rfl))
  · refine wpV_of (by ((conv => lhs; cbv); (repeat ((first | rewrite [a1] | rewrite [q1] | rewrite [a2] | rewrite [b1] | rewrite [q2] | rewrite [b2] | rewrite [b3] | rewrite [c1] | rewrite [hv] | rewrite [hs] | rewrite [hL] | rewrite [hr]); (try (conv => lhs; cbv)))); (try (with_reducible rfl)))) ?_; (show finV _ _ _ = some _; ((conv => lhs; cbv); (repeat ((first | rewrite [b3] | rewrite [hL] | rewrite [hr]); (try (conv => lhs; cbv)))); (try (with_reducible rfl))); (try rfl))
  · refine wpV_of (by ((conv => lhs; cbv); (repeat ((first | rewrite [a1] | rewrite [q1] | rewrite [a2] | rewrite [b1] | rewrite [c1] | rewrite [q3] | rewrite [c2] | rewrite [c3] | rewrite [hv] | rewrite [hs] | rewrite [hL] | rewrite [hr]); (try (conv => lhs; cbv)))); (try (with_reducible rfl)))) ?_; (show finV _ _ _ = some _; ((conv => lhs; cbv); (repeat ((first | rewrite [c3] | rewrite [hL] | rewrite [hr]); (try (conv => lhs; cbv)))); (try (with_reducible rfl))); (try rfl))
  · refine wpV_of (by ((conv => lhs; cbv); (repeat ((first | rewrite [a1] | rewrite [q1] | rewrite [a2] | rewrite [b1] | rewrite [c1] | rewrite [hv] | rewrite [hs] | rewrite [hL] | rewrite [hr]); (try (conv => lhs; cbv)))); (try (with_reducible rfl)))) ?_; (show finV _ _ _ = some _; ((conv => lhs; cbv); (repeat ((first | rewrite [hL] | rewrite [hr]); (try (conv => lhs; cbv)))); (try (with_reducible rfl))); (try rfl))
  · refine wpV_of (by ((conv => lhs; cbv); (repeat ((first | rewrite [a1] | rewrite [b1] | rewrite [q2] | rewrite [b2] | rewrite [b3] | rewrite [c1] | rewrite [q3] | rewrite [c2] | rewrite [c3] | rewrite [hv] | rewrite [hs] | rewrite [hL] | rewrite [hr]); (try (conv => lhs; cbv)))); (try (with_reducible rfl)))) ?_; (show finV _ _ _ = some _; ((conv => lhs; cbv); (repeat ((first | rewrite [b3] | rewrite [c3] | rewrite [hL] | rewrite [hr]); (try (conv => lhs; cbv)))); (try (with_reducible rfl))); (try rfl))
  · refine wpV_of (by ((conv => lhs; cbv); (repeat ((first | rewrite [a1] | rewrite [b1] | rewrite [q2] | rewrite [b2] | rewrite [b3] | rewrite [c1] | rewrite [hv] | rewrite [hs] | rewrite [hL] | rewrite [hr]); (try (conv => lhs; cbv)))); (try (with_reducible rfl)))) ?_; (show finV _ _ _ = some _; ((conv => lhs; cbv); (repeat ((first | rewrite [b3] | rewrite [hL] | rewrite [hr]); (try (conv => lhs; cbv)))); (try (with_reducible rfl))); (try rfl))
  · refine wpV_of (by ((conv => lhs; cbv); (repeat ((first | rewrite [a1] | rewrite [b1] | rewrite [c1] | rewrite [q3] | rewrite [c2] | rewrite [c3] | rewrite [hv] | rewrite [hs] | rewrite [hL] | rewrite [hr]); (try (conv => lhs; cbv)))); (try (with_reducible rfl)))) ?_; (show finV _ _ _ = some _; ((conv => lhs; cbv); (repeat ((first | rewrite [c3] | rewrite [hL] | rewrite [hr]); (try (conv => lhs; cbv)))); (try (with_reducible rfl))); (try rfl))
  · refine wpV_of (by ((conv => lhs; cbv); (repeat ((first | rewrite [a1] | rewrite [b1] | rewrite [c1] | rewrite [hv] | rewrite [hs] | rewrite [hL] | rewrite [hr]); (try (conv => lhs; cbv)))); (try (with_reducible rfl)))) ?_; (show finV _ _ _ = some _; ((conv => lhs; cbv); (repeat ((first | rewrite [hL] | rewrite [hr]); (try (conv => lhs; cbv)))); (try (with_reducible rfl))); (try rfl))
theorem n72 {x : Nat} (h : x < 2 ^ 64) : ∃ L : Nat, IsLen x L ∧ L ≤ 64 ∧ Pn 1 72 [u64 x] [] (i64 L) [] := by
  obtain ⟨y, n1, hy, d1, u1⟩ : ∃ y n1 : Nat, y < 2 ^ 32 ∧ ((2 ^ 32 ≤ x ∧ y = x / 2 ^ 32 ∧ n1 = 32) ∨ (x < 2 ^ 32 ∧ y = x ∧ n1 = 0)) ∧ ∀ L, IsLen y L → IsLen x (n1 + L) := by
    by_cases c : 2 ^ 32 ≤ x
    · exact ⟨x / 2 ^ 32, 32, by omega, .inl ⟨c, rfl, rfl⟩, fun L hL => by rw [Nat.add_comm]; exact hL.up c⟩
    · exact ⟨x, 0, by omega, .inr ⟨by omega, rfl, rfl⟩, fun L hL => by rw [Nat.zero_add]; exact hL⟩
  obtain ⟨z, n2, hz, d2, u2⟩ : ∃ z n2 : Nat, z < 2 ^ 16 ∧ ((2 ^ 16 ≤ y ∧ z = y / 2 ^ 16 ∧ n2 = n1 + 16) ∨ (y < 2 ^ 16 ∧ z = y ∧ n2 = n1)) ∧ ∀ L, IsLen z L → IsLen x (n2 + L) := by
    by_cases c : 2 ^ 16 ≤ y
    · exact ⟨y / 2 ^ 16, n1 + 16, by omega, .inl ⟨c, rfl, rfl⟩, fun L hL => by rw [Nat.add_assoc, Nat.add_comm 16]; exact u1 _ (hL.up c)⟩
    · exact ⟨y, n1, by omega, .inr ⟨by omega, rfl, rfl⟩, u1⟩
  obtain ⟨v, n3, hv, d3, u3⟩ : ∃ v n3 : Nat, v < 2 ^ 8 ∧ ((2 ^ 8 ≤ z ∧ v = z / 2 ^ 8 ∧ n3 = n2 + 8) ∨ (z < 2 ^ 8 ∧ v = z ∧ n3 = n2)) ∧ ∀ L, IsLen v L → IsLen x (n3 + L) := by
    by_cases c : 2 ^ 8 ≤ z
    · exact ⟨z / 2 ^ 8, n2 + 8, by omega, .inl ⟨c, rfl, rfl⟩, fun L hL => by rw [Nat.add_assoc, Nat.add_comm 8]; exact u2 _ (hL.up c)⟩
    · exact ⟨z, n2, by omega, .inr ⟨by omega, rfl, rfl⟩, u2⟩
  obtain ⟨L, hL, hL8, hs⟩ := tab8 (A := real) rfl (x := v) (by omega)
  refine ⟨n3 + L, u3 L hL, by omega, playN 0 rfl rfl fun A call hA hcall => ?_⟩
  rw [← hA] at hs
  have hc := ckU8 hA v
  rw [Nat.mod_eq_of_lt (by omega)] at hc
  refine w72 call _ x y z v n1 n2 n3 L _ ?_ ?_ ?_ ⟨by rw [hA]; rfl, by rw [hA]; rfl, by rw [hA]; rfl⟩ hc hs (ckI64 hA (by omega)) (addR hA (by omega) (by omega))
  · rcases d1 with ⟨c, rfl, rfl⟩ | ⟨c, rfl, rfl⟩
    · exact .inl ⟨geT hA (by omega), shrN hA (j := 32) rfl (by decide), rfl⟩
    · exact .inr ⟨geF hA (by omega), rfl, rfl⟩
  · rcases d2 with ⟨c, rfl, rfl⟩ | ⟨c, rfl, rfl⟩
    · exact .inl ⟨geT hA (by omega), shrN hA (j := 16) rfl (by decide), addR hA (by omega) (by omega)⟩
    · exact .inr ⟨geF hA (by omega), rfl, rfl⟩
  · rcases d3 with ⟨c, rfl, rfl⟩ | ⟨c, rfl, rfl⟩
    · exact .inl ⟨geT hA (by omega), shrN hA (j := 8) rfl (by decide), addR hA (by omega) (by omega)⟩
    · exact .inr ⟨geF hA (by omega), rfl, rfl⟩
theorem n88 {x : Nat} (h : x < 2 ^ 64) : Pn 2 88 [u64 x] [] (i64 (nd x)) [] := by
  obtain ⟨L, hL, hL8, hP⟩ := n72 h
  have hn := isLen_nd hL h
  refine playN 1 rfl rfl fun A call hA hcall => ?_
  have k1 := hP 1 (by omega)
  rw [← hcall] at k1
  by_cases c : L > 56
  · rw [if_pos c] at hn
    rw [← hn]
    have g := gtT hA (a := (L : Int)) (b := 56) (by omega)
    generalize (L : Int) = Z at *
    generalize (x : Int) = X at *
    refine wpV_of (by ((conv => lhs; cbv); (repeat ((first | rewrite [k1] | rewrite [g]); (try (conv => lhs; cbv)))); (try (with_reducible rfl)))) ?_
    (show finV _ _ _ = some _; ((conv => lhs; cbv); (try (with_reducible rfl))); (try rfl))
  · rw [if_neg c] at hn
    rw [← hn]
    have g := gtF hA (a := (L : Int)) (b := 56) (by omega)
    have s := subR hA (a := (L : Int)) (b := 1) rfl (by omega)
    have m := mxR hA (a := (L : Int) - 1) (b := 0) (c := ((L - 1 : Nat) : Int)) (by omega)
    have nz := nzR hA (a := 7) (by omega)
    have qq := quoR hA (a := ((L - 1 : Nat) : Int)) (b := 7) (c := (((L - 1) / 7 : Nat) : Int)) (by omega) (by omega) (by omega)
    generalize (((L - 1) / 7 : Nat) : Int) = Q at *
    generalize ((L - 1 : Nat) : Int) = M at *
    generalize (L : Int) - 1 = S at *
    generalize (L : Int) = Z at *
    generalize (x : Int) = X at *
    refine wpV_of (by ((conv => lhs; cbv); (repeat ((first | rewrite [k1] | rewrite [g] | rewrite [s] | rewrite [m] | rewrite [nz] | rewrite [qq]); (try (conv => lhs; cbv)))); (try (with_reducible rfl)))) ?_
    (show finV _ _ _ = some _; ((conv => lhs; cbv); (repeat ((first | rewrite [s] | rewrite [m] | rewrite [nz] | rewrite [qq]); (try (conv => lhs; cbv)))); (try (with_reducible rfl))); (try rfl))
end Go.Proofs.Ytinobfilomhhhaa
