/- The reference's numbers behind bytes, and its reader's number: gone through. -/
import Derived.Test.YtlljgefgbglmbaaCGM
set_option linter.unusedSimpArgs false
set_option linter.unusedVariables false
set_option maxRecDepth 100000
set_option maxHeartbeats 1000000
set_option cbv.maxSteps 10000000
namespace Go.Proofs.Ytlljgefgbglmbaa
open Go GoV

theorem n65 (a b : List Nat) (t t2 : Bool) (z z2 : Nat) (hz : z = 0 ∨ z = 1) (hz2 : z2 = 0 ∨ z2 = 1) (ha : a.length + b.length ≤ 211106232532992) :
    Pn 1 65 [.one (.iv (.sl t z (by8 a))), .one (.iv (.sl t2 z2 (by8 b)))] [] (.one (.slo 0 0 (a ++ b).length)) [.arr false false 1 (by8 (a ++ b))] := by
  refine playN 0 rfl rfl fun A call hA hcall => ?_
  obtain ⟨pl, mi, ml, nt, tn, ad, sb, K⟩ := kit hA
  obtain ⟨E, ix, sn, ll, cc, sg, B⟩ := lkit hA K (0 : Nat) (fun b => [.int .u8 (nt b)]) 1
  have hE : ∀ l, by8 l = E l := fun l => by rw [B.E_]; exact (by8E K.nt_ l).symm
  rw [hE, hE, hE, ← B.cc_, ← B.ll_]
  rcases hz with rfl | rfl <;> rcases hz2 with rfl | rfl
  all_goals
    refine wpV_ofH (by ((try (conv => lhs; cbv)); (repeat ((first | (rewrite [K.addN]) | (rewrite [B.ln]) | (rewrite [B.app0]; rotate_left; focus ((try simp only [K.df, B.df, true_and, and_true]) <;> omega)) | (rewrite [B.apoL]; rotate_left; focus ((try simp only [K.df, B.df, true_and, and_true]) <;> omega))); (try (conv => lhs; cbv)))); (exact rfl))) ?_
    (show finV _ _ _ = some _; ((try (conv => lhs; cbv)); (try (with_reducible rfl))); (try rfl))
theorem n27 (a : List Nat) (t : Bool) (z : Nat) (hz : z = 0 ∨ z = 1) (x : Int) (hx : x < 9223372036854775808) (ha : a.length ≤ 200000000000000) :
    Pn 12 27 [.one (.iv (.sl t z (by8 a))), i64 x] [] (.one (.slo 0 0 (a ++ enc x.toNat).length)) [.arr false false 1 (by8 (a ++ enc x.toNat))] := by
  refine playN 11 rfl rfl fun A call hA hcall => ?_
  obtain ⟨pl, mi, ml, nt, tn, ad, sb, K⟩ := kit hA
  obtain ⟨E, ix, sn, ll, cc, sg, B⟩ := lkit hA K (0 : Nat) (fun b => [.int .u8 (nt b)]) 1
  have hE : ∀ l, by8 l = E l := fun l => by rw [B.E_]; exact (by8E K.nt_ l).symm
  have k1 := n66 (x := x.toNat) (by omega) 11 (by omega)
  have k2 := fun t2 => n65 a (enc x.toNat) t t2 z 1 hz (.inr rfl) (by rw [enc_len]; have := nd_le x.toNat; omega) 11 (by omega)
  rw [← hcall] at k1 k2
  have sg0 : A .seg (by8 (enc x.toNat)) 0 (enc x.toNat).length = by8 (enc x.toNat) := by
    rw [hA, real_seg]; unfold rSeg; rw [List.drop_zero, List.take_of_length_le (by rw [by8_len]; omega)]
  generalize by8 (enc x.toNat) = e1 at *
  generalize by8 a = e0 at *
  generalize (enc x.toNat).length = n1 at *
  generalize by8 (a ++ enc x.toNat) = e2 at *
  generalize (a ++ enc x.toNat).length = n2 at *
  by_cases h : x < 0
  · have hz : ((x.toNat : Nat) : Int) = 0 := by omega
    rw [hz] at k1
    refine wpV_ofH (by ((try (conv => lhs; cbv)); (repeat ((first | (rewrite [k1]) | (rewrite [sg0]) | (rewrite [k2]) | (rewrite [K.ckU]; rotate_left; focus ((try simp only [K.df, B.df, true_and, and_true]) <;> omega)) | (rewrite [K.ltT]; rotate_left; focus ((try simp only [K.df, B.df, true_and, and_true]) <;> omega))); (try (conv => lhs; cbv)))); (exact rfl))) ?_
    (show finV _ _ _ = some _; ((try (conv => lhs; cbv)); (try (with_reducible rfl))); (try rfl))
  · have hz : ((x.toNat : Nat) : Int) = x := by omega
    rw [hz] at k1
    refine wpV_ofH (by ((try (conv => lhs; cbv)); (repeat ((first | (rewrite [k1]) | (rewrite [sg0]) | (rewrite [k2]) | (rewrite [K.ckU]; rotate_left; focus ((try simp only [K.df, B.df, true_and, and_true]) <;> omega)) | (rewrite [K.ltF]; rotate_left; focus ((try simp only [K.df, B.df, true_and, and_true]) <;> omega))); (try (conv => lhs; cbv)))); (exact rfl))) ?_
    (show finV _ _ _ = some _; ((try (conv => lhs; cbv)); (try (with_reducible rfl))); (try rfl))
/-! ### Its reader -/
end Go.Proofs.Ytlljgefgbglmbaa
