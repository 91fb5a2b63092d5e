/- Bytes with their sum ahead, made and opened: gone through. -/
import Derived.Test.YtlljgefgbglmbaaWBA
set_option linter.unusedSimpArgs false
set_option linter.unusedVariables false
set_option maxRecDepth 100000
set_option maxHeartbeats 1000000
set_option cbv.maxSteps 10000000
namespace Go.Proofs.Ytlljgefgbglmbaa
open Go GoV

theorem wrap32 (a : Int) : 0 ≤ IntKind.u32.wrap a ∧ IntKind.u32.wrap a < 4294967296 := by
  simp [IntKind.wrap, IntKind.min, IntKind.max, IntKind.signed, IntKind.bits]; omega
theorem wrapU32 {a : Int} (h : 0 ≤ a) (h2 : a < 4294967296) : IntKind.u32.wrap a = a := by
  simp [IntKind.wrap, IntKind.min, IntKind.max, IntKind.signed, IntKind.bits]; omega
theorem sum_lt (b : List Nat) : 0 ≤ sumI b ∧ sumI b < 4294967296 := wrap32 _
section
variable {A : Ar} (hA : A = real)
include hA
theorem ck32 {a : Nat} (h : a < 4294967296) : A .ck .u32 (a : Int) = (a : Int) := by
  rw [hA]; exact wrapU32 (by omega) (by omega)
end
/-- The byte of a sum at a place. -/
def hb (s : Nat) (i : Nat) : Nat := s / 2 ^ (24 - 8 * i) % 256
def hd4 (s : Int) : List Nat := [hb s.toNat 0, hb s.toNat 1, hb s.toNat 2, hb s.toNat 3]
def sealB (b : List Nat) : List Nat := hd4 (sumI b) ++ b
theorem n26 (b : List Nat) (t : Bool) (hl : b.length ≤ 1000000000000) : ∃ k, Pn k 26 [.one (.iv (.sl t 1 (by8 b)))] [] (.one (.slo 0 0 (sealB b).length)) [.arr false false 1 (by8 (sealB b))] := by
  obtain ⟨kc, hkc⟩ := n64 b t (by omega)
  refine ⟨kc + 1001, playN (kc + 1000) rfl rfl fun A call hA hcall => ?_⟩
  obtain ⟨pl, mi, ml, nt, tn, ad, sb, K⟩ := kit hA
  obtain ⟨E, ix, sn, ll, cc, sg, B⟩ := lkit hA K (0 : Nat) (fun b => [.int .u8 (nt b)]) 1
  have k64 := hkc (kc + 1000) (by omega)
  rw [← hcall] at k64
  obtain ⟨s0, s1⟩ := sum_lt b
  obtain ⟨L, hL⟩ : ∃ L : Int, L = b.length := ⟨_, rfl⟩
  have ln : A .len (by8 b) = L := by rw [hA, real_len, by8_len, hL]
  obtain ⟨N, hN⟩ : ∃ N : Nat, N = (sumI b).toNat := ⟨_, rfl⟩
  have hS : sumI b = (N : Int) := by omega
  unfold sealB
  rw [hS] at k64 ⊢
  obtain ⟨F, hF⟩ : ∃ F : Nat → List (List IV), ∀ i, F i = by8 (((List.range i).map (hb N)) ++ List.replicate (4 - i) 0) := ⟨_, fun _ => rfl⟩
  have f4 : by8 (hd4 (N : Int)) = F 4 := by rw [hF]; rfl
  obtain ⟨X, hX⟩ : ∃ X, A .rep [.int .u8 0] (pl 4 L) = some X := by
    refine ⟨List.replicate (pl 4 L).toNat [.int .u8 0], ?_⟩
    rw [hA, real_rep, K.pl_, if_pos (by omega)]
  have r4 : A .rep [.int .u8 0] 4 = some (F 0) := by rw [hA, real_rep, if_pos (by omega), hF]; rfl
  have ln0 : A .ln (F 0) = 4 := by rw [hA, hF]; rfl
  have fl : ∀ i, i ≤ 4 → (F i).length = 4 := fun i hi => by rw [hF, by8_len]; simp; omega
  have V : ∀ (i : Nat) (I : Int), i < 4 → I = (i : Int) → ∃ W v, A .ar .shr .u32 (N : Int) (mi 24 (ml 8 I)) = W ∧ A .ck .u8 W = v ∧ A .set (F i) i 0 [.int .u8 v] = some (F (i + 1)) ∧ ∃ c, A .getN (F i) i = some [.int .u8 c] := fun i I hi hI => by
    refine ⟨((N / 2 ^ (24 - 8 * i) : Nat) : Int), ((hb N i : Nat) : Int), ?_, ?_, ?_, 0, ?_⟩
    · exact shrN hA (k := .u32) (a := N) (j := 24 - 8 * i) (by rw [K.mi_, K.ml_]; omega) (by show _ ≤ 32; omega)
    · rw [ckU8 hA]; rfl
    · rw [hA, real_set, hF, hF]
      rcases (show i = 0 ∨ i = 1 ∨ i = 2 ∨ i = 3 by omega) with rfl | rfl | rfl | rfl <;> rfl
    · rw [hA, real_getN, hF]
      rcases (show i = 0 ∨ i = 1 ∨ i = 2 ∨ i = 3 by omega) with rfl | rfl | rfl | rfl <;> rfl
  have a1 : A .apo 1 0 4 (F 4) (by8 b) = some (true, by8 (hd4 (N : Int) ++ b)) := by
    rw [hA, real_apo]; unfold rApo room
    rw [if_pos (by rw [fl 4 (by omega)]), if_pos ⟨by rw [by8_len]; omega, .inl rfl⟩, by8_app, f4]; rfl
  have ln4 : A .ofN 4 = 4 := by rw [hA]; rfl
  have l2 : A .ln (by8 (hd4 (N : Int) ++ b)) = (hd4 (N : Int) ++ b).length := by rw [hA]; exact by8_len _
  clear hF
  generalize by8 (hd4 (N : Int) ++ b) = ys at *
  generalize (hd4 (N : Int) ++ b).length = yn at *
  generalize by8 b = xs at *
  generalize (N : Int) = S at *
  apply wpV_seq; refine wpV_ofH (by ((try (conv => lhs; cbv)); (exact rfl))) ?_
  apply wpV_seq; refine wpV_ofH (by ((try (conv => lhs; cbv)); (repeat ((first | (rewrite [k64])); (try (conv => lhs; cbv)))); (exact rfl))) ?_
  apply wpV_seq; refine wpV_ofH (by ((try (conv => lhs; cbv)); (repeat ((first | (rewrite [ln]) | (rewrite [r4]) | (rewrite [hX]) | (rewrite [ln0]) | (rewrite [K.add]; rotate_left; focus ((try simp only [K.df, B.df, true_and, and_true]) <;> omega)) | (rewrite [K.ltT]; rotate_left; focus ((try simp only [K.df, B.df, true_and, and_true]) <;> omega)) | (rewrite [K.leT]; rotate_left; focus ((try simp only [K.df, B.df, true_and, and_true]) <;> omega))); (try (conv => lhs; cbv)))); (exact rfl))) ?_
  apply wpV_seq; apply wpV_seq; refine wpV_ofH (by ((try (conv => lhs; cbv)); (repeat ((first | (rewrite [ln4])); (try (conv => lhs; cbv)))); (exact rfl))) ?_
  apply wpV_block
  refine wpV_loop 4 (fun i st => ∃ I : Int, st = ⟨0, [.one (.iv (.sl t 1 xs)), u, u, .one (.iv (.int .u32 S)), .one (.slo 0 0 4), u, u, u, u, u, u, u, u, i64 4, i64 I, u, u, u, u, u, u, u, u, u, u, u, u, u, u, u], [.arr false false 1 (F i)]⟩ ∧ I = i) (by omega) (by ((try (conv => lhs; cbv)); (try (with_reducible rfl)))) ⟨0, rfl, rfl⟩ ?_
  rintro i hi st ⟨I, rfl, hI⟩
  by_cases hi4 : i < 4
  · obtain ⟨W, v, v1, v2, v3, c, v4⟩ := V i I hi4 hI
    have ht : tn I = i := by rw [K.tn_, hI]; rfl
    generalize F (i + 1) = F1 at *
    generalize F i = F0 at *
    rw [← ht] at v3 v4
    refine wpV_ofH (by ((try (conv => lhs; cbv)); (repeat ((first | (rewrite [v1]) | (rewrite [v2]) | (rewrite [v3]) | (rewrite [K.mulr]; rotate_left; focus ((try simp only [K.df, B.df, true_and, and_true]) <;> omega)) | (rewrite [K.add]; rotate_left; focus ((try simp only [K.df, B.df, true_and, and_true]) <;> omega)) | (rewrite [K.sub]; rotate_left; focus ((try simp only [K.df, B.df, true_and, and_true]) <;> omega)) | (rewrite [K.mul]; rotate_left; focus ((try simp only [K.df, B.df, true_and, and_true]) <;> omega)) | (rewrite [K.nn]; rotate_left; focus ((try simp only [K.df, B.df, true_and, and_true]) <;> omega)) | (rewrite [K.at_]; rotate_left; focus ((try simp only [K.df, B.df, true_and, and_true]) <;> omega)) | (rewrite [K.ltT]; rotate_left; focus ((try simp only [K.df, B.df, true_and, and_true]) <;> omega))); (try (conv => lhs; cbv)))); (exact rfl))) ?_
    refine headQ_ofH (by ((try (conv => lhs; cbv)); (exact rfl))) ?_
    refine ⟨hi4, _, rfl, ?_⟩
    rw [K.pl_]; omega
  · obtain rfl : i = 4 := by omega
    generalize F 4 = F4 at *
    refine wpV_ofH (by ((try (conv => lhs; cbv)); (repeat ((first | (rewrite [K.ltF]; rotate_left; focus ((try simp only [K.df, B.df, true_and, and_true]) <;> omega))); (try (conv => lhs; cbv)))); (exact rfl))) ?_
    show wpV _ _ _ _ _ _
    refine wpV_ofH (by ((try (conv => lhs; cbv)); (repeat ((first | (rewrite [a1]) | (rewrite [l2])); (try (conv => lhs; cbv)))); (exact rfl))) ?_
    (show finV _ _ _ = some _; ((try (conv => lhs; cbv)); (try (with_reducible rfl))); (try rfl))
/-! ### Opened -/
end Go.Proofs.Ytlljgefgbglmbaa
