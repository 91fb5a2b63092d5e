/- One byte turned: another sum. In plain Lean. -/
import Derived.Test.YtlljgefgbglmbaaWBB
set_option linter.unusedSimpArgs false
set_option linter.unusedVariables false
set_option maxRecDepth 100000
set_option maxHeartbeats 4000000
namespace Go.Proofs.Ytlljgefgbglmbaa
open Go GoV
theorem xoN {a b : Nat} (ha : a < 4294967296) (hb : b < 4294967296) : xo (a : Int) (b : Int) = ((a ^^^ b : Nat) : Int) := by
  show IntKind.u32.wrap (((BitVec.ofInt 32 (a : Int) ^^^ BitVec.ofInt 32 (b : Int)).toNat : Nat) : Int) = _
  rw [BitVec.toNat_xor, BitVec.ofInt_natCast, BitVec.ofInt_natCast, BitVec.toNat_ofNat, BitVec.toNat_ofNat, Nat.mod_eq_of_lt (by omega), Nat.mod_eq_of_lt (by omega)]
  have : a ^^^ b < 2 ^ 32 := Nat.xor_lt_two_pow (by omega) (by omega)
  exact wrapU32 (by omega) (by omega)
theorem xor8N {a b : Nat} (ha : a < 256) (hb : b < 256) : real .ar .xor .u8 (a : Int) (b : Int) = ((a ^^^ b : Nat) : Int) := by
  show IntKind.u8.wrap (((BitVec.ofInt 8 (a : Int) ^^^ BitVec.ofInt 8 (b : Int)).toNat : Nat) : Int) = _
  rw [BitVec.toNat_xor, BitVec.ofInt_natCast, BitVec.ofInt_natCast, BitVec.toNat_ofNat, BitVec.toNat_ofNat, Nat.mod_eq_of_lt (by omega), Nat.mod_eq_of_lt (by omega)]
  have : a ^^^ b < 2 ^ 8 := Nat.xor_lt_two_pow (by omega) (by omega)
  rw [wrapU8, Nat.mod_eq_of_lt (by omega)]
theorem bitN {l i : Nat} (hl : l < 256) (hi : i < 8) : bitB (l : Int) i = ((l / 2 ^ i % 2 : Nat) : Int) := by
  have : ∀ l : Fin 256, ∀ i : Fin 8, bitB ((l.val : Nat) : Int) i.val = ((l.val / 2 ^ i.val % 2 : Nat) : Int) := by decide +kernel
  exact this ⟨l, hl⟩ ⟨i, hi⟩
def colT : List Nat := [1996959894, 3993919788, 124634137, 249268274, 498536548, 997073096, 1994146192, 3988292384]
def tG (l : Nat) : Nat → Nat
  | 0 => 0
  | i + 1 => if l / 2 ^ i % 2 = 1 then tG l i ^^^ colT.getD i 0 else tG l i
theorem colT_F {i : Nat} (hi : i < 8) : colF i = (colT.getD i 0 : Int) ∧ colT.getD i 0 < 4294967296 := by
  have : ∀ i : Fin 8, colF i.val = (colT.getD i.val 0 : Int) ∧ colT.getD i.val 0 < 4294967296 := by decide
  exact this ⟨i, hi⟩
theorem tG_lt (l : Nat) : ∀ i, i ≤ 8 → tG l i < 4294967296
  | 0, _ => by show 0 < 4294967296; decide
  | i + 1, h => by
    have h1 := tG_lt l i (by omega)
    have h2 := (colT_F (i := i) (by omega)).2
    unfold tG
    split
    · exact Nat.xor_lt_two_pow (n := 32) (by omega) (by omega)
    · exact h1
theorem inG_N {l s : Nat} (hl : l < 256) (hs : s < 4294967296) : ∀ i, i ≤ 8 → inG (l : Int) (s : Int) i = ((s ^^^ tG l i : Nat) : Int)
  | 0, _ => by simp [inG, tG]
  | i + 1, h => by
    have h1 := inG_N hl hs i (by omega)
    have h2 := bitN (l := l) (i := i) hl (by omega)
    obtain ⟨c1, c2⟩ := colT_F (i := i) (by omega)
    have h3 := tG_lt l i (by omega)
    have h4 : s ^^^ tG l i < 4294967296 := Nat.xor_lt_two_pow (n := 32) (by omega) (by omega)
    rw [inG, tG, h1, h2]
    by_cases hb : l / 2 ^ i % 2 = 1
    · rw [if_pos (by rw [hb]; rfl), if_pos hb, c1, xoN h4 c2, Nat.xor_assoc]
    · rw [if_neg (by omega), if_neg hb]
def stN (s x : Nat) : Nat := s / 256 ^^^ tG (s % 256 ^^^ x) 8
theorem stN_lt {s x : Nat} (hs : s < 4294967296) : stN s x < 4294967296 := Nat.xor_lt_two_pow (n := 32) (by omega) (tG_lt _ 8 (by omega))
theorem stp_N {s x : Nat} (hs : s < 4294967296) (hx : x < 256) : stp (s : Int) (x : Int) = (stN s x : Int) := by
  have hl : s % 256 ^^^ x < 256 := Nat.xor_lt_two_pow (n := 8) (by omega) (by omega)
  have e1 : lowB (s : Int) (x : Int) = ((s % 256 ^^^ x : Nat) : Int) := by
    unfold lowB
    rw [show real .ck .u8 (s : Int) = ((s % 256 : Nat) : Int) from ckU8 rfl s, xor8N (by omega) hx]
  have e2 : real .ar .shr .u32 (s : Int) 8 = ((s / 256 : Nat) : Int) := shrN rfl (k := .u32) (a := s) (j := 8) rfl (by decide)
  unfold stp
  rw [e1, e2, inG_N hl (by omega) 8 (by omega)]
  rfl
def sGN : Nat → List Nat → Nat
  | s, [] => s
  | s, x :: r => sGN (stN s x) r
theorem sGN_lt : ∀ {l : List Nat} {s : Nat}, s < 4294967296 → sGN s l < 4294967296
  | [], _, h => h
  | x :: r, s, h => sGN_lt (l := r) (stN_lt h)
theorem sumGo_N : ∀ {l : List Nat} {s : Nat}, s < 4294967296 → (∀ x, x ∈ l → x < 256) → sumGo (s : Int) l = (sGN s l : Int)
  | [], _, _, _ => rfl
  | x :: r, s, h, hx => by
    have h2 := sumGo_N (stN_lt (x := x) h) (l := r) fun y hy => hx y (by simp [hy])
    rw [sumGo, stp_N h (hx x (by simp)), h2]; rfl
theorem sumI_N {l : List Nat} (hl : ∀ x, x ∈ l → x < 256) : sumI l = ((4294967295 ^^^ sGN 4294967295 l : Nat) : Int) := by
  have h := sumGo_N (l := l) (s := 4294967295) (by omega) hl
  have e : sumI l = xo ((4294967295 : Nat) : Int) (sumGo ((4294967295 : Nat) : Int) l) := rfl
  rw [e, h, xoN (by omega) (sGN_lt (by omega))]
end Go.Proofs.Ytlljgefgbglmbaa
