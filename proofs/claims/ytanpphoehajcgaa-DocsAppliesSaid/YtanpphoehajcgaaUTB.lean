/- The sign that begins at a place: of both packages, the same. -/
import Derived.Test.YtanpphoehajcgaaUTA
set_option linter.unusedSimpArgs false
set_option linter.unusedVariables false
set_option maxRecDepth 100000
set_option maxHeartbeats 4000000
namespace Go.Proofs.Ytanpphoehajcgaa
open Go GoV

/-- Byte i of a text (0 beyond it). -/
def bt (s : ByteArray) (i : Nat) : Int := ((s.data.toList.getD i 0).toNat : Int)
theorem bt_range (s : ByteArray) (i : Nat) : 0 ≤ bt s i ∧ bt s i < 256 := by
  have := (s.data.toList.getD i 0).toNat_lt
  unfold bt; omega
theorem sidx_real {s : ByteArray} {i : Int} (h0 : 0 ≤ i) (h : i < s.size) : real .sidx s i = some (bt s i.toNat) := by
  rw [real_sidx, if_pos h0]
  have h' : i.toNat < s.size := by omega
  have e : s[i.toNat]? = some s[i.toNat] := getElem?_pos s i.toNat h'
  rw [e, Option.map_some]
  have h2 : i.toNat < s.data.toList.length := by simpa using h'
  simp only [bt, List.getD_eq_getElem?_getD, List.getElem?_eq_getElem h2, Option.getD_some]
  rfl
/-- A part of a text. -/
def sx (s : ByteArray) (a b : Nat) : ByteArray := s.extract a b
theorem sext_real {s : ByteArray} {a b : Nat} (h1 : a ≤ b) (h2 : b ≤ s.size) : real .sext s (some (a : Int)) (some (b : Int)) = some (sx s a b) := by
  rw [real_sext]
  simp [rSext, rCut, rBound, h1, h2, sx]
theorem sext_lo {s : ByteArray} {a : Nat} (h : a ≤ s.size) : real .sext s (some (a : Int)) none = some (sx s a s.size) := by
  rw [real_sext]
  simp [rSext, rCut, rBound, h, sx]
theorem sext_hi {s : ByteArray} {b : Nat} (h : b ≤ s.size) : real .sext s none (some (b : Int)) = some (sx s 0 b) := by
  rw [real_sext]
  simp [rSext, rCut, rBound, h, sx]
theorem sx_list (s : ByteArray) (a b : Nat) (hb : b ≤ s.size) : (sx s a b).data.toList = (s.data.toList.drop a).take (b - a) := by
  have : (sx s a b).data = s.data.extract a b := ByteArray.data_extract
  rw [this, Array.toList_extract, List.extract_eq_take_drop]
theorem sx_size (s : ByteArray) (a b : Nat) (ha : a ≤ b) (hb : b ≤ s.size) : (sx s a b).size = b - a := by
  have h := congrArg List.length (sx_list s a b hb)
  simp only [List.length_take, List.length_drop, Array.length_toList] at h
  have e : (sx s a b).size = (sx s a b).data.size := rfl
  have e2 : s.size = s.data.size := rfl
  omega
theorem bt_sx (s : ByteArray) {a b i : Nat} (hb : b ≤ s.size) (hi : a + i < b) : bt (sx s a b) i = bt s (a + i) := by
  unfold bt
  rw [sx_list s a b hb]
  simp only [List.getD_eq_getElem?_getD, List.getElem?_take, List.getElem?_drop]
  rw [if_pos (by omega)]
theorem s2b_real (s : ByteArray) : real .s2b s = encB (s.data.toList.map fun b => (b.toNat : Int)) := by
  rw [real_s2b]; simp [encB]
theorem s2b_sx (s : ByteArray) {a b : Nat} (hb : b ≤ s.size) : real .s2b (sx s a b) = encB ((List.range (b - a)).map fun i => bt s (a + i)) := by
  rw [s2b_real, sx_list s a b hb]
  congr 1
  apply List.ext_getElem
  · simp only [List.length_map, List.length_take, List.length_drop, Array.length_toList, List.length_range]
    have e2 : s.size = s.data.size := rfl
    omega
  · intro i h1 h2
    simp only [List.length_map, List.length_range] at h2
    have e2 : s.size = s.data.toList.length := by simp
    simp only [List.getElem_map, List.getElem_take, List.getElem_drop, List.getElem_range, bt, List.getD_eq_getElem?_getD]
    rw [List.getElem?_eq_getElem (by omega)]
    rfl
/-! ### What the next sign is -/
/-- What four bytes give, of which n are there. -/
def nx (n : Nat) (a b c d : Int) : Int × Int :=
  if a < 128 then (a, 1)
  else if a < 192 then (-1, 1)
  else if a < 224 then (if n < 2 ∨ b / 64 ≠ 2 ∨ a % 32 * 64 + b % 64 < 128 then (-1, 1) else (a % 32 * 64 + b % 64, 2))
  else if a < 240 then (if n < 3 ∨ b / 64 ≠ 2 ∨ c / 64 ≠ 2 ∨ (a % 16 * 64 + b % 64) * 64 + c % 64 < 2048 ∨ isSign ((a % 16 * 64 + b % 64) * 64 + c % 64) = false then (-1, 1) else ((a % 16 * 64 + b % 64) * 64 + c % 64, 3))
  else if a < 248 then (if n < 4 ∨ b / 64 ≠ 2 ∨ c / 64 ≠ 2 ∨ d / 64 ≠ 2 ∨ ((a % 8 * 64 + b % 64) * 64 + c % 64) * 64 + d % 64 < 65536 ∨ isSign (((a % 8 * 64 + b % 64) * 64 + c % 64) * 64 + d % 64) = false then (-1, 1) else (((a % 8 * 64 + b % 64) * 64 + c % 64) * 64 + d % 64, 4))
  else (-1, 1)
/-- The sign that begins at a place of a text, and how many bytes it has. -/
def nxt (s : ByteArray) (i : Nat) : Int × Int := nx (s.size - i) (bt s i) (bt s (i + 1)) (bt s (i + 2)) (bt s (i + 3))
theorem nx_range (n : Nat) (hn : 1 ≤ n) {a b c d : Int} (ha : 0 ≤ a) (hb : 0 ≤ b) (hc : 0 ≤ c) (hd : 0 ≤ d) : -1 ≤ (nx n a b c d).1 ∧ (nx n a b c d).1 ≤ 1114111 ∧ 1 ≤ (nx n a b c d).2 ∧ (nx n a b c d).2 ≤ n := by
  unfold nx
  split
  · dsimp only; omega
  split
  · dsimp only; omega
  split
  · split
    · dsimp only; omega
    · dsimp only; omega
  split
  · split
    · dsimp only; omega
    · rename_i h
      simp only [isSign] at h
      simp at h
      dsimp only; omega
  split
  · split
    · dsimp only; omega
    · rename_i h
      simp only [isSign] at h
      simp at h
      dsimp only; omega
  · dsimp only; omega
abbrev tupF (a b : Int) : FV := .tup [(false, [.iv (.int .i64 a)]), (false, [.iv (.int .i64 b)])]
end Go.Proofs.Ytanpphoehajcgaa
