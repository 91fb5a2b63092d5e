/- One byte turned: another sum. In plain Lean. -/
import Derived.Test.YtlljgefgbglmbaaWBB
set_option linter.unusedSimpArgs false
set_option linter.unusedVariables false
set_option maxRecDepth 100000
set_option maxHeartbeats 4000000
namespace Go.Proofs.Ytlljgefgbglmbaa
open Go GoV
theorem xoN {a b : Nat} (ha : a < 4294967296) (hb : b < 4294967296) : xo (a : Int) (b : Int) = ((a ^^^ b : Nat) : Int) := by
  show IntKind.u32.wrap (((BitVec.ofInt 32 (a : Int) ^^^ BitVec.ofInt 32 (b : Int)).toNat : Nat) : Int) = _
  rw [BitVec.toNat_xor, BitVec.ofInt_natCast, BitVec.ofInt_natCast, BitVec.toNat_ofNat, BitVec.toNat_ofNat, Nat.mod_eq_of_lt (by omega), Nat.mod_eq_of_lt (by omega)]
  have : a ^^^ b < 2 ^ 32 := Nat.xor_lt_two_pow (by omega) (by omega)
  exact wrapU32 (by omega) (by omega)
theorem xor8N {a b : Nat} (ha : a < 256) (hb : b < 256) : real .ar .xor .u8 (a : Int) (b : Int) = ((a ^^^ b : Nat) : Int) := by
  show IntKind.u8.wrap (((BitVec.ofInt 8 (a : Int) ^^^ BitVec.ofInt 8 (b : Int)).toNat : Nat) : Int) = _
  rw [BitVec.toNat_xor, BitVec.ofInt_natCast, BitVec.ofInt_natCast, BitVec.toNat_ofNat, BitVec.toNat_ofNat, Nat.mod_eq_of_lt (by omega), Nat.mod_eq_of_lt (by omega)]
  have : a ^^^ b < 2 ^ 8 := Nat.xor_lt_two_pow (by omega) (by omega)
  rw [wrapU8, Nat.mod_eq_of_lt (by omega)]
theorem bitN {l i : Nat} (hl : l < 256) (hi : i < 8) : bitB (l : Int) i = ((l / 2 ^ i % 2 : Nat) : Int) := by
  have : ∀ l : Fin 256, ∀ i : Fin 8, bitB ((l.val : Nat) : Int) i.val = ((l.val / 2 ^ i.val % 2 : Nat) : Int) := by decide +kernel
  exact this ⟨l, hl⟩ ⟨i, hi⟩
def colT : List Nat := [1996959894, 3993919788, 124634137, 249268274, 498536548, 997073096, 1994146192, 3988292384]
def tG (l : Nat) : Nat → Nat
  | 0 => 0
  | i + 1 => if l / 2 ^ i % 2 = 1 then tG l i ^^^ colT.getD i 0 else tG l i
theorem colT_F {i : Nat} (hi : i < 8) : colF i = (colT.getD i 0 : Int) ∧ colT.getD i 0 < 4294967296 := by
  have : ∀ i : Fin 8, colF i.val = (colT.getD i.val 0 : Int) ∧ colT.getD i.val 0 < 4294967296 := by decide
  exact this ⟨i, hi⟩
theorem tG_lt (l : Nat) : ∀ i, i ≤ 8 → tG l i < 4294967296
  | 0, _ => by show 0 < 4294967296; decide
  | i + 1, h => by
    have h1 := tG_lt l i (by omega)
    have h2 := (colT_F (i := i) (by omega)).2
    unfold tG
    split
    · exact Nat.xor_lt_two_pow (n := 32) (by omega) (by omega)
    · exact h1
theorem inG_N {l s : Nat} (hl : l < 256) (hs : s < 4294967296) : ∀ i, i ≤ 8 → inG (l : Int) (s : Int) i = ((s ^^^ tG l i : Nat) : Int)
  | 0, _ => by simp [inG, tG]
  | i + 1, h => by
    have h1 := inG_N hl hs i (by omega)
    have h2 := bitN (l := l) (i := i) hl (by omega)
    obtain ⟨c1, c2⟩ := colT_F (i := i) (by omega)
    have h3 := tG_lt l i (by omega)
    have h4 : s ^^^ tG l i < 4294967296 := Nat.xor_lt_two_pow (n := 32) (by omega) (by omega)
    rw [inG, tG, h1, h2]
    by_cases hb : l / 2 ^ i % 2 = 1
    · rw [if_pos (by rw [hb]; rfl), if_pos hb, c1, xoN h4 c2, Nat.xor_assoc]
    · rw [if_neg (by omega), if_neg hb]
def stN (s x : Nat) : Nat := s / 256 ^^^ tG (s % 256 ^^^ x) 8
theorem stN_lt {s x : Nat} (hs : s < 4294967296) : stN s x < 4294967296 := Nat.xor_lt_two_pow (n := 32) (by omega) (tG_lt _ 8 (by omega))
theorem stp_N {s x : Nat} (hs : s < 4294967296) (hx : x < 256) : stp (s : Int) (x : Int) = (stN s x : Int) := by
  have hl : s % 256 ^^^ x < 256 := Nat.xor_lt_two_pow (n := 8) (by omega) (by omega)
  have e1 : lowB (s : Int) (x : Int) = ((s % 256 ^^^ x : Nat) : Int) := by
    unfold lowB
    rw [show real .ck .u8 (s : Int) = ((s % 256 : Nat) : Int) from ckU8 rfl s, xor8N (by omega) hx]
  have e2 : real .ar .shr .u32 (s : Int) 8 = ((s / 256 : Nat) : Int) := shrN rfl (k := .u32) (a := s) (j := 8) rfl (by decide)
  unfold stp
  rw [e1, e2, inG_N hl (by omega) 8 (by omega)]
  rfl
def sGN : Nat → List Nat → Nat
  | s, [] => s
  | s, x :: r => sGN (stN s x) r
theorem sGN_lt : ∀ {l : List Nat} {s : Nat}, s < 4294967296 → sGN s l < 4294967296
  | [], _, h => h
  | x :: r, s, h => sGN_lt (l := r) (stN_lt h)
theorem sumGo_N : ∀ {l : List Nat} {s : Nat}, s < 4294967296 → (∀ x, x ∈ l → x < 256) → sumGo (s : Int) l = (sGN s l : Int)
  | [], _, _, _ => rfl
  | x :: r, s, h, hx => by
    have h2 := sumGo_N (stN_lt (x := x) h) (l := r) fun y hy => hx y (by simp [hy])
    rw [sumGo, stp_N h (hx x (by simp)), h2]; rfl
def invT : List Nat := [0, 65, 195, 130, 134, 199, 69, 4, 77, 12, 142, 207, 203, 138, 8, 73, 154, 219, 89, 24, 28, 93, 223, 158, 215, 150, 20, 85, 81, 16, 146, 211, 117, 52, 182, 247, 243, 178, 48, 113, 56, 121, 251, 186, 190, 255, 125, 60, 239, 174, 44, 109, 105, 40, 170, 235, 162, 227, 97, 32, 36, 101, 231, 166, 234, 171, 41, 104, 108, 45, 175, 238, 167, 230, 100, 37, 33, 96, 226, 163, 112, 49, 179, 242, 246, 183, 53, 116, 61, 124, 254, 191, 187, 250, 120, 57, 159, 222, 92, 29, 25, 88, 218, 155, 210, 147, 17, 80, 84, 21, 151, 214, 5, 68, 198, 135, 131, 194, 64, 1, 72, 9, 139, 202, 206, 143, 13, 76, 149, 212, 86, 23, 19, 82, 208, 145, 216, 153, 27, 90, 94, 31, 157, 220, 15, 78, 204, 141, 137, 200, 74, 11, 66, 3, 129, 192, 196, 133, 7, 70, 224, 161, 35, 98, 102, 39, 165, 228, 173, 236, 110, 47, 43, 106, 232, 169, 122, 59, 185, 248, 252, 189, 63, 126, 55, 118, 244, 181, 177, 240, 114, 51, 127, 62, 188, 253, 249, 184, 58, 123, 50, 115, 241, 176, 180, 245, 119, 54, 229, 164, 38, 103, 99, 34, 160, 225, 168, 233, 107, 42, 46, 111, 237, 172, 10, 75, 201, 136, 140, 205, 79, 14, 71, 6, 132, 197, 193, 128, 2, 67, 144, 209, 83, 18, 22, 87, 213, 148, 221, 156, 30, 95, 91, 26, 152, 217]
theorem top_inj {a b : Nat} (ha : a < 256) (hb : b < 256) (h : tG a 8 / 2 ^ 24 = tG b 8 / 2 ^ 24) : a = b := by
  have key : ∀ a : Fin 256, invT.getD (tG a.val 8 / 2 ^ 24) 0 = a.val := by decide +kernel
  have h1 := key ⟨a, ha⟩
  have h2 := key ⟨b, hb⟩
  dsimp only at h1 h2
  rw [← h1, ← h2, h]
theorem xor_cancel {a b t : Nat} (h : a ^^^ t = b ^^^ t) : a = b := by
  have : (a ^^^ t) ^^^ t = (b ^^^ t) ^^^ t := by rw [h]
  rwa [Nat.xor_assoc, Nat.xor_assoc, Nat.xor_self, Nat.xor_zero, Nat.xor_zero] at this
theorem stN_inj {s s' x x' : Nat} (hs : s < 4294967296) (hs' : s' < 4294967296) (hx : x < 256) (hx' : x' < 256) (h : stN s x = stN s' x') : s / 256 = s' / 256 ∧ s % 256 ^^^ x = s' % 256 ^^^ x' := by
  have hl : s % 256 ^^^ x < 256 := Nat.xor_lt_two_pow (n := 8) (by omega) (by omega)
  have hl' : s' % 256 ^^^ x' < 256 := Nat.xor_lt_two_pow (n := 8) (by omega) (by omega)
  have e : ∀ s x : Nat, s < 4294967296 → stN s x / 2 ^ 24 = tG (s % 256 ^^^ x) 8 / 2 ^ 24 := fun s x hs => by
    unfold stN
    rw [← Nat.shiftRight_eq_div_pow, ← Nat.shiftRight_eq_div_pow, Nat.shiftRight_xor_distrib, Nat.shiftRight_eq_div_pow (s / 256), Nat.div_eq_of_lt (by omega), Nat.zero_xor]
  have ht : s % 256 ^^^ x = s' % 256 ^^^ x' := top_inj hl hl' (by rw [← e s x hs, ← e s' x' hs', h])
  refine ⟨?_, ht⟩
  unfold stN at h
  rw [ht] at h
  exact xor_cancel h
theorem sGN_inj : ∀ {l : List Nat} {s s' : Nat}, s < 4294967296 → s' < 4294967296 → (∀ x, x ∈ l → x < 256) → sGN s l = sGN s' l → s = s'
  | [], _, _, _, _, _, h => h
  | x :: r, s, s', hs, hs', hx, h => by
    have h1 := sGN_inj (l := r) (stN_lt (x := x) hs) (stN_lt (x := x) hs') (fun y hy => hx y (by simp [hy])) h
    have hxx := hx x (by simp)
    obtain ⟨a, b⟩ := stN_inj hs hs' hxx hxx h1
    have c := xor_cancel b
    omega
theorem sGN_flip : ∀ {p r : List Nat} {s a b : Nat}, s < 4294967296 → (∀ x, x ∈ p → x < 256) → (∀ x, x ∈ r → x < 256) → a < 256 → b < 256 → sGN s (p ++ a :: r) = sGN s (p ++ b :: r) → a = b
  | [], r, s, a, b, hs, _, hr, ha, hb, h => by
    have h1 := sGN_inj (stN_lt (x := a) hs) (stN_lt (x := b) hs) hr (show sGN (stN s a) r = sGN (stN s b) r from h)
    obtain ⟨_, c⟩ := stN_inj hs hs ha hb h1
    rw [Nat.xor_comm (s % 256) a, Nat.xor_comm (s % 256) b] at c
    exact xor_cancel c
  | x :: p, r, s, a, b, hs, hp, hr, ha, hb, h => sGN_flip (p := p) (stN_lt (x := x) hs) (fun y hy => hp y (by simp [hy])) hr ha hb h
theorem sumI_N {l : List Nat} (hl : ∀ x, x ∈ l → x < 256) : sumI l = ((4294967295 ^^^ sGN 4294967295 l : Nat) : Int) := by
  have h := sumGo_N (l := l) (s := 4294967295) (by omega) hl
  have e : sumI l = xo ((4294967295 : Nat) : Int) (sumGo ((4294967295 : Nat) : Int) l) := rfl
  rw [e, h, xoN (by omega) (sGN_lt (by omega))]
theorem sumI_flip {l : List Nat} {i y : Nat} (hl : ∀ x, x ∈ l → x < 256) (hi : i < l.length) (hy : y < 256) (hne : y ≠ l[i]) : sumI (l.set i y) ≠ sumI l := by
  have e1 : l.set i y = l.take i ++ y :: l.drop (i + 1) := by rw [List.set_eq_take_append_cons_drop, if_pos hi]
  have e2 : l.take i ++ l[i] :: l.drop (i + 1) = l := by rw [← List.drop_eq_getElem_cons hi, List.take_append_drop]
  have ht : ∀ x, x ∈ l.take i → x < 256 := fun x hx => hl x (List.mem_of_mem_take hx)
  have hd : ∀ x, x ∈ l.drop (i + 1) → x < 256 := fun x hx => hl x (List.mem_of_mem_drop hx)
  have hli : l[i] < 256 := hl _ (List.getElem_mem hi)
  intro h
  have hset : ∀ x, x ∈ l.set i y → x < 256 := fun x hx => by
    rw [e1] at hx
    rcases List.mem_append.1 hx with hx | hx
    · exact ht x hx
    · rcases List.mem_cons.1 hx with rfl | hx
      · exact hy
      · exact hd x hx
  rw [sumI_N hset, sumI_N hl] at h
  have h2 : 4294967295 ^^^ sGN 4294967295 (l.set i y) = 4294967295 ^^^ sGN 4294967295 l := by omega
  rw [Nat.xor_comm 4294967295, Nat.xor_comm 4294967295 (sGN 4294967295 l)] at h2
  have h3 := xor_cancel h2
  rw [e1] at h3
  have h4 : sGN 4294967295 (l.take i ++ y :: l.drop (i + 1)) = sGN 4294967295 (l.take i ++ l[i] :: l.drop (i + 1)) := by
    rw [h3, e2]
  exact hne (sGN_flip (by omega) ht hd hy hli h4)
/-- With one byte turned it is not opened. -/
theorem open_flip {b : List Nat} (hb8 : ∀ x, x ∈ b → x < 256) {i y : Nat} (hi : i < (sealB b).length) (hy : y < 256) (hne : y ≠ (sealB b)[i]) : openS ((sealB b).set i y) = (none, 6) := by
  obtain ⟨s0, s1⟩ := sum_lt b
  have hv : val4 (sealB b) 4 = (sumI b).toNat := by
    show (((0 * 256 + hb (sumI b).toNat 0) * 256 + hb (sumI b).toNat 1) * 256 + hb (sumI b).toNat 2) * 256 + hb (sumI b).toNat 3 = _
    unfold hb
    simp only [Nat.reduceMul, Nat.reduceSub, Nat.reducePow]
    omega
  have hlb : (sealB b).length = b.length + 4 := by unfold sealB hd4; rw [List.length_append]; simp only [List.length_cons, List.length_nil]; omega
  have hl : ¬ ((sealB b).set i y).length < 4 := by rw [List.length_set]; omega
  have hbb : ∀ j, hb (sumI b).toNat j < 256 := fun j => Nat.mod_lt _ (by decide)
  have v0 := hbb 0
  have v1 := hbb 1
  have v2 := hbb 2
  have v3 := hbb 3
  have hv' : (((0 * 256 + hb (sumI b).toNat 0) * 256 + hb (sumI b).toNat 1) * 256 + hb (sumI b).toNat 2) * 256 + hb (sumI b).toNat 3 = (sumI b).toNat := hv
  unfold openS
  rw [if_neg hl]
  by_cases h4 : i < 4
  · have hd : ((sealB b).set i y).drop 4 = b := by rw [List.drop_set_of_lt h4]; rfl
    rw [hd]
    rw [if_neg]
    intro h
    have h' : (sumI b).toNat = val4 ((sealB b).set i y) 4 := by omega
    rw [← hv'] at h'
    rcases (show i = 0 ∨ i = 1 ∨ i = 2 ∨ i = 3 by omega) with rfl | rfl | rfl | rfl
    · have e : val4 ((sealB b).set 0 y) 4 = (((0 * 256 + y) * 256 + hb (sumI b).toNat 1) * 256 + hb (sumI b).toNat 2) * 256 + hb (sumI b).toNat 3 := rfl
      have n : y ≠ hb (sumI b).toNat 0 := hne
      rw [e] at h'
      omega
    · have e : val4 ((sealB b).set 1 y) 4 = (((0 * 256 + hb (sumI b).toNat 0) * 256 + y) * 256 + hb (sumI b).toNat 2) * 256 + hb (sumI b).toNat 3 := rfl
      have n : y ≠ hb (sumI b).toNat 1 := hne
      rw [e] at h'
      omega
    · have e : val4 ((sealB b).set 2 y) 4 = (((0 * 256 + hb (sumI b).toNat 0) * 256 + hb (sumI b).toNat 1) * 256 + y) * 256 + hb (sumI b).toNat 3 := rfl
      have n : y ≠ hb (sumI b).toNat 2 := hne
      rw [e] at h'
      omega
    · have e : val4 ((sealB b).set 3 y) 4 = (((0 * 256 + hb (sumI b).toNat 0) * 256 + hb (sumI b).toNat 1) * 256 + hb (sumI b).toNat 2) * 256 + y := rfl
      have n : y ≠ hb (sumI b).toNat 3 := hne
      rw [e] at h'
      omega
  · have hd : ((sealB b).set i y).drop 4 = b.set (i - 4) y := by rw [List.drop_set, if_neg h4]; rfl
    have hvv : val4 ((sealB b).set i y) 4 = val4 (sealB b) 4 := by
      have g : ∀ j, j < 4 → ((sealB b).set i y).getD j 0 = (sealB b).getD j 0 := fun j hj => by
        rw [List.getD_eq_getElem?_getD, List.getD_eq_getElem?_getD, List.getElem?_set_ne (by omega)]
      show (((0 * 256 + ((sealB b).set i y).getD 0 0) * 256 + ((sealB b).set i y).getD 1 0) * 256 + ((sealB b).set i y).getD 2 0) * 256 + ((sealB b).set i y).getD 3 0 = _
      rw [g 0 (by omega), g 1 (by omega), g 2 (by omega), g 3 (by omega)]
      rfl
    have hlen : i - 4 < b.length := by omega
    have hel : (sealB b)[i] = b[i - 4] := by
      have : (sealB b)[i]? = b[i - 4]? := by
        unfold sealB
        rw [List.getElem?_append_right (by show 4 ≤ i; omega)]
        rfl
      rw [List.getElem?_eq_getElem hi, List.getElem?_eq_getElem hlen] at this
      exact Option.some.inj this
    have := sumI_flip hb8 hlen hy (by rw [← hel]; exact hne)
    rw [hd, hvv, hv, if_neg]
    omega
end Go.Proofs.Ytlljgefgbglmbaa
