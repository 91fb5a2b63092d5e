/- scholiaref03.Next, gone through: the same. -/
import Derived.Test.YtanpphoehajcgaaUTC
import Derived.Lib.SlicesS
set_option linter.unusedSimpArgs false
set_option linter.unusedVariables false
set_option maxRecDepth 100000
set_option maxHeartbeats 4000000
namespace Go.Proofs.Ytanpphoehajcgaa
open Go GoV

/-- A text's bytes, as numbers. -/
def bsOf (s : ByteArray) : List Int := s.data.toList.map fun b => (b.toNat : Int)
def mkB (l : List Int) : ByteArray := ⟨(l.map fun n => UInt8.ofNat n.toNat).toArray⟩
theorem mkB_eq {l : List Int} (hl : ∀ x, x ∈ l → 0 ≤ x ∧ x < 256) (s : ByteArray) : mkB l = s ↔ l = bsOf s := by
  constructor
  · rintro rfl
    unfold bsOf mkB
    simp only [List.map_map]
    conv => lhs; rw [← List.map_id l]
    apply List.map_congr_left
    intro x hx
    have := hl x hx
    simp only [id, Function.comp_apply, UInt8.toNat_ofNat']
    omega
  · rintro rfl
    unfold mkB bsOf
    simp only [List.map_map]
    have : (fun n : Int => UInt8.ofNat n.toNat) ∘ (fun b : UInt8 => (b.toNat : Int)) = id := by
      funext b; simp
    rw [this, List.map_id]
theorem rNums_enc : ∀ l : List Int, rNums (encB l) = some l
  | [] => rfl
  | x :: r => by
    show (rNums (encB r)).bind _ = _
    rw [rNums_enc r]; rfl
theorem b2s_real (l : List Int) : real .b2s (encB l) = some (mkB l) := by
  rw [real_b2s, rB2s, rNums_enc]; rfl
theorem bsOf_sx (s : ByteArray) {a b : Nat} (hb : b ≤ s.size) : bsOf (sx s a b) = (List.range (b - a)).map fun i => bt s (a + i) := by
  have h := s2b_sx s (a := a) (b := b) hb
  rw [s2b_real] at h
  have inj : ∀ (x y : List Int), encB x = encB y → x = y := by
    intro x
    induction x with
    | nil => intro y h; cases y with | nil => rfl | cons _ _ => simp [encB] at h
    | cons p r ih =>
      intro y h
      cases y with
      | nil => simp [encB] at h
      | cons q t =>
        simp only [encB, List.map_cons, List.cons.injEq, IV.int.injEq, true_and, and_true] at h
        rw [h.1, ih t h.2]
  exact inj _ _ h
theorem scmp_real {l : List Int} (hl : ∀ x, x ∈ l → 0 ≤ x ∧ x < 256) (s : ByteArray) : real .scmp .eql (mkB l) s = decide (l = bsOf s) := by
  show ((mkB l).toList == s.toList) = _
  rw [Bool.eq_iff_iff, Go.Lib.bytes_beq_iff, mkB_eq hl, decide_eq_true_eq]
theorem bytesOf_range {r : Int} : ∀ x, x ∈ bytesOf r → 0 ≤ x ∧ x < 256 := by
  intro x hx
  unfold bytesOf at hx
  split at hx
  · simp at hx
  rename_i hs
  have hr : 0 ≤ r ∧ r ≤ 1114111 := by simp only [isSign, decide_eq_false_iff_not] at hs; omega
  split at hx
  · simp only [List.mem_singleton] at hx; omega
  split at hx
  · simp only [List.mem_cons, List.mem_singleton, List.not_mem_nil, or_false] at hx; omega
  split at hx
  · simp only [List.mem_cons, List.mem_singleton, List.not_mem_nil, or_false] at hx; omega
  · simp only [List.mem_cons, List.mem_singleton, List.not_mem_nil, or_false] at hx; omega
/-- What the reference tries: as so many bytes. -/
def rK (a b c d : Int) : Nat → Int
  | 0 => a
  | 1 => a % 32 * 64 + b % 64
  | 2 => a % 16 * 4096 + b % 64 * 64 + c % 64
  | _ => a % 8 * 262144 + b % 64 * 4096 + c % 64 * 64 + d % 64
def bK (a b c d : Int) : Nat → List Int
  | 0 => [a]
  | 1 => [a, b]
  | 2 => [a, b, c]
  | _ => [a, b, c, d]
theorem bytesOf_1 {r x : Int} (h : bytesOf r = [x]) : isSign r = true ∧ r ≤ 127 ∧ r = x := by
  unfold bytesOf at h
  split at h
  · cases h
  rename_i hs
  split at h
  · rename_i h1; simp only [List.cons.injEq, and_true] at h; exact ⟨by simpa using hs, h1, h⟩
  split at h
  · simp at h
  split at h <;> simp at h
theorem bytesOf_2 {r x y : Int} (h : bytesOf r = [x, y]) : 127 < r ∧ r ≤ 2047 ∧ 192 + r / 64 = x ∧ 128 + r % 64 = y := by
  unfold bytesOf at h
  split at h
  · cases h
  split at h
  · simp at h
  split at h
  · simp only [List.cons.injEq, and_true] at h; omega
  split at h <;> simp at h
theorem bytesOf_3 {r x y z : Int} (h : bytesOf r = [x, y, z]) : isSign r = true ∧ 2047 < r ∧ r ≤ 65535 ∧ 224 + r / 4096 = x ∧ 128 + r / 64 % 64 = y ∧ 128 + r % 64 = z := by
  unfold bytesOf at h
  split at h
  · cases h
  rename_i hs
  split at h
  · simp at h
  split at h
  · simp at h
  split at h
  · simp only [List.cons.injEq, and_true] at h; exact ⟨by simpa using hs, by omega⟩
  · simp at h
theorem bytesOf_4 {r x y z w : Int} (h : bytesOf r = [x, y, z, w]) : isSign r = true ∧ 65535 < r ∧ 240 + r / 262144 = x ∧ 128 + r / 4096 % 64 = y ∧ 128 + r / 64 % 64 = z ∧ 128 + r % 64 = w := by
  unfold bytesOf at h
  split at h
  · cases h
  rename_i hs
  split at h
  · simp at h
  split at h
  · simp at h
  split at h
  · simp at h
  · simp only [List.cons.injEq, and_true] at h; exact ⟨by simpa using hs, by omega⟩
theorem bytesOf_mk1 {r : Int} (hs : isSign r = true) (h : r ≤ 127) : bytesOf r = [r] := by simp [bytesOf, hs, h]
theorem bytesOf_mk2 {r : Int} (hs : isSign r = true) (h : 127 < r) (h' : r ≤ 2047) : bytesOf r = [192 + r / 64, 128 + r % 64] := by
  unfold bytesOf; rw [if_neg (by simp [hs]), if_neg (by omega), if_pos h']
theorem bytesOf_mk3 {r : Int} (hs : isSign r = true) (h : 2047 < r) (h' : r ≤ 65535) : bytesOf r = [224 + r / 4096, 128 + r / 64 % 64, 128 + r % 64] := by
  unfold bytesOf; rw [if_neg (by simp [hs]), if_neg (by omega), if_neg (by omega), if_pos h']
theorem bytesOf_mk4 {r : Int} (hs : isSign r = true) (h : 65535 < r) : bytesOf r = [240 + r / 262144, 128 + r / 4096 % 64, 128 + r / 64 % 64, 128 + r % 64] := by
  unfold bytesOf; rw [if_neg (by simp [hs]), if_neg (by omega), if_neg (by omega), if_neg (by omega)]
theorem sign_low {r : Int} (h0 : 0 ≤ r) (h : r < 55296) : isSign r = true := by simp only [isSign, decide_eq_true_eq]; omega
theorem match_nx {n : Nat} {a b c d : Int} (ha : 0 ≤ a ∧ a < 256) (hb : 0 ≤ b ∧ b < 256) (hc : 0 ≤ c ∧ c < 256) (hd : 0 ≤ d ∧ d < 256) : ∀ j, j < 4 → j + 1 ≤ n → bytesOf (rK a b c d j) = bK a b c d j → nx n a b c d = (rK a b c d j, ((j + 1 : Nat) : Int)) := by
  intro j hj hn h
  rcases (by omega : j = 0 ∨ j = 1 ∨ j = 2 ∨ j = 3) with rfl | rfl | rfl | rfl
  · simp only [rK, bK] at h ⊢
    obtain ⟨h1, h2, h3⟩ := bytesOf_1 h
    rw [nx_1 (by omega)]; rfl
  · simp only [rK, bK] at h ⊢
    obtain ⟨h2, h3, h4, h5⟩ := bytesOf_2 h
    rw [nx_2 (by omega) (by omega), if_neg (by omega)]; rfl
  · simp only [rK, bK] at h ⊢
    obtain ⟨h1, h2, h3, h4, h5, h6⟩ := bytesOf_3 h
    have e : (a % 16 * 64 + b % 64) * 64 + c % 64 = a % 16 * 4096 + b % 64 * 64 + c % 64 := by omega
    rw [nx_3 (by omega) (by omega), e, h1, if_neg (by simp; omega)]; rfl
  · simp only [rK, bK] at h ⊢
    obtain ⟨h1, h2, h3, h4, h5, h6⟩ := bytesOf_4 h
    have e : ((a % 8 * 64 + b % 64) * 64 + c % 64) * 64 + d % 64 = a % 8 * 262144 + b % 64 * 4096 + c % 64 * 64 + d % 64 := by omega
    rw [nx_4 (by omega) (by omega), e, h1, if_neg (by simp; omega)]; rfl
theorem nomatch_nx {n : Nat} (hn : 1 ≤ n) {a b c d : Int} (ha : 0 ≤ a ∧ a < 256) (hb : 0 ≤ b ∧ b < 256) (hc : 0 ≤ c ∧ c < 256) (hd : 0 ≤ d ∧ d < 256) (h : ∀ j, j < 4 → j + 1 ≤ n → ¬ bytesOf (rK a b c d j) = bK a b c d j) : nx n a b c d = (-1, 1) := by
  rcases fS_cases ha.1 with ⟨g, h1⟩ | ⟨g, h1, h2⟩ | ⟨g, h1, h2⟩ | ⟨g, h1, h2⟩ | ⟨g, h1, h2⟩
  · exact nx_0 h1
  · exact absurd (bytesOf_mk1 (sign_low h1 (by omega)) (by omega)) (h 0 (by omega) hn)
  · rw [nx_2 h1 h2]
    by_cases hx : n < 2 ∨ b / 64 ≠ 2 ∨ a % 32 * 64 + b % 64 < 128
    · rw [if_pos hx]
    · exfalso
      refine h 1 (by omega) (by omega) ?_
      simp only [rK, bK]
      rw [bytesOf_mk2 (sign_low (by omega) (by omega)) (by omega) (by omega)]
      simp only [List.cons.injEq, and_true]; omega
  · rw [nx_3 h1 h2]
    by_cases hx : n < 3 ∨ b / 64 ≠ 2 ∨ c / 64 ≠ 2 ∨ (a % 16 * 64 + b % 64) * 64 + c % 64 < 2048 ∨ isSign ((a % 16 * 64 + b % 64) * 64 + c % 64) = false
    · rw [if_pos hx]
    · exfalso
      refine h 2 (by omega) (by omega) ?_
      simp only [rK, bK]
      have e : (a % 16 * 64 + b % 64) * 64 + c % 64 = a % 16 * 4096 + b % 64 * 64 + c % 64 := by omega
      rw [e] at hx
      simp only [not_or, Bool.not_eq_false] at hx
      rw [bytesOf_mk3 hx.2.2.2.2 (by omega) (by omega)]
      simp only [List.cons.injEq, and_true]; omega
  · rw [nx_4 h1 h2]
    by_cases hx : n < 4 ∨ b / 64 ≠ 2 ∨ c / 64 ≠ 2 ∨ d / 64 ≠ 2 ∨ ((a % 8 * 64 + b % 64) * 64 + c % 64) * 64 + d % 64 < 65536 ∨ isSign (((a % 8 * 64 + b % 64) * 64 + c % 64) * 64 + d % 64) = false
    · rw [if_pos hx]
    · exfalso
      refine h 3 (by omega) (by omega) ?_
      simp only [rK, bK]
      have e : ((a % 8 * 64 + b % 64) * 64 + c % 64) * 64 + d % 64 = a % 8 * 262144 + b % 64 * 4096 + c % 64 * 64 + d % 64 := by omega
      rw [e] at hx
      simp only [not_or, Bool.not_eq_false] at hx
      rw [bytesOf_mk4 hx.2.2.2.2.2 (by omega)]
      simp only [List.cons.injEq, and_true]; omega
end Go.Proofs.Ytanpphoehajcgaa
