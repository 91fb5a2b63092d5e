/- Words in order, like beginnings once: in plain Lean. -/
import Derived.Test.YtinobfilomhhhaaEVG
set_option linter.unusedSimpArgs false
set_option linter.unusedVariables false
set_option maxRecDepth 100000
set_option maxHeartbeats 1000000
namespace Go.Proofs.Ytinobfilomhhhaa
open Go GoV
/-- How many bytes two words begin with alike. -/
def likeN : List Nat → List Nat → Nat
  | x :: a, y :: b => if x = y then likeN a b + 1 else 0
  | _, _ => 0
theorem likeN_le : ∀ a b : List Nat, likeN a b ≤ a.length ∧ likeN a b ≤ b.length
  | [], _ => by simp [likeN]
  | _ :: _, [] => by simp [likeN]
  | x :: a, y :: b => by
    have := likeN_le a b
    unfold likeN
    split
    · simp only [List.length_cons]; omega
    · omega
theorem likeN_take : ∀ a b : List Nat, a.take (likeN a b) = b.take (likeN a b)
  | [], _ => by simp [likeN]
  | _ :: _, [] => by simp [likeN]
  | x :: a, y :: b => by
    unfold likeN
    split
    · rename_i h
      rw [List.take_succ_cons, List.take_succ_cons, likeN_take a b, h]
    · rfl
theorem likeN_step {a b : List Nat} {i : Nat} (ha : i < a.length) (hb : i < b.length) : likeN (a.drop i) (b.drop i) = if a.getD i 0 = b.getD i 0 then likeN (a.drop (i + 1)) (b.drop (i + 1)) + 1 else 0 := by
  rw [List.drop_eq_getElem_cons ha, List.drop_eq_getElem_cons hb, likeN]
  simp [List.getD_eq_getElem?_getD, ha, hb]
theorem likeN_end {a b : List Nat} {i : Nat} (h : a.length ≤ i ∨ b.length ≤ i) : likeN (a.drop i) (b.drop i) = 0 := by
  rcases h with h | h
  · rw [List.drop_of_length_le h]; rfl
  · rw [List.drop_of_length_le h]
    cases a.drop i <;> rfl
theorem sbl_inj {a b : ByteArray} (h : sbl a = sbl b) : a = b := by rw [← strO_sbl a, h, strO_sbl]
theorem sbl_app (a b : ByteArray) : sbl (a ++ b) = sbl a ++ sbl b := by simp [sbl]
theorem sbl_ext (w : ByteArray) (i j : Nat) : sbl (w.extract i j) = ((sbl w).take j).drop i := by
  simp [sbl, List.take_drop, List.map_drop, List.map_take, List.extract_eq_take_drop]
  rcases Nat.lt_or_ge j i with h | h
  · rw [show j - i = 0 by omega]
    have : (List.map (fun x : UInt8 => x.toNat) (w.data.toList.take j)).length ≤ i := by simp; omega
    simp; omega
  · rw [show i + (j - i) = j by omega]
theorem strO_app (a b : List Nat) : strO (a ++ b) = strO a ++ strO b := by
  apply ByteArray.ext; simp [strO]
theorem sbl_strO {l : List Nat} (h : ∀ b, b ∈ l → b < 256) : sbl (strO l) = l := by
  unfold sbl strO
  simp only [List.map_map]
  conv => rhs; rw [← List.map_id l]
  exact List.map_congr_left fun b hb => by
    have := h b hb
    simp [Nat.mod_eq_of_lt this]
def lk (a b : ByteArray) : Nat := likeN (sbl a) (sbl b)
theorem lk_le (a b : ByteArray) : lk a b ≤ a.size ∧ lk a b ≤ b.size := by
  have := likeN_le (sbl a) (sbl b)
  rwa [sbl_len, sbl_len] at this
def tlW (p w : ByteArray) : ByteArray := w.extract (lk w p) w.size
theorem tlW_size (p w : ByteArray) : (tlW p w).size = w.size - lk w p := by
  rw [← sbl_len, tlW, sbl_ext, List.length_drop, List.length_take, sbl_len]; omega
theorem back (p w : ByteArray) : p.extract 0 (lk w p) ++ tlW p w = w := by
  apply sbl_inj
  rw [sbl_app, tlW, sbl_ext, sbl_ext, List.drop_zero, show (sbl p).take (lk w p) = (sbl w).take (lk w p) from (likeN_take (sbl w) (sbl p)).symm]
  have : (sbl w).take w.size = sbl w := List.take_of_length_le (by rw [sbl_len]; omega)
  rw [this]
  exact List.take_append_drop _ _
theorem enc_b (x : Nat) (hx : x < 2 ^ 64) : ∀ b, b ∈ enc x → b < 256 := by
  intro b hb
  simp only [enc, List.mem_cons] at hb
  rcases hb with rfl | h
  · exact fst8_lt hx
  · exact tl_lt _ _ _ h
/-- A word behind another one. -/
def encW (p w : ByteArray) : List Nat := enc (lk w p) ++ textB (tlW p w)
def encR : ByteArray → List ByteArray → List Nat
  | _, [] => []
  | p, w :: r => encW p w ++ encR w r
def lastW (p : ByteArray) (r : List ByteArray) : ByteArray := (p :: r).getLast (by simp)
theorem encR_snoc : ∀ (p : ByteArray) (r : List ByteArray) (w : ByteArray), encR p (r ++ [w]) = encR p r ++ encW (lastW p r) w
  | p, [], w => by simp [encR, lastW]
  | p, x :: r, w => by
    rw [List.cons_append, encR, encR, encR_snoc x r w, List.append_assoc]
    congr 2
theorem encW_len (p w : ByteArray) : (encW p w).length ≤ w.size + 18 := by
  unfold encW; rw [List.length_append, enc_len]
  have := nd_le (lk w p)
  have := textB_len (tlW p w)
  rw [tlW_size] at this
  omega
theorem encR_len : ∀ (p : ByteArray) (r : List ByteArray), (∀ w, w ∈ r → w.size ≤ 64) → (encR p r).length ≤ 82 * r.length
  | _, [], _ => by simp [encR]
  | p, w :: r, h => by
    rw [encR, List.length_append, List.length_cons]
    have := encR_len w r fun x hx => h x (by simp [hx])
    have := encW_len p w
    have := h w (by simp)
    omega
theorem encW_lt (p w : ByteArray) (h : w.size < 2 ^ 63) : ∀ b, b ∈ encW p w → b < 256 := by
  intro b hb
  unfold encW textB at hb
  have := lk_le w p
  have h2 := tlW_size p w
  rcases List.mem_append.1 hb with h1 | h1
  · exact enc_b _ (by omega) b h1
  · rcases List.mem_append.1 h1 with h1 | h1
    · exact enc_b _ (by omega) b h1
    · exact sbl_lt _ b h1
theorem encR_lt : ∀ (p : ByteArray) (r : List ByteArray), (∀ w, w ∈ r → w.size ≤ 64) → ∀ b, b ∈ encR p r → b < 256
  | _, [], _, b, hb => by simp [encR] at hb
  | p, w :: r, h, b, hb => by
    rw [encR] at hb
    rcases List.mem_append.1 hb with h1 | h1
    · exact encW_lt p w (by have := h w (by simp); omega) b h1
    · exact encR_lt w r (fun x hx => h x (by simp [hx])) b h1
/-! ### A dictionary -/
abbrev Dic := List (ByteArray × List ByteArray)
def flat (D : Dic) : List ByteArray := D.flatMap fun b => b.1 :: b.2
def heads (D : Dic) : List ByteArray := D.map (·.1)
def blks (D : Dic) : List ByteArray := D.map fun b => strO (encR b.1 b.2)
def lastD (l : List ByteArray) : ByteArray := l.getLast?.getD ⟨#[]⟩
theorem flat_new (D : Dic) (w : ByteArray) : flat (D ++ [(w, [])]) = flat D ++ [w] ∧ heads (D ++ [(w, [])]) = heads D ++ [w] ∧ blks (D ++ [(w, [])]) = blks D ++ [⟨#[]⟩] := by
  refine ⟨by simp [flat], by simp [heads], ?_⟩
  unfold blks
  rw [List.map_append]
  rfl
theorem flat_old (D : Dic) (h : ByteArray) (r : List ByteArray) (w : ByteArray) : flat (D ++ [(h, r ++ [w])]) = flat (D ++ [(h, r)]) ++ [w] ∧ heads (D ++ [(h, r ++ [w])]) = heads (D ++ [(h, r)]) ∧
    blks (D ++ [(h, r ++ [w])]) = (blks (D ++ [(h, r)])).set D.length (strO (encR h r) ++ strO (encW (lastD (flat (D ++ [(h, r)]))) w)) := by
  refine ⟨by simp [flat], by simp [heads], ?_⟩
  have hl : lastD (flat (D ++ [(h, r)])) = lastW h r := by
    unfold lastD flat lastW
    rw [List.flatMap_append, List.flatMap_singleton, List.getLast?_append, List.getLast?_eq_some_getLast (by simp)]
    rfl
  unfold blks
  rw [hl, List.map_append, List.map_append, List.map_singleton, List.map_singleton, List.set_append_right _ _ (by simp), encR_snoc, strO_app]
  simp
end Go.Proofs.Ytinobfilomhhhaa
