/- Two states as one: sorted, without doubles; or put in one by one: the same list. In plain Lean. -/
import Derived.Test.YtanpphoehajcgaaDAB
set_option linter.unusedSimpArgs false
set_option linter.unusedVariables false
set_option maxRecDepth 100000
set_option maxHeartbeats 1000000
namespace Go.Proofs.Ytanpphoehajcgaa
open Go GoV
theorem bl_irr : ∀ l : List UInt8, Op.bytesLess l l = false
  | [] => rfl
  | x :: r => by simp [Op.bytesLess, bl_irr r]
theorem bl_tri : ∀ l m : List UInt8, Op.bytesLess l m = true ∨ l = m ∨ Op.bytesLess m l = true
  | [], [] => .inr (.inl rfl)
  | [], _ :: _ => .inl (by simp [Op.bytesLess])
  | _ :: _, [] => .inr (.inr (by simp [Op.bytesLess]))
  | x :: r, y :: s => by
    have ih := bl_tri r s
    simp only [Op.bytesLess, Bool.or_eq_true, Bool.and_eq_true, decide_eq_true_eq, beq_iff_eq, List.cons.injEq]
    rcases Nat.lt_trichotomy x.toNat y.toNat with h | h | h
    · exact .inl (.inl (UInt8.lt_iff_toNat_lt.2 h))
    · have e : x = y := UInt8.toNat_inj.1 h
      subst e
      rcases ih with h | h | h
      · exact .inl (.inr ⟨rfl, h⟩)
      · exact .inr (.inl ⟨rfl, h⟩)
      · exact .inr (.inr (.inr ⟨rfl, h⟩))
    · exact .inr (.inr (.inl (UInt8.lt_iff_toNat_lt.2 h)))
theorem bl_trans : ∀ {l m k : List UInt8}, Op.bytesLess l m = true → Op.bytesLess m k = true → Op.bytesLess l k = true
  | [], [], _, h, _ => by simp [Op.bytesLess] at h
  | [], _ :: _, [], _, h => by simp [Op.bytesLess] at h
  | [], _ :: _, _ :: _, _, _ => by simp [Op.bytesLess]
  | _ :: _, [], _, h, _ => by simp [Op.bytesLess] at h
  | _ :: _, _ :: _, [], _, h => by simp [Op.bytesLess] at h
  | x :: r, y :: s, z :: t, h, g => by
    have ih := @bl_trans r s t
    simp only [Op.bytesLess, Bool.or_eq_true, Bool.and_eq_true, decide_eq_true_eq, beq_iff_eq] at h g ⊢
    rcases h with h | ⟨rfl, h⟩ <;> rcases g with g | ⟨rfl, g⟩
    · exact .inl (UInt8.lt_trans h g)
    · exact .inl h
    · exact .inl g
    · exact .inr ⟨rfl, ih h g⟩
/-- One write ahead of another. -/
def LW (a b : Wr) : Prop := ordW a b < 0
def keyW (a b : Wr) : Prop := a.doc = b.doc ∧ a.f = b.f ∧ a.d = b.d
theorem toList_inj {a b : ByteArray} (h : a.toList = b.toList) : a = b := by
  rcases a with ⟨a⟩; rcases b with ⟨b⟩
  have h1 : ∀ c : Array UInt8, (ByteArray.mk c).toList = c.toList := fun c => by
    rw [ByteArray.toList_eq]
  rw [h1, h1] at h
  rw [Array.toList_inj.1 h]
theorem cmpS_cases (a b : ByteArray) : (cmpS a b = -1 ∧ Op.bytesLess a.toList b.toList = true) ∨ (cmpS a b = 0 ∧ a = b) ∨ (cmpS a b = 1 ∧ Op.bytesLess b.toList a.toList = true) := by
  unfold cmpS
  rcases bl_tri a.toList b.toList with h | h | h
  · exact .inl ⟨if_pos h, h⟩
  · refine .inr (.inl ⟨?_, toList_inj h⟩)
    rw [h, bl_irr, if_neg (by decide), if_neg]
    show ¬ (!(Op.bytesLess a.toList b.toList || a.toList == b.toList)) = true
    rw [h, bl_irr]; simp
  · refine .inr (.inr ⟨?_, h⟩)
    have h2 : Op.bytesLess a.toList b.toList = false := by
      cases h3 : Op.bytesLess a.toList b.toList with
      | false => rfl
      | true => have := bl_trans h3 h; rw [bl_irr] at this; cases this
    have h4 : (a.toList == b.toList) = false := by
      cases h5 : (a.toList == b.toList) with
      | false => rfl
      | true => rw [beq_iff_eq] at h5; rw [h5, bl_irr] at h; cases h
    rw [h2, if_neg (by decide), if_pos]
    show (!(Op.bytesLess a.toList b.toList || a.toList == b.toList)) = true
    rw [h2, h4]; rfl
def LDt (a b : Int × Int) : Prop := a.1 < b.1 ∨ a.1 = b.1 ∧ a.2 < b.2
theorem cmpN_cases (a b : Int × Int) : (cmpN a b < 0 ∧ LDt a b) ∨ (cmpN a b = 0 ∧ a = b) ∨ (0 < cmpN a b ∧ LDt b a) := by
  obtain ⟨a1, a2⟩ := a
  obtain ⟨b1, b2⟩ := b
  unfold cmpN LDt
  dsimp only
  rcases cmpI_cases a1 b1 with ⟨h, h1⟩ | ⟨h, h1⟩ | ⟨h, h1⟩ <;> rcases cmpI_cases a2 b2 with ⟨k, k1⟩ | ⟨k, k1⟩ | ⟨k, k1⟩ <;> rw [h, k] <;> simp <;> omega
theorem LW_iff (a b : Wr) : LW a b ↔ Op.bytesLess a.doc.toList b.doc.toList = true ∨ a.doc = b.doc ∧ (a.f < b.f ∨ a.f = b.f ∧ LDt a.d b.d) := by
  have nl : ∀ {l m : List UInt8}, Op.bytesLess l m = true → ¬ Op.bytesLess m l = true := fun h g => by have := bl_trans h g; rw [bl_irr] at this; cases this
  have ne : ∀ {l : List UInt8}, ¬ Op.bytesLess l l = true := fun h => by rw [bl_irr] at h; cases h
  unfold LW ordW
  simp only [orL]
  rcases cmpS_cases a.doc b.doc with ⟨h, h1⟩ | ⟨h, h1⟩ | ⟨h, h1⟩
  · rw [h, if_neg (by decide)]; simp [h1]
  · rw [h, if_pos rfl, h1]
    rcases cmpI_cases a.f b.f with ⟨k, k1⟩ | ⟨k, k1⟩ | ⟨k, k1⟩
    · rw [k, if_neg (by decide)]; simp [k1]
    · rw [k, if_pos rfl, k1]
      rcases cmpN_cases a.d b.d with ⟨g, g1⟩ | ⟨g, g1⟩ | ⟨g, g1⟩
      · rw [if_neg (by omega)]; simp [g, g1]
      · rw [g, if_pos rfl, g1]; simp [ne, LDt]
      · rw [if_neg (by omega)]
        have : ¬ LDt a.d b.d := by unfold LDt at *; omega
        simp [ne, this]; omega
    · rw [k, if_neg (by decide)]
      have e1 : ¬ a.f < b.f := by omega
      have e2 : ¬ a.f = b.f := by omega
      simp [ne, e1, e2]
  · rw [h, if_neg (by decide)]
    have e1 : ¬ a.doc = b.doc := fun e => by rw [e, bl_irr] at h1; cases h1
    simp [nl h1, e1]
theorem LW_trans {a b c : Wr} (h : LW a b) (g : LW b c) : LW a c := by
  rw [LW_iff] at *
  rcases h with h | ⟨h, h1⟩ <;> rcases g with g | ⟨g, g1⟩
  · exact .inl (bl_trans h g)
  · exact .inl (by rw [← g]; exact h)
  · exact .inl (by rw [h]; exact g)
  · refine .inr ⟨h.trans g, ?_⟩
    unfold LDt at *
    rcases h1 with h1 | ⟨h1, h2 | ⟨h2, h3⟩⟩ <;> rcases g1 with g1 | ⟨g1, g2 | ⟨g2, g3⟩⟩ <;> first | (exact .inl (by omega)) | (exact .inr ⟨by omega, .inl (by omega)⟩) | (exact .inr ⟨by omega, .inr ⟨by omega, by omega⟩⟩)
theorem LW_tri (a b : Wr) : LW a b ∨ keyW a b ∨ LW b a := by
  rw [LW_iff, LW_iff]
  unfold keyW
  rcases cmpS_cases a.doc b.doc with ⟨_, h1⟩ | ⟨_, h1⟩ | ⟨_, h1⟩
  · exact .inl (.inl h1)
  · rcases cmpI_cases a.f b.f with ⟨_, k1⟩ | ⟨_, k1⟩ | ⟨_, k1⟩
    · exact .inl (.inr ⟨h1, .inl k1⟩)
    · rcases cmpN_cases a.d b.d with ⟨_, g1⟩ | ⟨_, g1⟩ | ⟨_, g1⟩
      · exact .inl (.inr ⟨h1, .inr ⟨k1, g1⟩⟩)
      · exact .inr (.inl ⟨h1, k1, g1⟩)
      · exact .inr (.inr (.inr ⟨h1.symm, .inr ⟨k1.symm, g1⟩⟩))
    · exact .inr (.inr (.inr ⟨h1.symm, .inl k1⟩))
  · exact .inr (.inr (.inl h1))
/-! ### Put in one by one -/
instance (a b : Wr) : Decidable (LW a b) := inferInstanceAs (Decidable (ordW a b < 0))
def putW (l : List Wr) (w : Wr) : List Wr := l.takeWhile (fun x => decide (LW x w)) ++ w :: l.dropWhile (fun x => decide (LW x w))
instance : DecidableEq Wr := fun a b => decidable_of_iff (a.d = b.d ∧ a.t = b.t ∧ a.doc = b.doc ∧ a.f = b.f ∧ a.txt = b.txt) ⟨fun h => by
  obtain ⟨a1, a2, a3, a4, a5⟩ := a
  obtain ⟨b1, b2, b3, b4, b5⟩ := b
  obtain ⟨h1, h2, h3, h4, h5⟩ := h
  dsimp only at h1 h2 h3 h4 h5
  rw [h1, h2, h3, h4, h5], fun h => by rw [h]; exact ⟨rfl, rfl, rfl, rfl, rfl⟩⟩
theorem mem_tdw {p : Wr → Bool} (l : List Wr) (x : Wr) : x ∈ l ↔ x ∈ l.takeWhile p ∨ x ∈ l.dropWhile p := by
  conv => lhs; rw [← List.takeWhile_append_dropWhile (p := p) (l := l)]
  exact List.mem_append
theorem putW_mem (l : List Wr) (w x : Wr) : x ∈ putW l w ↔ x ∈ l ∨ x = w := by
  unfold putW
  rw [List.mem_append, List.mem_cons, mem_tdw (p := fun x => decide (LW x w)) l x]
  constructor
  · rintro (h | h | h)
    · exact .inl (.inl h)
    · exact .inr h
    · exact .inl (.inr h)
  · rintro ((h | h) | h)
    · exact .inl h
    · exact .inr (.inr h)
    · exact .inr (.inl h)
theorem tw_all {p : Wr → Bool} : ∀ {l : List Wr} {x : Wr}, x ∈ l.takeWhile p → p x = true
  | [], _, h => by simp at h
  | y :: r, x, h => by
    rw [List.takeWhile_cons] at h
    split at h
    · rename_i hy
      rcases List.mem_cons.1 h with rfl | h
      · exact hy
      · exact tw_all h
    · simp at h
theorem dw_after {w : Wr} : ∀ {l : List Wr}, l.Pairwise LW → (∀ x, x ∈ l → LW x w ∨ LW w x) → ∀ x, x ∈ l.dropWhile (fun x => decide (LW x w)) → LW w x
  | [], _, _, x, h => by simp at h
  | y :: r, hp, hk, x, h => by
    obtain ⟨h1, h2⟩ := List.pairwise_cons.1 hp
    rw [List.dropWhile_cons] at h
    split at h
    · exact dw_after h2 (fun z hz => hk z (by simp [hz])) x h
    · rename_i hy
      have hw : LW w y := by
        rcases hk y (by simp) with g | g
        · exact absurd (decide_eq_true g) hy
        · exact g
      rcases List.mem_cons.1 h with rfl | h
      · exact hw
      · exact LW_trans hw (h1 x h)
theorem putW_pw {l : List Wr} {w : Wr} (hp : l.Pairwise LW) (hk : ∀ x, x ∈ l → LW x w ∨ LW w x) : (putW l w).Pairwise LW := by
  unfold putW
  have hd := dw_after hp hk
  have ht : ∀ x, x ∈ l.takeWhile (fun x => decide (LW x w)) → LW x w := fun x hx => of_decide_eq_true (tw_all (p := fun x => decide (LW x w)) hx)
  refine List.pairwise_append.2 ⟨hp.sublist (List.takeWhile_sublist _), List.pairwise_cons.2 ⟨hd, hp.sublist (List.dropWhile_sublist _)⟩, fun x hx y hy => ?_⟩
  rcases List.mem_cons.1 hy with rfl | hy
  · exact ht x hx
  · exact LW_trans (ht x hx) (hd y hy)
/-! ### Sorted, without doubles -/
theorem canB_pw {v : List Int} {l : List Wr} (h : canB v l = true) : l.Pairwise LW ∧ ∀ w, w ∈ l → hasB v w.d = true := by
  have hc := (canB_0 h).2.2
  refine ⟨?_, fun w hw => by have := hc w hw; unfold goodW at this; simp only [Bool.and_eq_true] at this; exact this.2⟩
  unfold canB at h
  simp only [Bool.and_eq_true] at h
  have adj : ∀ (k i : Nat), cnGo v l k i = true → ∀ j, i ≤ j → j < i + k → 0 < j → LW (l.getD (j - 1) zeroWr) (l.getD j zeroWr) := by
    intro k
    induction k with
    | zero => intro i _ j _ _ _; omega
    | succ k ih =>
      intro i hi j h1 h2 h3
      rw [cnGo] at hi
      split at hi
      · cases hi
      · rename_i hn
        by_cases e : j = i
        · subst e
          have : ¬ (0 < j ∧ 0 ≤ ordW (l.getD (j - 1) zeroWr) (l.getD j zeroWr)) := fun h => hn (.inr h)
          unfold LW
          omega
        · exact ih (i + 1) hi j (by omega) (by omega) h3
  have adj := adj l.length 0 h.2
  have far : ∀ d i : Nat, i + d + 1 < l.length → LW (l.getD i zeroWr) (l.getD (i + d + 1) zeroWr) := by
    intro d
    induction d with
    | zero =>
      intro i hi
      have := adj (i + 1) (by omega) (by omega) (by omega)
      simpa using this
    | succ d ih =>
      intro i hi
      have h1 := ih i (by omega)
      have h2 := adj (i + (d + 1) + 1) (by omega) (by omega) (by omega)
      rw [show i + (d + 1) + 1 - 1 = i + d + 1 by omega] at h2
      exact LW_trans h1 h2
  refine List.pairwise_iff_getElem.2 fun i j hi hj hij => ?_
  have := far (j - i - 1) i (by omega)
  rw [show i + (j - i - 1) + 1 = j by omega, List.getD_eq_getElem?_getD, List.getD_eq_getElem?_getD, List.getElem?_eq_getElem hi, List.getElem?_eq_getElem hj] at this
  exact this
/-- Where a write is put, as the reference finds it: from behind. -/
def atW (l : List Wr) (w : Wr) : Nat → Nat
  | 0 => l.length
  | i + 1 => if LW (l.getD (l.length - 1 - i) zeroWr) w then atW l w i else l.length - 1 - i
theorem atW_tw (l : List Wr) (w : Wr) : ∀ i, i ≤ l.length → atW l w i = (l.length - i) + ((l.drop (l.length - i)).takeWhile (fun x => decide (LW x w))).length
  | 0, _ => by simp [atW]
  | i + 1, hi => by
    have ih := atW_tw l w i (by omega)
    have hd : l.drop (l.length - (i + 1)) = l.getD (l.length - 1 - i) zeroWr :: l.drop (l.length - i) := by
      rw [show l.length - (i + 1) = l.length - 1 - i by omega, List.drop_eq_getElem_cons (by omega), List.getD_eq_getElem?_getD, List.getElem?_eq_getElem (by omega), Option.getD_some, show l.length - 1 - i + 1 = l.length - i by omega]
    rw [atW, hd, List.takeWhile_cons]
    by_cases h : LW (l.getD (l.length - 1 - i) zeroWr) w
    · rw [if_pos h, decide_eq_true h, if_pos rfl, ih, List.length_cons]; omega
    · rw [if_neg h, decide_eq_false h, if_neg (by decide), List.length_nil]; omega
theorem putW_at (l : List Wr) (w : Wr) : putW l w = l.take (atW l w l.length) ++ w :: l.drop (atW l w l.length) ∧ atW l w l.length ≤ l.length := by
  have h := atW_tw l w l.length (Nat.le_refl _)
  rw [Nat.sub_self, Nat.zero_add, List.drop_zero] at h
  rw [h]
  have e := List.takeWhile_append_dropWhile (p := fun x => decide (LW x w)) (l := l)
  have e1 : l.take (l.takeWhile fun x => decide (LW x w)).length = l.takeWhile fun x => decide (LW x w) := by
    conv => lhs; rw [← e]
    rw [List.takeWhile_append_dropWhile]
    conv => lhs; arg 2; rw [← e]
    rw [List.take_left]
  have e2 : l.drop (l.takeWhile fun x => decide (LW x w)).length = l.dropWhile fun x => decide (LW x w) := by
    conv => lhs; arg 2; rw [← e]
    rw [List.drop_left]
  refine ⟨?_, ?_⟩
  · rw [e1, e2]; rfl
  · conv => rhs; rw [← e]
    rw [List.length_append]; omega
end Go.Proofs.Ytanpphoehajcgaa
