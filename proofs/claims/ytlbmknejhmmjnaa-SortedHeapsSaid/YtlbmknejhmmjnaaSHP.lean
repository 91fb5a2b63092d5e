/- Heaps, in plain Lean: going up, going down. -/
import Derived.Test.YtlbmknejhmmjnaaCGCode
import Derived.Test.YtlbmknejhmmjnaaVBL
set_option linter.unusedSimpArgs false
set_option linter.unusedVariables false
namespace Go.Proofs.Ytlbmknejhmmjnaa
open Go GoV

structure SW {α : Type} (lt : α → α → Bool) : Prop where
  irr : ∀ x, lt x x = false
  tr : ∀ x y z, lt x y = true → lt y z = true → lt x z = true
  nt : ∀ x y z, lt x y = false → lt y z = false → lt x z = false
theorem SW.asy {α : Type} {lt : α → α → Bool} (s : SW lt) {x y : α} (h : lt x y = true) : lt y x = false := by
  cases e : lt y x with
  | false => rfl
  | true => have := s.tr _ _ _ h e; rw [s.irr] at this; cases this
variable {α : Type} {lt : α → α → Bool}
/-- Nothing is ahead of what stands above it. -/
def Heap (lt : α → α → Bool) (c : List α) : Prop := ∀ (k : Nat) (h : k < c.length), 1 ≤ k → lt c[k] (c[(k - 1) / 2]'(by omega)) = false
/-- But for place i, which may be ahead of what is above it. -/
def UpH (lt : α → α → Bool) (c : List α) (i : Nat) : Prop :=
  (∀ (k : Nat) (h : k < c.length), 1 ≤ k → k ≠ i → lt c[k] (c[(k - 1) / 2]'(by omega)) = false) ∧ ∀ (k : Nat) (h : k < c.length), 1 ≤ k → (hp : (k - 1) / 2 = i) → 1 ≤ i → lt c[k] (c[(i - 1) / 2]'(by omega)) = false
/-- But for what is right below place i. -/
def DnH (lt : α → α → Bool) (c : List α) (i : Nat) : Prop :=
  (∀ (k : Nat) (h : k < c.length), 1 ≤ k → (k - 1) / 2 ≠ i → lt c[k] (c[(k - 1) / 2]'(by omega)) = false) ∧ ∀ (k : Nat) (h : k < c.length), 1 ≤ k → (hp : (k - 1) / 2 = i) → 1 ≤ i → lt c[k] (c[(i - 1) / 2]'(by omega)) = false
/-- Two change places. -/
def swp (c : List α) (i j : Nat) (hi : i < c.length) (hj : j < c.length) : List α := (c.set i c[j]).set j c[i]
theorem swp_len (c : List α) (i j : Nat) (hi hj) : (swp c i j hi hj).length = c.length := by simp [swp]
theorem swp_get (c : List α) (i j : Nat) (hi hj) (k : Nat) (hk : k < (swp c i j hi hj).length) : (swp c i j hi hj)[k] = if j = k then c[i] else if i = k then c[j] else c[k]'(by rw [swp_len] at hk; exact hk) := by
  simp only [swp, List.getElem_set]
theorem set_perm (c : List α) (i : Nat) (hi : i < c.length) (x : α) : (c[i] :: c.set i x).Perm (x :: c) := by
  induction c generalizing i with
  | nil => simp at hi
  | cons a r ih =>
    cases i with
    | zero => simp only [List.getElem_cons_zero, List.set_cons_zero]; exact List.Perm.swap _ _ _
    | succ i =>
      simp only [List.getElem_cons_succ, List.set_cons_succ]
      have := ih i (by simpa using hi)
      exact (List.Perm.swap _ _ _).trans ((this.cons a).trans (List.Perm.swap _ _ _))
theorem swp_perm (c : List α) (i j : Nat) (hi hj) : (swp c i j hi hj).Perm c := by
  have h1 := set_perm c i hi c[j]
  have hj' : j < (c.set i c[j]).length := by simpa using hj
  have h2 := set_perm (c.set i c[j]) j hj' c[i]
  have e : (c.set i c[j])[j] = c[j] := by
    simp only [List.getElem_set]; split <;> rfl
  rw [e] at h2
  exact (List.Perm.cons_inv (h2.trans h1))
theorem up_stop {c : List α} {i : Nat} (h : UpH lt c i) (hi : i < c.length) (hs : i = 0 ∨ ∃ h0 : 1 ≤ i, lt c[i] (c[(i - 1) / 2]'(by omega)) = false) : Heap lt c := by
  intro k hk h1
  by_cases e : k = i
  · subst e
    rcases hs with h | ⟨_, h⟩
    · omega
    · exact h
  · exact h.1 k hk h1 e
theorem up_step (s : SW lt) {c : List α} {i : Nat} (h : UpH lt c i) (hi : i < c.length) (h1 : 1 ≤ i) (hl : lt c[i] (c[(i - 1) / 2]'(by omega)) = true) : UpH lt (swp c i ((i - 1) / 2) hi (by omega)) ((i - 1) / 2) := by
  obtain ⟨u, hu⟩ : ∃ u, u = (i - 1) / 2 := ⟨_, rfl⟩
  have hul : u < c.length := by omega
  have hl' : lt c[i] c[u] = true := by simpa only [hu] using hl
  simp only [← hu]
  constructor
  · intro k hk hk1 hku
    rw [swp_len] at hk
    rw [swp_get, swp_get]
    by_cases ki : k = i
    · subst ki
      rw [if_neg (by omega), if_pos rfl, if_pos (by omega)]
      exact s.asy hl'
    · rw [if_neg (by omega), if_neg (by omega)]
      by_cases kp : (k - 1) / 2 = u
      · rw [if_pos (by omega)]
        have := h.1 k hk hk1 ki
        simp only [kp] at this
        cases e : lt c[k] c[i] with
        | false => rfl
        | true => rw [s.tr _ _ _ e hl'] at this; cases this
      · by_cases kq : (k - 1) / 2 = i
        · rw [if_neg (by omega), if_pos (by omega)]
          have := h.2 k hk hk1 kq h1
          simpa only [hu] using this
        · rw [if_neg (by omega), if_neg (by omega)]
          exact h.1 k hk hk1 ki
  · intro k hk hk1 hku hu1
    rw [swp_len] at hk
    rw [swp_get, swp_get]
    have hp : lt c[u] (c[(u - 1) / 2]'(by omega)) = false := h.1 u hul hu1 (by omega)
    rw [if_neg (by omega : u ≠ (u - 1) / 2), if_neg (by omega : i ≠ (u - 1) / 2), if_neg (by omega : u ≠ k)]
    by_cases ki : k = i
    · subst ki
      rw [if_pos rfl]
      exact hp
    · rw [if_neg (by omega)]
      have := h.1 k hk hk1 ki
      simp only [hku] at this
      exact s.nt _ _ _ this hp
theorem dn_stop {c : List α} {i : Nat} (h : DnH lt c i) (hs : ∀ (k : Nat) (hk : k < c.length), 1 ≤ k → (hp : (k - 1) / 2 = i) → lt c[k] (c[i]'(by omega)) = false) : Heap lt c := by
  intro k hk h1
  by_cases e : (k - 1) / 2 = i
  · have := hs k hk h1 e
    simpa only [e] using this
  · exact h.1 k hk h1 e
theorem dn_step (s : SW lt) {c : List α} {i l : Nat} (h : DnH lt c i) (hi : i < c.length) (hl : l < c.length) (hl1 : 1 ≤ l) (hli : (l - 1) / 2 = i) (hlt : lt c[l] c[i] = true)
    (hs : ∀ (k : Nat) (hk : k < c.length), 1 ≤ k → (k - 1) / 2 = i → lt c[k] c[l] = false) : DnH lt (swp c i l hi hl) l := by
  constructor
  · intro k hk hk1 hku
    rw [swp_len] at hk
    rw [swp_get, swp_get]
    by_cases kl : k = l
    · subst kl
      rw [if_pos rfl, if_neg (by omega), if_pos (by omega)]
      exact s.asy hlt
    · rw [if_neg (by omega)]
      by_cases ki : k = i
      · subst ki
        rw [if_pos rfl, if_neg (by omega), if_neg (by omega)]
        exact h.2 l hl hl1 hli hk1
      · rw [if_neg (by omega), if_neg (by omega)]
        by_cases kp : (k - 1) / 2 = i
        · rw [if_pos (by omega)]
          exact hs k hk hk1 kp
        · rw [if_neg (by omega)]
          exact h.1 k hk hk1 kp
  · intro k hk hk1 hkl _
    rw [swp_len] at hk
    rw [swp_get, swp_get]
    rw [if_neg (by omega : l ≠ k), if_neg (by omega : i ≠ k), if_neg (by omega : l ≠ (l - 1) / 2), if_pos (by omega)]
    have := h.1 k hk hk1 (by omega)
    simpa only [hkl] using this
theorem heap_min (s : SW lt) {c : List α} (h : Heap lt c) (h0 : 0 < c.length) : ∀ (k : Nat) (hk : k < c.length), lt c[k] c[0] = false := by
  intro k
  induction k using Nat.strongRecOn with
  | ind k ih =>
    intro hk
    by_cases e : k = 0
    · subst e; exact s.irr _
    · exact s.nt _ _ _ (h k hk (by omega)) (ih ((k - 1) / 2) (by omega) (by omega))
/-- One more at the end. -/
theorem up_init {c : List α} (h : Heap lt c) (x : α) : UpH lt (c ++ [x]) c.length := by
  constructor
  · intro k hk h1 hne
    simp only [List.length_append, List.length_cons, List.length_nil] at hk
    rw [List.getElem_append_left (by omega), List.getElem_append_left (by omega)]
    exact h k (by omega) h1
  · intro k hk h1 hp hi
    simp only [List.length_append, List.length_cons, List.length_nil] at hk
    omega
/-- The first one gone, the last one in its place. -/
def popL (c : List α) (h0 : 0 < c.length) : List α := (c.set 0 (c[c.length - 1]'(by omega))).take (c.length - 1)
theorem popL_len (c : List α) (h0 : 0 < c.length) : (popL c h0).length = c.length - 1 := by simp [popL]
theorem popL_perm (c : List α) (h0 : 0 < c.length) : (c[0] :: popL c h0).Perm c := by
  cases c with
  | nil => simp at h0
  | cons a r =>
    simp only [List.getElem_cons_zero]
    refine List.Perm.cons a ?_
    by_cases hr : r = []
    · subst hr; simp [popL]
    · have e : popL (a :: r) h0 = r.getLast hr :: r.dropLast := by
        unfold popL
        have hl : 1 ≤ r.length := by cases r with | nil => exact absurd rfl hr | cons _ _ => simp
        have h1 : (a :: r)[(a :: r).length - 1]'(by simp) = r.getLast hr := by
          rw [List.getLast_eq_getElem]
          simp only [List.length_cons, Nat.add_sub_cancel]
          obtain ⟨m, hm⟩ : ∃ m, r.length = m + 1 := ⟨r.length - 1, by omega⟩
          simp only [hm, List.getElem_cons_succ, Nat.add_sub_cancel]
        rw [h1]
        simp only [List.set_cons_zero, List.length_cons, Nat.add_sub_cancel]
        obtain ⟨m, hm⟩ : ∃ m, r.length = m + 1 := ⟨r.length - 1, by omega⟩
        rw [hm, List.take_succ_cons, List.dropLast_eq_take, hm, Nat.add_sub_cancel]
      rw [e]
      have h2 : (r.dropLast ++ [r.getLast hr]) = r := List.dropLast_concat_getLast hr
      conv => rhs; rw [← h2]
      exact (List.perm_append_comm (l₁ := [r.getLast hr]) (l₂ := r.dropLast))
theorem pop_dn {c : List α} (h : Heap lt c) (h0 : 0 < c.length) : DnH lt (popL c h0) 0 := by
  constructor
  · intro k hk h1 hp
    rw [popL_len] at hk
    simp only [popL, List.getElem_take, List.getElem_set]
    rw [if_neg (by omega), if_neg (by omega)]
    exact h k (by omega) h1
  · intro k hk h1 hp hi; omega
end Go.Proofs.Ytlbmknejhmmjnaa
