/- 'PastAll': what was added, trimmed and collected, as plain lists: what one has not, by its floor, is there. -/
import Derived.Test.YtomchclmnmhjaaaPSC
set_option linter.unusedSimpArgs false
set_option linter.unusedVariables false
set_option maxRecDepth 100000
set_option maxHeartbeats 4000000
namespace Go.Proofs.Ytomchclmnmhjaaa
open Go GoV

theorem getD_set_ge (v : List Int) (i : Nat) (x : Int) (h : v.getD i 0 ≤ x) (j : Nat) : v.getD j 0 ≤ (v.set i x).getD j 0 := by
  simp only [List.getD_eq_getElem?_getD, List.getElem?_set] at h ⊢
  by_cases e : i = j
  · subst e
    by_cases hl : i < v.length
    · simp only [if_true, hl, if_true, Option.getD_some]; exact h
    · simp [hl]
  · simp [e]
theorem withB_ge (v : List Int) (r n : Int) (j : Nat) : v.getD j 0 ≤ (withB v r n).getD j 0 := by
  unfold withB
  split
  · exact getD_set_ge v _ _ (by omega) j
  · exact Int.le_refl _
theorem within_of {a b : List Int} (h : ∀ j, a.getD j 0 ≤ b.getD j 0) : withinB a b = true := by
  simp only [withinB, List.all_eq_true, List.mem_range, decide_eq_true_eq]
  exact fun j _ => h j
theorem ok_app {l : List Ev} {e : Ev} (h : ∀ e, e ∈ l → EvOK e) (he : EvOK e) : ∀ x, x ∈ l ++ [e] → EvOK x := by
  intro x hx
  simp only [List.mem_append, List.mem_singleton] at hx
  rcases hx with hx | rfl
  · exact h x hx
  · exact he
theorem add_len (l : List Ev) (e : Ev) : (add l e).length ≤ l.length + 1 := by
  simp only [add]; cases hasD l e.r e.n <;> simp
theorem ok_trim {l : List Ev} (h : ∀ e, e ∈ l → EvOK e) (mx : Int) : ∀ (m : List Ev) (s : Int × List Ev × List Int), (∀ e, e ∈ m → EvOK e) → (∀ e, e ∈ s.2.1 → EvOK e) → ∀ e, e ∈ (m.foldl (tStep mx) s).2.1 → EvOK e
  | [], s, _, hs => hs
  | e :: r, s, hm, hs => by
    rw [List.foldl_cons]
    refine ok_trim h mx r _ (fun x hx => hm x (by simp [hx])) ?_
    unfold tStep
    split
    · exact hs
    · exact ok_app hs (show EvOK (clE e) from hm e (by simp))
theorem ok_collect (V : List Int) : ∀ (m : List Ev) (s : List Ev × List Int), (∀ e, e ∈ m → EvOK e) → (∀ e, e ∈ s.1 → EvOK e) → ∀ e, e ∈ (m.foldl (cStep V) s).1 → EvOK e
  | [], s, _, hs => hs
  | e :: r, s, hm, hs => by
    rw [List.foldl_cons]
    refine ok_collect V r _ (fun x hx => hm x (by simp [hx])) ?_
    unfold cStep
    split
    · exact hs
    · exact ok_app hs (show EvOK (clE e) from hm e (by simp))

theorem hasB_mono {v w : List Int} (h : ∀ j, v.getD j 0 ≤ w.getD j 0) {r n : Int} (hb : hasB v r n = true) : hasB w r n = true := by
  simp only [hasB, Bool.and_eq_true, decide_eq_true_eq] at hb ⊢
  have := h r.toNat
  exact ⟨hb.1, by omega⟩
theorem hasB_with {v : List Int} (hv : v.length = 64) {r n : Int} (hb : validB r n = true) : hasB (withB v r n) r n = true := by
  have hr := validB_range hb
  simp only [hasB, withB, hb, if_true, Bool.true_and, decide_eq_true_eq]
  have : r.toNat < v.length := by omega
  simp only [List.getD_eq_getElem?_getD, List.getElem?_set, this, if_true, Option.getD_some]
  omega
theorem hasD_app (a b : List Ev) (r n : Int) : hasD (a ++ b) r n = (hasD a r n || hasD b r n) := by simp [hasD]
theorem hasD_one (e : Ev) (r n : Int) : hasD [e] r n = sameD e.r e.n r n := by simp [hasD]
theorem hasD_cons (e : Ev) (l : List Ev) (r n : Int) : hasD (e :: l) r n = (sameD e.r e.n r n || hasD l r n) := by simp [hasD]
theorem sameD_true {a b c d : Int} : sameD a b c d = true ↔ a = c ∧ b = d := by simp [sameD]
/-- Below the floor, or there. -/
def cov (s : List Ev × List Int) (r n : Int) : Prop := hasB s.2 r n = true ∨ hasD s.1 r n = true
def pA (s : List Ev × List Int) (e : Ev) : List Ev × List Int := ((add s.1 e).map clE, s.2)
def pT (mx : Int) (s : List Ev × List Int) : List Ev × List Int := ((trim s.1 s.2 mx).2.1, (trim s.1 s.2 mx).2.2)
def pSt (mx : Int) (l : List Ev) : Nat → List Ev × List Int
  | 0 => ([], List.replicate 64 0)
  | i + 1 => if i % 3 = 2 then pT mx (pA (pSt mx l i) (l.getD i d0)) else pA (pSt mx l i) (l.getD i d0)
theorem hasD_add {l : List Ev} {e : Ev} {r n : Int} (h : hasD l r n = true) : hasD (add l e) r n = true := by
  unfold add
  cases hasD l e.r e.n
  · simp only [cond_false, hasD_app, h, Bool.true_or]
  · exact h
theorem hasD_new (l : List Ev) (e : Ev) : hasD (add l e) e.r e.n = true := by
  unfold add
  cases h : hasD l e.r e.n
  · simp [hasD_app, hasD_one, sameD]
  · exact h
theorem cov_add {s : List Ev × List Int} {r n : Int} (e : Ev) (h : cov s r n) : cov (pA s e) r n := by
  rcases h with h | h
  · exact .inl h
  · right; simp only [pA, hasD_cl]; exact hasD_add h
theorem cov_new (s : List Ev × List Int) (e : Ev) : cov (pA s e) e.r e.n := by
  right; simp only [pA, hasD_cl]; exact hasD_new _ _
theorem cov_tr (mx : Int) {r n : Int} (hv : validB r n = true) : ∀ (l : List Ev) (s : Int × List Ev × List Int), s.2.2.length = 64 → (hasB s.2.2 r n = true ∨ hasD s.2.1 r n = true ∨ hasD l r n = true) →
    hasB (l.foldl (tStep mx) s).2.2 r n = true ∨ hasD (l.foldl (tStep mx) s).2.1 r n = true
  | [], s, _, h => by
    rcases h with h | h | h
    · exact .inl h
    · exact .inr h
    · simp [hasD] at h
  | e :: q, s, hX, h => by
    rw [List.foldl_cons]
    refine cov_tr mx hv q _ (by unfold tStep; split <;> simp [withB_len, hX]) ?_
    rw [hasD_cons] at h
    unfold tStep
    split
    · rcases h with h | h | h
      · exact .inl (hasB_mono (withB_ge _ _ _) h)
      · exact .inr (.inl h)
      · rw [Bool.or_eq_true] at h
        rcases h with h | h
        · obtain ⟨rfl, rfl⟩ := sameD_true.1 h
          exact .inl (hasB_with hX hv)
        · exact .inr (.inr h)
    · rcases h with h | h | h
      · exact .inl h
      · exact .inr (.inl (by simp only [hasD_app, h, Bool.true_or]))
      · rw [Bool.or_eq_true] at h
        rcases h with h | h
        · exact .inr (.inl (by simp only [hasD_app, hasD_one]; rw [show sameD (clE e).r (clE e).n r n = true from h]; simp))
        · exact .inr (.inr h)
theorem cov_trim (mx : Int) {s : List Ev × List Int} (hX : s.2.length = 64) {r n : Int} (hv : validB r n = true) (h : cov s r n) : cov (pT mx s) r n :=
  cov_tr mx hv s.1 _ hX (h.elim .inl fun h => .inr (.inr h))
theorem cov_co (V : List Int) {r n : Int} (hv : validB r n = true) : ∀ (l : List Ev) (s : List Ev × List Int), s.2.length = 64 → (hasB s.2 r n = true ∨ hasD s.1 r n = true ∨ hasD l r n = true) → cov (l.foldl (cStep V) s) r n
  | [], s, _, h => by
    rcases h with h | h | h
    · exact .inl h
    · exact .inr h
    · simp [hasD] at h
  | e :: q, s, hX, h => by
    rw [List.foldl_cons]
    refine cov_co V hv q _ (by unfold cStep; split <;> simp [withB_len, hX]) ?_
    rw [hasD_cons] at h
    unfold cStep
    split
    · rcases h with h | h | h
      · exact .inl (hasB_mono (withB_ge _ _ _) h)
      · exact .inr (.inl h)
      · rw [Bool.or_eq_true] at h
        rcases h with h | h
        · obtain ⟨rfl, rfl⟩ := sameD_true.1 h
          exact .inl (hasB_with hX hv)
        · exact .inr (.inr h)
    · rcases h with h | h | h
      · exact .inl h
      · exact .inr (.inl (by simp only [hasD_app, h, Bool.true_or]))
      · rw [Bool.or_eq_true] at h
        rcases h with h | h
        · exact .inr (.inl (by simp only [hasD_app, hasD_one]; rw [show sameD (clE e).r (clE e).n r n = true from h]; simp))
        · exact .inr (.inr h)
theorem cov_collect (V : List Int) {s : List Ev × List Int} (hX : s.2.length = 64) {r n : Int} (hv : validB r n = true) (h : cov s r n) : cov (collect s.1 s.2 V) r n :=
  cov_co V hv s.1 _ hX (h.elim .inl fun h => .inr (.inr h))
theorem pSt_ok {mx : Int} (h0 : 0 ≤ mx) {l : List Ev} (hl : ∀ e, e ∈ l → EvOK e) : ∀ i, i ≤ l.length → (pSt mx l i).2.length = 64 ∧ (pSt mx l i).1.length ≤ i ∧ ∀ e, e ∈ (pSt mx l i).1 → EvOK e
  | 0, _ => ⟨by simp [pSt], by simp [pSt], by simp [pSt]⟩
  | i + 1, hi => by
    obtain ⟨i1, i2, i3⟩ := pSt_ok h0 hl i (by omega)
    have he : EvOK (l.getD i d0) := by rw [getD_ev (by omega)]; exact hl _ (List.getElem_mem _)
    have a1 : (pA (pSt mx l i) (l.getD i d0)).2.length = 64 := i1
    have a2 : (pA (pSt mx l i) (l.getD i d0)).1.length ≤ i + 1 := by
      have := add_len (pSt mx l i).1 (l.getD i d0)
      simp only [pA, List.length_map]; omega
    have a3 : ∀ e, e ∈ (pA (pSt mx l i) (l.getD i d0)).1 → EvOK e := ok2_cl (ok2_add i3 he)
    simp only [pSt]
    split
    · have ht := trim_range mx h0 (pA (pSt mx l i) (l.getD i d0)).2 (puts (pA (pSt mx l i) (l.getD i d0)).1) (by omega) (pA (pSt mx l i) (l.getD i d0)).1
      refine ⟨?_, ?_, ?_⟩
      · exact ht.2.2.2.trans a1
      · exact Nat.le_trans ht.2.2.1 a2
      · exact ok_trim a3 mx _ _ a3 (by simp)
    · exact ⟨a1, a2, a3⟩
theorem pSt_cov {mx : Int} (h0 : 0 ≤ mx) {l : List Ev} (hl : ∀ e, e ∈ l → EvOK e) : ∀ i, i ≤ l.length → ∀ j, j < i → validB (l.getD j d0).r (l.getD j d0).n = true → cov (pSt mx l i) (l.getD j d0).r (l.getD j d0).n
  | 0, _, j, hj, _ => by omega
  | i + 1, hi, j, hj, hv => by
    have hc : cov (pA (pSt mx l i) (l.getD i d0)) (l.getD j d0).r (l.getD j d0).n := by
      by_cases e : j = i
      · subst e; exact cov_new _ _
      · exact cov_add _ (pSt_cov h0 hl i (by omega) j (by omega) hv)
    simp only [pSt]
    split
    · exact cov_trim mx (s := pA (pSt mx l i) (l.getD i d0)) (pSt_ok h0 hl i (by omega)).1 hv hc
    · exact hc
theorem sF_has {V : List Int} {most : Int} {r n : Int} (hb : hasB V r n = false) : ∀ (l s : List Ev), ((s.length + l.length : Nat) : Int) ≤ most → (hasD s r n = true ∨ hasD l r n = true) → hasD (l.foldl (sF V most) s) r n = true
  | [], s, _, h => by
    rcases h with h | h
    · exact h
    · simp [hasD] at h
  | e :: q, s, hm, h => by
    rw [List.foldl_cons]
    simp only [List.length_cons] at hm
    refine sF_has hb q _ ?_ ?_
    · have : (sF V most s e).length ≤ s.length + 1 := by unfold sF; split <;> simp
      omega
    · rw [hasD_cons, Bool.or_eq_true] at h
      unfold sF
      rcases h with h | h | h
      · left; split
        · simp only [hasD_app, h, Bool.true_or]
        · exact h
      · left
        obtain ⟨rfl, rfl⟩ := sameD_true.1 h
        rw [if_pos ⟨hb, by omega⟩]
        simp [hasD_app, hasD_one, sameD]
      · exact .inr h
/-- The plain law. -/
theorem all_law {mx : Int} (h0 : 0 ≤ mx) {l : List Ev} (hl : ∀ e, e ∈ l → EvOK e) (hn : l.length ≤ 80) {V W : List Int} {q : List Ev × List Int} (hq : q = collect (pSt mx l l.length).1 (pSt mx l l.length).2 V) (hW : W.length = 64) :
    q.2.length = 64 ∧ q.1.length ≤ 80 ∧ (∀ e, e ∈ q.1 → EvOK e) ∧ withinB q.2 (joinI W q.2) = true ∧
    ∀ j, j < l.length → validB (l.getD j d0).r (l.getD j d0).n = true → hasB (joinI W q.2) (l.getD j d0).r (l.getD j d0).n = false → hasD (q.1.foldl (sF (joinI W q.2) 1000) []) (l.getD j d0).r (l.getD j d0).n = true := by
  obtain ⟨i1, i2, i3⟩ := pSt_ok h0 hl l.length (Nat.le_refl _)
  have hc := collect_range V (pSt mx l l.length).2 (pSt mx l l.length).1
  have hq2 : q.2.length = 64 := by rw [hq]; exact hc.2.trans i1
  have hq1 : q.1.length ≤ 80 := by rw [hq]; exact Nat.le_trans hc.1 (by omega)
  have hge : ∀ j, q.2.getD j 0 ≤ (joinI W q.2).getD j 0 := by
    intro j
    have hz : (joinI W q.2).length = 64 := zip_len _ _ _
    by_cases hj : j < 64
    · simp only [List.getD_eq_getElem?_getD]
      rw [List.getElem?_eq_getElem (by omega : j < q.2.length), List.getElem?_eq_getElem (by omega : j < (joinI W q.2).length)]
      simp only [joinI, zipI, Option.getD_some]
      simp [List.getD_eq_getElem?_getD, List.getElem?_eq_getElem (by omega : j < q.2.length)]
      omega
    · simp only [List.getD_eq_getElem?_getD]
      rw [List.getElem?_eq_none (by omega), List.getElem?_eq_none (by omega)]
      simp
  refine ⟨hq2, hq1, ?_, within_of hge, ?_⟩
  · rw [hq]; exact ok_collect V _ _ i3 (by simp)
  · intro j hj hv hb
    refine sF_has hb q.1 [] (by simp only [List.length_nil]; omega) (.inr ?_)
    have hcv := cov_collect V i1 hv (pSt_cov h0 hl l.length (Nat.le_refl _) j hj hv)
    rw [← hq] at hcv
    rcases hcv with h | h
    · rw [hasB_mono hge h] at hb; cases hb
    · exact h
end Go.Proofs.Ytomchclmnmhjaaa
