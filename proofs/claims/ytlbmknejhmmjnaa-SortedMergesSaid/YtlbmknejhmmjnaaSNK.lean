/- Lists that are merged, in plain Lean. -/
import Derived.Test.YtlbmknejhmmjnaaSNJ
set_option linter.unusedSimpArgs false
set_option linter.unusedVariables false
set_option maxHeartbeats 1000000
namespace Go.Proofs.Ytlbmknejhmmjnaa
open Go GoV

def put (rem : Nat → List Int) (i : Nat) (r : List Int) : Nat → List Int := fun j => if j = i then r else rem j
theorem put_self (rem : Nat → List Int) (i : Nat) (r : List Int) : put rem i r i = r := by simp [put]
theorem put_other (rem : Nat → List Int) {i j : Nat} (r : List Int) (h : j ≠ i) : put rem i r j = rem j := by simp [put, h]
theorem put_put (rem : Nat → List Int) (i : Nat) (r s : List Int) : put (put rem i r) i s = put rem i s := by
  funext j; simp only [put]; split <;> rfl
/-- A heap holds the heads of what is left of m lists. -/
structure Hds (m : Nat) (f : Nat → Bool) (c : List Hd) (rem : Nat → List Int) : Prop where
  of : ∀ h, h ∈ c → ∃ (i : Nat) (x : Int) (r : List Int), i < m ∧ h = ⟨x, i, f i, r.map e1⟩ ∧ rem i = x :: r
  all : ∀ i, i < m → rem i ≠ [] → ∃ h, h ∈ c ∧ h.i = (i : Int)
  nd : (c.map Hd.i).Nodup
theorem Hds.perm {m : Nat} {f : Nat → Bool} {c d : List Hd} {rem : Nat → List Int} (h : Hds m f c rem) (p : d.Perm c) : Hds m f d rem :=
  ⟨fun x hx => h.of x (p.mem_iff.1 hx), fun i hi hr => by obtain ⟨x, h1, h2⟩ := h.all i hi hr; exact ⟨x, p.mem_iff.2 h1, h2⟩, (p.map Hd.i).nodup_iff.2 h.nd⟩
theorem Hds.push {m : Nat} {f : Nat → Bool} {c c' : List Hd} {rem : Nat → List Int} (h : Hds m f c rem) {i : Nat} (hi : i < m) (h0 : rem i = []) (x : Int) (r : List Int) (p : c'.Perm (⟨x, i, f i, r.map e1⟩ :: c)) : Hds m f c' (put rem i (x :: r)) := by
  refine Hds.perm (c := ⟨x, i, f i, r.map e1⟩ :: c) ?_ p
  have hne : ∀ y, y ∈ c → y.i ≠ (i : Int) := fun y hy e => by
    obtain ⟨i', x', r', _, rfl, hr⟩ := h.of y hy
    have : i' = i := Int.ofNat_inj.1 e
    subst this; rw [h0] at hr; cases hr
  refine ⟨fun y hy => ?_, fun j hj hr => ?_, ?_⟩
  · rcases List.mem_cons.1 hy with rfl | hy
    · exact ⟨i, x, r, hi, rfl, put_self _ _ _⟩
    · obtain ⟨i', x', r', h1, rfl, hr⟩ := h.of y hy
      have : i' ≠ i := fun e => hne _ hy (by simp [e])
      exact ⟨i', x', r', h1, rfl, by rw [put_other _ _ this]; exact hr⟩
  · by_cases e : j = i
    · subst e; exact ⟨_, List.mem_cons_self, rfl⟩
    · rw [put_other _ _ e] at hr
      obtain ⟨y, h1, h2⟩ := h.all j hj hr
      exact ⟨y, List.mem_cons_of_mem _ h1, h2⟩
  · rw [List.map_cons, List.nodup_cons]
    refine ⟨fun hm => ?_, h.nd⟩
    obtain ⟨y, hy, e⟩ := List.mem_map.1 hm
    exact hne y hy e
theorem Hds.pop {m : Nat} {f : Nat → Bool} {c c' : List Hd} {y : Hd} {rem : Nat → List Int} (h : Hds m f c rem) (p : (y :: c').Perm c) :
    ∃ (i : Nat) (x : Int) (r : List Int), i < m ∧ y = ⟨x, i, f i, r.map e1⟩ ∧ rem i = x :: r ∧ Hds m f c' (put rem i []) := by
  have h := h.perm p
  obtain ⟨i, x, r, hi, rfl, hr⟩ := h.of y List.mem_cons_self
  have hnd := h.nd
  rw [List.map_cons, List.nodup_cons] at hnd
  refine ⟨i, x, r, hi, rfl, hr, fun z hz => ?_, fun j hj hjr => ?_, hnd.2⟩
  · obtain ⟨i', x', r', h1, rfl, hr'⟩ := h.of z (List.mem_cons_of_mem _ hz)
    have : i' ≠ i := fun e => hnd.1 (List.mem_map.2 ⟨_, hz, by simp [e]⟩)
    exact ⟨i', x', r', h1, rfl, by rw [put_other _ _ this]; exact hr'⟩
  · have hne : j ≠ i := fun e => by subst e; rw [put_self] at hjr; exact hjr rfl
    rw [put_other _ _ hne] at hjr
    obtain ⟨z, h1, h2⟩ := h.all j hj hjr
    rcases List.mem_cons.1 h1 with rfl | h1
    · simp only [Int.ofNat_inj] at h2; exact absurd h2.symm hne
    · exact ⟨z, h1, h2⟩
/-- What is left, list by list. -/
def fl (m : Nat) (rem : Nat → List Int) : List Int := (List.range m).flatMap rem
theorem fl_split {m i : Nat} (hi : i < m) (rem : Nat → List Int) : ∃ B : List Nat, (∀ j, j ∈ B → j ≠ i) ∧ fl m rem = (List.range i).flatMap rem ++ (rem i ++ B.flatMap rem) ∧ ∀ r, fl m (put rem i r) = (List.range i).flatMap rem ++ (r ++ B.flatMap rem) := by
  obtain ⟨b, rfl⟩ : ∃ b, m = i + (1 + b) := ⟨m - i - 1, by omega⟩
  have hcongr : ∀ (L : List Nat) (r : List Int), (∀ j, j ∈ L → j ≠ i) → L.flatMap (put rem i r) = L.flatMap rem := fun L r hL => by
    induction L with
    | nil => rfl
    | cons a t ih =>
      simp only [List.flatMap_cons]
      rw [put_other _ _ (hL a (by simp)), ih fun j hj => hL j (by simp [hj])]
  have hr : List.range (i + (1 + b)) = List.range i ++ i :: (List.range b).map (fun k => i + (1 + k)) := by
    rw [List.range_add, List.range_add]
    simp
  refine ⟨(List.range b).map (fun k => i + (1 + k)), fun j hj => ?_, ?_, fun r => ?_⟩
  · obtain ⟨k, _, rfl⟩ := List.mem_map.1 hj; omega
  · rw [fl, hr, List.flatMap_append, List.flatMap_cons]
  · rw [fl, hr, List.flatMap_append, List.flatMap_cons, put_self, hcongr, hcongr]
    · intro j hj; obtain ⟨k, _, rfl⟩ := List.mem_map.1 hj; omega
    · intro j hj; have := List.mem_range.1 hj; omega
abbrev fk (k : Nat) (l : List Int) : List Int := l.filter fun x => decide (ky x = (k : Int))
theorem fl_step {m i : Nat} (hi : i < m) {rem : Nat → List Int} {x : Int} {r : List Int} (hr : rem i = x :: r) (hb : ∀ j, j < i → fk (ky x).toNat (rem j) = []) (out : List Int) (k : Nat) : fk k (out ++ [x]) ++ fk k (fl m (put rem i r)) = fk k out ++ fk k (fl m rem) := by
  obtain ⟨B, hB, h1, h2⟩ := fl_split hi rem
  rw [h1, h2, hr]
  have hky := ky_range x
  by_cases e : ky x = (k : Int)
  · have e2 : (ky x).toNat = k := by omega
    have hA : fk k ((List.range i).flatMap rem) = [] := by
      rw [fk, List.filter_eq_nil_iff]
      intro y hy
      obtain ⟨j, hj, hyj⟩ := List.mem_flatMap.1 hy
      have := hb j (List.mem_range.1 hj)
      rw [e2, fk, List.filter_eq_nil_iff] at this
      exact this y hyj
    simp only [fk] at hA
    simp only [fk, List.filter_append, hA, List.filter_cons, e, decide_true, if_true, List.filter_nil, List.nil_append, List.cons_append, List.append_assoc]
  · simp only [fk, List.filter_append, List.filter_cons, e, decide_false, Bool.false_eq_true, if_false, List.filter_nil, List.append_nil]
theorem fl_len_step {m i : Nat} (hi : i < m) {rem : Nat → List Int} {x : Int} {r : List Int} (hr : rem i = x :: r) : (fl m (put rem i r)).length + 1 = (fl m rem).length := by
  obtain ⟨B, hB, h1, h2⟩ := fl_split hi rem
  rw [h1, h2, hr]; simp only [List.length_append, List.length_cons]; omega
theorem srt_of_fk {a b : List Int} (h : ∀ k, k < 10 → fk k a = fk k b) : srt a 10 = srt b 10 := by
  have : ∀ n, n ≤ 10 → srt a n = srt b n := by
    intro n
    induction n with
    | zero => intro _; rfl
    | succ n ih =>
      intro hn
      rw [srt_succ, srt_succ, ih (by omega)]
      have := h n (by omega)
      simp only [fk] at this
      rw [this]
  exact this 10 (Nat.le_refl _)
theorem filter_empty_of {l : List Int} {p : Int → Bool} (h : ∀ x, x ∈ l → p x = false) : l.filter p = [] := by
  rw [List.filter_eq_nil_iff]; intro x hx; rw [h x hx]; simp
/-- A list in order is its own order. -/
theorem srt_id : ∀ {l : List Int}, l.Pairwise (fun a b => ky a ≤ ky b) → srt l 10 = l := fun {l} hl => by
  have key : ∀ n, srt l n = l.filter fun x => decide (ky x < (n : Int)) := by
    intro n
    induction n with
    | zero =>
      symm
      refine filter_empty_of fun x _ => ?_
      have := ky_range x
      simp; omega
    | succ n ih =>
      rw [srt_succ, ih]
      clear ih
      induction l with
      | nil => rfl
      | cons a t iht =>
        rw [List.pairwise_cons] at hl
        have iht := iht hl.2
        by_cases h1 : ky a < (n : Int)
        · have h2 : ky a < ((n + 1 : Nat) : Int) := by omega
          have h3 : ¬ ky a = (n : Int) := by omega
          simp only [List.filter_cons, h1, h2, h3, decide_true, decide_false, if_true, Bool.false_eq_true, if_false, List.cons_append]
          rw [iht]
        · have h0 : (t.filter fun x => decide (ky x < (n : Int))) = [] := filter_empty_of fun x hx => by
            have := hl.1 x hx; simp; omega
          rw [h0, List.nil_append] at iht
          by_cases h3 : ky a = (n : Int)
          · have h2 : ky a < ((n + 1 : Nat) : Int) := by omega
            have e1 : (List.filter (fun x => decide (ky x < (n : Int))) (a :: t)) = [] := by
              rw [List.filter_cons, if_neg (by simpa using h1), h0]
            have e2 : (List.filter (fun x => decide (ky x = (n : Int))) (a :: t)) = a :: List.filter (fun x => decide (ky x = (n : Int))) t := by
              rw [List.filter_cons, if_pos (by simpa using h3)]
            have e3 : (List.filter (fun x => decide (ky x < ((n + 1 : Nat) : Int))) (a :: t)) = a :: List.filter (fun x => decide (ky x < ((n + 1 : Nat) : Int))) t := by
              rw [List.filter_cons, if_pos (by simpa using h2)]
            rw [e1, e2, e3, List.nil_append, iht]
          · have h2 : ¬ ky a < ((n + 1 : Nat) : Int) := by omega
            have e1 : (List.filter (fun x => decide (ky x < (n : Int))) (a :: t)) = [] := by
              rw [List.filter_cons, if_neg (by simpa using h1), h0]
            have e2 : (List.filter (fun x => decide (ky x = (n : Int))) (a :: t)) = List.filter (fun x => decide (ky x = (n : Int))) t := by
              rw [List.filter_cons, if_neg (by simpa using h3)]
            have e3 : (List.filter (fun x => decide (ky x < ((n + 1 : Nat) : Int))) (a :: t)) = List.filter (fun x => decide (ky x < ((n + 1 : Nat) : Int))) t := by
              rw [List.filter_cons, if_neg (by simpa using h2)]
            rw [e1, e2, e3, List.nil_append, iht]
  rw [key 10, List.filter_eq_self]
  intro x _
  have := ky_range x
  simp; omega
/-- In the middle of merging. -/
structure Mrg (m : Nat) (f : Nat → Bool) (S : List Int) (out : List Int) (c : List Hd) (rem : Nat → List Int) : Prop where
  hds : Hds m f c rem
  srtd : ∀ i, i < m → (rem i).Pairwise fun a b => ky a ≤ ky b
  osrt : out.Pairwise fun a b => ky a ≤ ky b
  low : ∀ a, a ∈ out → ∀ i, i < m → ∀ b, b ∈ rem i → ky a ≤ ky b
  fks : ∀ k, fk k out ++ fk k (fl m rem) = fk k S
theorem heap_minH {c : List Hd} (h : Heap ltH c) (h0 : 0 < c.length) : ∀ a, a ∈ c → ltH a c[0] = false := fun a ha => by
  obtain ⟨i, hi, rfl⟩ := List.getElem_of_mem ha
  exact heap_min ltH_sw h h0 i hi
theorem Mrg.step {m : Nat} {f : Nat → Bool} {S out : List Int} {c c' : List Hd} {rem : Nat → List Int} (h : Mrg m f S out c rem) (hc : Heap ltH c) (h0 : 0 < c.length) (p : (c[0] :: c').Perm c) :
    ∃ (i : Nat) (x : Int) (r : List Int), i < m ∧ c[0] = ⟨x, i, f i, r.map e1⟩ ∧ rem i = x :: r ∧ Hds m f c' (put rem i []) ∧ ∀ c'', Hds m f c'' (put rem i r) → Mrg m f S (out ++ [x]) c'' (put rem i r) := by
  obtain ⟨i, x, r, hi, hy, hr, hh⟩ := h.hds.pop p
  have hmin := heap_minH hc h0
  rw [hy] at hmin
  -- whatever is left is not ahead
  have hle : ∀ j, j < m → ∀ b, b ∈ rem j → ky x ≤ ky b ∧ (j < i → ky x < ky b) := fun j hj b hb => by
    have hne : rem j ≠ [] := fun e => by rw [e] at hb; simp at hb
    obtain ⟨z, hz, hzi⟩ := h.hds.all j hj hne
    obtain ⟨j', x', r', _, rfl, hr'⟩ := h.hds.of z hz
    have : j' = j := Int.ofNat_inj.1 hzi
    subst this
    have h1 := hmin _ hz
    simp only [ltH, decide_eq_false_iff_not] at h1
    have h2 : ky x' ≤ ky b := by
      rw [hr'] at hb
      have hs := h.srtd j' hj
      rw [hr', List.pairwise_cons] at hs
      rcases List.mem_cons.1 hb with rfl | hb
      · exact Int.le_refl _
      · exact hs.1 b hb
    omega
  refine ⟨i, x, r, hi, hy, hr, hh, fun c'' hc'' => ⟨hc'', fun j hj => ?_, ?_, fun a ha j hj b hb => ?_, fun k => ?_⟩⟩
  · by_cases e : j = i
    · subst e
      rw [put_self]
      have hs := h.srtd j hj
      rw [hr, List.pairwise_cons] at hs
      exact hs.2
    · rw [put_other _ _ e]; exact h.srtd j hj
  · rw [List.pairwise_append]
    refine ⟨h.osrt, List.pairwise_singleton _ _, fun a ha b hb => ?_⟩
    simp only [List.mem_singleton] at hb; subst hb
    exact h.low a ha i hi b (by rw [hr]; simp)
  · have hb' : b ∈ rem j := by
      by_cases e : j = i
      · subst e; rw [put_self] at hb; rw [hr]; exact List.mem_cons_of_mem _ hb
      · rwa [put_other _ _ e] at hb
    rcases List.mem_append.1 ha with ha | ha
    · exact h.low a ha j hj b hb'
    · simp only [List.mem_singleton] at ha; subst ha
      exact (hle j hj b hb').1
  · rw [fl_step hi hr (fun j hj => ?_) out k]
    · exact h.fks k
    · refine filter_empty_of fun b hb => ?_
      have := (hle j (by omega) b hb).2 hj
      have := ky_range x
      simp; omega
theorem Mrg.fin {m : Nat} {f : Nat → Bool} {S out : List Int} {rem : Nat → List Int} (h : Mrg m f S out [] rem) : out = srt S 10 := by
  have hrem : ∀ i, i < m → rem i = [] := fun i hi => by
    cases e : rem i with
    | nil => rfl
    | cons a r =>
      obtain ⟨z, hz, _⟩ := h.hds.all i hi (by rw [e]; simp)
      simp at hz
  have hfl : fl m rem = [] := by
    rw [fl, List.flatMap_eq_nil_iff]
    intro i hi
    exact hrem i (List.mem_range.1 hi)
  rw [← srt_id h.osrt]
  refine srt_of_fk fun k _ => ?_
  have := h.fks k
  rw [hfl] at this
  simpa [fk] using this
end Go.Proofs.Ytlbmknejhmmjnaa
