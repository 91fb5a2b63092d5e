/- One form of a context, plain: what the program's fold over the sorted dots makes is what the document's answer makes. -/
import Derived.Test.YtomchclmnmhjaaaV3
set_option linter.unusedSimpArgs false
set_option linter.unusedVariables false
namespace Go.Proofs.Ytomchclmnmhjaaa
abbrev Dt := Int × Int
def VD (d : Dt) : Prop := 0 ≤ d.1 ∧ d.1 < 64 ∧ 1 ≤ d.2 ∧ d.2 ≤ 1073741824
def LD (a b : Dt) : Prop := a.1 < b.1 ∨ a.1 = b.1 ∧ a.2 < b.2
def gU (u : List Int) (r : Int) : Int := u.getD r.toNat 0
def sU (u : List Int) (d : Dt) : List Int := u.set d.1.toNat d.2
theorem sU_len (u : List Int) (d : Dt) : (sU u d).length = u.length := List.length_set
theorem gU_sU {u : List Int} {d : Dt} (hu : u.length = 64) (h0 : 0 ≤ d.1) (h1 : d.1 < 64) {r : Int} (r0 : 0 ≤ r) (r1 : r < 64) : gU (sU u d) r = if r = d.1 then d.2 else gU u r := by
  unfold gU sU
  rw [List.getD_eq_getElem?_getD, List.getElem?_set]
  by_cases e : r = d.1
  · subst e
    rw [if_pos rfl, if_pos rfl, if_pos (by omega)]; rfl
  · rw [if_neg (by omega), if_neg e, List.getD_eq_getElem?_getD]
structure Fin (u0 : List Int) (l : List Dt) (u : List Int) (c : List Dt) : Prop where
  len : u.length = 64
  ge : ∀ r, 0 ≤ r → r < 64 → gU u0 r ≤ gU u r
  btw : ∀ r n, 0 ≤ r → r < 64 → gU u0 r < n → n ≤ gU u r → (r, n) ∈ l ∧ VD (r, n)
  cl : ∀ d, d ∈ l → VD d → d.2 ≠ gU u d.1 + 1
  srt : c.Pairwise LD
  mem : ∀ d, d ∈ c ↔ d ∈ l ∧ VD d ∧ gU u d.1 < d.2
theorem srt_ext : ∀ {a b : List Dt}, a.Pairwise LD → b.Pairwise LD → (∀ d, d ∈ a ↔ d ∈ b) → a = b
  | [], [], _, _, _ => rfl
  | [], y :: b, _, _, h => by have := (h y).2 (by simp); simp at this
  | x :: a, [], _, _, h => by have := (h x).1 (by simp); simp at this
  | x :: a, y :: b, ha, hb, h => by
    rw [List.pairwise_cons] at ha hb
    have hxy : x = y := by
      have h1 := (h x).1 (by simp)
      have h2 := (h y).2 (by simp)
      rcases List.mem_cons.1 h1 with e | h1
      · exact e
      · rcases List.mem_cons.1 h2 with e | h2
        · exact e.symm
        · have a1 := ha.1 y h2
          have b1 := hb.1 x h1
          unfold LD at a1 b1
          omega
    subst hxy
    congr 1
    refine srt_ext ha.2 hb.2 fun d => ⟨fun hd => ?_, fun hd => ?_⟩
    · rcases List.mem_cons.1 ((h d).1 (by simp [hd])) with e | h'
      · subst e
        have := ha.1 _ hd
        unfold LD at this
        omega
      · exact h'
    · rcases List.mem_cons.1 ((h d).2 (by simp [hd])) with e | h'
      · subst e
        have := hb.1 _ hd
        unfold LD at this
        omega
      · exact h'
theorem gU_nat (u : List Int) (i : Nat) : gU u i = u.getD i 0 := rfl
theorem fin_unique {u0 : List Int} {l : List Dt} {u u' : List Int} {c c' : List Dt} (h : Fin u0 l u c) (h' : Fin u0 l u' c') : u = u' ∧ c = c' := by
  have le : ∀ {u u' : List Int} {c c' : List Dt}, Fin u0 l u c → Fin u0 l u' c' → ∀ r, 0 ≤ r → r < 64 → gU u' r ≤ gU u r := fun {u u' c c'} h h' r r0 r1 => by
    rcases Int.lt_or_le (gU u r) (gU u' r) with hlt | hle
    · have g := h.ge r r0 r1
      obtain ⟨m, v⟩ := h'.btw r (gU u r + 1) r0 r1 (by omega) (by omega)
      exact absurd rfl (h.cl _ m v)
    · exact hle
  have eq : ∀ r, 0 ≤ r → r < 64 → gU u r = gU u' r := fun r r0 r1 => Int.le_antisymm (le h' h r r0 r1) (le h h' r r0 r1)
  have hu : u = u' := by
    refine List.ext_getElem (by rw [h.len, h'.len]) fun i h1 h2 => ?_
    have := eq i (by omega) (by rw [h.len] at h1; omega)
    rw [gU_nat, gU_nat, List.getD_eq_getElem?_getD, List.getD_eq_getElem?_getD, List.getElem?_eq_getElem h1, List.getElem?_eq_getElem h2] at this
    exact this
  subst hu
  exact ⟨rfl, srt_ext h.srt h'.srt fun d => (h.mem d).trans (h'.mem d).symm⟩
/-! ### The program's -/
def stP (p : List Int × List Dt) (d : Dt) : List Int × List Dt :=
  if d.2 = gU p.1 d.1 + 1 then (sU p.1 d, p.2) else if gU p.1 d.1 + 1 < d.2 ∧ (p.2 = [] ∨ p.2.getLast? ≠ some d) then (p.1, p.2 ++ [d]) else p
structure InvP (u0 : List Int) (A : List Dt) (p : List Int × List Dt) : Prop where
  len : p.1.length = 64
  ge : ∀ r, 0 ≤ r → r < 64 → gU u0 r ≤ gU p.1 r
  btw : ∀ r n, 0 ≤ r → r < 64 → gU u0 r < n → n ≤ gU p.1 r → (r, n) ∈ A
  srt : p.2.Pairwise LD
  mem : ∀ d, d ∈ p.2 → d ∈ A ∧ gU p.1 d.1 + 1 < d.2
  all : ∀ d, d ∈ A → d.2 ≤ gU p.1 d.1 ∨ d ∈ p.2
theorem last_max {c : List Dt} (h : c.Pairwise LD) {y : Dt} (hy : c.getLast? = some y) : ∀ d, d ∈ c → d = y ∨ LD d y := by
  obtain ⟨ys, rfl⟩ := List.getLast?_eq_some_iff.1 hy
  intro d hd
  rcases List.mem_append.1 hd with h1 | h1
  · exact .inr ((List.pairwise_append.1 h).2.2 d h1 y (by simp))
  · exact .inl (by simpa using h1)
theorem invP_step {u0 : List Int} {A : List Dt} {p : List Int × List Dt} {x : Dt} (h : InvP u0 A p) (hx : VD x) (hA : ∀ d, d ∈ A → d = x ∨ LD d x) (hV : ∀ d, d ∈ A → VD d) : InvP u0 (A ++ [x]) (stP p x) := by
  obtain ⟨u, c⟩ := p
  have hl := h.len
  dsimp only at hl
  have x0 := hx.1
  have x1 := hx.2.1
  unfold stP
  dsimp only
  by_cases e : x.2 = gU u x.1 + 1
  · rw [if_pos e]
    have gs : ∀ r, 0 ≤ r → r < 64 → gU (sU u x) r = if r = x.1 then x.2 else gU u r := fun r r0 r1 => gU_sU hl x0 x1 r0 r1
    have noc : ∀ d, d ∈ c → d.1 ≠ x.1 := fun d hd e1 => by
      obtain ⟨m, g⟩ := h.mem d hd
      dsimp only at g
      rw [e1] at g
      rcases hA d m with rfl | h1
      · omega
      · unfold LD at h1; omega
    refine ⟨by rw [sU_len]; exact hl, fun r r0 r1 => ?_, fun r n r0 r1 h1 h2 => ?_, h.srt, fun d hd => ?_, fun d hd => ?_⟩
    · dsimp only; rw [gs r r0 r1]
      have := h.ge r r0 r1
      dsimp only at this
      split
      · rename_i e1; subst e1; omega
      · exact this
    · dsimp only at h2; rw [gs r r0 r1] at h2
      split at h2
      · rename_i e1; subst e1
        by_cases e2 : n = x.2
        · subst e2; simp
        · exact List.mem_append_left _ (h.btw x.1 n r0 r1 h1 (by dsimp only; omega))
      · exact List.mem_append_left _ (h.btw r n r0 r1 h1 h2)
    · obtain ⟨m, g⟩ := h.mem d hd
      have v := hV d m
      refine ⟨List.mem_append_left _ m, ?_⟩
      dsimp only; rw [gs d.1 v.1 v.2.1, if_neg (noc d hd)]
      exact g
    · dsimp only
      rcases List.mem_append.1 hd with h1 | h1
      · have v := hV d h1
        rw [gs d.1 v.1 v.2.1]
        rcases h.all d h1 with h2 | h2
        · left
          dsimp only at h2
          split
          · rename_i e1; rw [e1] at h2; omega
          · exact h2
        · exact .inr h2
      · obtain rfl : d = x := by simpa using h1
        left
        rw [gs d.1 x0 x1, if_pos rfl]
        exact Int.le_refl _
  · rw [if_neg e]
    by_cases e2 : gU u x.1 + 1 < x.2 ∧ (c = [] ∨ c.getLast? ≠ some x)
    · rw [if_pos e2]
      obtain ⟨e2, e3⟩ := e2
      have clt : ∀ d, d ∈ c → LD d x := fun d hd => by
        cases hc : c.getLast? with
        | none => rw [List.getLast?_eq_none_iff] at hc; rw [hc] at hd; simp at hd
        | some y =>
          have hne : y ≠ x := by
            rcases e3 with e3 | e3
            · rw [e3] at hd; simp at hd
            · intro e4; rw [hc, e4] at e3; exact e3 rfl
          have hy : y ∈ c := List.mem_of_getLast? hc
          have hyx : LD y x := by
            rcases hA y (h.mem y hy).1 with e4 | h4
            · exact absurd e4 hne
            · exact h4
          rcases last_max h.srt hc d hd with rfl | h5
          · exact hyx
          · unfold LD at *; omega
      refine ⟨hl, h.ge, fun r n r0 r1 h1 h2 => List.mem_append_left _ (h.btw r n r0 r1 h1 h2), ?_, fun d hd => ?_, fun d hd => ?_⟩
      · refine List.pairwise_append.2 ⟨h.srt, by simp, fun a ha b hb => ?_⟩
        have hbx : b = x := by simpa using hb
        rw [hbx]
        exact clt a ha
      · rcases List.mem_append.1 hd with h1 | h1
        · obtain ⟨m, g⟩ := h.mem d h1
          exact ⟨List.mem_append_left _ m, g⟩
        · obtain rfl : d = x := by simpa using h1
          exact ⟨by simp, e2⟩
      · rcases List.mem_append.1 hd with h1 | h1
        · rcases h.all d h1 with h2 | h2
          · exact .inl h2
          · exact .inr (List.mem_append_left _ h2)
        · obtain rfl : d = x := by simpa using h1
          exact .inr (by simp)
    · rw [if_neg e2]
      refine ⟨hl, h.ge, fun r n r0 r1 h1 h2 => List.mem_append_left _ (h.btw r n r0 r1 h1 h2), h.srt, fun d hd => ?_, fun d hd => ?_⟩
      · obtain ⟨m, g⟩ := h.mem d hd
        exact ⟨List.mem_append_left _ m, g⟩
      · rcases List.mem_append.1 hd with h1 | h1
        · exact h.all d h1
        · obtain rfl : d = x := by simpa using h1
          dsimp only
          by_cases e4 : gU u d.1 + 1 < d.2
          · right
            have : ¬ (c = [] ∨ c.getLast? ≠ some d) := fun h => e2 ⟨e4, h⟩
            have h5 : c.getLast? = some d := by
              cases hc : c.getLast? with
              | none => exact absurd (.inl (List.getLast?_eq_none_iff.1 hc)) this
              | some y =>
                by_cases ey : y = d
                · rw [ey]
                · exact absurd (.inr (by rw [hc]; simpa using ey)) this
            exact List.mem_of_getLast? h5
          · left; omega
theorem invP_fold {u0 : List Int} : ∀ (B A : List Dt) (p : List Int × List Dt), InvP u0 A p → (∀ d, d ∈ A ++ B → VD d) → (A ++ B).Pairwise (fun a b => a = b ∨ LD a b) → InvP u0 (A ++ B) (B.foldl stP p)
  | [], A, p, h, _, _ => by simpa using h
  | x :: B, A, p, h, hV, hS => by
    have hs := List.pairwise_append.1 hS
    have h1 := invP_step h (hV x (by simp)) (fun d hd => hs.2.2 d hd x (by simp)) (fun d hd => hV d (by simp [hd]))
    have := invP_fold B (A ++ [x]) (stP p x) h1 (fun d hd => hV d (by simpa using hd)) (by simpa using hS)
    simpa using this
theorem fin_of_invP {u0 : List Int} {l L : List Dt} {p : List Int × List Dt} (hL : ∀ d, d ∈ L ↔ d ∈ l ∧ VD d) (h : InvP u0 L p) : Fin u0 l p.1 p.2 := by
  refine ⟨h.len, h.ge, fun r n r0 r1 h1 h2 => (hL _).1 (h.btw r n r0 r1 h1 h2), fun d hd v => ?_, h.srt, fun d => ⟨fun hd => ?_, fun hd => ?_⟩⟩
  · intro e
    rcases h.all d ((hL d).2 ⟨hd, v⟩) with h1 | h1
    · omega
    · have := (h.mem d h1).2; omega
  · obtain ⟨m, g⟩ := h.mem d hd
    obtain ⟨m1, m2⟩ := (hL d).1 m
    exact ⟨m1, m2, by omega⟩
  · obtain ⟨m1, m2, g⟩ := hd
    rcases h.all d ((hL d).2 ⟨m1, m2⟩) with h1 | h1
    · omega
    · exact h1
theorem invP_start {u0 : List Int} (h : u0.length = 64) : InvP u0 [] (u0, []) :=
  ⟨h, fun _ _ _ => Int.le_refl _, fun r n _ _ h1 h2 => by dsimp only at h2; omega, by simp, fun d hd => by simp at hd, fun d hd => by simp at hd⟩
/-! ### The document's -/
instance : DecidablePred VD := fun d => by unfold VD; infer_instance
instance (a b : Dt) : Decidable (LD a b) := by unfold LD; infer_instance
def stR (u : List Int) (d : Dt) : List Int := if VD d ∧ d.2 = gU u d.1 + 1 then sU u d else u
def itR (l : List Dt) (u : List Int) : Nat → List Int
  | 0 => u
  | i + 1 => l.foldl stR (itR l u i)
structure InvR (u0 : List Int) (l : List Dt) (u : List Int) : Prop where
  len : u.length = 64
  ge : ∀ r, 0 ≤ r → r < 64 → gU u0 r ≤ gU u r
  btw : ∀ r n, 0 ≤ r → r < 64 → gU u0 r < n → n ≤ gU u r → (r, n) ∈ l ∧ VD (r, n)
theorem stR_mono {u : List Int} {d : Dt} (hu : u.length = 64) {r : Int} (r0 : 0 ≤ r) (r1 : r < 64) : gU u r ≤ gU (stR u d) r := by
  unfold stR
  split
  · rename_i h
    rw [gU_sU hu h.1.1 h.1.2.1 r0 r1]
    split
    · rename_i e; rw [e]; omega
    · exact Int.le_refl _
  · exact Int.le_refl _
theorem stR_len {u : List Int} {d : Dt} (hu : u.length = 64) : (stR u d).length = 64 := by
  unfold stR; split
  · rw [sU_len]; exact hu
  · exact hu
theorem foldR_len : ∀ (l : List Dt) {u : List Int}, u.length = 64 → (l.foldl stR u).length = 64
  | [], _, h => h
  | d :: l, _, h => foldR_len l (stR_len h)
theorem foldR_mono : ∀ (l : List Dt) {u : List Int}, u.length = 64 → ∀ {r : Int}, 0 ≤ r → r < 64 → gU u r ≤ gU (l.foldl stR u) r
  | [], _, _, _, _, _ => Int.le_refl _
  | d :: l, u, h, r, r0, r1 => Int.le_trans (stR_mono h r0 r1) (foldR_mono l (stR_len h) r0 r1)
theorem invR_step {u0 : List Int} {l : List Dt} {u : List Int} {d : Dt} (h : InvR u0 l u) (hd : d ∈ l) : InvR u0 l (stR u d) := by
  refine ⟨stR_len h.len, fun r r0 r1 => Int.le_trans (h.ge r r0 r1) (stR_mono h.len r0 r1), fun r n r0 r1 h1 h2 => ?_⟩
  unfold stR at h2
  split at h2
  · rename_i hv
    rw [gU_sU h.len hv.1.1 hv.1.2.1 r0 r1] at h2
    split at h2
    · rename_i e; subst e
      by_cases e2 : n = d.2
      · subst e2; exact ⟨hd, hv.1⟩
      · exact h.btw _ n r0 r1 h1 (by omega)
    · exact h.btw r n r0 r1 h1 h2
  · exact h.btw r n r0 r1 h1 h2
theorem invR_fold {u0 : List Int} {l : List Dt} : ∀ (m : List Dt) {u : List Int}, (∀ d, d ∈ m → d ∈ l) → InvR u0 l u → InvR u0 l (m.foldl stR u)
  | [], _, _, h => h
  | d :: m, _, hm, h => invR_fold m (fun x hx => hm x (by simp [hx])) (invR_step h (hm d (by simp)))
def closed (l : List Dt) (u : List Int) : Prop := ∀ d, d ∈ l → VD d → d.2 ≠ gU u d.1 + 1
theorem closed_fold {l : List Dt} {u : List Int} (h : closed l u) : ∀ (m : List Dt), (∀ d, d ∈ m → d ∈ l) → m.foldl stR u = u
  | [], _ => rfl
  | d :: m, hm => by
    have : stR u d = u := by
      unfold stR
      rw [if_neg fun hv => h d (hm d (by simp)) hv.1 hv.2]
    rw [List.foldl_cons, this]
    exact closed_fold h m fun x hx => hm x (by simp [hx])
theorem countP_lt {p q : Dt → Bool} : ∀ {l : List Dt}, (∀ x, x ∈ l → q x = true → p x = true) → (∃ d, d ∈ l ∧ p d = true ∧ q d = false) → l.countP q < l.countP p
  | [], _, ⟨d, hd, _⟩ => by simp at hd
  | x :: l, h, ⟨d, hd, hp, hq⟩ => by
    have hle : l.countP q ≤ l.countP p := List.countP_mono_left fun y hy h' => h y (by simp [hy]) h'
    rw [List.countP_cons, List.countP_cons]
    rcases List.mem_cons.1 hd with rfl | hd
    · rw [hp, hq]; simp; omega
    · have ih := countP_lt (fun y hy => h y (by simp [hy])) ⟨d, hd, hp, hq⟩
      have := h x (by simp)
      cases hqx : q x with
      | true => rw [this hqx]; omega
      | false => simp; omega
def pend (l : List Dt) (u : List Int) : Nat := l.countP fun d => decide (VD d ∧ gU u d.1 < d.2)
theorem pass_lt {l : List Dt} {u : List Int} (hu : u.length = 64) (h : ¬ closed l u) : pend l (l.foldl stR u) < pend l u := by
  have : ∃ d, d ∈ l ∧ VD d ∧ d.2 = gU u d.1 + 1 := by
    apply Classical.byContradiction
    intro hn
    exact h fun d hd hv he => hn ⟨d, hd, hv, he⟩
  obtain ⟨d, hd, hv, he⟩ := this
  refine countP_lt (fun x hx hq => ?_) ⟨d, hd, ?_, ?_⟩
  · simp only [decide_eq_true_eq] at hq ⊢
    exact ⟨hq.1, Int.lt_of_le_of_lt (foldR_mono l hu hq.1.1 hq.1.2.1) hq.2⟩
  · simp only [decide_eq_true_eq]; exact ⟨hv, by omega⟩
  · simp only [decide_eq_false_iff_not]
    rintro ⟨_, hlt⟩
    obtain ⟨a, b, rfl⟩ := List.append_of_mem hd
    rw [List.foldl_append, List.foldl_cons] at hlt
    have la := foldR_len a hu
    have ma := foldR_mono a hu hv.1 hv.2.1
    have mb := foldR_mono b (stR_len (d := d) la) hv.1 hv.2.1
    generalize a.foldl stR u = ua at *
    have ms : d.2 ≤ gU (stR ua d) d.1 := by
      by_cases e : d.2 = gU ua d.1 + 1
      · unfold stR
        rw [if_pos ⟨hv, e⟩, gU_sU la hv.1 hv.2.1 hv.1 hv.2.1, if_pos rfl]
        exact Int.le_refl _
      · unfold stR
        rw [if_neg fun h => e h.2]
        omega
    omega
theorem itR_len {l : List Dt} {u : List Int} (hu : u.length = 64) : ∀ i, (itR l u i).length = 64
  | 0 => hu
  | i + 1 => foldR_len l (itR_len hu i)
theorem itR_inv {u0 : List Int} {l : List Dt} (hu : u0.length = 64) : ∀ i, InvR u0 l (itR l u0 i)
  | 0 => ⟨hu, fun _ _ _ => Int.le_refl _, fun r n _ _ h1 h2 => by simp only [itR] at h2; omega⟩
  | i + 1 => invR_fold l (fun _ h => h) (itR_inv hu i)
theorem itR_cl {u0 : List Int} {l : List Dt} (hu : u0.length = 64) : ∀ i, closed l (itR l u0 i) ∨ pend l (itR l u0 i) + i ≤ l.length
  | 0 => .inr (by simp only [itR, pend]; exact List.countP_le_length)
  | i + 1 => by
    by_cases hc : closed l (itR l u0 i)
    · left
      show closed l (l.foldl stR (itR l u0 i))
      rw [closed_fold hc l fun _ h => h]
      exact hc
    · right
      rcases itR_cl hu i with h | h
      · exact absurd h hc
      · have := pass_lt (itR_len hu i) hc
        show pend l (l.foldl stR (itR l u0 i)) + (i + 1) ≤ l.length
        omega
theorem itR_closed {u0 : List Int} {l : List Dt} (hu : u0.length = 64) : closed l (itR l u0 l.length) := by
  rcases itR_cl (l := l) hu l.length with h | h
  · exact h
  · intro d hd hv he
    have : 0 < pend l (itR l u0 l.length) := List.countP_pos_iff.2 ⟨d, hd, by simp only [decide_eq_true_eq]; exact ⟨hv, by omega⟩⟩
    omega
def posGo (d : Dt) : List Dt → Nat → Nat → Nat
  | [], _, at_ => at_
  | x :: r, i, at_ => posGo d r (i + 1) (if LD x d then i + 1 else at_)
theorem posGo_none {d : Dt} : ∀ {c : List Dt} {i k : Nat}, (∀ x, x ∈ c → ¬ LD x d) → posGo d c i k = k
  | [], _, _, _ => rfl
  | x :: r, i, k, h => by
    rw [posGo, if_neg (h x (by simp))]
    exact posGo_none fun y hy => h y (by simp [hy])
theorem posGo_split {d : Dt} : ∀ {c : List Dt} {i : Nat}, c.Pairwise LD → d ∉ c → ∃ c1 c2, c = c1 ++ c2 ∧ (∀ x, x ∈ c1 → LD x d) ∧ (∀ x, x ∈ c2 → LD d x) ∧ posGo d c i i = i + c1.length
  | [], i, _, _ => ⟨[], [], rfl, by simp, by simp, rfl⟩
  | x :: r, i, hs, hd => by
    rw [List.pairwise_cons] at hs
    have hne : x ≠ d := fun e => hd (by simp [e])
    by_cases hx : LD x d
    · obtain ⟨c1, c2, e, h1, h2, h3⟩ := posGo_split (d := d) (i := i + 1) hs.2 (fun (h : d ∈ r) => hd (List.mem_cons_of_mem _ h))
      refine ⟨x :: c1, c2, by rw [e]; rfl, fun y hy => ?_, h2, ?_⟩
      · rcases List.mem_cons.1 hy with rfl | hy
        · exact hx
        · exact h1 y hy
      · rw [posGo, if_pos hx, h3, List.length_cons]; omega
    · have hdx : LD d x := by
        obtain ⟨x1, x2⟩ := x
        obtain ⟨d1, d2⟩ := d
        unfold LD at *
        simp only [ne_eq, Prod.mk.injEq, not_and] at hne
        dsimp only at *
        by_cases e : x1 = d1
        · have := hne e; omega
        · omega
      have hall : ∀ y, y ∈ x :: r → LD d y := fun y hy => by
        rcases List.mem_cons.1 hy with rfl | hy
        · exact hdx
        · have := hs.1 y hy
          unfold LD at *; omega
      refine ⟨[], x :: r, rfl, by simp, hall, ?_⟩
      rw [posGo_none fun y hy => ?_]
      · rfl
      · have := hall y hy
        unfold LD at *; omega
def stC (u : List Int) (c : List Dt) (d : Dt) : List Dt := if ¬ VD d ∨ d.2 ≤ gU u d.1 ∨ d ∈ c then c else c.take (posGo d c 0 0) ++ [d] ++ c.drop (posGo d c 0 0)
theorem invC_fold {u : List Int} : ∀ (B A c : List Dt), c.Pairwise LD → (∀ d, d ∈ c ↔ d ∈ A ∧ VD d ∧ gU u d.1 < d.2) → (B.foldl (stC u) c).Pairwise LD ∧ ∀ d, d ∈ B.foldl (stC u) c ↔ d ∈ A ++ B ∧ VD d ∧ gU u d.1 < d.2
  | [], A, c, h1, h2 => ⟨h1, by simpa using h2⟩
  | x :: B, A, c, h1, h2 => by
    have key : (stC u c x).Pairwise LD ∧ ∀ d, d ∈ stC u c x ↔ d ∈ A ++ [x] ∧ VD d ∧ gU u d.1 < d.2 := by
      unfold stC
      split
      · rename_i hsk
        refine ⟨h1, fun d => (h2 d).trans ⟨fun h => ⟨by simp [h.1], h.2⟩, fun h => ?_⟩⟩
        obtain ⟨m, v, g⟩ := h
        rcases List.mem_append.1 m with m | m
        · exact ⟨m, v, g⟩
        · obtain rfl : d = x := by simpa using m
          rcases hsk with h | h | h
          · exact absurd v h
          · omega
          · exact (h2 d).1 h
      · rename_i hsk
        have hv : VD x := Classical.byContradiction fun h => hsk (.inl h)
        have hg : gU u x.1 < x.2 := by
          rcases Int.lt_or_le (gU u x.1) x.2 with h | h
          · exact h
          · exact absurd (.inr (.inl h)) hsk
        have hx : x ∉ c := fun h => hsk (.inr (.inr h))
        obtain ⟨c1, c2, rfl, g1, g2, g3⟩ := posGo_split (i := 0) h1 hx
        rw [Nat.zero_add] at g3
        rw [g3, List.take_left, List.drop_left]
        have hp := List.pairwise_append.1 h1
        constructor
        · rw [List.append_assoc]
          refine List.pairwise_append.2 ⟨hp.1, ?_, fun a ha b hb => ?_⟩
          · rw [List.singleton_append, List.pairwise_cons]
            exact ⟨g2, hp.2.1⟩
          · rcases List.mem_cons.1 hb with rfl | hb
            · exact g1 a ha
            · exact hp.2.2 a ha b hb
        · intro d
          have := h2 d
          simp only [List.mem_append, List.mem_cons, List.not_mem_nil, or_false] at this ⊢
          constructor
          · rintro ((h | rfl) | h)
            · exact ⟨.inl (this.1 (.inl h)).1, (this.1 (.inl h)).2⟩
            · exact ⟨.inr rfl, hv, hg⟩
            · exact ⟨.inl (this.1 (.inr h)).1, (this.1 (.inr h)).2⟩
          · rintro ⟨h | rfl, v, g⟩
            · rcases this.2 ⟨h, v, g⟩ with h | h
              · exact .inl (.inl h)
              · exact .inr h
            · exact .inl (.inr rfl)
    have := invC_fold B (A ++ [x]) (stC u c x) key.1 key.2
    simpa using this
theorem fin_ref {u0 : List Int} (hu : u0.length = 64) (l : List Dt) : Fin u0 l (itR l u0 l.length) (l.foldl (stC (itR l u0 l.length)) []) := by
  have hi := itR_inv (l := l) hu l.length
  have hc := invC_fold (u := itR l u0 l.length) l [] [] (by simp) (by simp)
  exact ⟨hi.len, hi.ge, hi.btw, itR_closed hu, hc.1, by simpa using hc.2⟩
theorem fin_prog {u0 : List Int} (hu : u0.length = 64) {l L : List Dt} (hL : ∀ d, d ∈ L ↔ d ∈ l ∧ VD d) (hs : L.Pairwise fun a b => a = b ∨ LD a b) : Fin u0 l (L.foldl stP (u0, [])).1 (L.foldl stP (u0, [])).2 := by
  have := invP_fold L [] (u0, []) (invP_start hu) (fun d hd => ((hL d).1 (by simpa using hd)).2) (by simpa using hs)
  exact fin_of_invP hL (by simpa using this)
end Go.Proofs.Ytomchclmnmhjaaa
