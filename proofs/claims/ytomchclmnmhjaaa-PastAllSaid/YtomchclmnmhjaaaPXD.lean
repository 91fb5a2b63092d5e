/- A past without what all have; both as functions of lists. -/
import Derived.Test.YtomchclmnmhjaaaPXC
set_option linter.unusedSimpArgs false
set_option linter.unusedVariables false
set_option maxRecDepth 100000
namespace Go.Proofs.Ytomchclmnmhjaaa
open Go GoV

def N56 (fl : Bool) (es out : List (List IV)) (X V : List IV) (len i : Int) (nn : Nat) : St := ⟨0, [u, u, u, .one (.ptr 0 0), .one (.ptr 1 0), .one (.ptr 2 0), u, u, u, u, u, u, .one (.iv (.sl fl 8 es)), i64 len, i64 i, u, u, u, u, u, u, u, u, u, u, u, u, u, u, u, u, u, u, u, u, u, u],
  [.var false [.iv (.arr 64 V)], .var false [.iv (.sl true 0 []), .iv (.arr 64 (List.replicate 64 (.int .i64 0)))], .var false [.slo 3 0 nn, .iv (.arr 64 X)], .arr false false 8 out]⟩
theorem w56 (A : Ar) (call : CallT) (n m : Nat) (hn : m < n) (fl : Bool) (es : List (List IV)) (X V : List IV) (ev : Nat → Ev) (L : Nat → Nat) (ix : Nat → Int) (out : Nat → List (List IV)) (nn : Nat → Nat) (Y : Nat → List IV)
    (hi0 : ix 0 = 0) (ho0 : out 0 = []) (hn0 : nn 0 = 0) (hY : Y 0 = X)
    (h1 : ∀ i, i < m → A .cmp .lss (ix i) (A .len es) = true) (h1' : A .cmp .lss (ix m) (A .len es) = false) (h2 : ∀ i, i < m → A .get es (ix i) = some (encEv (ev i))) (h3 : ∀ i, i < m → A .ar .add .i64 (ix i) 1 = ix (i + 1))
    (h5 : ∀ i, i < m → (call 21 [.agg [.iv (.arr 64 V)], dotF (ev i).r (ev i).n] [] = some (bl true, []) ∧ call 23 [.agg [.iv (.arr 64 (Y i))], dotF (ev i).r (ev i).n] [] = some (.agg [.iv (.arr 64 (Y (i + 1)))], []) ∧ out i = out (i + 1) ∧ nn i = nn (i + 1)) ∨
      (call 21 [.agg [.iv (.arr 64 V)], dotF (ev i).r (ev i).n] [] = some (bl false, []) ∧ Y i = Y (i + 1) ∧ call 97 [evF (ev i)] [] = some (evC (ev i) (L i), [.arr false false 2 (ev i).g]) ∧
        A .seg (ev i).g 0 (L i) = (ev i).g ∧ A .apo 96 0 (nn i) (out i) [cells (ev i) (A .isE (ev i).g) (ev i).g] = some (true, out (i + 1)) ∧ A .ln (out (i + 1)) = nn (i + 1))) :
    wpV A call (iterN n) v56.body ⟨0, padE 37 [pastF fl es X, .agg [.iv (.arr 64 V)]], []⟩ (finQ A v56 (.agg [.slo 0 0 (nn m), .iv (.arr 64 (Y m))], [.arr false false 8 (out m)])) := by
  apply wpV_seq; refine wpV_of (by ((conv => lhs; cbv); (try (with_reducible rfl)))) ?_
  apply wpV_seq; refine wpV_of (by ((conv => lhs; cbv); (try (with_reducible rfl)))) ?_
  apply wpV_seq; apply wpV_seq; refine wpV_of (by ((conv => lhs; cbv); (try (with_reducible rfl)))) ?_
  apply wpV_block
  refine wpV_loop m (fun i s => s = N56 fl es (out i) (Y i) V (A .len es) (ix i) (nn i)) hn (by ((conv => lhs; cbv); (try (with_reducible rfl)))) (by rw [hi0, ho0, hn0, hY]; rfl) ?_
  rintro j hj s rfl
  by_cases hji : j < m
  · rcases h5 j hji with ⟨b1, b4, b5, b6⟩ | ⟨b1, b3, b4, b5, b6, b7⟩
    · refine wpV_of (by ((conv => lhs; cbv); (repeat ((first | rewrite [h1 j hji] | rewrite [h2 j hji] | rewrite [b1] | rewrite [b4]); (try (conv => lhs; cbv)))); (try (with_reducible rfl)))) ?_
      refine headQ_of (by ((conv => lhs; cbv); (try (with_reducible rfl)))) ?_
      exact ⟨hji, by rw [h3 j hji, b5, b6]; rfl⟩
    · have h2j := h2 j hji
      obtain ⟨e, he⟩ : ∃ e, e = ev j := ⟨_, rfl⟩
      rw [← he] at b1 b4 b5 b6 h2j
      obtain ⟨er, en, et, ek, ed, ef, ex, eb, eg⟩ := e
      dsimp only [evF, cells, evC, encEv] at b1 b4 b5 b6 h2j
      refine wpV_of (by ((conv => lhs; cbv); (repeat ((first | rewrite [h1 j hji] | rewrite [h2j] | rewrite [b1] | rewrite [b4] | rewrite [b5] | rewrite [b6]); (try (conv => lhs; cbv)))); (try (with_reducible rfl)))) ?_
      refine headQ_of (by ((conv => lhs; cbv); (try (with_reducible rfl)))) ?_
      exact ⟨hji, by rw [h3 j hji, b3, b7]; rfl⟩
  · obtain rfl : j = m := by omega
    refine wpV_of (by ((conv => lhs; cbv); (repeat ((first | rewrite [h1']); (try (conv => lhs; cbv)))); (try (with_reducible rfl)))) ?_
    show wpV _ _ _ _ _ _
    refine wpV_of (by ((conv => lhs; cbv); (try (with_reducible rfl)))) ?_
    (show finV _ _ _ = some _; ((conv => lhs; cbv); (try (with_reducible rfl))); (try rfl))

/-! ### As functions of lists -/
def puts (l : List Ev) : Nat := l.countP fun e => decide (e.k ≠ 2)
def clE (e : Ev) : Ev := { e with b := isE e.g }
def tStep (mx : Int) (s : Int × List Ev × List Int) (e : Ev) : Int × List Ev × List Int := if e.k ≠ 2 ∧ s.1 > mx then (s.1 - 1, s.2.1, withB s.2.2 e.r e.n) else (s.1, s.2.1 ++ [clE e], s.2.2)
def trim (l : List Ev) (X : List Int) (mx : Int) : Int × List Ev × List Int := l.foldl (tStep mx) (puts l, [], X)
def cStep (V : List Int) (s : List Ev × List Int) (e : Ev) : List Ev × List Int := if hasB V e.r e.n then (s.1, withB s.2 e.r e.n) else (s.1 ++ [clE e], s.2)
def collect (l : List Ev) (X V : List Int) : List Ev × List Int := l.foldl (cStep V) ([], X)
theorem foldl_take {α β : Type} (f : β → α → β) (b : β) {l : List α} {i : Nat} (h : i < l.length) : (l.take (i + 1)).foldl f b = f ((l.take i).foldl f b) l[i] := by
  rw [List.take_add_one, List.getElem?_eq_getElem h]
  simp only [Option.toList_some, List.foldl_append, List.foldl_cons, List.foldl_nil]
theorem puts_take {l : List Ev} {i : Nat} (h : i < l.length) : puts (l.take (i + 1)) = puts (l.take i) + (if l[i].k ≠ 2 then 1 else 0) := by
  simp only [puts, List.take_add_one, List.getElem?_eq_getElem h, Option.toList_some, List.countP_append, List.countP_singleton]
  by_cases hk : l[i].k = 2 <;> simp [hk]
theorem trim_range (mx : Int) (h0 : 0 ≤ mx) (X : List Int) (c : Int) (hc : 0 ≤ c) : ∀ (l : List Ev), 0 ≤ (l.foldl (tStep mx) (c, [], X)).1 ∧ (l.foldl (tStep mx) (c, [], X)).1 ≤ c ∧ (l.foldl (tStep mx) (c, [], X)).2.1.length ≤ l.length ∧ (l.foldl (tStep mx) (c, [], X)).2.2.length = X.length := by
  have key : ∀ (l : List Ev) (s : Int × List Ev × List Int), 0 ≤ s.1 → 0 ≤ (l.foldl (tStep mx) s).1 ∧ (l.foldl (tStep mx) s).1 ≤ s.1 ∧ (l.foldl (tStep mx) s).2.1.length ≤ s.2.1.length + l.length ∧ (l.foldl (tStep mx) s).2.2.length = s.2.2.length := by
    intro l
    induction l with
    | nil => intro s hs; exact ⟨hs, Int.le_refl _, by simp, rfl⟩
    | cons e r ih =>
      intro s hs
      rw [List.foldl_cons]
      obtain ⟨i1, i2, i3, i4⟩ := ih (tStep mx s e) (by unfold tStep; split <;> simp <;> omega)
      have e1 : (tStep mx s e).1 ≤ s.1 := by unfold tStep; split <;> dsimp only <;> omega
      have e2 : (tStep mx s e).2.1.length ≤ s.2.1.length + 1 := by unfold tStep; split <;> simp
      have e3 : (tStep mx s e).2.2.length = s.2.2.length := by unfold tStep; split <;> simp [withB_len]
      simp only [List.length_cons]
      omega
  intro l
  have := key l (c, [], X) hc
  simpa using this
theorem collect_range (V X : List Int) : ∀ (l : List Ev), (l.foldl (cStep V) ([], X)).1.length ≤ l.length ∧ (l.foldl (cStep V) ([], X)).2.length = X.length := by
  have key : ∀ (l : List Ev) (s : List Ev × List Int), (l.foldl (cStep V) s).1.length ≤ s.1.length + l.length ∧ (l.foldl (cStep V) s).2.length = s.2.length := by
    intro l
    induction l with
    | nil => intro s; simp
    | cons e r ih =>
      intro s
      rw [List.foldl_cons]
      obtain ⟨i3, i4⟩ := ih (cStep V s e)
      have e2 : (cStep V s e).1.length ≤ s.1.length + 1 := by unfold cStep; split <;> simp
      have e3 : (cStep V s e).2.length = s.2.length := by unfold cStep; split <;> simp [withB_len]
      simp only [List.length_cons]
      omega
  intro l
  have := key l ([], X)
  simpa using this
theorem ln_real (es : List (List IV)) : real .ln es = es.length := rfl
theorem seg_all (g : List (List IV)) : real .seg g 0 g.length = g := by rw [real_seg]; simp [rSeg]
theorem apo_one {b : Nat} {es : List (List IV)} {c : List IV} (h : (es.length + 1) * b ≤ reachBytes) : real .apo b 0 es.length es [c] = some (true, es ++ [c]) := by
  rw [real_apo]
  have : (es.length + 1) * b ≤ room := Nat.le_trans h (by decide)
  simp [rApo, this]
def d0 : Ev := ⟨0, 0, 0, 0, ⟨#[]⟩, 0, ⟨#[]⟩, false, []⟩
theorem getD_ev {evs : List Ev} {i : Nat} (h : i < evs.length) : evs.getD i d0 = evs[i] := by simp [h]
theorem p55 (fl : Bool) (evs : List Ev) (hl : evs.length * 96 ≤ reachBytes) (hg : ∀ e, e ∈ evs → e.g.length * 16 ≤ reachBytes) {X : List Int} (hX : X.length = 64) (most : Int) :
    Pl 55 [pastF fl (evs.map encEv) (vec X), i64 most] (.agg [.slo 0 0 (trim evs X (max most 0)).2.1.length, .iv (.arr 64 (vec (trim evs X (max most 0)).2.2))]) [.arr false false 8 ((trim evs X (max most 0)).2.1.map encEv)] := by
  have hrb : reachBytes = 140737488351232 := rfl
  have hle : evs.length ≤ 1000000000000000000 := by omega
  obtain ⟨k1, hk1⟩ := Plays.all pr_mono (T := lookT tab) (pr := fun _ => clonePr clones) (f := 97) (vs := fun i => [evF (evs.getD i d0)]) (bs := fun _ => []) (r := fun i => (evC (evs.getD i d0) (evs.getD i d0).g.length, [.arr false false 2 (evs.getD i d0).g])) (m := evs.length)
    (fun i hi => by
      have := hg evs[i] (List.getElem_mem hi)
      rw [getD_ev hi]
      exact p97 _ this)
  obtain ⟨st, hst⟩ : ∃ st : Nat → Int × List Ev × List Int, ∀ i, st i = (evs.take i).foldl (tStep (max most 0)) (puts evs, [], X) := ⟨_, fun _ => rfl⟩
  have hrng := fun i => trim_range (max most 0) (by omega) X (puts evs) (by omega) (evs.take i)
  have hpl : puts evs ≤ evs.length := List.countP_le_length
  obtain ⟨k2, hk2⟩ := Plays.all pr_mono (T := lookT tab) (pr := fun _ => clonePr clones) (f := 23) (vs := fun i => [vecF (st i).2.2, dotF (evs.getD i d0).r (evs.getD i d0).n]) (bs := fun _ => []) (r := fun i => (vecF (withB (st i).2.2 (evs.getD i d0).r (evs.getD i d0).n), [])) (m := evs.length)
    (fun i hi => p23 (by rw [hst i, (hrng i).2.2.2, hX]) _ _)
  refine Plays.wp (vf := v55) rfl rfl ⟨max (max k1 k2) (evs.length + 1), fun A call hA hcall => ?_⟩
  have h97 := fun i hi => hk1 (max (max k1 k2) (evs.length + 1)) (by omega) i hi
  have h23 := fun i hi => hk2 (max (max k1 k2) (evs.length + 1)) (by omega) i hi
  rw [← hcall] at h97 h23
  subst hA
  have hfin : trim evs X (max most 0) = st evs.length := by rw [hst, List.take_length]; rfl
  have hstep : ∀ i (hi : i < evs.length), st (i + 1) = tStep (max most 0) (st i) evs[i] := fun i hi => by rw [hst, hst, foldl_take _ _ hi]
  have := w55 real call (max (max k1 k2) (evs.length + 1)) evs.length (by omega) fl (evs.map encEv) (vec X) most (max most 0) (fun i => evs.getD i d0) (fun i => (evs.getD i d0).g.length) (fun i => (puts (evs.take i) : Int)) (fun i => (i : Int)) (fun i => (st i).1)
    (fun i => (st i).2.1.map encEv) (fun i => (st i).2.1.length) (fun i => vec (st i).2.2) rfl rfl (by rw [hst]; simp) (by rw [hst]; rfl) (by rw [hst]; rfl) (by rw [hst]; rfl)
    (fun i hi => by rw [lss_real, len_real]; simpa using hi) (by rw [lss_real, len_real]; simp) (fun i hi => by rw [get_ev hi, getD_ev hi]) (fun i hi => inc_real (by omega))
    (fun i hi => by
      have h1 := puts_take hi
      have h2 : puts (evs.take i) ≤ (evs.take i).length := List.countP_le_length
      simp only [List.length_take] at h2
      rw [neq_real, getD_ev hi]
      by_cases hk : evs[i].k ≠ 2
      · rw [if_pos hk] at h1
        exact .inl ⟨decide_eq_true hk, by rw [h1]; exact inc_real (by omega)⟩
      · rw [if_neg hk] at h1
        exact .inr ⟨decide_eq_false hk, by rw [h1]; simp⟩)
    (by rw [mx_real])
    (fun i hi => by
      have hr := hrng i
      rw [← hst i] at hr
      have hs := hstep i hi
      have h23i := h23 i hi
      have h97i := h97 i hi
      have hgl := hg evs[i] (List.getElem_mem hi)
      simp only [getD_ev hi] at h23i h97i ⊢
      simp only [neq_real, gtr_real, decide_eq_true_eq, decide_eq_false_iff_not]
      by_cases hk : evs[i].k ≠ 2 ∧ (st i).1 > max most 0
      · left
        simp only [tStep, if_pos hk] at hs
        rw [hs]
        exact ⟨hk.1, hk.2, sub_real (by unfold inI; omega), h23i, rfl, rfl⟩
      · right
        simp only [tStep, if_neg hk] at hs
        rw [hs]
        refine ⟨?_, rfl, rfl, h97i, seg_all _, ?_, by rw [ln_real]; simp⟩
        · by_cases h : evs[i].k = 2
          · exact .inl (by simpa using h)
          · exact .inr ⟨h, fun h' => hk ⟨h, h'⟩⟩
        · have := apo_one (b := 96) (es := (st i).2.1.map encEv) (c := cells evs[i] (real .isE evs[i].g) evs[i].g) (by rw [List.length_map]; have h7 := hr.2.2.1; rw [List.length_take] at h7; omega)
          simp only [List.length_map] at this
          rw [this]
          simp [encEv, clE, cells, real_isE])
  rw [hfin]
  exact this
theorem p56 (fl : Bool) (evs : List Ev) (hl : evs.length * 96 ≤ reachBytes) (hg : ∀ e, e ∈ evs → e.g.length * 16 ≤ reachBytes) {X V : List Int} (hX : X.length = 64) (hV : V.length = 64) :
    Pl 56 [pastF fl (evs.map encEv) (vec X), vecF V] (.agg [.slo 0 0 (collect evs X V).1.length, .iv (.arr 64 (vec (collect evs X V).2))]) [.arr false false 8 ((collect evs X V).1.map encEv)] := by
  have hrb : reachBytes = 140737488351232 := rfl
  have hle : evs.length ≤ 1000000000000000000 := by omega
  obtain ⟨k1, hk1⟩ := Plays.all pr_mono (T := lookT tab) (pr := fun _ => clonePr clones) (f := 97) (vs := fun i => [evF (evs.getD i d0)]) (bs := fun _ => []) (r := fun i => (evC (evs.getD i d0) (evs.getD i d0).g.length, [.arr false false 2 (evs.getD i d0).g])) (m := evs.length)
    (fun i hi => by
      have := hg evs[i] (List.getElem_mem hi)
      rw [getD_ev hi]
      exact p97 _ this)
  obtain ⟨st, hst⟩ : ∃ st : Nat → List Ev × List Int, ∀ i, st i = (evs.take i).foldl (cStep V) ([], X) := ⟨_, fun _ => rfl⟩
  have hrng := fun i => collect_range V X (evs.take i)
  obtain ⟨k2, hk2⟩ := Plays.all pr_mono (T := lookT tab) (pr := fun _ => clonePr clones) (f := 23) (vs := fun i => [vecF (st i).2, dotF (evs.getD i d0).r (evs.getD i d0).n]) (bs := fun _ => []) (r := fun i => (vecF (withB (st i).2 (evs.getD i d0).r (evs.getD i d0).n), [])) (m := evs.length)
    (fun i hi => p23 (by rw [hst i, (hrng i).2, hX]) _ _)
  obtain ⟨k3, hk3⟩ := Plays.all pr_mono (T := lookT tab) (pr := fun _ => clonePr clones) (f := 21) (vs := fun i => [vecF V, dotF (evs.getD i d0).r (evs.getD i d0).n]) (bs := fun _ => []) (r := fun i => (bl (hasB V (evs.getD i d0).r (evs.getD i d0).n), [])) (m := evs.length)
    (fun i hi => p21 hV _ _)
  refine Plays.wp (vf := v56) rfl rfl ⟨max (max k1 k2) (max k3 (evs.length + 1)), fun A call hA hcall => ?_⟩
  have h97 := fun i hi => hk1 (max (max k1 k2) (max k3 (evs.length + 1))) (by omega) i hi
  have h23 := fun i hi => hk2 (max (max k1 k2) (max k3 (evs.length + 1))) (by omega) i hi
  have h21 := fun i hi => hk3 (max (max k1 k2) (max k3 (evs.length + 1))) (by omega) i hi
  rw [← hcall] at h97 h23 h21
  subst hA
  have hfin : collect evs X V = st evs.length := by rw [hst, List.take_length]; rfl
  have hstep : ∀ i (hi : i < evs.length), st (i + 1) = cStep V (st i) evs[i] := fun i hi => by rw [hst, hst, foldl_take _ _ hi]
  have := w56 real call (max (max k1 k2) (max k3 (evs.length + 1))) evs.length (by omega) fl (evs.map encEv) (vec X) (vec V) (fun i => evs.getD i d0) (fun i => (evs.getD i d0).g.length) (fun i => (i : Int))
    (fun i => (st i).1.map encEv) (fun i => (st i).1.length) (fun i => vec (st i).2) rfl (by rw [hst]; rfl) (by rw [hst]; rfl) (by rw [hst]; rfl)
    (fun i hi => by rw [lss_real, len_real]; simpa using hi) (by rw [lss_real, len_real]; simp) (fun i hi => by rw [get_ev hi, getD_ev hi]) (fun i hi => inc_real (by omega))
    (fun i hi => by
      have hr := hrng i
      rw [← hst i] at hr
      have hs := hstep i hi
      have h23i := h23 i hi
      have h97i := h97 i hi
      have h21i := h21 i hi
      have hgl := hg evs[i] (List.getElem_mem hi)
      simp only [getD_ev hi] at h23i h97i h21i ⊢
      cases hk : hasB V evs[i].r evs[i].n with
      | true =>
        left
        rw [hk] at h21i
        simp only [cStep, hk, if_true] at hs
        rw [hs]
        exact ⟨h21i, h23i, rfl, rfl⟩
      | false =>
        right
        rw [hk] at h21i
        simp only [cStep, hk, Bool.false_eq_true, if_false] at hs
        rw [hs]
        refine ⟨h21i, rfl, h97i, seg_all _, ?_, by rw [ln_real]; simp⟩
        have := apo_one (b := 96) (es := (st i).1.map encEv) (c := cells evs[i] (real .isE evs[i].g) evs[i].g) (by rw [List.length_map]; have h7 := hr.1; rw [List.length_take] at h7; omega)
        simp only [List.length_map] at this
        rw [this]
        simp [encEv, clE, cells, real_isE])
  rw [hfin]
  exact this
end Go.Proofs.Ytomchclmnmhjaaa
