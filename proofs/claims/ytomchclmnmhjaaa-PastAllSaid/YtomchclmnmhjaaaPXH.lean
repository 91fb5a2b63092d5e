/- The document's trimming and collecting: as equations. -/
import Derived.Test.YtomchclmnmhjaaaPXG
set_option linter.unusedSimpArgs false
set_option linter.unusedVariables false
set_option maxRecDepth 100000
set_option maxHeartbeats 1000000
namespace Go.Proofs.Ytomchclmnmhjaaa
open Go GoV

def rtF (mx : Int) (rest : Nat) (s : List Ev × List Int) (e : Ev) : List Ev × List Int := if e.k ≠ 2 ∧ (rest : Int) > mx then (s.1, withB s.2 e.r e.n) else (s.1 ++ [e], s.2)
def rtS (l : List Ev) (X : List Int) (mx : Int) : Nat → List Ev × List Int
  | 0 => ([], X)
  | i + 1 => rtF mx (puts (l.drop i)) (rtS l X mx i) (l.getD i d0)
theorem rtS_range (l : List Ev) (X : List Int) (mx : Int) (i : Nat) : (rtS l X mx i).1.length ≤ i ∧ (rtS l X mx i).2.length = X.length := by
  induction i with
  | zero => simp [rtS]
  | succ i ih =>
    simp only [rtS, rtF]
    split <;> simp [withB_len, ih.2] <;> omega
theorem puts_drop {l : List Ev} {i : Nat} (h : i < l.length) : puts (l.drop i) = puts (l.drop (i + 1)) + (if l[i].k ≠ 2 then 1 else 0) := by
  rw [List.drop_eq_getElem_cons h]
  simp only [puts, List.countP_cons, decide_eq_true_eq]
theorem rt_trim (l : List Ev) (X : List Int) (mx : Int) (i : Nat) (hi : i ≤ l.length) :
    ((l.take i).foldl (tStep mx) (puts l, [], X)).2.1 = (rtS l X mx i).1.map clE ∧ ((l.take i).foldl (tStep mx) (puts l, [], X)).2.2 = (rtS l X mx i).2 ∧
    (((l.take i).foldl (tStep mx) (puts l, [], X)).1 = puts (l.drop i) ∨ ((l.take i).foldl (tStep mx) (puts l, [], X)).1 ≤ mx ∧ (puts (l.drop i) : Int) ≤ ((l.take i).foldl (tStep mx) (puts l, [], X)).1) := by
  induction i with
  | zero => simp [rtS]
  | succ i ih =>
    obtain ⟨h1, h2, h3⟩ := ih (by omega)
    rw [foldl_take _ _ (by omega)]
    generalize (l.take i).foldl (tStep mx) (puts l, [], X) = s at *
    have hd := puts_drop (l := l) (i := i) (by omega)
    have hg : l.getD i d0 = l[i] := getD_ev (by omega)
    simp only [rtS, rtF, hg, tStep]
    by_cases hk : l[i].k = 2
    · simp only [hk, ne_eq, not_true_eq_false, false_and, if_false]
      simp only [hk, ne_eq, not_true_eq_false, if_false] at hd
      exact ⟨by rw [h1]; simp, h2, by rw [hd] at h3; simpa using h3⟩
    · simp only [ne_eq, hk, not_false_eq_true, true_and]
      simp only [ne_eq, hk, not_false_eq_true, if_true] at hd
      by_cases hm : s.1 > mx
      · have h3' : s.1 = puts (l.drop i) := by omega
        have : (puts (l.drop i) : Int) > mx := by omega
        simp only [if_pos hm, if_pos this]
        exact ⟨h1, by rw [h2], .inl (by omega)⟩
      · have : ¬ (puts (l.drop i) : Int) > mx := by omega
        simp only [if_neg hm, if_neg this]
        exact ⟨by rw [h1]; simp, h2, .inr (by omega)⟩
theorem sub_from {l : List Ev} {i : Nat} (h : i ≤ l.length) : real .sub (l.map encEv) (some (i : Int)) none = some ((l.drop i).map encEv) := by
  rw [real_sub]
  have h1 : rBound (i : Int) l.length = some i := by simp [rBound, h]
  simp only [rSub, rCut, List.length_map, Option.bind_some, h1, List.map_drop]
  rw [List.take_of_length_le (by simp)]
theorem p61 (fl : Bool) (l : List Ev) (hl : l.length * 96 ≤ reachBytes) {X : List Int} (hX : X.length = 64) (most : Int) :
    Pl 61 [pastF fl (l.map encEv) (vec X), i64 most] (.agg [.slo 0 0 (rtS l X (max most 0) l.length).1.length, .iv (.arr 64 (vec (rtS l X (max most 0) l.length).2))]) [.arr false false 8 ((rtS l X (max most 0) l.length).1.map encEv)] := by
  have hrb : reachBytes = 140737488351232 := rfl
  have hrng := fun i => rtS_range l X (max most 0) i
  obtain ⟨k1, hk1⟩ := Plays.all pr_mono (T := lookT tab) (pr := fun _ => clonePr clones) (f := 24) (vs := fun i => [vecF (rtS l X (max most 0) i).2, dotF (l.getD i d0).r (l.getD i d0).n]) (bs := fun _ => []) (r := fun i => (vecF (withB (rtS l X (max most 0) i).2 (l.getD i d0).r (l.getD i d0).n), [])) (m := l.length)
    (fun i hi => p24 (by rw [(hrng i).2, hX]) _ _)
  obtain ⟨k2, hk2⟩ := Plays.all pr_mono (T := lookT tab) (pr := fun _ => clonePr clones) (f := 102) (vs := fun i => [.one (.iv (.sl fl 8 ((l.drop i).map encEv)))]) (bs := fun _ => []) (r := fun i => (i64 (puts (l.drop i)), [])) (m := l.length)
    (fun i hi => p102 fl _ (by simp; omega))
  refine Plays.wp (vf := v61) rfl rfl ⟨max (max k1 k2) (l.length + 1), fun A call hA hcall => ?_⟩
  have h24 := hk1 (max (max k1 k2) (l.length + 1)) (by omega)
  have h102 := hk2 (max (max k1 k2) (l.length + 1)) (by omega)
  rw [← hcall] at h24 h102
  have hsub : ∀ i, i < l.length → A .sub (l.map encEv) (some (i : Int)) none = some ((l.drop i).map encEv) := fun i hi => by rw [hA]; exact sub_from (by omega)
  obtain ⟨ix, hix, hz⟩ := ix_some
  obtain ⟨es, hes, C, G⟩ := evs_of hA hix l (by omega)
  rw [hes] at hsub ⊢
  obtain ⟨mx, hmx⟩ : ∃ mx, mx = max most 0 := ⟨_, rfl⟩
  rw [← hmx] at h24 hrng ⊢
  have hmx' : A .mx most 0 = mx := by rw [hA, mx_real, hmx]
  obtain ⟨st, hst⟩ : ∃ st : Nat → List Ev × List Int, ∀ i, st i = rtS l X mx i := ⟨_, fun _ => rfl⟩
  obtain ⟨out, hout⟩ : ∃ out : Nat → List (List IV), ∀ i, out i = (st i).1.map encEv := ⟨_, fun _ => rfl⟩
  obtain ⟨nn, hnn⟩ : ∃ nn : Nat → Nat, ∀ i, nn i = (st i).1.length := ⟨_, fun _ => rfl⟩
  obtain ⟨Y, hY⟩ : ∃ Y : Nat → List IV, ∀ i, Y i = vec (st i).2 := ⟨_, fun _ => rfl⟩
  rw [show vec X = Y 0 by rw [hY, hst]; rfl, ← hst, ← hout, ← hnn, ← hY]
  apply wpV_seq; refine wpV_of (by ((conv => lhs; cbv); (try (with_reducible rfl)))) ?_
  apply wpV_seq; refine wpV_of (by ((conv => lhs; cbv); (try (with_reducible rfl)))) ?_
  apply wpV_seq; apply wpV_seq; refine wpV_of (by ((conv => lhs; cbv); (try (with_reducible rfl)))) ?_
  apply wpV_block
  refine wpV_loop l.length (fun i s => s = ⟨0, [u, i64 most, .one (.ptr 0 0), u, .one (.ptr 1 0), .one (.ptr 2 0), u, u, u, u, u, u, .one (.iv (.sl fl 8 es)), i64 (A .len es), i64 (ix i), u, u, u, u, u, u, u, u, u, u, u, u, u, u, u, u, u, u, u, u, u, u, u, u, u, u, u, u, u, u, u],
    [.var false [.iv (.sl fl 8 es), .iv (.arr 64 (Y 0))], .var false [.iv (.sl true 0 []), .iv (.arr 64 (List.replicate 64 (.int .i64 0)))], .var false [.slo 3 0 (nn i), .iv (.arr 64 (Y i))], .arr false false 8 (out i)]⟩) (by omega) (by ((conv => lhs; cbv); (try (with_reducible rfl)))) (by rw [hz, hout, hnn, hst]; rfl) ?_
  rintro i hi s rfl
  by_cases him : i < l.length
  · have g := G i him
    have h24i := h24 i him
    have h102i := h102 i him
    have hsi := hsub i him
    rw [← hix] at hsi
    have hr := hrng i
    rw [← hst] at h24i hr
    have hs : st (i + 1) = rtF mx (puts (l.drop i)) (st i) l[i] := by rw [hst, hst, rtS, getD_ev him]
    rw [getD_ev him] at h24i
    have hk : (A .cmp .neq l[i].k 2 = true ∧ A .cmp .gtr (puts (l.drop i)) mx = true ∧ vec (withB (st i).2 l[i].r l[i].n) = Y (i + 1) ∧ out i = out (i + 1) ∧ nn i = nn (i + 1)) ∨
        ((A .cmp .neq l[i].k 2 = false ∨ A .cmp .neq l[i].k 2 = true ∧ A .cmp .gtr (puts (l.drop i)) mx = false) ∧ Y i = Y (i + 1) ∧ A .apo 96 0 (nn i) (out i) [encEv l[i]] = some (true, out (i + 1)) ∧ A .ln (out (i + 1)) = nn (i + 1)) := by
      rw [hA, hY, hY, hout, hout, hnn, hnn, hs, neq_real, gtr_real]
      by_cases hk : l[i].k ≠ 2 ∧ (puts (l.drop i) : Int) > mx
      · left
        rw [rtF, if_pos hk]
        exact ⟨decide_eq_true hk.1, decide_eq_true hk.2, rfl, rfl, rfl⟩
      · right
        rw [rtF, if_neg hk]
        refine ⟨?_, rfl, ?_, by rw [ln_real]; simp⟩
        · by_cases h : l[i].k = 2
          · exact .inl (by simpa using h)
          · exact .inr ⟨by simpa using h, decide_eq_false fun h' => hk ⟨h, h'⟩⟩
        · have := apo_one (b := 96) (es := (st i).1.map encEv) (c := encEv l[i]) (by simp only [List.length_map]; omega)
          rw [List.length_map] at this
          rw [this, List.map_append]; rfl
    generalize (l.drop i).map encEv = sf at *
    generalize (puts (l.drop i) : Int) = pc at *
    dsimp only [vecF] at h24i
    generalize vec (withB (st i).2 l[i].r l[i].n) = Y' at *
    rw [← hY] at h24i
    generalize l[i] = x at *
    obtain ⟨er, en, et, ek, ed, ef, ex, eb, eg⟩ := x
    dsimp only [evF, encEv] at g h24i hk
    rcases hk with ⟨b1, b2, rfl, b4, b5⟩ | ⟨b1, b2, b3, b4⟩
    · refine wpV_of (by ((conv => lhs; cbv); (repeat ((first | rewrite [C.lt i him] | rewrite [g] | rewrite [b1] | rewrite [hsi] | rewrite [h102i] | rewrite [hmx'] | rewrite [b2] | rewrite [h24i]); (try (conv => lhs; cbv)))); (try (with_reducible rfl)))) ?_
      refine headQ_of (by ((conv => lhs; cbv); (try (with_reducible rfl)))) ?_
      exact ⟨him, (by ((rw [C.inc i him, b4, b5]) <;> rfl))⟩
    · rcases b1 with b1 | ⟨b1, b1'⟩
      · refine wpV_of (by ((conv => lhs; cbv); (repeat ((first | rewrite [C.lt i him] | rewrite [g] | rewrite [b1] | rewrite [b3]); (try (conv => lhs; cbv)))); (try (with_reducible rfl)))) ?_
        refine headQ_of (by ((conv => lhs; cbv); (try (with_reducible rfl)))) ?_
        exact ⟨him, (by ((rw [C.inc i him, b2, b4]) <;> rfl))⟩
      · refine wpV_of (by ((conv => lhs; cbv); (repeat ((first | rewrite [C.lt i him] | rewrite [g] | rewrite [b1] | rewrite [hsi] | rewrite [h102i] | rewrite [hmx'] | rewrite [b1'] | rewrite [b3]); (try (conv => lhs; cbv)))); (try (with_reducible rfl)))) ?_
        refine headQ_of (by ((conv => lhs; cbv); (try (with_reducible rfl)))) ?_
        exact ⟨him, (by ((rw [C.inc i him, b2, b4]) <;> rfl))⟩
  · obtain rfl : i = l.length := by omega
    refine wpV_of (by ((conv => lhs; cbv); (repeat ((first | rewrite [C.ge]); (try (conv => lhs; cbv)))); (try (with_reducible rfl)))) ?_
    show wpV _ _ _ _ _ _
    refine wpV_of (by ((conv => lhs; cbv); (try (with_reducible rfl)))) ?_
    (show finV _ _ _ = some _; ((conv => lhs; cbv); (try (with_reducible rfl))); (try rfl))

def rcF (V : List Int) (s : List Ev × List Int) (e : Ev) : List Ev × List Int := if hasB V e.r e.n then (s.1, withB s.2 e.r e.n) else (s.1 ++ [e], s.2)
theorem rc_collect (V : List Int) : ∀ (l : List Ev) (s : List Ev × List Int), (l.foldl (cStep V) (s.1.map clE, s.2)) = ((l.foldl (rcF V) s).1.map clE, (l.foldl (rcF V) s).2)
  | [], s => rfl
  | e :: r, s => by
    have : cStep V (s.1.map clE, s.2) e = ((rcF V s e).1.map clE, (rcF V s e).2) := by
      simp only [cStep, rcF]; split <;> simp
    rw [List.foldl_cons, List.foldl_cons, this, rc_collect V r]
theorem rc_range (V X : List Int) (l : List Ev) : (l.foldl (rcF V) ([], X)).1.length ≤ l.length ∧ (l.foldl (rcF V) ([], X)).2.length = X.length := by
  have h := collect_range V X l
  have e := rc_collect V l ([], X)
  simp only [List.map_nil] at e
  rw [e] at h
  simpa using h
theorem p62 (fl : Bool) (l : List Ev) (hl : l.length * 96 ≤ reachBytes) {X V : List Int} (hX : X.length = 64) (hV : V.length = 64) :
    Pl 62 [pastF fl (l.map encEv) (vec X), vecF V] (.agg [.slo 0 0 (l.foldl (rcF V) ([], X)).1.length, .iv (.arr 64 (vec (l.foldl (rcF V) ([], X)).2))]) [.arr false false 8 ((l.foldl (rcF V) ([], X)).1.map encEv)] := by
  have hrb : reachBytes = 140737488351232 := rfl
  have hrng := fun i => rc_range V X (l.take i)
  obtain ⟨st, hst⟩ : ∃ st : Nat → List Ev × List Int, ∀ i, st i = (l.take i).foldl (rcF V) ([], X) := ⟨_, fun _ => rfl⟩
  obtain ⟨k1, hk1⟩ := Plays.all pr_mono (T := lookT tab) (pr := fun _ => clonePr clones) (f := 24) (vs := fun i => [vecF (st i).2, dotF (l.getD i d0).r (l.getD i d0).n]) (bs := fun _ => []) (r := fun i => (vecF (withB (st i).2 (l.getD i d0).r (l.getD i d0).n), [])) (m := l.length)
    (fun i hi => p24 (by rw [hst, (hrng i).2, hX]) _ _)
  obtain ⟨k2, hk2⟩ := Plays.all pr_mono (T := lookT tab) (pr := fun _ => clonePr clones) (f := 22) (vs := fun i => [vecF V, dotF (l.getD i d0).r (l.getD i d0).n]) (bs := fun _ => []) (r := fun i => (bl (hasB V (l.getD i d0).r (l.getD i d0).n), [])) (m := l.length)
    (fun i hi => p22 hV _ _)
  refine Plays.wp (vf := v62) rfl rfl ⟨max (max k1 k2) (l.length + 1), fun A call hA hcall => ?_⟩
  have h24 := hk1 (max (max k1 k2) (l.length + 1)) (by omega)
  have h22 := hk2 (max (max k1 k2) (l.length + 1)) (by omega)
  rw [← hcall] at h24 h22
  obtain ⟨ix, hix, hz⟩ := ix_some
  obtain ⟨es, hes, C, G⟩ := evs_of hA hix l (by omega)
  rw [hes]
  obtain ⟨out, hout⟩ : ∃ out : Nat → List (List IV), ∀ i, out i = (st i).1.map encEv := ⟨_, fun _ => rfl⟩
  obtain ⟨nn, hnn⟩ : ∃ nn : Nat → Nat, ∀ i, nn i = (st i).1.length := ⟨_, fun _ => rfl⟩
  obtain ⟨Y, hY⟩ : ∃ Y : Nat → List IV, ∀ i, Y i = vec (st i).2 := ⟨_, fun _ => rfl⟩
  have he : l.foldl (rcF V) ([], X) = st l.length := by rw [hst, List.take_length]
  rw [he, show vec X = Y 0 by rw [hY, hst]; rfl, ← hout, ← hnn, ← hY]
  dsimp only [vecF] at h22 ⊢
  generalize hW : vec V = W at *
  apply wpV_seq; refine wpV_of (by ((conv => lhs; cbv); (try (with_reducible rfl)))) ?_
  apply wpV_seq; refine wpV_of (by ((conv => lhs; cbv); (try (with_reducible rfl)))) ?_
  apply wpV_seq; apply wpV_seq; refine wpV_of (by ((conv => lhs; cbv); (try (with_reducible rfl)))) ?_
  apply wpV_block
  refine wpV_loop l.length (fun i s => s = ⟨0, [u, u, u, .one (.ptr 0 0), .one (.ptr 1 0), .one (.ptr 2 0), u, u, u, u, u, u, .one (.iv (.sl fl 8 es)), i64 (A .len es), i64 (ix i), u, u, u, u, u, u, u, u, u, u, u, u, u, u, u, u, u, u, u, u, u],
    [.var false [.iv (.arr 64 W)], .var false [.iv (.sl true 0 []), .iv (.arr 64 (List.replicate 64 (.int .i64 0)))], .var false [.slo 3 0 (nn i), .iv (.arr 64 (Y i))], .arr false false 8 (out i)]⟩) (by omega) (by ((conv => lhs; cbv); (try (with_reducible rfl)))) (by rw [hz, hout, hnn, hst]; rfl) ?_
  rintro i hi s rfl
  by_cases him : i < l.length
  · have g := G i him
    have h24i := h24 i him
    have h22i := h22 i him
    have hr := hrng i
    rw [← hst] at hr
    simp only [List.length_take] at hr
    have hs : st (i + 1) = rcF V (st i) l[i] := by rw [hst, hst, foldl_take _ _ him]
    rw [getD_ev him] at h24i h22i
    have hk : (hasB V l[i].r l[i].n = true ∧ vec (withB (st i).2 l[i].r l[i].n) = Y (i + 1) ∧ out i = out (i + 1) ∧ nn i = nn (i + 1)) ∨
        (hasB V l[i].r l[i].n = false ∧ Y i = Y (i + 1) ∧ A .apo 96 0 (nn i) (out i) [encEv l[i]] = some (true, out (i + 1)) ∧ A .ln (out (i + 1)) = nn (i + 1)) := by
      rw [hA, hY, hY, hout, hout, hnn, hnn, hs]
      cases hk : hasB V l[i].r l[i].n with
      | true =>
        left
        simp [rcF, hk]
      | false =>
        right
        simp only [rcF, hk, Bool.false_eq_true, if_false]
        refine ⟨trivial, trivial, ?_, by rw [ln_real]; simp⟩
        have := apo_one (b := 96) (es := (st i).1.map encEv) (c := encEv l[i]) (by simp only [List.length_map]; omega)
        rw [List.length_map] at this
        rw [this, List.map_append]; rfl
    dsimp only [vecF] at h24i
    generalize vec (withB (st i).2 l[i].r l[i].n) = Y' at *
    rw [← hY] at h24i
    generalize hasB V l[i].r l[i].n = t at *
    generalize l[i] = x at *
    obtain ⟨er, en, et, ek, ed, ef, ex, eb, eg⟩ := x
    dsimp only [evF, encEv] at g h24i h22i hk
    rcases hk with ⟨rfl, rfl, b4, b5⟩ | ⟨rfl, b2, b3, b4⟩
    · refine wpV_of (by ((conv => lhs; cbv); (repeat ((first | rewrite [C.lt i him] | rewrite [g] | rewrite [h22i] | rewrite [h24i]); (try (conv => lhs; cbv)))); (try (with_reducible rfl)))) ?_
      refine headQ_of (by ((conv => lhs; cbv); (try (with_reducible rfl)))) ?_
      exact ⟨him, (by ((rw [C.inc i him, b4, b5]) <;> rfl))⟩
    · refine wpV_of (by ((conv => lhs; cbv); (repeat ((first | rewrite [C.lt i him] | rewrite [g] | rewrite [h22i] | rewrite [b3]); (try (conv => lhs; cbv)))); (try (with_reducible rfl)))) ?_
      refine headQ_of (by ((conv => lhs; cbv); (try (with_reducible rfl)))) ?_
      exact ⟨him, (by ((rw [C.inc i him, b2, b4]) <;> rfl))⟩
  · obtain rfl : i = l.length := by omega
    refine wpV_of (by ((conv => lhs; cbv); (repeat ((first | rewrite [C.ge]); (try (conv => lhs; cbv)))); (try (with_reducible rfl)))) ?_
    show wpV _ _ _ _ _ _
    refine wpV_of (by ((conv => lhs; cbv); (try (with_reducible rfl)))) ?_
    (show finV _ _ _ = some _; ((conv => lhs; cbv); (try (with_reducible rfl))); (try rfl))
end Go.Proofs.Ytomchclmnmhjaaa
